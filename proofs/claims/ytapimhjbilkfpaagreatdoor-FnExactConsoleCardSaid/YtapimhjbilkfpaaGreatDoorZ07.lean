/- Lemmas for FnExactDeskAfter, part 8 of 33. -/
import Derived.Test.YtapimhjbilkfpaaGreatDoorZ06
set_option linter.unusedVariables false
set_option linter.unusedSimpArgs false
namespace Go.Proofs.YtapimhjbilkfpaaGreatDoor
open Go Go.Proofs.Tryz List
def named(l:B8):Option (List B8):=
 if l=[102,105,98,111,110,97,99,99,105] then some [[97,98],[97]]
 else if l=[116,104,117,101] then some [[97,98],[98,97]]
 else if l=[100,111,117,98,108,105,110,103] then some [[97,98],[97,97]]
 else if l=[116,114,105,112,108,101] then some [[97,98,99],[97,99],[98]]
 else none
def aQ(ws:List B8)(l:B8):B8:=l.flatMap fun u=>ws.getD (u.toNat-97) []
def dU(ws:List B8)(m:Nat):Nat->B8->B8
 | 0,l=>l
 | f+1,l=>if l.length<m then dU ws m f (aQ ws l) else l
structure Kr(ws:List B8):Prop where
 len:∀ w∈ws,1<=w.length/\w.length<=3
 ltr:∀ w∈ws,∀ u∈w,97<=u.toNat/\u.toNat-97<ws.length
 head:∃ b r rest,ws=(97::b::r)::rest
 few:ws.length<=3
theorem js{l:B8}{ws:List B8}(h:named l=some ws):Kr ws:=by
 unfold named at h;split at h
 ·injection h with h;subst h;exact⟨by decide,by decide,⟨_,_,_,rfl⟩,by decide⟩
 ·split at h
  ·injection h with h;subst h;exact⟨by decide,by decide,⟨_,_,_,rfl⟩,by decide⟩
  ·split at h
   ·injection h with h;subst h;exact⟨by decide,by decide,⟨_,_,_,rfl⟩,by decide⟩
   ·split at h
    ·injection h with h;subst h;exact⟨by decide,by decide,⟨_,_,_,rfl⟩,by decide⟩
    ·cases h
structure Grown(ws:List B8)(l:B8):Prop where
 ltr:∀ u∈l,97<=u.toNat/\u.toNat-97<ws.length
 head:∃ r,l=97::r
theorem eR(ws:List B8):aQ ws []=[]:=rfl
theorem eG(ws:List B8)(u:UInt8)(l:B8):aQ ws (u::l)=ws.getD (u.toNat-97) []++aQ ws l:=by simp[aQ]
theorem fx(ws:List B8)(u:UInt8)(l:B8):aQ ws (l++[u])=aQ ws l++ws.getD (u.toNat-97) []:=by simp[aQ]
theorem lz{ws:List B8}{k:Nat}(h:k<ws.length):ws.getD k []∈ws:=by
 rw[gDe,gEl h];exact getElem_mem h
theorem dj{ws:List B8}(hn:Kr ws):∀(l:B8),(∀ u∈l,97<=u.toNat/\u.toNat-97<ws.length)->l.length<=(aQ ws l).length/\(aQ ws l).length<=3*l.length
 | [],_=>⟨lRf _,lRf _⟩
 | u::l,h=>by
  have ih:=dj hn l fun v hv=>h v (mem_cons_of_mem _ hv);have h1:=hn.len _ (lz (h u (mem_cons_self ..)).2);rw[eG,lAp,length_cons];omega
theorem Grown.img{ws:List B8}(hn:Kr ws){l:B8}(h:Grown ws l):Grown ws (aQ ws l)/\l.length<(aQ ws l).length:=by
 obtain⟨r,rfl⟩:=h.head;obtain⟨b,r',rest,hw⟩:=hn.head;have hr:∀ u∈r,97<=u.toNat/\u.toNat-97<ws.length:=fun u hu=>h.ltr u (mem_cons_of_mem _ hu);have hl:=dj hn r hr;have h0:ws.getD ((97:UInt8).toNat-97) []=97::b::r':=by rw[hw];rfl
 refine⟨⟨?_,?_⟩,?_⟩
 ·intro u hu;unfold aQ at hu;obtain⟨v,hv,hu⟩:=List.mem_flatMap.1 hu;exact hn.ltr _ (lz (h.ltr v hv).2) u hu
 ·rw[eG,h0];exact⟨_,rfl⟩
 ·rw[eG,h0];simp only[lAp,length_cons];omega
theorem jx{ws:List B8}{m:Nat}{l:B8}(h:m<=l.length):∀ f,dU ws m f l=l
 | 0=>rfl
 | f+1=>by unfold dU;rw[if_neg (by omega)]
theorem jC{ws:List B8}{m f:Nat}{l:B8}(h:l.length<m)(hf:m<=l.length+f):dU ws m f l=dU ws m (f-1) (aQ ws l):=by
 match f,hf with
 | 0,hf=>omega
 | f+1,hf=>
         conv=>lhs;unfold dU
         rw[if_pos h];rfl
def gI(l:B8)(m:Int):B8:=
 if 0<=m/\m<=60 then (match named l with|some ws=>(dU ws m.toNat 60 [97]).take m.toNat|none=>[]) else []
def iH(l:B8)(m:Int):Int:=if 0<=m/\m<=60 then (match named l with|some ws=>0|none=>4) else 2
theorem Dx{a b:B8}(h:a=b):(a==b)=true:=by rw[h];exact beq_self_eq_true _
theorem jv{a b:B8}(h:¬ a=b):(a==b)=false:=bNe.2 h
theorem vu(l:B8)(M:Mem)(R:VP)(h0:named l=none->R (.slice none 0 0) M)
  (h1:∀ ws,named l=some ws->∀ b,M b=none->R (.slice (some ⟨b,0,none⟩) ws.length ws.length) (M.put b (.cells true (strs ws) ws.length))):ar prog 217 [str l] M R:=by
 refine fnS func217 rfl ntmps217 results217 ?_;unfold named at h0 h1;by_cases e1:l=[102,105,98,111,110,97,99,99,105]
 ·rw[if_pos e1]at h1;have b1:=Dx e1;simp(disch:=omega)[b1];intro b hb;simp(disch:=omega);exact ad (h1 _ rfl b hb)
 have b1:=jv e1;rw[if_neg e1]at h0 h1;by_cases e2:l=[116,104,117,101]
 ·rw[if_pos e2]at h1;have b2:=Dx e2;simp(disch:=omega)[b1,b2];intro b hb;simp(disch:=omega);exact ad (h1 _ rfl b hb)
 have b2:=jv e2;rw[if_neg e2]at h0 h1;by_cases e3:l=[100,111,117,98,108,105,110,103]
 ·rw[if_pos e3]at h1;have b3:=Dx e3;simp(disch:=omega)[b1,b2,b3];intro b hb;simp(disch:=omega);exact ad (h1 _ rfl b hb)
 have b3:=jv e3;rw[if_neg e3]at h0 h1;by_cases e4:l=[116,114,105,112,108,101]
 ·rw[if_pos e4]at h1;have b4:=Dx e4;simp(disch:=omega)[b1,b2,b3,b4];intro b hb;simp(disch:=omega);exact ad (h1 _ rfl b hb)
 have b4:=jv e4;rw[if_neg e4]at h0;simp(disch:=omega)[b1,b2,b3,b4];exact ad (h0 rfl)
theorem zW(l:B8)(m:Int)(M:Mem)(R:VP)(hl:l.length<=1099511627776)(h:R (aE (str (gI l m)) (iH l m)) M):ar prog 152 [str l,.int .i64 m] M R:=by
 unfold aE gI iH at h;refine fnS func152 rfl ntmps152 results152 ?_;simp(disch:=omega);refine pR m _ _ ?_;by_cases hm:0<=m/\m<=60
 ·rw[if_pos hm,if_pos hm]at h;have hd:decide (0<=m/\m<=60)=true:=decide_eq_true hm;simp(disch:=omega)[hd];refine vu l _ _ ?_ ?_
  ·intro hn;rw[hn]at h;simp(disch:=omega);exact ad h
  ·intro ws hn b hb;rw[hn]at h;dsimp only at h;have nice:=js hn;have hfew:=nice.few;obtain⟨m,rfl⟩:∃ k:Nat,m=k:=⟨m.toNat,by omega⟩;have hs1:Sub M (M.put b (.cells true (strs ws) ws.length)):=(Sub.refl _).put hb _;simp(disch:=omega);refine lupS (rlA [7,8,10] 18 20) (fun x:B8×Nat=>[(7,str x.1)]) (fun x M'=>M'=M.put b (.cells true (strs ws) ws.length)/\Grown ws x.1/\x.1.length<=180/\m<=x.1.length+x.2/\dU ws m x.2 x.1=dU ws m 60 [97]) (fun x=>m-x.1.length) ([97],60) ⟨rfl,⟨by obtain⟨p,q,r,hw⟩:=nice.head;intro u hu;rw[List.mem_singleton.1 hu,hw];exact⟨by decide,by simp⟩,⟨[],rfl⟩⟩,by decide,by simp only[length_singleton];omega,rfl⟩ ?_
   rintro⟨out,f⟩ M' g ⟨rfl,hg,hl1,hf,he⟩
   simp only at hg hl1 hf he;by_cases hlt:(out.length:Int)<m
   ·obtain⟨hg',hl2⟩:=hg.img nice;have hl3:=dj nice out hg.ltr;simp(disch:=omega);refine bY out _ _ (by omega) ?_;simp(disch:=omega)[hlt];intro b2 c2 hb2 hc2;simp(disch:=omega);have hne:b2≠b:=by rintro rfl;rw[ag]at hb2;cases hb2
    refine aP aR (rlA [8,10] 25 12) (fun i:Nat=>[(25,.int .i64 i),(8,str (aQ ws (out.take i)))]) (fun i M1=>i<=out.length/\M1=(M.put b (.cells true (strs ws) ws.length)).put b2 (.cells true (av out) c2)) (fun i=>out.length-i) 0 (by kernel_rfl) (by simp(disch:=omega)[eR]) ⟨by omega,rfl⟩ ?_
    rintro i M1 g' ⟨hi,rfl⟩
    by_cases hil:i<out.length
    ·have hx:out[i]?=some out[i]:=gEl hil;have hu:=out[i].toNat_lt;have hL:=hg.ltr _ (getElem_mem hil);have hk:((out[i].toNat:Int)-97).toNat=out[i].toNat-97:=by omega
     obtain⟨w,hw,hwl,hsn⟩:∃ w,ws[out[i].toNat-97]'hL.2=w/\w.length<=3/\aQ ws (out.take (i+1))=aQ ws (out.take i)++w:=
      ⟨_,rfl,(nice.len _ (getElem_mem hL.2)).2,by rw[aw out hil,fx,gDe,gEl hL.2];rfl⟩
     have hil2:=dj nice (out.take i) fun u hu=>hg.ltr u (mem_of_mem_take hu);have hil3:(out.take i).length<=out.length:=by rw[lTa];omega
     simp(disch:=omega);refine ia _ _ _ ?_;simp(disch:=omega)[hk,hw];refine rndA (i+1) (by simp(disch:=omega)[hsn]) ⟨by omega,rfl⟩
    ·have hi':i=out.length:=by omega
     subst hi';simp(disch:=omega);refine rndM (M.put b (.cells true (strs ws) ws.length)) (aQ ws out,f-1) ((Sub.refl _).put hb2 _) ⟨rfl,hg',by simp only;omega,by simp only;omega,?_⟩;simp only;rw[<-jC (by omega) hf];exact he
   ·have hmo:m<=out.length:=by omega
    rw[jx hmo]at he;rw[Int.toNat_natCast]at h;rw[<-he]at h;simp(disch:=omega);refine bY out _ _ (by omega) ?_;simp(disch:=omega)[hlt];exact ae hs1 h
 ·rw[if_neg hm,if_neg hm]at h;have hd:decide (0<=m/\m<=60)=false:=decide_eq_false hm;simp(disch:=omega)[hd];exact ad h
theorem Kg(l:B8)(hl:l=[102,105,98,111,110,97,99,99,105])(ws:List B8)(hws:ws=[[97,98],[97]])(m:Nat)(M:Mem)(R:VP)(hm:m<=60)
  (h:R (.tuple #[str ((dU ws m 60 [97]).take m),.bool true]) M):ar prog 113 [str l,.int .i64 m] M R:=by
 have b1:(l==[102,105,98,111,110,97,99,99,105])=decide (1=1):=by rw[hl];decide
 have b2:(l==[116,104,117,101])=decide (1=2):=by rw[hl];decide
 have b3:(l==[100,111,117,98,108,105,110,103])=decide (1=3):=by rw[hl];decide
 have b4:(l==[116,114,105,112,108,101])=decide (1=4):=by rw[hl];decide
 have hll:l.length<=1099511627776:=by rw[hl];decide
 have nice:Kr ws:=js (l:=l) (by rw[hl,hws];decide);have hfew:=nice.few;have hlen:ws.length=([[97,98],[97]]:List B8).length:=by rw[hws]
 clear hl;refine fnS func113 rfl ntmps113 results113 ?_;simp(disch:=omega);intro b0 hb0;simp(disch:=omega)[b1];intro b hb;have hV:([str [97,98],str [97]]:List Value)=strs ws:=by rw[hws];rfl
 have hs0:Sub M (M.put b0 (.cells true [] 0)):=(Sub.refl _).put hb0 _;rw[hV];clear hV hws;simp(disch:=omega);refine lupS (rlA [7,8,9] 24 19) (fun x:B8×Nat=>[(7,str x.1)]) (fun x M'=>M'=(M.put b0 (.cells true [] 0)).put b (.cells true (strs ws) ws.length)/\Grown ws x.1/\x.1.length<=180/\m<=x.1.length+x.2/\dU ws m x.2 x.1=dU ws m 60 [97]) (fun x=>m-x.1.length) ([97],60) ⟨by rw[hlen],⟨by obtain⟨p,q,r,hw⟩:=nice.head;intro u hu;rw[List.mem_singleton.1 hu,hw];exact⟨by decide,by simp⟩,⟨[],rfl⟩⟩,by decide,by simp only[length_singleton];omega,rfl⟩ ?_
 rintro⟨out,f⟩ M' g ⟨rfl,hg,hl1,hf,he⟩
 simp only at hg hl1 hf he;by_cases hlt:(out.length:Int)<m
 ·obtain⟨hg',hl2⟩:=hg.img nice;have hl3:=dj nice out hg.ltr;simp(disch:=omega)[hlt];refine aP aR (rlA [8,9] 28 14) (fun i:Nat=>[(9,.int .i64 i),(8,str (aQ ws (out.take i)))]) (fun i M1=>i<=out.length/\M1=(M.put b0 (.cells true [] 0)).put b (.cells true (strs ws) ws.length)) (fun i=>out.length-i) 0 (by kernel_rfl) (by simp(disch:=omega)[eR]) ⟨by omega,rfl⟩ ?_
  rintro i M1 g' ⟨hi,rfl⟩
  by_cases hil:i<out.length
  ·have hx:out[i]?=some out[i]:=gEl hil;have hu:=out[i].toNat_lt;have hL:=hg.ltr _ (getElem_mem hil);have hk:((out[i].toNat:Int)-97).toNat=out[i].toNat-97:=by omega
   obtain⟨w,hw,hwl,hsn⟩:∃ w,ws[out[i].toNat-97]'hL.2=w/\w.length<=3/\aQ ws (out.take (i+1))=aQ ws (out.take i)++w:=
    ⟨_,rfl,(nice.len _ (getElem_mem hL.2)).2,by rw[aw out hil,fx,gDe,gEl hL.2];rfl⟩
   have hil2:=dj nice (out.take i) fun u hu=>hg.ltr u (mem_of_mem_take hu);have hil3:(out.take i).length<=out.length:=by rw[lTa];omega
   have hL2:(out[i].toNat:Int)-97<([[97,98],[97]]:List B8).length:=by rw[<-hlen];omega
   simp(disch:=omega);refine ji out i _ _ _ (by omega) hx ?_;simp only[length_cons,length_nil]at hL2;simp(disch:=omega)[hk,hw];refine rndA (i+1) (by simp(disch:=omega)[hsn]) ⟨by omega,rfl⟩
  ·have hi':i=out.length:=by omega
   subst hi';simp(disch:=omega);refine rndS (aQ ws out,f-1) ⟨rfl,hg',by simp only;omega,by simp only;omega,?_⟩;simp only;rw[<-jC (by omega) hf];exact he
 ·have hmo:m<=out.length:=by omega
  rw[jx hmo]at he;rw[<-he]at h;simp(disch:=omega)[hlt];exact ae (hs0.putN hb _) h
theorem Ji(l:B8)(hl:l=[116,104,117,101])(ws:List B8)(hws:ws=[[97,98],[98,97]])(m:Nat)(M:Mem)(R:VP)(hm:m<=60)
  (h:R (.tuple #[str ((dU ws m 60 [97]).take m),.bool true]) M):ar prog 113 [str l,.int .i64 m] M R:=by
 have b1:(l==[102,105,98,111,110,97,99,99,105])=decide (2=1):=by rw[hl];decide
 have b2:(l==[116,104,117,101])=decide (2=2):=by rw[hl];decide
 have b3:(l==[100,111,117,98,108,105,110,103])=decide (2=3):=by rw[hl];decide
 have b4:(l==[116,114,105,112,108,101])=decide (2=4):=by rw[hl];decide
 have hll:l.length<=1099511627776:=by rw[hl];decide
 have nice:Kr ws:=js (l:=l) (by rw[hl,hws];decide);have hfew:=nice.few;have hlen:ws.length=([[97,98],[98,97]]:List B8).length:=by rw[hws]
 clear hl;refine fnS func113 rfl ntmps113 results113 ?_;simp(disch:=omega);intro b0 hb0;simp(disch:=omega)[b1,b2];intro b hb;have hV:([str [97,98],str [98,97]]:List Value)=strs ws:=by rw[hws];rfl
 have hs0:Sub M (M.put b0 (.cells true [] 0)):=(Sub.refl _).put hb0 _;rw[hV];clear hV hws;simp(disch:=omega);refine lupS (rlA [7,8,9] 24 19) (fun x:B8×Nat=>[(7,str x.1)]) (fun x M'=>M'=(M.put b0 (.cells true [] 0)).put b (.cells true (strs ws) ws.length)/\Grown ws x.1/\x.1.length<=180/\m<=x.1.length+x.2/\dU ws m x.2 x.1=dU ws m 60 [97]) (fun x=>m-x.1.length) ([97],60) ⟨by rw[hlen],⟨by obtain⟨p,q,r,hw⟩:=nice.head;intro u hu;rw[List.mem_singleton.1 hu,hw];exact⟨by decide,by simp⟩,⟨[],rfl⟩⟩,by decide,by simp only[length_singleton];omega,rfl⟩ ?_
 rintro⟨out,f⟩ M' g ⟨rfl,hg,hl1,hf,he⟩
 simp only at hg hl1 hf he;by_cases hlt:(out.length:Int)<m
 ·obtain⟨hg',hl2⟩:=hg.img nice;have hl3:=dj nice out hg.ltr;simp(disch:=omega)[hlt];refine aP aR (rlA [8,9] 28 14) (fun i:Nat=>[(9,.int .i64 i),(8,str (aQ ws (out.take i)))]) (fun i M1=>i<=out.length/\M1=(M.put b0 (.cells true [] 0)).put b (.cells true (strs ws) ws.length)) (fun i=>out.length-i) 0 (by kernel_rfl) (by simp(disch:=omega)[eR]) ⟨by omega,rfl⟩ ?_
  rintro i M1 g' ⟨hi,rfl⟩
  by_cases hil:i<out.length
  ·have hx:out[i]?=some out[i]:=gEl hil;have hu:=out[i].toNat_lt;have hL:=hg.ltr _ (getElem_mem hil);have hk:((out[i].toNat:Int)-97).toNat=out[i].toNat-97:=by omega
   obtain⟨w,hw,hwl,hsn⟩:∃ w,ws[out[i].toNat-97]'hL.2=w/\w.length<=3/\aQ ws (out.take (i+1))=aQ ws (out.take i)++w:=
    ⟨_,rfl,(nice.len _ (getElem_mem hL.2)).2,by rw[aw out hil,fx,gDe,gEl hL.2];rfl⟩
   have hil2:=dj nice (out.take i) fun u hu=>hg.ltr u (mem_of_mem_take hu);have hil3:(out.take i).length<=out.length:=by rw[lTa];omega
   have hL2:(out[i].toNat:Int)-97<([[97,98],[98,97]]:List B8).length:=by rw[<-hlen];omega
   simp(disch:=omega);refine ji out i _ _ _ (by omega) hx ?_;simp only[length_cons,length_nil]at hL2;simp(disch:=omega)[hk,hw];refine rndA (i+1) (by simp(disch:=omega)[hsn]) ⟨by omega,rfl⟩
  ·have hi':i=out.length:=by omega
   subst hi';simp(disch:=omega);refine rndS (aQ ws out,f-1) ⟨rfl,hg',by simp only;omega,by simp only;omega,?_⟩;simp only;rw[<-jC (by omega) hf];exact he
 ·have hmo:m<=out.length:=by omega
  rw[jx hmo]at he;rw[<-he]at h;simp(disch:=omega)[hlt];exact ae (hs0.putN hb _) h
theorem IP(l:B8)(hl:l=[100,111,117,98,108,105,110,103])(ws:List B8)(hws:ws=[[97,98],[97,97]])(m:Nat)(M:Mem)(R:VP)(hm:m<=60)
  (h:R (.tuple #[str ((dU ws m 60 [97]).take m),.bool true]) M):ar prog 113 [str l,.int .i64 m] M R:=by
 have b1:(l==[102,105,98,111,110,97,99,99,105])=decide (3=1):=by rw[hl];decide
 have b2:(l==[116,104,117,101])=decide (3=2):=by rw[hl];decide
 have b3:(l==[100,111,117,98,108,105,110,103])=decide (3=3):=by rw[hl];decide
 have b4:(l==[116,114,105,112,108,101])=decide (3=4):=by rw[hl];decide
 have hll:l.length<=1099511627776:=by rw[hl];decide
 have nice:Kr ws:=js (l:=l) (by rw[hl,hws];decide);have hfew:=nice.few;have hlen:ws.length=([[97,98],[97,97]]:List B8).length:=by rw[hws]
 clear hl;refine fnS func113 rfl ntmps113 results113 ?_;simp(disch:=omega);intro b0 hb0;simp(disch:=omega)[b1,b2,b3];intro b hb;have hV:([str [97,98],str [97,97]]:List Value)=strs ws:=by rw[hws];rfl
 have hs0:Sub M (M.put b0 (.cells true [] 0)):=(Sub.refl _).put hb0 _;rw[hV];clear hV hws;simp(disch:=omega);refine lupS (rlA [7,8,9] 24 19) (fun x:B8×Nat=>[(7,str x.1)]) (fun x M'=>M'=(M.put b0 (.cells true [] 0)).put b (.cells true (strs ws) ws.length)/\Grown ws x.1/\x.1.length<=180/\m<=x.1.length+x.2/\dU ws m x.2 x.1=dU ws m 60 [97]) (fun x=>m-x.1.length) ([97],60) ⟨by rw[hlen],⟨by obtain⟨p,q,r,hw⟩:=nice.head;intro u hu;rw[List.mem_singleton.1 hu,hw];exact⟨by decide,by simp⟩,⟨[],rfl⟩⟩,by decide,by simp only[length_singleton];omega,rfl⟩ ?_
 rintro⟨out,f⟩ M' g ⟨rfl,hg,hl1,hf,he⟩
 simp only at hg hl1 hf he;by_cases hlt:(out.length:Int)<m
 ·obtain⟨hg',hl2⟩:=hg.img nice;have hl3:=dj nice out hg.ltr;simp(disch:=omega)[hlt];refine aP aR (rlA [8,9] 28 14) (fun i:Nat=>[(9,.int .i64 i),(8,str (aQ ws (out.take i)))]) (fun i M1=>i<=out.length/\M1=(M.put b0 (.cells true [] 0)).put b (.cells true (strs ws) ws.length)) (fun i=>out.length-i) 0 (by kernel_rfl) (by simp(disch:=omega)[eR]) ⟨by omega,rfl⟩ ?_
  rintro i M1 g' ⟨hi,rfl⟩
  by_cases hil:i<out.length
  ·have hx:out[i]?=some out[i]:=gEl hil;have hu:=out[i].toNat_lt;have hL:=hg.ltr _ (getElem_mem hil);have hk:((out[i].toNat:Int)-97).toNat=out[i].toNat-97:=by omega
   obtain⟨w,hw,hwl,hsn⟩:∃ w,ws[out[i].toNat-97]'hL.2=w/\w.length<=3/\aQ ws (out.take (i+1))=aQ ws (out.take i)++w:=
    ⟨_,rfl,(nice.len _ (getElem_mem hL.2)).2,by rw[aw out hil,fx,gDe,gEl hL.2];rfl⟩
   have hil2:=dj nice (out.take i) fun u hu=>hg.ltr u (mem_of_mem_take hu);have hil3:(out.take i).length<=out.length:=by rw[lTa];omega
   have hL2:(out[i].toNat:Int)-97<([[97,98],[97,97]]:List B8).length:=by rw[<-hlen];omega
   simp(disch:=omega);refine ji out i _ _ _ (by omega) hx ?_;simp only[length_cons,length_nil]at hL2;simp(disch:=omega)[hk,hw];refine rndA (i+1) (by simp(disch:=omega)[hsn]) ⟨by omega,rfl⟩
  ·have hi':i=out.length:=by omega
   subst hi';simp(disch:=omega);refine rndS (aQ ws out,f-1) ⟨rfl,hg',by simp only;omega,by simp only;omega,?_⟩;simp only;rw[<-jC (by omega) hf];exact he
 ·have hmo:m<=out.length:=by omega
  rw[jx hmo]at he;rw[<-he]at h;simp(disch:=omega)[hlt];exact ae (hs0.putN hb _) h
theorem IJ(l:B8)(hl:l=[116,114,105,112,108,101])(ws:List B8)(hws:ws=[[97,98,99],[97,99],[98]])(m:Nat)(M:Mem)(R:VP)(hm:m<=60)
  (h:R (.tuple #[str ((dU ws m 60 [97]).take m),.bool true]) M):ar prog 113 [str l,.int .i64 m] M R:=by
 have b1:(l==[102,105,98,111,110,97,99,99,105])=decide (4=1):=by rw[hl];decide
 have b2:(l==[116,104,117,101])=decide (4=2):=by rw[hl];decide
 have b3:(l==[100,111,117,98,108,105,110,103])=decide (4=3):=by rw[hl];decide
 have b4:(l==[116,114,105,112,108,101])=decide (4=4):=by rw[hl];decide
 have hll:l.length<=1099511627776:=by rw[hl];decide
 have nice:Kr ws:=js (l:=l) (by rw[hl,hws];decide);have hfew:=nice.few;have hlen:ws.length=([[97,98,99],[97,99],[98]]:List B8).length:=by rw[hws]
 clear hl;refine fnS func113 rfl ntmps113 results113 ?_;simp(disch:=omega);intro b0 hb0;simp(disch:=omega)[b1,b2,b3,b4];intro b hb;have hV:([str [97,98,99],str [97,99],str [98]]:List Value)=strs ws:=by rw[hws];rfl
 have hs0:Sub M (M.put b0 (.cells true [] 0)):=(Sub.refl _).put hb0 _;rw[hV];clear hV hws;simp(disch:=omega);refine lupS (rlA [7,8,9] 24 19) (fun x:B8×Nat=>[(7,str x.1)]) (fun x M'=>M'=(M.put b0 (.cells true [] 0)).put b (.cells true (strs ws) ws.length)/\Grown ws x.1/\x.1.length<=180/\m<=x.1.length+x.2/\dU ws m x.2 x.1=dU ws m 60 [97]) (fun x=>m-x.1.length) ([97],60) ⟨by rw[hlen],⟨by obtain⟨p,q,r,hw⟩:=nice.head;intro u hu;rw[List.mem_singleton.1 hu,hw];exact⟨by decide,by simp⟩,⟨[],rfl⟩⟩,by decide,by simp only[length_singleton];omega,rfl⟩ ?_
 rintro⟨out,f⟩ M' g ⟨rfl,hg,hl1,hf,he⟩
 simp only at hg hl1 hf he;by_cases hlt:(out.length:Int)<m
 ·obtain⟨hg',hl2⟩:=hg.img nice;have hl3:=dj nice out hg.ltr;simp(disch:=omega)[hlt];refine aP aR (rlA [8,9] 28 14) (fun i:Nat=>[(9,.int .i64 i),(8,str (aQ ws (out.take i)))]) (fun i M1=>i<=out.length/\M1=(M.put b0 (.cells true [] 0)).put b (.cells true (strs ws) ws.length)) (fun i=>out.length-i) 0 (by kernel_rfl) (by simp(disch:=omega)[eR]) ⟨by omega,rfl⟩ ?_
  rintro i M1 g' ⟨hi,rfl⟩
  by_cases hil:i<out.length
  ·have hx:out[i]?=some out[i]:=gEl hil;have hu:=out[i].toNat_lt;have hL:=hg.ltr _ (getElem_mem hil);have hk:((out[i].toNat:Int)-97).toNat=out[i].toNat-97:=by omega
   obtain⟨w,hw,hwl,hsn⟩:∃ w,ws[out[i].toNat-97]'hL.2=w/\w.length<=3/\aQ ws (out.take (i+1))=aQ ws (out.take i)++w:=
    ⟨_,rfl,(nice.len _ (getElem_mem hL.2)).2,by rw[aw out hil,fx,gDe,gEl hL.2];rfl⟩
   have hil2:=dj nice (out.take i) fun u hu=>hg.ltr u (mem_of_mem_take hu);have hil3:(out.take i).length<=out.length:=by rw[lTa];omega
   have hL2:(out[i].toNat:Int)-97<([[97,98,99],[97,99],[98]]:List B8).length:=by rw[<-hlen];omega
   simp(disch:=omega);refine ji out i _ _ _ (by omega) hx ?_;simp only[length_cons,length_nil]at hL2;simp(disch:=omega)[hk,hw];refine rndA (i+1) (by simp(disch:=omega)[hsn]) ⟨by omega,rfl⟩
  ·have hi':i=out.length:=by omega
   subst hi';simp(disch:=omega);refine rndS (aQ ws out,f-1) ⟨rfl,hg',by simp only;omega,by simp only;omega,?_⟩;simp only;rw[<-jC (by omega) hf];exact he
 ·have hmo:m<=out.length:=by omega
  rw[jx hmo]at he;rw[<-he]at h;simp(disch:=omega)[hlt];exact ae (hs0.putN hb _) h
theorem AL(l:B8)(m:Nat)(M:Mem)(R:VP)(hl:l.length<=1099511627776)(hm:m<=60)
  (h:R (match named l with|some ws=>.tuple #[str ((dU ws m 60 [97]).take m),.bool true]|none=>.tuple #[str [],.bool false]) M):ar prog 113 [str l,.int .i64 m] M R:=by
 by_cases e1:l=[102,105,98,111,110,97,99,99,105]
 ·exact Kg l e1 _ rfl m M R hm (by rw[show named l=some [[97,98],[97]] by rw[e1];decide]at h;exact h)
 by_cases e2:l=[116,104,117,101]
 ·exact Ji l e2 _ rfl m M R hm (by rw[show named l=some [[97,98],[98,97]] by rw[e2];decide]at h;exact h)
 by_cases e3:l=[100,111,117,98,108,105,110,103]
 ·exact IP l e3 _ rfl m M R hm (by rw[show named l=some [[97,98],[97,97]] by rw[e3];decide]at h;exact h)
 by_cases e4:l=[116,114,105,112,108,101]
 ·exact IJ l e4 _ rfl m M R hm (by rw[show named l=some [[97,98,99],[97,99],[98]] by rw[e4];decide]at h;exact h)
 have hn:named l=none:=by unfold named;rw[if_neg e1,if_neg e2,if_neg e3,if_neg e4]
 rw[hn]at h;dsimp only at h;refine fnS func113 rfl ntmps113 results113 ?_;simp(disch:=omega);intro b0 hb0;simp(disch:=omega)[jv e1,jv e2,jv e3,jv e4];exact ae ((Sub.refl _).put hb0 _) h
theorem zK(l:B8)(m:Int)(M:Mem)(R:VP)(hl:l.length<=1099511627776)(h:R (aE (str (gI l m)) (iH l m)) M):ar prog 62 [str l,.int .i64 m] M R:=by
 unfold aE gI iH at h;refine fnS func62 rfl ntmps62 results62 ?_;simp(disch:=omega);refine cg m 0 60 _ _ ?_;by_cases hm:0<=m/\m<=60
 ·rw[if_pos hm,if_pos hm]at h;have hd:decide (0<=m/\m<=60)=true:=decide_eq_true hm;obtain⟨m,rfl⟩:∃ k:Nat,m=k:=⟨m.toNat,by omega⟩;simp(disch:=omega);refine AL l m _ _ hl (by omega) ?_;cases hn:named l with
  | none=>
   rw[hn]at h;dsimp only at h ⊢;simp(disch:=omega);exact ad h
  | some ws=>
   rw[hn]at h;dsimp only at h ⊢;simp(disch:=omega);exact ad h
 ·rw[if_neg hm,if_neg hm]at h;have hd:decide (0<=m/\m<=60)=false:=decide_eq_false hm;simp(disch:=omega)[hd];exact ad h
def il(ws:List B8)(w:B8):Int:=if aY ws&&isWord w then (if iC w ws.length then 0 else 2) else 1
def iM(ws:List B8)(w:B8)(k:Int):Int:=if aY ws&&isWord w then (if iC w ws.length&&decide (0<=k/\k<=100) then 0 else 2) else 1
theorem aV{ws:List B8}(h:aY ws=true):1<=ws.length/\ws.length<=5:=by
 unfold aY at h;rw[Bool.and_eq_true,decide_eq_true_eq]at h;exact h.1
theorem bL{ws:List B8}(h:aY ws=true){w:B8}(hw:w∈ws):w.length<=12/\isWord w=true/\iC w ws.length=true:=by
 unfold aY at h;rw[Bool.and_eq_true]at h;have:=List.all_eq_true.1 h.2 w hw;unfold okW at this;simpa using this
def Lt(ws:List B8)(l:B8):Prop:=∀ u∈l,97<=u.toNat/\u.toNat-97<ws.length
theorem yM{ws:List B8}{l:B8}(hw:l.all isL=true)(hf:iC l ws.length=true):Lt ws l:=by
 intro u hu;have h1:=ee (List.all_eq_true.1 hw u hu);have h2:=List.all_eq_true.1 hf u hu;rw[decide_eq_true_eq]at h2;exact⟨h1.1,h2⟩
theorem Kj{ws:List B8}(hm:aY ws=true){l:B8}(h:Lt ws l):Lt ws (aQ ws l):=by
 intro u hu;unfold aQ at hu;obtain⟨v,hv,hu⟩:=List.mem_flatMap.1 hu;have:=bL hm (lz (h v hv).2);exact yM (aZ this.2.1) this.2.2 u hu
theorem iN{ws:List B8}(hm:aY ws=true):∀ {l:B8},Lt ws l->(aQ ws l).length<=12*l.length
 | [],_=>lRf _
 | u::l,h=>by
  have ih:=iN hm (l:=l) fun v hv=>h v (mem_cons_of_mem _ hv);have h1:=(bL hm (lz (h u (mem_cons_self ..)).2)).1;rw[eG,lAp,length_cons];omega
theorem KH{ws:List B8}{l:B8}(h:Lt ws l)(i:Nat):Lt ws (l.take i):=fun u hu=>h u (mem_of_mem_take hu)
theorem aX{M N:Mem}{b i:Nat}{v:Value}(h:M.get? b i=some v)(hs:Sub M N):N.get? b i=some v:=by
 unfold Mem.get? at h ⊢;cases hMb:M b with
 | none=>rw[hMb]at h;cases h
 | some B=>rw[hMb]at h;rw[hs _ _ hMb];exact h
theorem sW(v:Value)(ws:List B8)(w:B8)(M:Mem)(R:VP)(hv:Rd M v (strs ws))(hf:cP ws)(hn:ws.length<=1099511627776)(hl:w.length<=1099511627776)(h:R (.int .i64 (il ws w)) M):ar prog 181 [.agg #[v],str w] M R:=by
 refine fnS func181 rfl ntmps181 results181 ?_;obtain⟨a,c,rfl,ha⟩:=hv.opened;rw[ah]at ha hv ⊢;simp(disch:=omega);intro b1 hb1;have hs1:Sub M (M.put b1 (.cells true [.slice a ws.length c] 1)):=(Sub.refl M).put hb1 _;have hv1:=hv.put hb1 (.cells true [.slice a ws.length c] 1);unfold il at h;simp(disch:=omega);refine fA _ ws _ _ hv1 hf hn ?_;cases e1:aY ws
 ·rw[e1,Bool.false_and]at h;simp(disch:=omega);exact ae hs1 h
 ·rw[e1,Bool.true_and]at h;simp(disch:=omega);refine bg w _ _ hl ?_;cases e2:isWord w
  ·rw[e2]at h;simp(disch:=omega);exact ae hs1 h
  ·rw[e2,if_pos rfl]at h;simp(disch:=omega);refine nH w ws.length _ _ hl (aZ e2) (by omega) ?_;cases e3:iC w ws.length
   ·rw[e3]at h;simp(disch:=omega);exact ae hs1 h
   ·rw[e3]at h;simp(disch:=omega);exact ae hs1 h
theorem kL(v:Value)(ws:List B8)(l:B8)(M:Mem)(R:VP)(hv:Rd M v (strs ws))(hm:aY ws=true)(hl:l.length<=60)(hlt:Lt ws l)(h:R (str (aQ ws l)) M):ar prog 182 [.agg #[v],str l] M R:=by
 refine fnS func182 rfl ntmps182 results182 ?_;obtain⟨a,c,rfl,ha⟩:=hv.opened;have h15:=aV hm;rw[ah]at ha hv ⊢;simp(disch:=omega);intro b1 hb1;have hs1:Sub M (M.put b1 (.cells true [.slice a ws.length c] 1)):=(Sub.refl M).put hb1 _;rcases ha with h0|⟨b,o,rfl,ha⟩
 ·omega
 simp(disch:=omega);refine aP aR (rlA [] 5 18) (fun i:Nat=>[(6,.int .i64 i),(5,str (aQ ws (l.take i)))]) (fun i M'=>M'=M.put b1 (.cells true [.slice (some ⟨b,o,none⟩) ws.length c] 1)/\i<=l.length) (fun i=>l.length-i) 0 (by kernel_rfl) (by simp(disch:=omega)[eR]) ⟨rfl,by omega⟩ ?_
 rintro i M' g ⟨rfl,hi⟩
 by_cases hil:i<l.length
 ·have hx:l[i]?=some l[i]:=gEl hil;have hL:=hlt _ (getElem_mem hil);have hu:=l[i].toNat_lt;have hk:((l[i].toNat:Int)-97).toNat=l[i].toNat-97:=by omega
  obtain⟨x,hx1,hxl,hsn⟩:∃ x,ws[l[i].toNat-97]'hL.2=x/\x.length<=12/\aQ ws (l.take (i+1))=aQ ws (l.take i)++x:=
   ⟨_,rfl,(bL hm (getElem_mem hL.2)).1,by rw[aw l hil,fx,gDe,gEl hL.2];rfl⟩
  have hil2:=iN hm (KH hlt i);have hil3:(l.take i).length<=l.length:=by rw[lTa];omega
  have hg0:=ha (l[i].toNat-97) hL.2;rw[ba,gEl hL.2,hx1]at hg0;have hg:=aX hg0 hs1;simp(disch:=omega);refine drwS ?_;simp(disch:=omega)[hk,hg];refine rndA (i+1) (by simp(disch:=omega)[hsn]) ⟨rfl,by omega⟩
 ·have hi':i=l.length:=by omega
  subst hi';rw[take_length];simp(disch:=omega);exact ae hs1 h
theorem lY(v:Value)(ws:List B8)(l:B8)(M:Mem)(R:VP)(hv:Rd M v (strs ws))(hm:aY ws=true)(hl:l.length<=60)(hlt:Lt ws l)(h:R (str (aQ ws l)) M):ar prog 257 [.agg #[v],str l] M R:=by
 refine fnS func257 rfl ntmps257 results257 ?_;obtain⟨a,c,rfl,ha⟩:=hv.opened;have h15:=aV hm;rw[ah]at ha hv ⊢;simp(disch:=omega);intro b1 hb1;have hs1:Sub M (M.put b1 (.cells true [.slice a ws.length c] 1)):=(Sub.refl M).put hb1 _;rcases ha with h0|⟨b,o,rfl,ha⟩
 ·omega
 simp(disch:=omega);intro b2 c2 hb2 hc2;have hs2:=hs1.putN hb2 (.cells true (av l) c2);have e12:b1≠b2:=by rintro rfl;rw[ag]at hb2;cases hb2
 have k1:((M.put b1 (.cells true [.slice (some ⟨b,o,none⟩) ws.length c] 1)).put b2 (.cells true (av l) c2)) b1=some (.cells true [.slice (some ⟨b,o,none⟩) ws.length c] 1):=(ai _ _ e12).trans (ag _ _ _);have k2:((M.put b1 (.cells true [.slice (some ⟨b,o,none⟩) ws.length c] 1)).put b2 (.cells true (av l) c2)) b2=some (.cells true (av l) c2):=ag _ _ _;simp(disch:=omega);generalize (M.put b1 (.cells true [.slice (some ⟨b,o,none⟩) ws.length c] 1)).put b2 (.cells true (av l) c2)=N at *;refine aP aR (rlA [5,7] 11 13) (fun i:Nat=>[(11,.int .i64 i),(5,str (aQ ws (l.take i)))]) (fun i M'=>M'=N/\i<=l.length) (fun i=>l.length-i) 0 (by kernel_rfl) (by simp(disch:=omega)[eR]) ⟨rfl,by omega⟩ ?_
 rintro i M' g ⟨rfl,hi⟩
 by_cases hil:i<l.length
 ·have hx:l[i]?=some l[i]:=gEl hil;have hL:=hlt _ (getElem_mem hil);have hu:=l[i].toNat_lt;have hk:((l[i].toNat:Int)-97).toNat=l[i].toNat-97:=by omega
  obtain⟨x,hx1,hxl,hsn⟩:∃ x,ws[l[i].toNat-97]'hL.2=x/\x.length<=12/\aQ ws (l.take (i+1))=aQ ws (l.take i)++x:=
   ⟨_,rfl,(bL hm (getElem_mem hL.2)).1,by rw[aw l hil,fx,gDe,gEl hL.2];rfl⟩
  have hil2:=iN hm (KH hlt i);have hil3:(l.take i).length<=l.length:=by rw[lTa];omega
  have hg0:=ha (l[i].toNat-97) hL.2;rw[ba,gEl hL.2,hx1]at hg0;have hg:=aX hg0 hs2;simp(disch:=omega)[al k2];refine drwS ?_;simp(disch:=omega)[al k1];refine aU (a:=[]) (c:=[]) (ia _ _ _ ⟨rfl,rfl⟩) ?_;simp(disch:=omega)[hk,hg];refine rndA (i+1) (by simp(disch:=omega)[hsn]) ⟨rfl,by omega⟩
 ·have hi':i=l.length:=by omega
  subst hi';rw[take_length];simp(disch:=omega);exact ae hs2 h
theorem dq(v fv sv:Value)(ws us:List B8)(b:Bool)(G:Mem->Prop)(M:Mem)(R:VP)(hv:Rd M v (strs ws))(hf:cP ws)(hn:ws.length<=1099511627776)(hs:Rd M sv (strs us))(hfu:cP us)(hnu:us.length<=1099511627776)
  (hfl:bH fv=true) (hG:G M) (hst:ng G) (ht:Dt prog fv b G) (h:R (.int .i64 (if aY ws then gn us (us.all (fun u=>iC u ws.length)&&b) else 1)) M):ar prog 228 [.agg #[v],fv,sv] M R:=by
 refine fnS func228 rfl ntmps228 results228 ?_;obtain⟨a,c,rfl,ha⟩:=hv.opened;obtain⟨a',c',rfl,ha'⟩:=hs.opened;rw[ah]at hv hs ⊢;rw[ah];simp(disch:=omega);intro b3 hb3;simp(disch:=omega);intro b4 hb4;simp(disch:=omega);intro b5 hb5;have n4:=hb4;have n5:=hb5;rw[aA]at n4;rw[aA,aA]at n5;have hs5:Sub M (((M.put b3 (.cells true [.slice a ws.length c] 1)).put b4 (.cells true [fv] 1)).put b5 (.cells true [.slice a' us.length c'] 1)):=(((Sub.refl M).put hb3 _).putN hb4 _).putN hb5 _;have k3:(((M.put b3 (.cells true [.slice a ws.length c] 1)).put b4 (.cells true [fv] 1)).put b5 (.cells true [.slice a' us.length c'] 1)) b3=some (.cells true [.slice a ws.length c] 1):=by rw[ai _ _ (Ne.symm n5.2.1),ai _ _ (Ne.symm n4.1)];exact ag _ _ _
 have k4:(((M.put b3 (.cells true [.slice a ws.length c] 1)).put b4 (.cells true [fv] 1)).put b5 (.cells true [.slice a' us.length c'] 1)) b4=some (.cells true [fv] 1):=by rw[ai _ _ (Ne.symm n5.1)];exact ag _ _ _
 have k5:(((M.put b3 (.cells true [.slice a ws.length c] 1)).put b4 (.cells true [fv] 1)).put b5 (.cells true [.slice a' us.length c'] 1)) b5=some (.cells true [.slice a' us.length c'] 1):=ag _ _ _;simp(disch:=omega);have hG5:=hst _ _ (.cells true [.slice a' us.length c'] 1) (hst _ _ (.cells true [fv] 1) (hst _ _ (.cells true [.slice a ws.length c] 1) hG hb3) hb4) hb5;generalize (((M.put b3 (.cells true [.slice a ws.length c] 1)).put b4 (.cells true [fv] 1)).put b5 (.cells true [.slice a' us.length c'] 1))=N at *;refine iI _ ws _ _ (hv.sub hs5) hf hn ?_;cases hm:aY ws
 ·rw[hm]at h;simp(disch:=omega);exact ae hs5 h
 ·rw[hm,if_pos rfl]at h;simp(disch:=omega)[al k5];refine oE _ _ us (us.all (fun u=>iC u ws.length)&&b) (fun M'=>Sub N M'/\G M') _ _ (hs.sub hs5) hfu hnu ⟨Sub.refl N,hG5⟩ ?_ ?_ ?_
  ·intro K b' B ⟨q1,q2⟩ hb;exact⟨q1.putN hb _,hst _ _ _ q2 hb⟩
  ·intro hall K R' ⟨q1,q2⟩ hR';have j3:=q1 _ _ k3;have j4:=q1 _ _ k4;have j5:=q1 _ _ k5;simp(disch:=omega);refine fnS func314 rfl ntmps314 results314 ?_;simp(disch:=omega)[al j5,aq j3];refine lL _ _ (strs us) (onS fun u=>iC u ws.length) (fun M'=>Rd M' (.slice a ws.length c) (strs ws)) _ _ ((hs.sub hs5).sub q1) ((hv.sub hs5).sub q1) (fun K2 b' B q hb=>q.put hb _) ?_ rfl (by rw[ah];omega) ?_
   ·intro x hx K2 R2 q hR2;obtain⟨u,hu,rfl⟩:=yA hx;rw[xy]at hR2;have hwu:=List.all_eq_true.1 hall u hu;simp(disch:=omega);refine Ij _ (strs ws) u _ _ q (by rw[ah];omega) (hfu u hu) (aZ hwu) ?_;rw[ah];exact hR2
   ·rw[zS];cases hall2:us.all fun u=>iC u ws.length
    ·rw[hall2,Bool.false_and]at hR';simp(disch:=omega);exact ad hR'
    ·rw[hall2,Bool.true_and]at hR';simp(disch:=omega)[al j4];refine ht _ _ q2 ?_;simp(disch:=omega);exact ad hR'
  ·simp(disch:=omega);exact ae hs5 h
def p5(ws:List B8):Nat->B8->Option B8
 | 0,w=>some w
 | k+1,w=>if 60<(aQ ws w).length then none else p5 ws k (aQ ws w)
theorem zV(ws:List B8)(w:B8):p5 ws 0 w=some w:=rfl
theorem qq(ws:List B8)(k:Nat)(w:B8):p5 ws (k+1) w=if 60<(aQ ws w).length then none else p5 ws k (aQ ws w):=rfl
def mP(ws:List B8)(w:B8)(k:Int):B8:=if iM ws w k=0 then (match p5 ws k.toNat w with|some x=>x|none=>[]) else []
def nU(ws:List B8)(w:B8)(k:Int):Int:=if iM ws w k=0 then (match p5 ws k.toNat w with|some x=>0|none=>3) else iM ws w k
theorem mb{ws:List B8}{w:B8}{k:Int}(h:iM ws w k=0):aY ws=true/\isWord w=true/\iC w ws.length=true/\0<=k/\k<=100:=by
 unfold iM at h;split at h
 ·rename_i h1;split at h
  ·rename_i h2;rw[Bool.and_eq_true]at h1 h2;rw[decide_eq_true_eq]at h2;exact⟨h1.1,h1.2,h2.1,h2.2.1,h2.2.2⟩
  ·cases h
 ·cases h
theorem Dr(v:Value)(ws:List B8)(w:B8)(k:Int)(M:Mem)(R:VP)(hv:Rd M v (strs ws))(hf:cP ws)(hn:ws.length<=1099511627776)(hl:w.length<=1099511627776)(h:R (aE (str (mP ws w k)) (nU ws w k)) M):ar prog 227 [.agg #[v],str w,.int .i64 k] M R:=by
 refine fnS func227 rfl ntmps227 results227 ?_;obtain⟨a,c,rfl,ha⟩:=hv.opened;rw[ah]at hv ⊢;simp(disch:=omega);intro b3 hb3;simp(disch:=omega);intro b5 hb5;have n5:=hb5;rw[aA]at n5;simp(disch:=omega);intro b12 hb12;have n12:=hb12;rw[aA,aA]at n12;have hs:Sub M (((M.put b3 (.cells true [.slice a ws.length c] 1)).put b5 (.cells true [.int .i64 k] 1)).put b12 (.cells true [str w] 1)):=(((Sub.refl M).put hb3 _).putN hb5 _).putN hb12 _;have k3:(((M.put b3 (.cells true [.slice a ws.length c] 1)).put b5 (.cells true [.int .i64 k] 1)).put b12 (.cells true [str w] 1)) b3=some (.cells true [.slice a ws.length c] 1):=by rw[ai _ _ (Ne.symm n12.2.1),ai _ _ (Ne.symm n5.1)];exact ag _ _ _
 have k5:(((M.put b3 (.cells true [.slice a ws.length c] 1)).put b5 (.cells true [.int .i64 k] 1)).put b12 (.cells true [str w] 1)) b5=some (.cells true [.int .i64 k] 1):=by rw[ai _ _ (Ne.symm n12.1)];exact ag _ _ _
 have k12:Rd (((M.put b3 (.cells true [.slice a ws.length c] 1)).put b5 (.cells true [.int .i64 k] 1)).put b12 (.cells true [str w] 1)) (.slice (some ⟨b12,0,none⟩) 1 1) (strs [w]):=Rd.new rfl (lRf 1);simp(disch:=omega);generalize (((M.put b3 (.cells true [.slice a ws.length c] 1)).put b5 (.cells true [.int .i64 k] 1)).put b12 (.cells true [str w] 1))=N at *;refine dq _ _ _ ws [w] (decide (0<=k/\k<=100)) (fun M'=>M' b5=some (.cells true [.int .i64 k] 1)) _ _ (hv.sub hs) hf hn k12 (gg hl) (by simp) rfl k5 ?_ ?_ ?_
 ·intro K b' B q hb;have:b5≠b':=by rintro rfl;rw[hb]at q;cases q
  rw[ai _ _ this];exact q
 ·intro K R' q hR';simp(disch:=omega);refine fnS func313 rfl ntmps313 results313 ?_;simp(disch:=omega)[al q];refine bF k 0 100 _ _ ?_;simp(disch:=omega);exact ad (by simpa using hR')
 ·have hcode:(if aY ws then gn [w] ([w].all (fun u=>iC u ws.length)&&decide (0<=k/\k<=100)) else 1)=iM ws w k:=by
   unfold iM;rw[db];simp only[all_cons,all_nil,Bool.and_true];cases aY ws<;>cases isWord w<;>rfl
  rw[hcode];unfold mP nU at h;by_cases h0:iM ws w k=0
  ·obtain⟨g1,g2,g3,g4,g5⟩:=mb h0;rw[if_pos h0,if_pos h0]at h;have hb:(iM ws w k==0)=true:=by rw[h0];rfl
   rw[h0];obtain⟨k,rfl⟩:∃ n:Nat,k=n:=⟨k.toNat,by omega⟩;rw[Int.toNat_natCast]at h;simp(disch:=omega)[al k5];refine lupS (rlA [1,6,7] 18 9) (fun x:Nat×B8=>[(18,.int .i64 x.1),(1,str x.2)]) (fun x M'=>M'=N/\x.1<=k/\x.2.length<=60/\Lt ws x.2/\p5 ws (k-x.1) x.2=p5 ws k w) (fun x=>k-x.1) (0,w) ⟨rfl,by omega,au g2,yM (aZ g2) g3,rfl⟩ ?_
   rintro⟨i,x⟩ M' g ⟨rfl,hi,hx6,hx,hit⟩
   simp only at hi hx6 hx hit;by_cases hlt:i<k
   ·have hil:=iN g1 hx;rw[show k-i=(k-(i+1))+1 by omega,qq]at hit;simp(disch:=omega)[aq k3];refine lY _ ws x _ _ (hv.sub hs) g1 hx6 hx ?_;by_cases hbig:60<(aQ ws x).length
    ·rw[if_pos hbig]at hit;have hbig':(60:Int)<(aQ ws x).length:=by omega
     rw[<-hit]at h;simp(disch:=omega)[hbig'];exact ae hs h
    ·rw[if_neg hbig]at hit;have hbig':¬(60:Int)<(aQ ws x).length:=by omega
     simp(disch:=omega)[hbig'];exact rndS (i+1,aQ ws x) ⟨rfl,by simp only;omega,by simp only;omega,Kj g1 hx,hit⟩
   ·have hi':i=k:=by omega
    subst hi';rw[Nat.sub_self,zV]at hit;rw[<-hit]at h;simp(disch:=omega);exact ae hs h
  ·rw[if_neg h0,if_neg h0]at h;have hb:(iM ws w k==0)=false:=bNe.2 h0;generalize iM ws w k=code at *;simp(disch:=omega)[hb];exact ae hs h
end Go.Proofs.YtapimhjbilkfpaaGreatDoor
namespace Go.Proofs.YtapimhjbilkfpaaGreatDoor
open List
def bT{S A:Type}(step:S->A->S×Bool):S->List A->S×Bool
 | s,[]=>(s,false)
 | s,x::l=>if (step s x).2 then ((step s x).1,true) else bT step (step s x).1 l
theorem mY{S A:Type}(step:S->A->S×Bool)(s:S):bT step s []=(s,false):=rfl
theorem zd{S A:Type}(step:S->A->S×Bool)(s:S)(x:A):bT step s [x]=step s x:=by
 unfold bT bT;cases h:(step s x).2
 ·simp[<-h]
 ·simp[<-h]
theorem ov{S A:Type}(step:S->A->S×Bool):∀(a b:List A) (s:S),bT step s (a++b)=if (bT step s a).2 then bT step s a else bT step (bT step s a).1 b
 | [],b,s=>rfl
 | x::a,b,s=>by
  rw[cons_append]
  conv=>lhs;unfold bT
  by_cases h:(step s x).2=true
  ·rw[if_pos h];have e:bT step s (x::a)=((step s x).1,true):=by conv=>lhs;unfold bT;rw[if_pos h]
   rw[e];rfl
  ·rw[if_neg h,ov step a b];have e:bT step s (x::a)=bT step (step s x).1 a:=by conv=>lhs;unfold bT;rw[if_neg h]
   rw[e]
theorem uJ{S A:Type}{step:S->A->S×Bool}{a b:List A}{s:S}(h:(bT step s a).2=true):bT step s (a++b)=bT step s a:=by rw[ov,if_pos h]
theorem tk{S A:Type}{step:S->A->S×Bool}{a b:List A}{s:S}(h:(bT step s a).2=false):bT step s (a++b)=bT step (bT step s a).1 b:=by rw[ov,if_neg (by rw[h];decide)]
abbrev bC:=List B8
def aF(c:UInt8):Nat:=c.toNat-65
def cH(w:B8):B8->bC->Nat->List (bC×Nat)
 | [],V,t=>[(V,t)]
 | c::p,V,t=>if V.getD (aF c) []=[] then (range (w.length-t)).flatMap fun n=>cH w p (V.set (aF c) ((w.drop t).take (n+1))) (t+(n+1))
  else if (V.getD (aF c) []).isPrefixOf (w.drop t) then cH w p V (t+(V.getD (aF c) []).length) else []
def jP:B8->B8->bC->Bool
 | [],w,_=>w.isEmpty
 | c::p,w,V=>if V.getD (aF c) []=[] then (range w.length).any fun n=>jP p (w.drop (n+1)) (V.set (aF c) (w.take (n+1)))
  else (V.getD (aF c) []).isPrefixOf w&&jP p (w.drop (V.getD (aF c) []).length) V
def j8(w p:B8)(V:bC)(k t n:Nat):List (bC×Nat):=(range n).flatMap fun n=>cH w p (V.set k ((w.drop t).take (n+1))) (t+(n+1))
theorem Am(w p:B8)(V:bC)(k t n:Nat):j8 w p V k t (n+1)=j8 w p V k t n++cH w p (V.set k ((w.drop t).take (n+1))) (t+(n+1)):=by simp[j8,range_succ]
theorem zY{w p:B8}{V:bC}{t:Nat}{c:UInt8}(h:V.getD (aF c) []=[]):cH w (c::p) V t=j8 w p V (aF c) t (w.length-t):=by
 conv=>lhs;unfold cH
 rw[if_pos h];rfl
theorem zD{w p:B8}{V:bC}{t:Nat}{c:UInt8}(h:¬ V.getD (aF c) []=[]):cH w (c::p) V t=if (V.getD (aF c) []).isPrefixOf (w.drop t) then cH w p V (t+(V.getD (aF c) []).length) else []:=by
 conv=>lhs;unfold cH
 rw[if_neg h]
def AT(p w:B8)(V:bC)(k n:Nat):Bool:=(range n).any fun n=>jP p (w.drop (n+1)) (V.set k (w.take (n+1)))
theorem Nt(p w:B8)(V:bC)(k n:Nat):AT p w V k (n+1)=(AT p w V k n||jP p (w.drop (n+1)) (V.set k (w.take (n+1)))):=by simp[AT,range_succ]
theorem Pp{p w:B8}{V:bC}{k n m:Nat}(hn:n<m)(h:jP p (w.drop (n+1)) (V.set k (w.take (n+1)))=true):AT p w V k m=true:=by
 unfold AT;rw[any_eq_true];exact⟨n,List.mem_range.2 hn,h⟩
theorem O8{p w:B8}{V:bC}{c:UInt8}(h:V.getD (aF c) []=[]):jP (c::p) w V=AT p w V (aF c) w.length:=by
 conv=>lhs;unfold jP
 rw[if_pos h];rfl
theorem QW{p w:B8}{V:bC}{c:UInt8}(h:¬ V.getD (aF c) []=[]):jP (c::p) w V=((V.getD (aF c) []).isPrefixOf w&&jP p (w.drop (V.getD (aF c) []).length) V):=by
 conv=>lhs;unfold jP
 rw[if_neg h]
theorem Pw{A B:Type}(l:List A)(f:A->List B)(q:B->Bool):(l.flatMap f).any q=l.any fun a=>(f a).any q:=by
 induction l with
 | nil=>rfl
 | cons a l ih=>rw[flatMap_cons,any_append,any_cons,ih]
theorem eK{a b:B8}(h:a.isPrefixOf b=true):a.length<=b.length:=(List.isPrefixOf_iff_prefix.1 h).length_le
theorem ta(w:B8):∀(p:B8) (V:bC) (t:Nat),t<=w.length->(cH w p V t).any (fun x=>x.2==w.length)=jP p (w.drop t) V
 | [],V,t,ht=>by
  unfold cH jP;rw[Bool.eq_iff_iff];simp;omega
 | c::p,V,t,ht=>by
  unfold cH jP;by_cases h0:V.getD (aF c) []=[]
  ·rw[if_pos h0,if_pos h0,Pw,length_drop];rw[Bool.eq_iff_iff,any_eq_true,any_eq_true];have e:∀ n,n∈range (w.length-t)->(cH w p (V.set (aF c) ((w.drop t).take (n+1))) (t+(n+1))).any (fun x=>x.2==w.length)=jP p ((w.drop t).drop (n+1)) (V.set (aF c) ((w.drop t).take (n+1))):=by
    intro n hn;have:=List.mem_range.1 hn;rw[ta w p _ _ (by omega),drop_drop]
   constructor
   ·rintro⟨n,hn,h⟩;exact⟨n,hn,by rw[<-e n hn];exact h⟩
   ·rintro⟨n,hn,h⟩;exact⟨n,hn,by rw[e n hn];exact h⟩
  ·rw[if_neg h0,if_neg h0];by_cases hp:(V.getD (aF c) []).isPrefixOf (w.drop t)=true
   ·have hl:=eK hp;rw[length_drop]at hl;rw[if_pos hp,hp,Bool.true_and,ta w p _ _ (by omega),drop_drop]
   ·rw[if_neg hp];have:(V.getD (aF c) []).isPrefixOf (w.drop t)=false:=by cases hh:(V.getD (aF c) []).isPrefixOf (w.drop t) with
     | false=>rfl
     | true=>exact absurd hh hp
    rw[this,Bool.false_and];rfl
theorem jL:∀(p w:B8) (V:bC),jP p w V=true->p.length<=w.length
 | [],w,V,_=>lZe _
 | c::p,w,V,h=>by
  unfold jP at h;by_cases h0:V.getD (aF c) []=[]
  ·rw[if_pos h0,any_eq_true]at h;obtain⟨n,hn,h⟩:=h;have h1:=jL p _ _ h;have:=List.mem_range.1 hn;rw[length_drop]at h1;rw[length_cons];omega
  ·rw[if_neg h0,Bool.and_eq_true]at h;have h1:=jL p _ _ h.2;have h2:=eK h.1;have h3:1<=(V.getD (aF c) []).length:=by
    cases e:V.getD (aF c) [] with
    | nil=>exact absurd e h0
    | cons a l=>simp
   rw[length_drop]at h1;rw[length_cons];omega
theorem On{p w:B8}{V:bC}{k:Nat}:AT p w V k w.length=AT p w V k (w.length-p.length):=by
 rw[Bool.eq_iff_iff];unfold AT;rw[any_eq_true,any_eq_true];constructor
 ·rintro⟨n,hn,h⟩
  have h1:=jL _ _ _ h;have h2:=List.mem_range.1 hn;rw[length_drop]at h1;exact⟨n,List.mem_range.2 (by omega),h⟩
 ·rintro⟨n,hn,h⟩
  have h2:=List.mem_range.1 hn;exact⟨n,List.mem_range.2 (by omega),h⟩
def V0:bC:=[[],[],[]]
def eW(w p:B8):Bool:=jP p w V0
def fh(w p:B8):Bool:=(range w.length).any fun i=>eW (w.drop i) p
theorem NL(w p:B8)(hp:1<=p.length):fh w p=(range (w.length+1-p.length)).any fun i=>eW (w.drop i) p:=by
 rw[Bool.eq_iff_iff];unfold fh;rw[any_eq_true,any_eq_true];constructor
 ·rintro⟨i,hi,h⟩
  have h1:=jL _ _ _ h;rw[length_drop]at h1;have:=List.mem_range.1 hi;exact⟨i,List.mem_range.2 (by omega),h⟩
 ·rintro⟨i,hi,h⟩
  have:=List.mem_range.1 hi;exact⟨i,List.mem_range.2 (by omega),h⟩
def lD(w p:B8)(i:Int)(m:Nat):Bool:=(range m).any fun j=>decide (i<j)&&eW (w.drop j) p
theorem Jl{w p:B8}{i:Int}{m:Nat}(h:(m:Int)<=i+1):lD w p i m=false:=by
 cases hh:lD w p i m with
 | false=>rfl
 | true=>
  unfold lD at hh;obtain⟨j,hj,hf⟩:=List.any_eq_true.1 hh;rw[Bool.and_eq_true,decide_eq_true_eq]at hf;have:=List.mem_range.1 hj;omega
theorem Gk(w p:B8){i m:Nat}(h:i<m):lD w p ((i:Int)-1) m=(lD w p i m||eW (w.drop i) p):=by
 rw[Bool.eq_iff_iff,Bool.or_eq_true];unfold lD;rw[any_eq_true,any_eq_true];constructor
 ·rintro⟨j,hj,hf⟩
  rw[Bool.and_eq_true,decide_eq_true_eq]at hf;by_cases he:j=i
  ·subst he;exact .inr hf.2
  ·exact .inl ⟨j,hj,by rw[Bool.and_eq_true,decide_eq_true_eq];exact⟨by omega,hf.2⟩⟩
 ·rintro(⟨j,hj,hf⟩|hf)
  ·rw[Bool.and_eq_true,decide_eq_true_eq]at hf;exact⟨j,hj,by rw[Bool.and_eq_true,decide_eq_true_eq];exact⟨by omega,hf.2⟩⟩
  ·exact⟨i,List.mem_range.2 h,by rw[Bool.and_eq_true,decide_eq_true_eq];exact⟨by omega,hf⟩⟩
theorem J7{w p:B8}{i:Int}{m:Nat}(h:i<0):lD w p i m=(range m).any fun j=>eW (w.drop j) p:=by
 rw[Bool.eq_iff_iff];unfold lD;rw[any_eq_true,any_eq_true];constructor
 ·rintro⟨j,hj,hf⟩
  rw[Bool.and_eq_true,decide_eq_true_eq]at hf;exact⟨j,hj,hf.2⟩
 ·rintro⟨j,hj,hf⟩
  exact⟨j,hj,by rw[Bool.and_eq_true,decide_eq_true_eq];exact⟨by omega,hf⟩⟩
def avL(p:B8)(k:Nat):Nat->B8->List B8
 | 0,w=>[w]
 | d+1,w=>(range k).flatMap fun i=>if fh (w++[ltr i]) p then [] else avL p k d (w++[ltr i])
def avS(p:B8)(k d:Nat)(w:B8)(i:Nat):List B8:=if fh (w++[ltr i]) p then [] else avL p k d (w++[ltr i])
def avN(p:B8)(k d:Nat)(w:B8)(i:Nat):List B8:=(range i).flatMap (avS p k d w)
theorem sG(p:B8)(k d:Nat)(w:B8):avN p k d w 0=[]:=rfl
theorem tv(p:B8)(k d:Nat)(w:B8)(i:Nat):avN p k d w (i+1)=avN p k d w i++avS p k d w i:=by simp[avN,range_succ]
theorem sE(p:B8)(k d:Nat)(w:B8):avL p k (d+1) w=avN p k d w k:=rfl
theorem oQ(p:B8)(k d:Nat)(w:B8){i:Nat}(h:i<=k):∃ rest,avL p k (d+1) w=avN p k d w i++rest:=by
 refine⟨(range' i (k-i)).flatMap (avS p k d w),?_⟩;rw[sE];unfold avN;rw[<-flatMap_append]
 congr 1
 rw[range_eq_range',range_eq_range'];have:=range'_append_1 (s:=0) (m:=i) (n:=k-i);rw[Nat.zero_add,show i+(k-i)=k by omega]at this;exact this.symm
def a7(p:B8):Bool:=decide (1<=p.length/\p.length<=8)&&p.all fun c=>decide (65<=c.toNat)&&decide (c.toNat<68)
end Go.Proofs.YtapimhjbilkfpaaGreatDoor
