/- Lemmas for FnExactDeskAfter, part 23 of 33. -/
import Derived.Test.YtapimhjbilkfpaaGreatDoorZ21
set_option linter.unusedVariables false
set_option linter.unusedSimpArgs false
namespace Go.Proofs.YtapimhjbilkfpaaGreatDoor
open Go Go.Proofs.Tryz List
theorem nd(sep:B8)(L:Nat):∀ xs:List B8,(∀ x∈xs,x.length<=L)->(Lib.join xs sep).length<=xs.length*(L+sep.length)
 | [],_=>by rw[Lib.join_nil];exact lZe _
 | x::r,h=>by
  have hx:=h x (mem_cons_self ..);have key:∀ r:List B8,(∀ x∈r,x.length<=L)->(Lib.joinTail sep r).length<=r.length*(L+sep.length):=by
   intro r
   induction r with
   | nil=>intro _;exact lZe _
   | cons y r ih=>
    intro hr;have h1:=hr y (mem_cons_self ..);have h2:=ih (fun z hz=>hr z (mem_cons_of_mem _ hz));have e:Lib.joinTail sep (y::r)=(sep++y)++Lib.joinTail sep r:=by simp[Lib.joinTail]
    rw[e,lAp,lAp,length_cons,Nat.succ_mul];omega
  have h2:=key r (fun z hz=>h z (mem_cons_of_mem _ hz));rw[Lib.join_cons,lAp,length_cons,Nat.succ_mul];omega
structure nj(l:List B8):Prop where
 few:l.length<=4000
 short:∀ x∈l,x.length<=100
structure ly(l:List Int):Prop where
 few:l.length<=4000
 low:∀ x∈l,-9223372036854775807<=x/\x<=9223372036854775807
theorem nj.nil:nj []:=⟨lZe _,fun _ h=>by cases h⟩
theorem ly.nil:ly []:=⟨lZe _,fun _ h=>by cases h⟩
theorem dD(w:B8):(qt w).length=w.length+2:=by simp[qt]
theorem nj.join{l:List B8}(h:nj l):(Lib.join (l.map qt) [32]).length<=1000000:=by
 have h1:(Lib.join (l.map qt) [32]).length<=(l.map qt).length*103:=nd [32] 102 (l.map qt) (fun x hx=>by
  obtain⟨y,hy,rfl⟩:=List.mem_map.1 hx;rw[dD];have:=h.short y hy;omega)
 rw[length_map]at h1;have:=Nat.mul_le_mul_right 103 h.few;omega
theorem ly.join{l:List Int}(h:ly l):(Lib.join (l.map Lib.itoa) [32]).length<=1000000:=by
 have h1:(Lib.join (l.map Lib.itoa) [32]).length<=(l.map Lib.itoa).length*22:=nd [32] 21 (l.map Lib.itoa) (fun x hx=>by
  obtain⟨y,hy,rfl⟩:=List.mem_map.1 hx;exact dm y (h.low y hy).1 (h.low y hy).2)
 rw[length_map]at h1;have:=Nat.mul_le_mul_right 22 h.few;omega
theorem nj.text{l:List B8}(h:nj l):(dr l).length<=1000000:=by
 unfold dr;split
 ·exact of_decide_eq_true rfl
 ·exact h.join
theorem ly.text{l:List Int}(h:ly l):(dM l).length<=1000000:=by
 unfold dM;split
 ·exact of_decide_eq_true rfl
 ·exact h.join
theorem PJ{b:Bool}{l:List B8}(h:b=true->nj l):nj (if b then l else []):=by
 cases b
 ·exact nj.nil
 ·exact h rfl
theorem Lo{b:Bool}{l:List Int}(h:b=true->ly l):ly (if b then l else []):=by
 cases b
 ·exact ly.nil
 ·exact h rfl
theorem Ai:∀(f:Nat) (w:B8),∀ x∈rJ f w,x.length<=w.length
 | 0,_,_,h=>by cases h
 | f+1,w,x,h=>by
  unfold rJ at h;split at h
  ·cases h
  ·rcases List.mem_cons.1 h with rfl|h
   ·rw[lTa];omega
   ·have:=Ai f _ x h;rw[length_drop]at this;omega
theorem Ip(w:B8):nj (if isWord w then ld w else []):=PJ fun h=>by
 have h60:=au h;refine⟨?_,fun x hx=>?_⟩
 ·have:=HT w.length w;unfold ld;omega
 ·have:=Ai _ _ x hx;omega
theorem Kq{w:B8}{m:Nat}:∀ x∈sS w m,x.length<=m:=by
 intro x hx;unfold sS at hx;split at hx
 ·have hx:=(oJ _ _).1 hx;unfold dx at hx;obtain⟨i,_,rfl⟩:=List.mem_map.1 hx;unfold seg;rw[length_drop,lTa];omega
 ·cases hx
theorem Kn(w:B8):nj (if isWord w then fe w w.length else []):=PJ fun h=>by
 have h60:=au h;refine⟨?_,fun x hx=>?_⟩
 ·have:=gH h60 w.length;omega
 ·unfold fe at hx;obtain⟨m,hm,hx⟩:=List.mem_flatMap.1 hx;have:=Kq x (List.mem_filter.1 hx).1;have:=List.mem_range.1 hm;omega
theorem AB(w:B8):∀(f i:Nat),∀ x∈qT w f i,x.length<=w.length
 | 0,_,_,h=>by cases h
 | f+1,i,x,h=>by
  unfold qT at h;split at h
  ·rcases List.mem_cons.1 h with rfl|h
   ·unfold seg;rw[length_drop,lTa];omega
   ·exact AB w f _ x h
  ·cases h
theorem Iz(w:B8):nj (if isWord w then iF w 0 else []):=PJ fun h=>by
 have h60:=au h;refine⟨?_,fun x hx=>?_⟩
 ·have:=FI w w.length 0;unfold iF;omega
 ·have:=AB w _ _ x hx;omega
theorem MR{p:B8}{V:bC}{k:Nat}(h:occ p k):(V.getD k []).length<=(fP p V).length:=by
 obtain⟨c,hc,rfl⟩:=h;unfold fP
 induction p with
 | nil=>cases hc
 | cons a p ih=>
  rw[flatMap_cons,lAp];rcases List.mem_cons.1 hc with rfl|hc
  ·omega
  ·have:=ih hc;omega
theorem F4(w p:B8):nj (plL w p):=by
 refine⟨by have:=TW w p;omega,fun x hx=>?_⟩;unfold plL at hx;cases hb:isWord w&&a7 p with
 | false=>rw[hb]at hx;cases hx
 | true=>
  rw[hb,if_pos rfl]at hx;rw[Bool.and_eq_true]at hb;have h60:=au hb.1;obtain⟨hp1,hp8,hpv⟩:=bJ hb.2;have hne:p≠[]:=by rintro rfl;simp at hp1
  have hpl:=y7 (w:=w) (qP hb.2) hne;cases hf:jJ w p with
  | none=>rw[hf]at hx;cases hx
  | some r=>
   obtain⟨j,V⟩:=r;rw[hf]at hpl hx;obtain⟨_,hj,hg,hpre⟩:=hpl;have hx:x∈jS V:=hx;obtain⟨hx1,hx2⟩:=List.mem_filter.1 hx;obtain⟨k,hk,rfl⟩:=getElem_of_mem hx1;have hgk:V.getD k []=V[k]:=by rw[gDe,gEl hk];rfl
   have hne2:V.getD k []≠[]:=by
    rw[hgk];intro e;rw[e]at hx2;cases hx2
   have h0:V0.getD k []=[]:=by
    have:V.length=3:=hg.len
    match k,(by omega:k<3) with
    | 0,_=>rfl
    | 1,_=>rfl
    | 2,_=>rfl
   have hocc:=(hg.new k h0).1 hne2;have h1:=MR (V:=V) hocc;have h2:=hpre.length_le;rw[length_drop]at h2;rw[hgk]at h1;omega
theorem pl_int(w p:B8):0<=plI w p/\plI w p<=60:=by
 unfold plI;cases hb:isWord w&&a7 p with
 | false=>rw[if_neg (by decide)];decide
 | true=>
  rw[if_pos rfl];rw[Bool.and_eq_true]at hb;have h60:=au hb.1;obtain⟨hp1,hp8,hpv⟩:=bJ hb.2;have hne:p≠[]:=by rintro rfl;simp at hp1
  have hpl:=y7 (w:=w) (qP hb.2) hne;cases hf:jJ w p with
  | none=>exact⟨Int.le_refl _,by decide⟩
  | some r=>
   obtain⟨j,V⟩:=r;rw[hf]at hpl;obtain⟨_,hj,_⟩:=hpl;exact⟨by show (0:Int)<=(j:Nat);omega,by show ((j:Nat):Int)<=60;omega⟩
theorem vj(w:B8):ly (if isWord w then counts w else []):=Lo fun h=>by
 have h60:=au h;refine⟨by rw[eg];decide,fun x hx=>?_⟩;have hc:∀ k,0<=cnt w k/\cnt w k<=60:=fun k=>by
  have:w.countP (fun u=>u.toNat==97+k)<=w.length:=countP_le_length;unfold cnt;omega
 unfold counts at hx;have:∃ k,x=cnt w k:=by
  simp only[mem_cons,not_mem_nil,or_false]at hx;rcases hx with rfl|rfl|rfl|rfl|rfl
  ·exact⟨_,rfl⟩
  ·exact⟨_,rfl⟩
  ·exact⟨_,rfl⟩
  ·exact⟨_,rfl⟩
  ·exact⟨_,rfl⟩
 obtain⟨k,rfl⟩:=this;have:=hc k;omega
theorem Hc{w:B8}{x:Int}(h:x∈cC w):1<=x/\x<=w.length:=by
 unfold cC kd at h;obtain⟨k,hk,rfl⟩:=List.mem_map.1 h;have:=List.mem_range.1 (List.mem_filter.1 hk).1;omega
theorem H8(w:B8):(cC w).length<=w.length:=by
 unfold cC kd;rw[length_map];exact Nat.le_trans (length_filter_le _ _) (by rw[length_range];exact lRf _)
theorem Iw(w:B8):ly (if isWord w then cC w else []):=Lo fun h=>by
 have h60:=au h;refine⟨by have:=H8 w;omega,fun x hx=>by have:=Hc hx;omega⟩
theorem DV(w:B8):ly (if isWord w then iJ w else []):=Lo fun h=>by
 have h60:=au h;unfold iJ;refine⟨by rw[length_reverse,length_map];have:=H8 w;omega,fun x hx=>?_⟩;rw[mem_reverse]at hx;obtain⟨y,hy,rfl⟩:=List.mem_map.1 hx;have:=Hc hy;omega
theorem IN(w:B8):ly (if isWord w then ie w (w.length-1) else []):=Lo fun h=>by
 have h60:=au h;refine⟨by have:=u0 w (w.length-1);omega,fun x hx=>?_⟩;unfold ie at hx;obtain⟨k,hk,rfl⟩:=List.mem_map.1 hx;have:=List.mem_range.1 (List.mem_filter.1 hk).1;omega
theorem S3{l:List Nat}(h1:l.length<=4000)(h2:∀ x∈l,x<=1000000000000000):ly (nI l):=by
 unfold nI;refine⟨by rw[length_map];exact h1,fun x hx=>?_⟩;obtain⟨y,hy,rfl⟩:=List.mem_map.1 hx;have:=h2 y hy;omega
theorem Rx(w:B8):∀ x∈jR w,x<=60:=by
 intro x hx;by_cases h:rG w=0
 ·obtain⟨h1,_,_⟩:=LK h;unfold sK at h1;split at h1
  ·rename_i ho;unfold mE at ho;rw[Bool.and_eq_true,all_eq_true]at ho;obtain⟨k,hk,rfl⟩:=getElem_of_mem hx;have hk2:k<(nI (jR w)).length:=by unfold nI;rw[length_map];exact hk
   have:=ho.2 k (List.mem_range.2 hk2);unfold mi at this;rw[decide_eq_true_eq]at this;have e:(nI (jR w)).getD k 0=((jR w)[k]:Nat):=by
    rw[gDe,gEl hk2];exact getElem_map ..
   rw[e]at this;omega
  ·cases h1
 ·have:jR w=[]:=by
   unfold rG at h;unfold jR;split
   ·rename_i hab;rw[if_pos hab]at h;cases hc:cntF w 21 0 with
    | none=>rfl
    | some y=>rw[hc]at h;exact absurd rfl h
   ·rfl
  rw[this]at hx;cases hx
theorem It(w:B8):ly (nI (jR w)):=S3 (by have:=Pa w;omega) (fun x hx=>by have:=Rx w x hx;omega)
theorem Ag(ws:List B8)(a k:Int):ly (nI (jk ws a k)):=by
 have h:(jk ws a k).length<=4000/\∀ x∈jk ws a k,x<=1000000000000000:=by
  unfold jk;split
  ·rename_i hc;obtain⟨_,_,_,h0,h1⟩:=gF hc;split
   ·rename_i ho;refine⟨by rw[oh];omega,fun x hx=>?_⟩;unfold A5 at hx;obtain⟨i,hi,rfl⟩:=List.mem_map.1 hx;unfold okS at ho;rw[all_eq_true]at ho;have:=ho i hi;rw[decide_eq_true_eq]at this;exact this
   ·exact⟨lZe _,fun x hx=>by cases hx⟩
  ·exact⟨lZe _,fun x hx=>by cases hx⟩
 exact S3 h.1 h.2
def IOk(n:Int):Prop:=-9223372036854775807<=n/\n<=9223372036854775807
theorem Ho(w p:B8):IOk (plI w p):=by have:=pl_int w p;unfold IOk;omega
theorem za(w:B8):IOk (wN w)/\IOk (wU w):=by
 unfold IOk wN wU;have h60:ck w=0->w.length<=60:=fun h=>by
  unfold ck at h;split at h
  ·rename_i hw;exact au hw
  ·cases h
 by_cases h:ck w=0
 ·rw[if_pos h,if_pos h];have:=h60 h;have h1:w.length/Nat.gcd w.length (cE w)<=w.length:=Nat.div_le_self _ _;have h2:cE w/Nat.gcd w.length (cE w)<=cE w:=Nat.div_le_self _ _;have h3:cE w<=w.length+1:=by
   unfold cE;cases hf:(range w.length).find? (fun q=>hp w (q+1)) with
   | none=>exact Nat.le_add_left 1 _
   | some q=>
    have:=List.mem_range.1 (mem_of_find?_eq_some hf);show q+1<=_;omega
  generalize w.length/Nat.gcd w.length (cE w)=x at *;generalize cE w/Nat.gcd w.length (cE w)=y at *;omega
 ·rw[if_neg h,if_neg h];decide
theorem rS(w:B8):IOk (pU w):=by
 unfold IOk pU;by_cases h:ck w=0
 ·rw[if_pos h];have:w.length<=60:=by
   unfold ck at h;split at h
   ·rename_i hw;exact au hw
   ·cases h
  have h1:w.length/(eo w).length<=w.length:=Nat.div_le_self _ _;generalize w.length/(eo w).length=x at *;omega
 ·rw[if_neg h];decide
theorem FB(w:B8):IOk (if isWord w then (((ltF w w.length).2:Nat):Int) else 0):=by
 unfold IOk;cases h:isWord w with
 | false=>rw[if_neg (by decide)];decide
 | true=>
  have:=au h;have:=(tj w w.length).2;rw[if_pos rfl];omega
theorem GC(w:B8):IOk (lpK w):=by
 unfold IOk lpK;by_cases h:ck w=0
 ·rw[if_pos h];have:w.length<=60:=by
   unfold ck at h;split at h
   ·rename_i hw;exact au hw
   ·cases h
  have h1:=(ry ch w w.length (lRf _)).2;omega
 ·rw[if_neg h];decide
theorem IH(w:B8):IOk (EI w):=by
 unfold IOk EI;cases h:isWord w with
 | false=>rw[if_neg (by decide)];decide
 | true=>
  have h60:=au h;have:=gH h60 w.length;rw[if_pos rfl];omega
theorem Jt(p:B8)(k n:Int):IOk (G7 p k n):=by
 unfold IOk G7;split
 ·rename_i h;obtain⟨_,hk,hn⟩:=td h;have h1:=pz (p:=p) (k:=k.toNat) (n:=n.toNat) (by omega) (by omega) [];unfold pW;omega
 ·decide
theorem jZ{t:B8}{c:Int}(h:c=0->isWord t=true)(h':c≠0->t=[]):t.length<=60:=by
 by_cases e:c=0
 ·exact au (h e)
 ·rw[h' e];exact lZe _
theorem IF(w:B8):(if isWord w then w.reverse else []).length<=60:=jZ (c:=aJ w) (fun h=>si h) (fun h=>by
 unfold aJ at h;split
 ·rename_i hw;rw[if_pos hw]at h;exact absurd rfl h
 ·rfl)
theorem DD(w:B8):(pO w).length<=60:=jZ (c:=pP w) BG (fun h=>by
 unfold pP at h;unfold pO;(repeat' split)<;>simp_all)
theorem DC(ws:List B8)(w:B8)(k:Int):(mP ws w k).length<=60:=jZ (c:=nU ws w k) CH (fun h=>by
 unfold nU at h;unfold mP;(repeat' split)<;>simp_all)
theorem EN(ws:List B8)(w:B8):(pS ws w).length<=60:=jZ (c:=pM ws w) CK (fun h=>by
 unfold pM at h;unfold pS;(repeat' split)<;>simp_all)
theorem I4(w:B8)(i m:Int):(Bp w i m).length<=60:=jZ (c:=A2 w i m) Fe (fun h=>by
 unfold A2 at h;unfold Bp;(repeat' split)<;>simp_all)
theorem Ko(p q:Int):(iU p q).length<=60:=jZ (c:=iu p q) GN (fun h=>by
 unfold iU;rw[if_neg h])
theorem O2(ws:List B8)(a n:Int):(grT ws a n).length<=60:=jZ (c:=grC ws a n) KV (fun h=>by
 unfold grC at h;unfold grT;(repeat' split)<;>simp_all)
theorem JA(p q:Int):(AQ p q).length<=60:=jZ (c:=te p q) GB (fun h=>by
 unfold AQ;rw[if_neg h])
theorem Ez(w u:B8):(mv w u).length<=60:=jZ (c:=nP w u) Da (fun h=>by
 unfold nP at h;unfold mv;(repeat' split)<;>simp_all)
theorem yn(l:B8)(m:Int):(gI l m).length<=60:=jZ (c:=iH l m) Au (fun h=>by
 unfold iH at h;unfold gI;(repeat' split)<;>simp_all)
theorem qy(zs:List Int):(qC zs).length<=60:=jZ (c:=sK zs) Pj (fun h=>by
 unfold sK at h;unfold qC;(repeat' split)<;>simp_all)
theorem x8(w:B8)(k:Int):(xe w k).length<=60:=jZ (c:=Bq w k) HX (fun h=>by
 unfold Bq at h;unfold xe;(repeat' split)<;>simp_all)
theorem yO(n:Int):(wQ n).length<=60:=jZ (c:=Bu n) Ga (fun h=>by
 unfold Bu at h;unfold wQ;(repeat' split)<;>simp_all)
theorem EG{w:B8}(h:ck w=0):w.length<=60:=by
 unfold ck at h;split at h
 ·rename_i hw;exact au hw
 ·cases h
theorem Dd(w:B8):(mh w).length<=60:=by
 unfold mh;split
 ·rename_i h;have:=EG h;unfold eo;split
  ·rw[lTa];omega
  ·exact this
 ·exact lZe _
theorem QU(w:B8):(if isWord w then (ltF w w.length).1 else []).length<=60:=by
 split
 ·rename_i h;have:=au h;rw[(tj w w.length).1];exact this
 ·exact lZe _
theorem PG(w:B8):(ubT w).length<=60:=by
 unfold ubT;split
 ·rename_i h;have:=EG h;have:=(ry lj w w.length (lRf _)).1;omega
 ·exact lZe _
theorem Qa(w:B8):(lpT w).length<=60:=by
 unfold lpT;split
 ·rename_i h;have:=EG h;have:=(ry ch w w.length (lRf _)).1;omega
 ·exact lZe _
theorem J8(p q:Int):(Eu p q).length<=60:=by
 unfold Eu;split
 ·rename_i h;unfold Hz at h;split at h
  ·split at h
   ·assumption
   ·cases h
  ·cases h
 ·exact lZe _
theorem zT(p:B8)(k n:Int):(firstT p k n).length<=60:=jZ (c:=jl p k n) (fun h=>(Pm h).2.2.1) OS
theorem DP(ws:List B8):(nC ws).length<=100:=by
 unfold nC;split
 ·rename_i h;have h5:=(aV h).2;have h12:∀ w∈ws,w.length<=12:=fun w hw=>(bL h hw).1;have h1:(Lib.join ws [44]).length<=ws.length*13:=nd [44] 12 ws h12;have e:txt ws=Lib.join ws [44]:=by
   cases ws with
   | nil=>rfl
   | cons x r=>rw[Lib.join_cons];rfl
  rw[e];have:=Nat.mul_le_mul_right 13 h5;omega
 ·exact lZe _
theorem E3(ws:List B8):(pV ws).length<=60:=by
 unfold pV;split
 ·split
  ·rename_i hn;cases hm:jn ws (jH ws+1) with
   | none=>exact lZe _
   | some u=>
    unfold jn at hm;obtain⟨m,hm1,hm2⟩:=exists_of_findSome?_eq_some hm;have h1:=List.mem_range.1 hm1;unfold uj at hm2;have h2:=(Hk _ _ _ _ (mem_of_find?_eq_some hm2)).1;rw[length_nil,Nat.zero_add]at h2;show u.length<=60;omega
  ·exact lZe _
 ·exact lZe _
end Go.Proofs.YtapimhjbilkfpaaGreatDoor
namespace Go.Proofs.YtapimhjbilkfpaaGreatDoor
open Go Go.Proofs.Tryz Go.RowKit List
theorem jK{M N:Mem}{b i:Nat}{v:Value}(h:M.get? b i=some v)(hs:Sub M N):N.get? b i=some v:=by
 unfold Mem.get? at *;cases hM:M b with
 | none=>rw[hM]at h;cases h
 | some B=>rw[hM]at h;rw[hs _ _ hM];exact h
def bh(d:Dk)(v:Value)(t:B8)(c:Int):Value:=.agg #[str d.w,str d.p,v,str t,.int .i64 c]
def dkV(d:Dk)(v:Value):Value:=.agg #[str d.w,str d.p,v]
def Gv(M:Mem)(v:Value)(d:Dk)(v':Value)(d':Dk)(M':Mem):Prop:=(v'=v/\d'.ms=d.ms/\M'=M)\/Own M v' (strs d'.ms) M'
theorem Lx(l:List Nat):aD l=ints (nI l):=by simp[aD,ints,nI]
theorem yX(l:List B8){i:Nat}(h:i<l.length):(l.map qt).take (i+1)=(l.map qt).take i++[qt l[i]]:=by
 rw[<-map_take,<-map_take,aw l h,map_append];rfl
theorem yg(l:List Int){i:Nat}(h:i<l.length):(l.map Lib.itoa).take (i+1)=(l.map Lib.itoa).take i++[Lib.itoa l[i]]:=by
 rw[<-map_take,<-map_take,aw l h,map_append];rfl
theorem mN(w:B8)(M:Mem)(R:VP)(hl:w.length<=1099511627776)(h:R (str (qt w)) M):ar prog 214 [str w] M R:=by
 unfold qt at h;refine fnS func214 rfl ntmps214 results214 ?_;simp(disch:=omega);exact ad h
theorem sI(v:Value)(l:List B8)(M:Mem)(R:VP)(hvar:bW M)(hv:Rd M v (strs l))(hok:nj l)(h:R (str (dr l)) M):ar prog 232 [v,.func (.func 214) #[] #[]] M R:=by
 unfold dr at h;refine fnS func232 rfl ntmps232 results232 ?_;obtain⟨a,c,rfl,ha⟩:=hv.opened;rw[ah]at ha ⊢;have hfew:=hok.few;by_cases h0:l=[]
 ·rw[if_pos h0]at h;subst h0;simp(disch:=omega);exact ad h
 ·rw[if_neg h0]at h;have h1:1<=l.length:=List.length_pos_iff.2 h0;have h1I:¬(l.length:Int)=0:=by omega
  rcases ha with hz|⟨b,o,rfl,ha⟩
  ·omega
  simp(disch:=omega);refine lupS (rlA [5,7] 13 11) (fun x:Nat×Value=>[(13,.int .i64 (x.1:Nat)),(5,x.2)]) (fun x N=>x.1<=l.length/\Own M x.2 (strs ((l.map qt).take x.1)) N) (fun x=>l.length-x.1) (0,.slice none 0 0) ⟨lZe _,by simp only[take_zero];exact Own.nil M⟩ ?_
  rintro⟨i,u⟩ N q ⟨hi,ho⟩
  simp only at hi ho;by_cases hlt:i<l.length
  ·have hltI:(i:Int)<(l.length:Nat):=by omega
   have hg:=ha i hlt;have hsn:=yX l hlt;have hm:l[i]∈l:=getElem_mem hlt;rw[ba,gEl hlt,Option.map_some]at hg;have hg2:=jK hg ho.sub;have hvar:=hvar.sub ho.sub;generalize l[i]=x at *;simp(disch:=omega)[hltI,hg2];refine mN x _ _ (by have:=hok.short _ hm;omega) ?_;simp(disch:=omega);intro b' hb';simp(disch:=omega);refine aN ho ((Sub.refl _).put hb' _) (by simp(disch:=omega);rfl) rfl rfl (by first|omega|(simp(disch:=omega)<;>omega)) (by simp(disch:=omega)) (by simp(disch:=omega);omega) ?_;intro v' M'' N'' ho' hs';rw[cK,<-hsn]at ho';simp(disch:=omega);exact rndM M'' (i+1,v') hs' ⟨by omega,ho'⟩
  ·have hltI:¬(i:Int)<(l.length:Nat):=by omega
   have hie:i=l.length:=by omega
   rw[hie,take_of_length_le (by rw[length_map];exact lRf _)]at ho;have hj:=hok.join;simp(disch:=omega);refine vI u (l.map qt) [32] _ _ ho.rd (by rw[length_map];exact h1) (by rw[length_map];omega) (by omega) ?_;simp(disch:=omega);exact ae ho.sub h
theorem DR(v:Value)(l:List (Int))(M:Mem)(R:VP)(hvar:bW M)(hv:Rd M v (ints l))(hok:ly l)(h:R (str (dM l)) M):ar prog 260 [v,.func (.func 154) #[] #[]] M R:=by
 unfold dM at h;refine fnS func260 rfl ntmps260 results260 ?_;obtain⟨a,c,rfl,ha⟩:=hv.opened;rw[az]at ha ⊢;have hfew:=hok.few;by_cases h0:l=[]
 ·rw[if_pos h0]at h;subst h0;simp(disch:=omega);exact ad h
 ·rw[if_neg h0]at h;have h1:1<=l.length:=List.length_pos_iff.2 h0;have h1I:¬(l.length:Int)=0:=by omega
  rcases ha with hz|⟨b,o,rfl,ha⟩
  ·omega
  simp(disch:=omega);refine lupS (rlA [5,7] 13 11) (fun x:Nat×Value=>[(13,.int .i64 (x.1:Nat)),(5,x.2)]) (fun x N=>x.1<=l.length/\Own M x.2 (strs ((l.map Lib.itoa).take x.1)) N) (fun x=>l.length-x.1) (0,.slice none 0 0) ⟨lZe _,by simp only[take_zero];exact Own.nil M⟩ ?_
  rintro⟨i,u⟩ N q ⟨hi,ho⟩
  simp only at hi ho;by_cases hlt:i<l.length
  ·have hltI:(i:Int)<(l.length:Nat):=by omega
   have hg:=ha i hlt;have hsn:=yg l hlt;have hm:l[i]∈l:=getElem_mem hlt;rw[cD,gEl hlt,Option.map_some]at hg;have hg2:=jK hg ho.sub;have hvar:=hvar.sub ho.sub;generalize l[i]=x at *;simp(disch:=omega)[hltI,hg2];refine dR x _ _ hvar (hok.low _ hm).1 (hok.low _ hm).2 ?_;simp(disch:=omega);intro b' hb';simp(disch:=omega);refine aN ho ((Sub.refl _).put hb' _) (by simp(disch:=omega);rfl) rfl rfl (by first|omega|(simp(disch:=omega)<;>omega)) (by simp(disch:=omega)) (by simp(disch:=omega);omega) ?_;intro v' M'' N'' ho' hs';rw[cK,<-hsn]at ho';simp(disch:=omega);exact rndM M'' (i+1,v') hs' ⟨by omega,ho'⟩
  ·have hltI:¬(i:Int)<(l.length:Nat):=by omega
   have hie:i=l.length:=by omega
   rw[hie,take_of_length_le (by rw[length_map];exact lRf _)]at ho;have hj:=hok.join;simp(disch:=omega);refine vI u (l.map Lib.itoa) [32] _ _ ho.rd (by rw[length_map];exact h1) (by rw[length_map];omega) (by omega) ?_;simp(disch:=omega);exact ae ho.sub h
theorem CZ(xs:List B8)(y sep:B8)(h:xs≠[]):Lib.join (xs++[y]) sep=Lib.join xs sep++sep++y:=by
 cases xs with
 | nil=>exact absurd rfl h
 | cons x r=>
  rw[cons_append,Lib.join_cons,Lib.join_cons];unfold Lib.joinTail;simp
theorem join_none(y sep:B8):Lib.join ([]++[y]) sep=y:=by rw[nil_append,Lib.join_one]
theorem bN(w:B8)(M:Mem)(R:VP)(hl:w.length<=1099511627776)(h:R (str (qt w)) M):ar prog 110 [str w] M R:=by
 unfold qt at h;refine fnS func110 rfl ntmps110 results110 ?_;simp(disch:=omega);exact ad h
theorem Mx(q:Bool)(M:Mem)(R:VP)(h:R (str (iD q)) M):ar prog 195 [.bool q] M R:=by
 unfold iD at h;refine fnS func195 rfl ntmps195 results195 ?_;cases q
 ·simp(disch:=omega);exact ad h
 ·simp(disch:=omega);exact ad h
theorem C8(n:Nat):∀(M:Mem) (R:VP),n<=9223372036854775807->R (str (Lib.decDigits n)) M->ar prog 74 [.int .i64 n] M R:=by
 induction n using Nat.strongRecOn with
 | _ n ih=>
  intro M R hn h;refine fnS func74 rfl ntmps74 results74 ?_;have h0:¬(n:Int)<0:=by omega
  by_cases h10:n<10
  ·rw[Lib.decDigits_one h10]at h;have h10I:(n:Int)<10:=by omega
   simp(disch:=omega)[h0,h10I];intro b hb;simp(disch:=omega);have e:((48:Int)+(n:Nat)).toNat=48+n:=by omega
   rw[<-e]at h;exact ae ((Sub.refl M).put hb _) h
  ·rw[Lib.decDigits,dif_neg h10]at h;have h10I:¬(n:Int)<10:=by omega
   obtain⟨q,hq⟩:∃ q,q=n/10:=⟨_,rfl⟩;obtain⟨r,hr⟩:∃ r,r=n%10:=⟨_,rfl⟩;rw[<-hq,<-hr]at h;have hqI:(n:Int)/10=(q:Nat):=by omega
   have hrI:(n:Int).tmod 10=(r:Nat):=by
    rw[Int.tmod_eq_emod_of_nonneg (by omega)];omega
   have hql:=dm (q:Nat) (by omega) (by omega);rw[Lib.itoa_nonneg]at hql;have ihq:=ih q (by omega);have e:((48:Int)+(r:Nat)).toNat=48+r:=by omega
   have hr9:r<=9:=by omega
   rw[<-e]at h;clear ih;generalize Lib.decDigits q=y at *;simp(disch:=omega)[h0,h10I];refine plyS (ak [0,1,3,4,5,6] (.alt 2 1 (.one 7 1 (.one 8 1 (ak [9,10] .fin))) (.one 7 1 (.alt 2 1 (.one 8 1 (ak [9,10] .fin)) (.one 8 1 (.one 2 1 (ak [9,10] .fin))))))) ?_;simp(disch:=omega)[hqI,hrI,jz];refine⟨ihq _ _ (by omega) ?_,?_⟩
   ·simp(disch:=omega);intro b hb;have s:=(Sub.refl M).put hb (.cells true [.int .u8 (48+(r:Nat))] 1);simp(disch:=omega)[s];exact ae s h
   ·intro b hb;have s:=(Sub.refl M).put hb (.cells true [.int .u8 (48+(r:Nat))] 1);simp(disch:=omega)[jz,s];refine⟨ihq _ _ (by omega) ?_,?_⟩
    ·simp(disch:=omega);exact ae s h
    ·refine ihq _ _ (by omega) ?_;simp(disch:=omega);exact ae s h
theorem fN(n:Int)(M:Mem)(R:VP)(hn:IOk n)(h:R (str (Lib.itoa n)) M):ar prog 74 [.int .i64 n] M R:=by
 by_cases h0:n<0
 ·obtain⟨k,hk⟩:∃ k:Nat,-n=k:=⟨n.natAbs,by omega⟩;have hnk:n.natAbs=k:=by omega
  unfold Lib.itoa at h;rw[if_pos h0,hnk]at h;have hmin:k<=9223372036854775807:=by have:=hn.1;omega
  have hi:=dm (k:Nat) (by omega) (by omega);rw[Lib.itoa_nonneg]at hi;refine fnS func74 rfl ntmps74 results74 ?_;simp(disch:=omega)[h0,hk];refine C8 k _ _ hmin ?_;generalize Lib.decDigits k=y at *;simp(disch:=omega);exact ad h
 ·obtain⟨k,rfl⟩:∃ k:Nat,n=k:=⟨n.toNat,by omega⟩;rw[Lib.itoa_nonneg]at h;exact C8 k M R (by have:=hn.2;omega) h
theorem jT(v:Value)(l:List B8)(M:Mem)(R:VP)(hv:Rd M v (strs l))(hok:nj l)(h:R (str (dr l)) M):ar prog 191 [v] M R:=by
 unfold dr at h;refine fnS func191 rfl ntmps191 results191 ?_;obtain⟨a,c,rfl,ha⟩:=hv.opened;rw[ah]at ha ⊢;have hfew:=hok.few;by_cases h0:l=[]
 ·rw[if_pos h0]at h;subst h0;simp(disch:=omega);exact ad h
 ·rw[if_neg h0]at h;have h1:1<=l.length:=List.length_pos_iff.2 h0;have h1I:¬(l.length:Int)=0:=by omega
  rcases ha with hz|⟨b,o,rfl,ha⟩
  ·omega
  have hall:∀ i,∀ x∈(l.map qt).take i,x.length<=102:=fun i x hx=>by
   obtain⟨y,hy,rfl⟩:=List.mem_map.1 (mem_of_mem_take hx)
   (rw[dD];have:=hok.short y hy;omega)
  have hjl:∀ i,i<=l.length->(Lib.join ((l.map qt).take i) [32]).length<=1000000:=fun i hi=>by
   have h2:(Lib.join ((l.map qt).take i) [32]).length<=((l.map qt).take i).length*(102+1):=nd [32] 102 _ (hall i);have h3:((l.map qt).take i).length<=4000:=by rw[lTa,length_map];omega
   have h4:=Nat.mul_le_mul_right (102+1) h3;omega
  simp(disch:=omega);refine aP aR (rlA [3,4] 8 17) (fun i:Nat=>[(4,.int .i64 (i:Nat)),(3,str (Lib.join ((l.map qt).take i) [32]))]) (fun i N=>M=N/\i<=l.length) (fun i=>l.length-i) 0 (by kernel_rfl) (by simp(disch:=omega)[Lib.join_nil]) ⟨rfl,lZe _⟩ ?_
  rintro i N q ⟨rfl,hi⟩
  by_cases hlt:i<l.length
  ·have hltI:(i:Int)<(l.length:Nat):=by omega
   have hg:=ha i hlt;have hsn:=yX l hlt;have hm:l[i]∈l:=getElem_mem hlt;rw[ba,gEl hlt,Option.map_some]at hg;have hj:=hjl i (by omega);have hj2:=hjl (i+1) (by omega);have hgx:(qt l[i]).length<=102:=by
    have hy:=hm;generalize l[i]=y at hy
    (rw[dD];have:=hok.short y hy;omega)
   have hne:0<i->(l.map qt).take i≠[]:=fun hi0 e=>by
    have:=congrArg length e;rw[lTa,length_map,length_nil]at this;omega
   generalize l[i]=x at *;by_cases hi0:0<i
   ·have hi0I:(0:Int)<(i:Nat):=by omega
    have hjn:=CZ ((l.map qt).take i) (qt x) [32] (hne hi0);rw[<-hsn]at hjn;obtain⟨J,hJ⟩:∃ J,J=Lib.join ((l.map qt).take i) [32]:=⟨_,rfl⟩;rw[<-hJ]at hjn hj ⊢;simp(disch:=omega)[hltI,hg];refine bN x _ _ (by have:=hok.short _ hm;omega) ?_;generalize hG:qt x=G at *;simp(disch:=omega);exact rndA (i+1) (by simp(disch:=omega)[hjn]) ⟨rfl,by omega⟩
   ·have hi0I:¬(0:Int)<(i:Nat):=by omega
    have hie:i=0:=by omega
    subst hie;have hjn:Lib.join ((l.map qt).take (0+1)) [32]=qt x:=by
     rw[hsn,take_zero];exact join_none _ _
    simp(disch:=omega);rw[Nat.add_zero]at hg;simp(disch:=omega)[hg];refine bN x _ _ (by have:=hok.short _ hm;omega) ?_;generalize hG:qt x=G at *;simp(disch:=omega)[Lib.join_nil];exact rndA 1 (by simp(disch:=omega)[hjn]) ⟨rfl,by omega⟩
  ·have hltI:¬(i:Int)<(l.length:Nat):=by omega
   have hie:i=l.length:=by omega
   rw[hie,take_of_length_le (by rw[length_map];exact lRf _)];simp(disch:=omega);exact ad h
theorem fp(v:Value)(l:List (Int))(M:Mem)(R:VP)(hv:Rd M v (ints l))(hok:ly l)(h:R (str (dM l)) M):ar prog 127 [v] M R:=by
 unfold dM at h;refine fnS func127 rfl ntmps127 results127 ?_;obtain⟨a,c,rfl,ha⟩:=hv.opened;rw[az]at ha ⊢;have hfew:=hok.few;by_cases h0:l=[]
 ·rw[if_pos h0]at h;subst h0;simp(disch:=omega);exact ad h
 ·rw[if_neg h0]at h;have h1:1<=l.length:=List.length_pos_iff.2 h0;have h1I:¬(l.length:Int)=0:=by omega
  rcases ha with hz|⟨b,o,rfl,ha⟩
  ·omega
  have hall:∀ i,∀ x∈(l.map Lib.itoa).take i,x.length<=21:=fun i x hx=>by
   obtain⟨y,hy,rfl⟩:=List.mem_map.1 (mem_of_mem_take hx);exact dm y (hok.low y hy).1 (hok.low y hy).2
  have hjl:∀ i,i<=l.length->(Lib.join ((l.map Lib.itoa).take i) [32]).length<=1000000:=fun i hi=>by
   have h2:(Lib.join ((l.map Lib.itoa).take i) [32]).length<=((l.map Lib.itoa).take i).length*(21+1):=nd [32] 21 _ (hall i);have h3:((l.map Lib.itoa).take i).length<=4000:=by rw[lTa,length_map];omega
   have h4:=Nat.mul_le_mul_right (21+1) h3;omega
  simp(disch:=omega);refine aP aR (rlA [3,4] 8 17) (fun i:Nat=>[(4,.int .i64 (i:Nat)),(3,str (Lib.join ((l.map Lib.itoa).take i) [32]))]) (fun i N=>M=N/\i<=l.length) (fun i=>l.length-i) 0 (by kernel_rfl) (by simp(disch:=omega)[Lib.join_nil]) ⟨rfl,lZe _⟩ ?_
  rintro i N q ⟨rfl,hi⟩
  by_cases hlt:i<l.length
  ·have hltI:(i:Int)<(l.length:Nat):=by omega
   have hg:=ha i hlt;have hsn:=yg l hlt;have hm:l[i]∈l:=getElem_mem hlt;rw[cD,gEl hlt,Option.map_some]at hg;have hj:=hjl i (by omega);have hj2:=hjl (i+1) (by omega);have hgx:(Lib.itoa l[i]).length<=21:=by
    have hy:=hm;generalize l[i]=y at hy;exact dm y (hok.low y hy).1 (hok.low y hy).2
   have hne:0<i->(l.map Lib.itoa).take i≠[]:=fun hi0 e=>by
    have:=congrArg length e;rw[lTa,length_map,length_nil]at this;omega
   generalize l[i]=x at *;by_cases hi0:0<i
   ·have hi0I:(0:Int)<(i:Nat):=by omega
    have hjn:=CZ ((l.map Lib.itoa).take i) (Lib.itoa x) [32] (hne hi0);rw[<-hsn]at hjn;obtain⟨J,hJ⟩:∃ J,J=Lib.join ((l.map Lib.itoa).take i) [32]:=⟨_,rfl⟩;rw[<-hJ]at hjn hj ⊢;simp(disch:=omega)[hltI,hg];refine fN x _ _ (hok.low _ hm) ?_;generalize hG:Lib.itoa x=G at *;simp(disch:=omega);exact rndA (i+1) (by simp(disch:=omega)[hjn]) ⟨rfl,by omega⟩
   ·have hi0I:¬(0:Int)<(i:Nat):=by omega
    have hie:i=0:=by omega
    subst hie;have hjn:Lib.join ((l.map Lib.itoa).take (0+1)) [32]=Lib.itoa x:=by
     rw[hsn,take_zero];exact join_none _ _
    simp(disch:=omega);rw[Nat.add_zero]at hg;simp(disch:=omega)[hg];refine fN x _ _ (hok.low _ hm) ?_;generalize hG:Lib.itoa x=G at *;simp(disch:=omega)[Lib.join_nil];exact rndA 1 (by simp(disch:=omega)[hjn]) ⟨rfl,by omega⟩
  ·have hltI:¬(i:Int)<(l.length:Nat):=by omega
   have hie:i=l.length:=by omega
   rw[hie,take_of_length_le (by rw[length_map];exact lRf _)];simp(disch:=omega);exact ad h
end Go.Proofs.YtapimhjbilkfpaaGreatDoor
namespace Go.Proofs.YtapimhjbilkfpaaGreatDoor
open Go Go.Proofs.Tryz List
theorem aT{M:Mem}{v:Value}{xs:List Value}(h:Rd M v xs):bH v=true:=by
 obtain⟨a,c,rfl,_⟩:=h.opened;rfl
theorem bq{P:Program}{f:FuncId}{args:List Value}{M:Mem}{R:VP}(h:ar P f args M (fun v M'=>Sub M M'/\R v M)):ar P f args M R:=
 ⟨h.1,fun w hw=>(h.2 w hw).mono fun e w' ⟨v,M',h1,h2,h3,hs,h4⟩=>⟨v,M,h1,h2.sub hs,h3.sub hs,h4⟩⟩
theorem eh(d:Dk)(v:Value)(hf:bH v=true)(t:B8)(c:Int)(M:Mem)(R:VP)(h:R (bh d v t c) M):ar prog 162 [dkV d v,str t,.int .i64 c] M R:=by
 unfold dkV;refine fnS func162 rfl ntmps162 results162 ?_;simp(disch:=omega);intro b1 hb1;have h1:Sub M (M.put b1 (.cells true [str d.w,str d.p,v] 3)):=(Sub.refl M).put hb1 _;simp(disch:=omega);intro b2 hb2;have h2:=hb2;rw[aA]at h2;unfold bh at h;simp(disch:=omega)[hf];exact ae (h1.putN hb2 _) h
theorem cy(d:Dk)(v:Value)(hf:bH v=true)(M:Mem)(R:VP)(h:R (bh d v [] 6) M):ar prog 100 [dkV d v] M R:=by
 unfold dkV;refine fnS func100 rfl ntmps100 results100 ?_;simp(disch:=omega);intro b1 hb1;have h1:Sub M (M.put b1 (.cells true [str d.w,str d.p,v] 3)):=(Sub.refl M).put hb1 _;simp(disch:=omega);intro b2 hb2;have h2:=hb2;rw[aA]at h2;unfold bh at h;simp(disch:=omega)[hf];exact ae (h1.putN hb2 _) h
theorem eO(d:Dk)(v:Value)(hf:bH v=true)(t:B8)(c:Int)(M:Mem)(R:VP)(hl:t.length<=1099511627776)(h:R (bh d v (qt t) c) M):ar prog 149 [dkV d v,str t,.int .i64 c] M R:=by
 unfold dkV;refine fnS func149 rfl ntmps149 results149 ?_;simp(disch:=omega);intro b1 hb1;have h1:Sub M (M.put b1 (.cells true [str d.w,str d.p,v] 3)):=(Sub.refl M).put hb1 _;simp(disch:=omega);intro b2 hb2;have h2:=hb2;rw[aA]at h2;simp(disch:=omega);refine plyS (ak [0,1,3] (.one 2 1 (.one 4 1 (.one 5 2 .fin)))) ?_;simp(disch:=omega);refine mN _ _ _ hl ?_;simp(disch:=omega);refine eh d v hf _ _ _ _ ?_;unfold bh at h ⊢;simp(disch:=omega)[hf];exact ae (h1.putN hb2 _) h
theorem qI(d:Dk)(v:Value)(hf:bH v=true)(x:Value)(l:List B8)(c:Int)(M:Mem)(R:VP)(hvar:bW M)(hx:Rd M x (strs l))(hok:nj l)(h:R (bh d v (dr l) c) M):ar prog 240 [dkV d v,x,.int .i64 c] M R:=by
 unfold dkV;refine fnS func240 rfl ntmps240 results240 ?_;simp(disch:=omega);intro b1 hb1;have h1:Sub M (M.put b1 (.cells true [str d.w,str d.p,v] 3)):=(Sub.refl M).put hb1 _;simp(disch:=omega);intro b2 hb2;have h2:=hb2;rw[aA]at h2;simp(disch:=omega);refine plyS (ak [0,1,3] (.one 2 1 (.one 4 1 (.one 5 2 .fin)))) ?_;simp(disch:=omega);refine sI x l _ _ (hvar.sub (h1.putN hb2 _)) (hx.sub (h1.putN hb2 _)) hok ?_;simp(disch:=omega);refine eh d v hf _ _ _ _ ?_;unfold bh at h ⊢;simp(disch:=omega)[hf];exact ae (h1.putN hb2 _) h
theorem eS(d:Dk)(v:Value)(hf:bH v=true)(x:Value)(l:List Int)(c:Int)(M:Mem)(R:VP)(hvar:bW M)(hx:Rd M x (ints l))(hok:ly l)(h:R (bh d v (dM l) c) M):ar prog 168 [dkV d v,x,.int .i64 c] M R:=by
 unfold dkV;refine fnS func168 rfl ntmps168 results168 ?_;simp(disch:=omega);intro b1 hb1;have h1:Sub M (M.put b1 (.cells true [str d.w,str d.p,v] 3)):=(Sub.refl M).put hb1 _;simp(disch:=omega);intro b2 hb2;have h2:=hb2;rw[aA]at h2;simp(disch:=omega);refine plyS (ak [0,1,3] (.one 2 1 (.one 4 1 (.one 5 2 .fin)))) ?_;simp(disch:=omega);refine DR x l _ _ (hvar.sub (h1.putN hb2 _)) (hx.sub (h1.putN hb2 _)) hok ?_;simp(disch:=omega);refine eh d v hf _ _ _ _ ?_;unfold bh at h ⊢;simp(disch:=omega)[hf];exact ae (h1.putN hb2 _) h
theorem Hr(d:Dk)(v:Value)(hf:bH v=true)(n:Int)(c:Int)(M:Mem)(R:VP)(hvar:bW M)(hn:IOk n)(h:R (bh d v (Lib.itoa n) c) M):ar prog 172 [dkV d v,.int .i64 n,.int .i64 c] M R:=by
 unfold dkV;refine fnS func172 rfl ntmps172 results172 ?_;simp(disch:=omega);intro b1 hb1;have h1:Sub M (M.put b1 (.cells true [str d.w,str d.p,v] 3)):=(Sub.refl M).put hb1 _;simp(disch:=omega);intro b2 hb2;have h2:=hb2;rw[aA]at h2;simp(disch:=omega);refine plyS (ak [0,1,3] (.one 2 1 (.one 4 1 (.one 5 2 .fin)))) ?_;simp(disch:=omega);refine dR n _ _ (hvar.sub (h1.putN hb2 _)) hn.1 hn.2 ?_;simp(disch:=omega);refine eh d v hf _ _ _ _ ?_;unfold bh at h ⊢;simp(disch:=omega)[hf];exact ae (h1.putN hb2 _) h
theorem lR(d:Dk)(v:Value)(hf:bH v=true)(t:B8)(n c:Int)(M:Mem)(R:VP)(hvar:bW M)(hl:t.length<=1000000)(hn:IOk n)(h:R (bh d v (qt t++32::Lib.itoa n) c) M):ar prog 236 [dkV d v,str t,.int .i64 n,.int .i64 c] M R:=by
 unfold dkV;refine fnS func236 rfl ntmps236 results236 ?_;simp(disch:=omega);intro b1 hb1;have h1:Sub M (M.put b1 (.cells true [str d.w,str d.p,v] 3)):=(Sub.refl M).put hb1 _;simp(disch:=omega);intro b2 hb2;have h2:=hb2;rw[aA]at h2;have hq:=dD t;have hi:=dm n hn.1 hn.2;simp(disch:=omega);refine plyS (ak [0,1,4,7] (.one 2 1 (ak [3] (.one 5 1 (ak [6] (.one 8 1 (.one 9 2 .fin))))))) ?_;simp(disch:=omega);refine mN _ _ _ (by omega) ?_;generalize qt t=q at *;simp(disch:=omega);refine dR n _ _ (hvar.sub (h1.putN hb2 _)) hn.1 hn.2 ?_;generalize Lib.itoa n=z at *;simp(disch:=omega);refine eh d v hf _ _ _ _ ?_;unfold bh at h ⊢;simp(disch:=omega)[hf];exact ae (h1.putN hb2 _) h
theorem fO(d:Dk)(v:Value)(hf:bH v=true)(q:Bool)(c:Int)(M:Mem)(R:VP)(h:R (bh d v (iD q) c) M):ar prog 344 [dkV d v,.bool q,.int .i64 c] M R:=by
 unfold dkV;refine fnS func344 rfl ntmps344 results344 ?_;simp(disch:=omega);intro b1 hb1;have h1:Sub M (M.put b1 (.cells true [str d.w,str d.p,v] 3)):=(Sub.refl M).put hb1 _;simp(disch:=omega);intro b2 hb2;have h2:=hb2;rw[aA]at h2;cases q
 ·simp(disch:=omega);refine eh d v hf _ _ _ _ ?_;unfold bh iD at h;unfold bh;simp(disch:=omega)[hf];exact ae (h1.putN hb2 _) h
 ·simp(disch:=omega);refine eh d v hf _ _ _ _ ?_;unfold bh iD at h;unfold bh;simp(disch:=omega)[hf];exact ae (h1.putN hb2 _) h
theorem bP(d:Dk)(v:Value)(hf:bH v=true)(t:B8)(c:Int)(M:Mem)(R:VP)(hl:t.length<=1099511627776)(h:R (bh ⟨t,d.p,d.ms⟩ v (qt t) c) M):ar prog 103 [dkV d v,str t,.int .i64 c] M R:=by
 unfold dkV;refine fnS func103 rfl ntmps103 results103 ?_;simp(disch:=omega);intro b1 hb1;have h1:Sub M (M.put b1 (.cells true [str d.w,str d.p,v] 3)):=(Sub.refl M).put hb1 _;simp(disch:=omega);intro b2 hb2;have h2:=hb2;rw[aA]at h2;simp(disch:=omega)[aj];refine eO ⟨t,d.p,d.ms⟩ v hf t c _ _ hl ?_;unfold bh at h ⊢;simp(disch:=omega)[hf,aj];exact ae (((h1.putN hb2 _).ovr hb1 _).ovr h2.2 _) h
theorem pY(d:Dk)(v:Value)(hf:bH v=true)(M:Mem)(R:VP)(hv:Rd M v (strs d.ms))(hm:aY d.ms=true)(h:R (bh d v (qt (nC d.ms)) (lu d.ms)) M):ar prog 151 [dkV d v] M R:=by
 unfold dkV;refine fnS func151 rfl ntmps151 results151 ?_;simp(disch:=omega);intro b1 hb1;have h1:Sub M (M.put b1 (.cells true [str d.w,str d.p,v] 3)):=(Sub.refl M).put hb1 _;simp(disch:=omega);intro b2 hb2;have h2:=hb2;rw[aA]at h2;have hv2:=hv.sub (h1.putN hb2 (.cells true [str [],str [],.slice none 0 0,str [],.int .i64 0] 5));have hfi:cP d.ms:=fun w hw=>by have:=(bL hm hw).1;omega
 have h5:=(aV hm).2;have ht:=DP d.ms;simp(disch:=omega);refine plyS (ak [0,1,2] (.one 3 1 (ak [4,5] (.one 6 1 (.one 7 2 .fin))))) ?_;simp(disch:=omega);refine sa v d.ms _ _ hv2 hfi (by omega) ?_;unfold aE;simp(disch:=omega);refine eO d v hf _ _ _ _ (by omega) ?_;unfold bh at h ⊢;simp(disch:=omega)[hf];exact ae (h1.putN hb2 _) h
theorem Bt(d:Dk)(v:Value)(hf:bH v=true)(M:Mem)(R:VP)(hvar:bW M)(hd:d.w.length<=1000)(h:R (bh d v (Lib.itoa (wN d.w)++32::Lib.itoa (wU d.w)) (ck d.w)) M):ar prog 160 [dkV d v] M R:=by
 unfold dkV;refine fnS func160 rfl ntmps160 results160 ?_;simp(disch:=omega);intro b1 hb1;have h1:Sub M (M.put b1 (.cells true [str d.w,str d.p,v] 3)):=(Sub.refl M).put hb1 _;simp(disch:=omega);intro b2 hb2;have h2:=hb2;rw[aA]at h2;simp(disch:=omega);refine bq (xf d.w _ _ (by omega) fun M' s'=>⟨s',?_⟩);obtain⟨⟨e1,e2⟩,e3,e4⟩:=za d.w;have hi:=dm _ e1 e2;have hj:=dm _ e3 e4;simp(disch:=omega);refine plyS (ak [0,1,4,7] (.one 2 1 (ak [3] (.one 5 1 (ak [6] (.one 8 1 (.one 9 2 .fin))))))) ?_;simp(disch:=omega);refine dR _ _ _ (hvar.sub (h1.putN hb2 _)) e1 e2 ?_;generalize Lib.itoa (wN d.w)=y at *;simp(disch:=omega);refine dR _ _ _ (hvar.sub (h1.putN hb2 _)) e3 e4 ?_;generalize Lib.itoa (wU d.w)=z at *;simp(disch:=omega);refine eh d v hf _ _ _ _ ?_;unfold bh at h ⊢;simp(disch:=omega)[hf];exact ae (h1.putN hb2 _) h
theorem Kb(d:Dk)(v:Value)(hf:bH v=true)(M:Mem)(R:VP)(hvar:bW M)(hw:d.w.length<=1000)(hp:d.p.length<=1000)(h:R (bh d v (Lib.itoa (plI d.w d.p)++32::dr (plL d.w d.p)) (plC d.w d.p)) M):ar prog 161 [dkV d v] M R:=by
 unfold dkV;refine fnS func161 rfl ntmps161 results161 ?_;simp(disch:=omega);intro b1 hb1;have h1:Sub M (M.put b1 (.cells true [str d.w,str d.p,v] 3)):=(Sub.refl M).put hb1 _;simp(disch:=omega);intro b2 hb2;have h2:=hb2;rw[aA]at h2;simp(disch:=omega);refine wO d.w d.p _ _ (by omega) (by omega) ?_;intro x M' o;obtain⟨e1,e2⟩:=Ho d.w d.p;have hi:=dm _ e1 e2;have hj:=(F4 d.w d.p).text;have hvM:=(hvar.sub (h1.putN hb2 _)).sub o.sub;have k1:=o.sub _ _ (show ((M.put b1 (.cells true [str d.w,str d.p,v] 3)).put b2 (.cells true [str [],str [],.slice none 0 0,str [],.int .i64 0] 5)) b1=some (.cells true [str d.w,str d.p,v] 3) by simp(disch:=omega));have k2:=o.sub _ _ (ag (M.put b1 (.cells true [str d.w,str d.p,v] 3)) b2 (.cells true [str [],str [],.slice none 0 0,str [],.int .i64 0] 5));have sM:=(h1.putN hb2 (.cells true [str [],str [],.slice none 0 0,str [],.int .i64 0] 5)).trans o.sub;simp(disch:=omega);refine plyS (ak [0,1,4,7] (.one 2 1 (ak [3] (.one 5 1 (ak [6] (.one 8 1 (.one 9 2 .fin))))))) ?_;simp(disch:=omega)[aq k1];refine dR _ _ _ hvM e1 e2 ?_;generalize Lib.itoa (plI d.w d.p)=y at *;simp(disch:=omega);refine sI x (plL d.w d.p) _ _ hvM o.rd (F4 d.w d.p) ?_;generalize dr (plL d.w d.p)=z at *;simp(disch:=omega);refine eh d v hf _ _ _ _ ?_;unfold bh at h ⊢;simp(disch:=omega)[k2,aj,hf];exact ae (sM.ovr h2.2 _) h
end Go.Proofs.YtapimhjbilkfpaaGreatDoor
