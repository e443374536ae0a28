/- Lemmas for FnExactConsole, part 19 of 46. -/
import Derived.Test.YtapimhjbilkfpaaGreatDoorZ08
import Derived.Test.YtapimhjbilkfpaaGreatDoorZ17
import Derived.Test.YtapimhjbilkfpaaGreatDoorZ05
import Derived.Test.YtapimhjbilkfpaaGreatDoorZ09
import Derived.Test.YtapimhjbilkfpaaGreatDoorZ04
import Derived.Test.YtapimhjbilkfpaaGreatDoorZ06
set_option linter.unusedVariables false
set_option linter.unusedSimpArgs false
namespace Go.Proofs.YtapimhjbilkfpaaGreatDoor
open Go Go.Proofs.Tryz List
def dead(ws:List (List UInt8)):Nat->UInt8->Bool
 | 0,_=>false
 | r+1,c=>(ws.getD (c.toNat-97) []).all (dead ws r)
theorem yd(ws:List (List UInt8))(r:Nat):∀ l:List UInt8,(aP ws l).all (dead ws r)=l.all (dead ws (r+1))
 | []=>rfl
 | u::l=>by rw[eB,all_append,yd ws r l,all_cons];rfl
def itr(ws:List (List UInt8)):Nat->List UInt8->List UInt8
 | 0,w=>w
 | j+1,w=>aP ws (itr ws j w)
theorem JR(ws:List (List UInt8))(w:List UInt8):∀ j r,(itr ws j w).all (dead ws r)=w.all (dead ws (r+j))
 | 0,r=>rfl
 | j+1,r=>by
  show (aP ws (itr ws j w)).all (dead ws r)=_;rw[yd,JR ws w j (r+1),Nat.add_right_comm];rfl
theorem BP(ws:List (List UInt8))(l:List UInt8):l.all (dead ws 0)=l.isEmpty:=by
 cases l with
 | nil=>rfl
 | cons a l=>rfl
theorem QY(ws:List (List UInt8))(j:Nat)(w:List UInt8):(itr ws j w).isEmpty=w.all (dead ws j):=by
 rw[<-BP ws,JR,Nat.zero_add]
theorem wN(ws:List (List UInt8)):∀ r c,dead ws r c=true->dead ws (r+1) c=true
 | 0,c,h=>by cases h
 | r+1,c,h=>by
  have h:(ws.getD (c.toNat-97) []).all (dead ws r)=true:=h;show (ws.getD (c.toNat-97) []).all (dead ws (r+1))=true;rw[all_eq_true]at h ⊢;exact fun x hx=>wN ws r x (h x hx)
theorem C2(ws:List (List UInt8)){r s:Nat}(h:r<=s){c:UInt8}(hd:dead ws r c=true):dead ws s c=true:=by
 obtain⟨d,rfl⟩:∃ d,s=r+d:=⟨s-r,by omega⟩;clear h
 induction d with
 | zero=>exact hd
 | succ d ih=>exact wN ws _ c ih
theorem A4{α:Type}{p q:α->Bool}:∀ {l:List α},(∀ x∈l,p x=true->q x=true)->∀ y,y∈l->q y=true->p y=false->l.countP p<l.countP q
 | [],_,y,hy,_,_=>by cases hy
 | a::l,h,y,hy,hq,hp=>by
  rw[countP_cons,countP_cons];have hm:l.countP p<=l.countP q:=countP_mono_left fun x hx=>h x (mem_cons_of_mem _ hx);rcases List.mem_cons.1 hy with rfl|hy
  ·rw[hq,hp];simp;omega
  ·have:=A4 (fun x hx=>h x (mem_cons_of_mem _ hx)) y hy hq hp;have ha:=h a mem_cons_self;by_cases h1:p a=true
   ·rw[if_pos h1,if_pos (ha h1)];omega
   ·rw[if_neg h1];omega
def RQ(ws:List (List UInt8))(r:Nat):Nat:=(range ws.length).countP fun i=>dead ws r (ltr i)
theorem AR(ws:List (List UInt8)):∀ r,r<=RQ ws r\/∃ q,q<r/\∀ i,i<ws.length->dead ws (q+1) (ltr i)=true->dead ws q (ltr i)=true
 | 0=>.inl (Nat.zero_le _)
 | r+1=>by
  rcases AR ws r with h|⟨q,h1,h2⟩
  ·by_cases hs:∀ i,i<ws.length->dead ws (r+1) (ltr i)=true->dead ws r (ltr i)=true
   ·exact .inr ⟨r,by omega,hs⟩
   ·have hs2:∃ i,i<ws.length/\dead ws (r+1) (ltr i)=true/\¬ dead ws r (ltr i)=true:=by
     apply Classical.byContradiction;intro hno;exact hs fun i hi h1=>Classical.byContradiction fun h2=>hno ⟨i,hi,h1,h2⟩
    obtain⟨i,hi,h1,h2⟩:=hs2;have:=A4 (p:=fun i=>dead ws r (ltr i)) (q:=fun i=>dead ws (r+1) (ltr i)) (l:=range ws.length) (fun x _ h=>wN ws r _ h) i (List.mem_range.2 hi) h1 (by simpa using h2);left;unfold RQ at *;omega
  ·exact .inr ⟨q,by omega,h2⟩
theorem lj{ws:List (List UInt8)}{u:UInt8}(h:97<=u.toNat/\u.toNat-97<ws.length):ltr (u.toNat-97)=u:=by
 unfold ltr;rw[show 97+(u.toNat-97)=u.toNat by omega];simp
theorem MS{ws:List (List UInt8)}(hm:aW ws=true):∀ r i,i<ws.length->dead ws r (ltr i)=true->dead ws ws.length (ltr i)=true:=by
 have h5:=aX hm;rcases AR ws ws.length with h|⟨q,hq,hst⟩
 ·intro r i hi _;have hle:(range ws.length).countP (fun i=>dead ws ws.length (ltr i))<=(range ws.length).length:=countP_le_length;rw[length_range]at hle;have he:(range ws.length).countP (fun i=>dead ws ws.length (ltr i))=(range ws.length).length:=by
   rw[length_range];unfold RQ at h;omega
  exact(List.countP_eq_length.1 he) i (List.mem_range.2 hi)
 ·have hall:∀ d i,i<ws.length->dead ws (q+d) (ltr i)=true->dead ws q (ltr i)=true:=by
   intro d
   induction d with
   | zero=>intro i _ h;exact h
   | succ d ih=>
    intro i hi h;refine hst i hi ?_;have h:(ws.getD ((ltr i).toNat-97) []).all (dead ws (q+d))=true:=h;show (ws.getD ((ltr i).toNat-97) []).all (dead ws q)=true;rw[all_eq_true]at h ⊢;intro c hc;have hlt:Lt ws (ws.getD ((ltr i).toNat-97) []):=by
     have e:(ltr i).toNat-97<ws.length:=by rw[gf (by omega)];omega
     rw[getD_eq_getElem?_getD,getElem?_eq_getElem e];exact xx (aV (bL hm (getElem_mem e)).2.1) (bL hm (getElem_mem e)).2.2
    have hl:=hlt c hc;rw[<-lj hl];exact ih _ hl.2 (by rw[lj hl];exact h c hc)
  intro r i hi h;refine C2 ws (Nat.le_of_lt hq) ?_;by_cases hr:r<=q
  ·exact C2 ws hr h
  ·exact hall (r-q) i hi (by rw[show q+(r-q)=r by omega];exact h)
theorem qJ(ws:List (List UInt8)):∀ a b:List UInt8,aP ws (a++b)=aP ws a++aP ws b
 | [],b=>by rw[eE];rfl
 | x::a,b=>by rw[cons_append,eB,eB,qJ ws a b,append_assoc]
theorem zq(ws:List (List UInt8))(a b:List UInt8):∀ j,itr ws j (a++b)=itr ws j a++itr ws j b
 | 0=>rfl
 | j+1=>by
  show aP ws (itr ws j (a++b))=_;rw[zq ws a b j,qJ];rfl
theorem BZ(ws:List (List UInt8))(w:List UInt8):∀ j,itr ws j (aP ws w)=itr ws (j+1) w
 | 0=>rfl
 | j+1=>by
  show aP ws (itr ws j (aP ws w))=_;rw[BZ ws w j];rfl
def kz(ws:List (List UInt8))(x:List UInt8)(n:Nat):List UInt8:=((range n).filter fun i=>decide (ltr i∈aP ws x)).map ltr
theorem Ha(ws:List (List UInt8))(x:List UInt8)(n:Nat):kz ws x (n+1)=kz ws x n++if ltr n∈aP ws x then [ltr n] else []:=by
 unfold kz;rw[range_succ,filter_append,map_append]
 congr 1
 by_cases h:ltr n∈aP ws x<;>simp[h]
theorem Bm(ws:List (List UInt8))(x:List UInt8)(n:Nat):(kz ws x n).length<=n:=by
 unfold kz;rw[length_map];have:=length_filter_le (fun i=>decide (ltr i∈aP ws x)) (range n);rw[length_range]at this;exact this
def tc(ws:List (List UInt8)):Nat->List UInt8->List UInt8
 | 0,w=>w
 | r+1,w=>kz ws (tc ws r w) ws.length
theorem ME{ws:List (List UInt8)}(h5:ws.length<=5)(x:List UInt8){n:Nat}(hn:n<=ws.length):Lt ws (kz ws x n):=by
 intro u hu;obtain⟨i,hi,rfl⟩:=List.mem_map.1 hu;have:=List.mem_range.1 (List.mem_filter.1 hi).1;rw[gf (by omega)];omega
theorem LU{ws:List (List UInt8)}(x:List UInt8)(hx:Lt ws (aP ws x))(p:UInt8->Bool):(kz ws x ws.length).all p=(aP ws x).all p:=by
 rw[Bool.eq_iff_iff,all_eq_true,all_eq_true];constructor
 ·intro h c hc;have hl:=hx c hc;refine h c (List.mem_map.2 ⟨c.toNat-97,List.mem_filter.2 ⟨List.mem_range.2 hl.2,?_⟩,lj hl⟩);rw[lj hl];exact decide_eq_true hc
 ·intro h c hc;obtain⟨i,hi,rfl⟩:=List.mem_map.1 hc;exact h _ (of_decide_eq_true (List.mem_filter.1 hi).2)
theorem Ke{ws:List (List UInt8)}(hm:aW ws=true){w:List UInt8}(hw:Lt ws w):∀ r,Lt ws (tc ws r w)
 | 0=>hw
 | r+1=>ME (aX hm).2 _ (Nat.le_refl _)
theorem Ph{ws:List (List UInt8)}(hm:aW ws=true){w:List UInt8}(hw:w.length<=60):∀ r,(tc ws r w).length<=60
 | 0=>hw
 | r+1=>by
  have:=Bm ws (tc ws r w) ws.length;have:=(aX hm).2;show (kz ws (tc ws r w) ws.length).length<=60;omega
theorem Fc{ws:List (List UInt8)}(hm:aW ws=true){w:List UInt8}(hw:Lt ws w):∀ r s,(tc ws r w).all (dead ws s)=w.all (dead ws (s+r))
 | 0,s=>rfl
 | r+1,s=>by
  show (kz ws (tc ws r w) ws.length).all (dead ws s)=_;rw[LU _ (HN hm (Ke hm hw r)),yd,Fc hm hw r (s+1),Nat.add_right_comm];rfl
theorem NL{ws:List (List UInt8)}(hm:aW ws=true){w:List UInt8}(hw:Lt ws w)(r:Nat):(tc ws r w).isEmpty=w.all (dead ws r):=by
 rw[<-BP ws,Fc hm hw,Nat.zero_add]
def Snd(ws:List (List UInt8))(out:List Bool):Prop:=∀ i,i<ws.length->out[i]?=some true->dead ws (out.count true) (ltr i)=true
def mtB(ws:List (List UInt8))(out:List Bool)(i:Nat):Bool:=(ws.getD i []).all fun c=>out.getD (c.toNat-97) false
def Cls(ws:List (List UInt8))(out:List Bool)(i:Nat):Prop:=mtB ws out i=true->out[i]?=some true
theorem Gg{ws:List (List UInt8)}(hm:aW ws=true)(r:Nat){i:Nat}(hi:i<ws.length):dead ws (r+1) (ltr i)=(ws.getD i []).all (dead ws r):=by
 have h5:=aX hm;show (ws.getD ((ltr i).toNat-97) []).all (dead ws r)=_;rw[gf (by omega),show 97+i-97=i by omega]
theorem uG{ws:List (List UInt8)}(hm:aW ws=true){i:Nat}(hi:i<ws.length):Lt ws (ws.getD i []):=by
 rw[getD_eq_getElem?_getD,getElem?_eq_getElem hi];exact xx (aV (bL hm (getElem_mem hi)).2.1) (bL hm (getElem_mem hi)).2.2
theorem count_set{out:List Bool}{i:Nat}(h:out[i]?=some false):(out.set i true).count true=out.count true+1:=by
 induction out generalizing i with
 | nil=>cases h
 | cons a l ih=>
  cases i with
  | zero=>
   have:a=false:=by simpa using h
   subst this;simp
  | succ i=>
   rw[set_cons_succ,count_cons,count_cons,ih (by simpa using h)];omega
theorem Qc{ws:List (List UInt8)}(hm:aW ws=true){out:List Bool}(h:Snd ws out){i:Nat}(hi:i<ws.length)(hf:out[i]?=some false)(hmt:mtB ws out i=true):Snd ws (out.set i true):=by
 intro j hj hoj;rw[count_set hf];by_cases e:i=j
 ·subst e;rw[Gg hm _ hi,all_eq_true];unfold mtB at hmt;rw[all_eq_true]at hmt;intro c hc;have hl:=uG hm hi c hc;have:=hmt c hc;rw[<-lj hl];refine h _ hl.2 ?_;rw[getD_eq_getElem?_getD]at this;cases ho:out[c.toNat-97]? with
  | none=>rw[ho]at this;cases this
  | some b=>rw[ho]at this;exact congrArg some this
 ·rw[getElem?_set_ne e]at hoj;exact wN ws _ _ (h j hj hoj)
theorem ON{ws:List (List UInt8)}(hm:aW ws=true){out:List Bool}(hl:out.length=ws.length)(h:Snd ws out)(hc:∀ i,i<ws.length->Cls ws out i):∀ i,i<ws.length->out[i]?=some (dead ws ws.length (ltr i)):=by
 have hle:out.count true<=ws.length:=by rw[<-hl];exact count_le_length
 have hall:∀ r i,i<ws.length->dead ws r (ltr i)=true->out[i]?=some true:=by
  intro r
  induction r with
  | zero=>intro i _ h;cases h
  | succ r ih=>
   intro i hi hd;rw[Gg hm _ hi,all_eq_true]at hd;refine hc i hi ?_;unfold mtB;rw[all_eq_true];intro c hcm;have hlt:=uG hm hi c hcm;have:=ih _ hlt.2 (by rw[lj hlt];exact hd c hcm);rw[getD_eq_getElem?_getD,this];rfl
 intro i hi;have hi':i<out.length:=by omega
 rw[getElem?_eq_getElem hi']
 congr 1
 cases hd:dead ws ws.length (ltr i) with
 | true=>
  have:=hall _ i hi hd;rw[getElem?_eq_getElem hi']at this;exact Option.some.inj this
 | false=>
  cases ho:out[i] with
  | false=>rfl
  | true=>
   have:=C2 ws hle (h i hi (by rw[getElem?_eq_getElem hi',ho]));rw[hd]at this;cases this
theorem Ex{ws:List (List UInt8)}(hm:aW ws=true){a:Nat}{u:List UInt8}(ha:a<ws.length)(hu:ws.getD a []=ltr a::u)(hd:u.all (dead ws ws.length)=false)(j:Nat):(itr ws j [ltr a]).length<(itr ws (j+1) [ltr a]).length:=by
 have h5:=aX hm;have e1:aP ws [ltr a]=[ltr a]++u:=by
  rw[eB,eE,append_nil,gf (by omega),show 97+a-97=a by omega,hu];rfl
 rw[<-BZ,e1,zq,length_append];have hne:(itr ws j u).isEmpty=false:=by
  rw[QY];cases hq:u.all (dead ws j) with
  | false=>rfl
  | true=>
   have hul:Lt ws u:=fun c hc=>uG hm ha c (by rw[hu];exact mem_cons_of_mem _ hc);have:u.all (dead ws ws.length)=true:=by
    rw[all_eq_true]at hq ⊢;intro c hc;have hl:=hul c hc;rw[<-lj hl];exact MS hm j _ hl.2 (by rw[lj hl];exact hq c hc)
   rw[hd]at this;cases this
 cases hq:itr ws j u with
 | nil=>rw[hq]at hne;cases hne
 | cons x l=>simp
theorem IU{ws:List (List UInt8)}(hm:aW ws=true){w:List UInt8}(hw:Lt ws w):∀ j,Lt ws (itr ws j w)
 | 0=>hw
 | j+1=>HN hm (IU hm hw j)
end Go.Proofs.YtapimhjbilkfpaaGreatDoor
namespace Go.Proofs.YtapimhjbilkfpaaGreatDoor
open Go Go.Proofs.Tryz Go.RowKit List
theorem Lv(s:List UInt8)(c:UInt8):decide (0<=Lib.indexByte s c)=decide (c∈s):=by
 have hge:=Lib.indexByte_ge s c;by_cases h:Lib.indexByte s c = -1
 ·have hn:¬ c∈s:=fun hm=>by
   obtain⟨k,hk,he⟩:=List.mem_iff_getElem.1 hm;exact Lib.indexByte_none h k (by rw[getElem?_eq_getElem hk,he])
  rw[h,decide_eq_false hn];rfl
 ·obtain⟨o,ho⟩:∃ o:Nat,Lib.indexByte s c=o:=⟨(Lib.indexByte s c).toNat,by omega⟩;have hm:=mem_of_getElem? (Lib.indexByte_some ho).1;rw[decide_eq_true hm,ho];exact decide_eq_true (by omega)
theorem zE(s:List UInt8)(c:UInt8)(M:Mem)(R:VP)(h:R (.bool (decide (c∈s))) M):ar prog 353 [str s,str [c]] M R:=by
 refine dk (.bool (decide (c∈s))) ⟨_,func353,by kernel_rfl,by kernel_rfl⟩ (fun w hw=>?_) h;refine(Tryz.strings_Contains_one ⟨⟨s⟩⟩ c w).mono fun e w' ⟨h1,h2⟩=>⟨?_,by rw[h2];exact Below.refl _ _⟩;rw[h1,<-Lv]
theorem x8(s p:List UInt8)(M:Mem)(R:VP)(h:R (.tuple #[str (Lib.trimPrefix s p),.bool (Lib.hasPrefix s p)]) M):ar prog 255 [str s,str p] M R:=by
 refine dk (.tuple #[str (Lib.trimPrefix s p),.bool (Lib.hasPrefix s p)]) ⟨_,func255,by kernel_rfl,by kernel_rfl⟩ (fun w hw=>?_) h;refine(Tryz.strings_CutPrefix ⟨⟨s⟩⟩ ⟨⟨p⟩⟩ w).mono fun e w' ⟨h1,h2⟩=>⟨?_,by rw[h2];exact Below.refl _ _⟩;rw[h1];rfl
theorem Ax(v:Value)(ws:List (List UInt8))(w:List UInt8)(M:Mem)(R:VP)(hv:Rd M v (strs ws))(hm:aW ws=true)(hl:w.length<=60)(hlt:Lt ws w)(h:R (.bool (w.all (dead ws ws.length))) M):ar prog 256 [.agg #[v],str w] M R:=by
 have h15:=aX hm;refine fnS func256 rfl ntmps256 results256 ?_;obtain⟨a,c,rfl,ha⟩:=hv.opened;rw[ah]at hv ⊢;simp(disch:=omega);intro b1 hb1;have hs1:Sub M (M.put b1 (.cells true [.slice a ws.length c] 1)):=(Sub.refl M).put hb1 _;have hv1:=hv.put hb1 (.cells true [.slice a ws.length c] 1);have k1:(M.put b1 (.cells true [.slice a ws.length c] 1)) b1=some (.cells true [.slice a ws.length c] 1):=ag _ _ _;simp(disch:=omega);generalize M.put b1 (.cells true [.slice a ws.length c] 1)=N at *;refine dU _ ws _ _ hv1 (by omega) ?_;simp(disch:=omega);refine aQ aR [5,6,7,11,12,13,14,15,16,17,18,19,20,21,22,23,24,25,26,27,28,29,30] (fun r:Nat=>[(11,.int .i64 r),(5,str (tc ws r w))]) (fun r M'=>r<=ws.length/\M'=N) (fun r=>ws.length-r) 0 (by kernel_rfl) (by simp(disch:=omega);rfl) ⟨Nat.zero_le _,rfl⟩ ?_
 rintro r M' g ⟨hr,rfl⟩
 by_cases hlt1:r<ws.length
 ·have hkl:=Ph hm hl r;have hkt:=Ke hm hlt r;have hks:tc ws (r+1) w=kz ws (tc ws r w) ws.length:=rfl;generalize tc ws r w=x at *;simp(disch:=omega)[aq k1];refine dU _ ws _ _ hv1 (by omega) ?_;simp(disch:=omega);refine aQ aR [6,7,15,16,17,18,19,20,21,22,23,24,25,26,27,28] (fun i:Nat=>[(15,.int .i64 i),(6,str (kz ws x i))]) (fun i M1=>i<=ws.length/\M1=M') (fun i=>ws.length-i) 0 (by kernel_rfl) (by simp(disch:=omega);rfl) ⟨Nat.zero_le _,rfl⟩ ?_
  rintro i M1 g1 ⟨hi,rfl⟩
  by_cases hlt2:i<ws.length
  ·have hps:=Ha ws x i;have hpl:=Bm ws x i;generalize kz ws x i=y at *;simp(disch:=omega)[aq k1];refine kZ _ ws x _ _ hv1 hm hkl hkt ?_;simp(disch:=omega);refine cN i _ _ (by omega) ?_;simp(disch:=omega);refine zE _ _ _ _ ?_;by_cases hc:ltr i∈aP ws x
   ·rw[if_pos hc]at hps;rw[decide_eq_true hc];simp(disch:=omega);refine cN i _ _ (by omega) ?_;simp(disch:=omega);exact rndA (i+1) (by simp(disch:=omega)[hps]) ⟨by omega,rfl⟩
   ·rw[if_neg hc,append_nil]at hps;rw[decide_eq_false hc];simp(disch:=omega);exact rndA (i+1) (by simp(disch:=omega)[hps]) ⟨by omega,rfl⟩
  ·have hi':i=ws.length:=by omega
   subst hi';rw[<-hks];simp(disch:=omega);exact rndS (r+1) ⟨by omega,rfl⟩
 ·have hr':r=ws.length:=by omega
  subst hr';have he:=NL hm hlt ws.length;rw[<-he]at h;generalize tc ws ws.length w=x at *;cases x with
  | nil=>simp(disch:=omega);exact ae hs1 h
  | cons y l=>simp(disch:=omega);exact ae hs1 h
theorem Di(a b c:Nat)(M:Mem)(R:VP)(ha:a<=4)(hM:M b=some (.cells true [.int .i64 a] c))(h:R (str [ltr a]) M):ar prog 254 [.slice (some ⟨b,0,none⟩) 1 c] M R:=by
 refine fnS func254 rfl ntmps254 results254 ?_;simp(disch:=omega);refine lupS [3,5,8,9,10,11,12,13,14,15,16] (fun i:Nat=>[(8,.int .i64 i),(3,str (([ltr a]:List UInt8).take i))]) (fun i M'=>i<=1/\M'=M) (fun i=>1-i) 0 ⟨Nat.zero_le _,rfl⟩ ?_
 rintro i M' g ⟨hi,rfl⟩
 by_cases hlt:i<1
 ·have hi0:i=0:=by omega
  subst hi0;simp(disch:=omega)[aj hM];refine cN a _ _ ha ?_;simp(disch:=omega);exact rndS 1 ⟨by omega,rfl⟩
 ·have hi':i=1:=by omega
  subst hi';simp(disch:=omega);exact ad h
theorem vO(ws:List (List UInt8))(x:Value)(a k:Int)(b3 b4 b5:Nat)(K:Mem)(R:VP)(hv:Rd K x (strs ws))(hn:ws.length<=1099511627776)(k3:K b3=some (.cells true [x] 1))(k4:K b4=some (.cells true [.int .i64 a] 1))(k5:K b5=some (.cells true [.int .i64 k] 1))
  (h:R (.bool (decide (0<=a/\a<=ws.length-1)&&decide (0<=k/\k<=60))) K):ar prog 253 [.pointer (some ⟨b4,0,none⟩),.pointer (some ⟨b3,0,none⟩),.pointer (some ⟨b5,0,none⟩)] K R:=by
 refine fnS func253 rfl ntmps253 results253 ?_;simp(disch:=omega);refine drwS ?_;simp(disch:=omega)[aj k4,aq k3];refine aU (a:=[]) (c:=[]) (dU x ws _ _ hv hn ⟨rfl,rfl⟩) ?_;simp(disch:=omega);refine aU (a:=[]) (c:=[]) (bE _ _ _ _ _ ⟨rfl,rfl⟩) ?_;cases h1:decide (0<=a/\a<=(ws.length:Int)-1)
 ·rw[h1,Bool.false_and]at h;simp(disch:=omega);exact ad h
 ·rw[h1,Bool.true_and]at h;simp(disch:=omega)[aj k5];refine aU (a:=[]) (c:=[]) (pC _ _ _ ⟨rfl,rfl⟩) ?_;simp(disch:=omega);exact ad (by simpa using h)
def grF(ws:List (List UInt8))(n:Nat):Nat->List UInt8->List UInt8
 | 0,x=>x.take n
 | f+1,x=>if x.length<n then grF ws n f (aP ws x) else x.take n
theorem Jl{ws:List (List UInt8)}{n f:Nat}{x:List UInt8}(h:¬ x.length<n):grF ws n f x=x.take n:=by
 cases f with
 | zero=>rfl
 | succ f=>exact if_neg h
def HE(ws:List (List UInt8))(a:Nat):Bool:=match ws.getD a [] with
 | []=>false
 | x::u=>x==ltr a && !u.all (dead ws ws.length)
def grT(ws:List (List UInt8))(a n:Int):List UInt8:=if fw ws a n 60=0 then (if HE ws a.toNat then grF ws n.toNat n.toNat [ltr a.toNat] else []) else []
def grC(ws:List (List UInt8))(a n:Int):Int:=if fw ws a n 60=0 then (if HE ws a.toNat then 0 else 5) else fw ws a n 60
theorem xY(v:Value)(ws:List (List UInt8))(a n:Int)(M:Mem)(R:VP)(hv:Rd M v (strs ws))(hf:df ws)(hn:ws.length<=1099511627776)(h:R (aD (str (grT ws a n)) (grC ws a n)) M):ar prog 166 [.agg #[v],.int .i64 a,.int .i64 n] M R:=by
 refine fnS func166 rfl ntmps166 results166 ?_;obtain⟨aa,c,rfl,ha⟩:=hv.opened;rw[ah]at ha hv ⊢;simp(disch:=omega);intro b3 hb3;simp(disch:=omega);intro b4 hb4;simp(disch:=omega);intro b5 hb5;have n4:=hb4;have n5:=hb5;rw[aF]at n4;rw[aF,aF]at n5;have hs5:Sub M (((M.put b3 (.cells true [.slice aa ws.length c] 1)).put b4 (.cells true [.int .i64 a] 1)).put b5 (.cells true [.int .i64 n] 1)):=(((Sub.refl M).put hb3 _).putN hb4 _).putN hb5 _;have k3:(((M.put b3 (.cells true [.slice aa ws.length c] 1)).put b4 (.cells true [.int .i64 a] 1)).put b5 (.cells true [.int .i64 n] 1)) b3=some (.cells true [.slice aa ws.length c] 1):=by rw[ai _ _ (Ne.symm n5.2.1),ai _ _ (Ne.symm n4.1),ag]
 have k4:(((M.put b3 (.cells true [.slice aa ws.length c] 1)).put b4 (.cells true [.int .i64 a] 1)).put b5 (.cells true [.int .i64 n] 1)) b4=some (.cells true [.int .i64 a] 1):=by rw[ai _ _ (Ne.symm n5.1),ag]
 have k5:(((M.put b3 (.cells true [.slice aa ws.length c] 1)).put b4 (.cells true [.int .i64 a] 1)).put b5 (.cells true [.int .i64 n] 1)) b5=some (.cells true [.int .i64 n] 1):=ag _ _ _;simp(disch:=omega);generalize (((M.put b3 (.cells true [.slice aa ws.length c] 1)).put b4 (.cells true [.int .i64 a] 1)).put b5 (.cells true [.int .i64 n] 1))=N1 at *;have hv1:=hv.sub hs5;refine di _ _ _ ws [] (decide (0<=a/\a<=(ws.length:Int)-1)&&decide (0<=n/\n<=60)) (fun M'=>Sub N1 M') _ _ hv1 hf hn (IZ N1) NA (by simp) rfl (Sub.refl _) (fun M b B q hb=>q.putN hb B) ?_ ?_
 ·intro K R' q hR';simp(disch:=omega);exact vO ws _ a n b3 b4 b5 K R' (hv1.sub q) hn (q _ _ k3) (q _ _ k4) (q _ _ k5) hR'
 ·rw[EC];unfold grT grC at h;by_cases h0:fw ws a n 60=0
  ·obtain⟨hm,ha0,ha1,hk0,hk1⟩:=gb h0;rw[if_pos h0,if_pos h0]at h;rw[h0];have h15:=aX hm;obtain⟨a,rfl⟩:∃ m:Nat,a=m:=⟨a.toNat,by omega⟩;obtain⟨n,rfl⟩:∃ m:Nat,n=m:=⟨n.toNat,by omega⟩;rw[Int.toNat_natCast,Int.toNat_natCast]at h;have hal:a<ws.length:=by omega
   rcases ha with hz|⟨b,o,rfl,ha⟩
   ·omega
   have hg:=ha a hal;rw[bg,getElem?_eq_getElem hal]at hg;have hgr:ws.getD a []=ws[a]:=by rw[getD_eq_getElem?_getD,getElem?_eq_getElem hal];rfl
   rw[<-hgr]at hg;have hg1:N1.get? b (o+a)=some (str (ws.getD a [])):=aT hg hs5;have hrl:=uG hm hal;have hrow12:(ws.getD a []).length<=12:=by rw[hgr];exact(bL hm (getElem_mem hal)).1
   have hgrow:=fun u hu hd=>Ex (u:=u) hm hal hu hd;have hok:HE ws a=match ws.getD a [] with
    | []=>false
    | x::u=>x==ltr a && !u.all (dead ws ws.length):=rfl
   obtain⟨row,hrow⟩:∃ row,row=ws.getD a []:=⟨_,rfl⟩;rw[<-hrow]at hg1 hrl hrow12 hok;simp(disch:=omega)[aj k4];intro b6 hb6;simp(disch:=omega);have s6:=(Sub.refl N1).put hb6 (.cells true [.int .i64 a] 1);refine Di a b6 1 _ _ (by omega) (ag _ _ _) ?_;have j3:=s6 _ _ k3;have j4:=s6 _ _ k4;have j5:=s6 _ _ k5;have hg6:=aT hg1 s6;have hv6:=hv1.sub s6;have hs6:=hs5.trans s6;generalize N1.put b6 (.cells true [.int .i64 a] 1)=N6 at *;simp(disch:=omega)[aj j3,aj j4,hg6];refine x8 _ _ _ _ ?_;cases row with
   | nil=>
    rw[hok]at h;have e1:Lib.hasPrefix [] [ltr a]=false:=rfl;simp(disch:=omega)[e1];exact ae hs6 h
   | cons x u=>
    have e1:Lib.hasPrefix (x::u) [ltr a]=(ltr a==x):=by simp[Lib.hasPrefix,isPrefixOf]
    by_cases hx:x=ltr a
    ·subst hx;have e2:Lib.trimPrefix (ltr a::u) [ltr a]=u:=by simp[Lib.trimPrefix,Lib.hasPrefix]
     rw[beq_self_eq_true]at e1;rw[e1,e2];simp only[beq_self_eq_true,Bool.true_and]at hok;simp(disch:=omega)[aq j3];refine Ax _ ws u _ _ hv6 hm (by simp only[length_cons]at hrow12;omega) (fun c hc=>hrl c (mem_cons_of_mem _ hc)) ?_;cases hd:u.all (dead ws ws.length) with
     | true=>
      rw[hok,hd]at h;simp(disch:=omega);exact ae hs6 h
     | false=>
      rw[hok,hd]at h;simp only[Bool.not_false,if_true]at h;have hgl:=hgrow u hrow.symm hd;simp(disch:=omega);refine lupS [9,38,39,40,41,42,43,44] (fun x:List UInt8=>[(9,str x)]) (fun x M'=>M'=N6/\x.length<=720/\∃ j f,x=itr ws j [ltr a]/\n<=x.length+f/\grF ws n f x=grF ws n n [ltr a]) (fun x=>n-x.length) [ltr a] ⟨rfl,by simp,0,n,rfl,by omega,rfl⟩ ?_
      rintro x M' g ⟨rfl,hxl,j,f,hx,hnf,he⟩
      have hxt:Lt ws x:=by
       rw[hx];exact IU hm (fun c hc=>by rw[List.mem_singleton.1 hc,gf (by omega)];omega) j
      have hlj:=hgl j;have hnx:aP ws x=itr ws (j+1) [ltr a]:=by rw[hx];rfl
      rw[<-hnx,<-hx]at hlj;simp(disch:=omega);refine drwS ?_;simp(disch:=omega);refine aU (a:=[]) (c:=[]) (bV _ _ _ (by omega) ⟨rfl,rfl⟩) ?_;by_cases hlt:x.length<n
      ·obtain⟨f,rfl⟩:∃ f',f=f'+1:=⟨f-1,by omega⟩;have he2:grF ws n (f+1) x=grF ws n f (aP ws x):=if_pos hlt;have hil:=iy hm hxt;simp(disch:=omega)[aq j3,aj j5];refine kZ _ ws x _ _ hv6 hm (by omega) hxt ?_;simp(disch:=omega);exact rndS (aP ws x) ⟨rfl,by omega,⟨j+1,hnx⟩,f,by omega,by rw[<-he2];exact he⟩
      ·rw[Jl hlt]at he;rw[<-he]at h;simp(disch:=omega)[aj j5];exact ae hs6 h
    ·have e0:(ltr a==x)=false:=beq_eq_false_iff_ne.2 (Ne.symm hx);have e4:(x==ltr a)=false:=beq_eq_false_iff_ne.2 hx;rw[e0]at e1;simp only[e4,Bool.false_and]at hok;rw[hok]at h;generalize Lib.trimPrefix (x::u) [ltr a]=tp;simp(disch:=omega)[e1];exact ae hs6 h
  ·rw[if_neg h0,if_neg h0]at h;have hb:(fw ws a n 60==0)=false:=beq_eq_false_iff_ne.2 h0;generalize fw ws a n 60=code at *;simp(disch:=omega)[hb];exact ae hs5 h
end Go.Proofs.YtapimhjbilkfpaaGreatDoor
namespace Go.Proofs.YtapimhjbilkfpaaGreatDoor
open Go Go.Proofs.Tryz List
def uP(w:List UInt8)(i m:Int):Bool:=decide (0<=i/\i<=w.length)&&decide (0<=m/\m<=(w.length:Int)-i)
def zZ(w:List UInt8)(i m:Int):Int:=if isWord w then (if uP w i m then 0 else 2) else 1
def Ak(w:List UInt8)(i m:Int):List UInt8:=if isWord w then (if uP w i m then seg w i.toNat m.toNat else []) else []
theorem zC(b:Nat)(v:Value):nd (fun M':Mem=>M'.get? b 0=some v):=by
 intro N b' B hG hb;have:b≠b':=by rintro rfl;unfold Mem.get? at hG;rw[hb]at hG;cases hG
 unfold Mem.get? at *;rw[ai _ _ this];exact hG
theorem EF{F G:Mem->Prop}(hF:nd F)(hG:nd G):nd (fun M'=>F M'/\G M'):=fun N b B h hb=>⟨hF N b B h.1 hb,hG N b B h.2 hb⟩
theorem Ai(w:List UInt8)(i m:Int)(M:Mem)(R:VP)(hl:w.length<=1099511627776)(hi : -9223372036854775808<=i/\i<=9223372036854775807)(hm : -9223372036854775808<=m/\m<=9223372036854775807)(h:∀ M',Sub M M'->R (aD (str (Ak w i m)) (zZ w i m)) M'):ar prog 164 [str w,.int .i64 i,.int .i64 m] M R:=by
 unfold aD Ak zZ at h;refine fnS func164 rfl ntmps164 results164 ?_;simp(disch:=omega);intro b3 hb3;simp(disch:=omega);intro b4 hb4;simp(disch:=omega);intro b5 hb5;simp(disch:=omega);have s3:=(Sub.refl M).put hb3 (.cells true [str w] 1);have s4:=(Sub.refl _).put hb4 (.cells true [.int .i64 i] 1);have s5:=(Sub.refl _).put hb5 (.cells true [.int .i64 m] 1);have k3:=s5 _ _ (s4 _ _ (ag M b3 (.cells true [str w] 1)));have k4:=s5 _ _ (ag (M.put b3 (.cells true [str w] 1)) b4 (.cells true [.int .i64 i] 1));have k5:=ag ((M.put b3 (.cells true [str w] 1)).put b4 (.cells true [.int .i64 i] 1)) b5 (.cells true [.int .i64 m] 1);have hs:=(s3.trans s4).trans s5;generalize ((M.put b3 (.cells true [str w] 1)).put b4 (.cells true [.int .i64 i] 1)).put b5 (.cells true [.int .i64 m] 1)=N at *
 try simp(disch:=omega)[aj k3]
 intro b6 hb6;simp(disch:=omega);have s6:=(Sub.refl N).put hb6 (.cells true [str w] 1);have g3:=aj (s6 _ _ k3) 0;have g4:=aj (s6 _ _ k4) 0;have g5:=aj (s6 _ _ k5) 0;refine bq _ _ [w] (uP w i m) (fun M':Mem=>(M'.get? b3 0=some (str w)/\M'.get? b4 0=some (.int .i64 i))/\M'.get? b5 0=some (.int .i64 m)) _ _ (Rd.new rfl (Nat.le_refl 1)) (fM hl) (by simp) ⟨⟨g3,g4⟩,g5⟩ (EF (EF (zC _ _) (zC _ _)) (zC _ _)) ?_ ?_
 ·intro K R' hG hR';obtain⟨⟨h3,h4⟩,h5⟩:=hG;simp(disch:=omega);refine fnS func250 rfl ntmps250 results250 ?_;simp(disch:=omega);refine drwS ?_;simp(disch:=omega)[h3,h4];refine aU (a:=[]) (c:=[]) (bV w _ _ hl ⟨rfl,rfl⟩) ?_;simp(disch:=omega);refine aU (a:=[]) (c:=[]) (bE _ _ _ _ _ ⟨rfl,rfl⟩) ?_;by_cases h1:0<=i/\i<=(w.length:Int)
  ·rw[decide_eq_true h1];simp(disch:=omega)[h3,h5];refine aU (a:=[]) (c:=[]) (bV w _ _ hl ⟨rfl,rfl⟩) ?_;simp(disch:=omega)[h4];refine aU (a:=[]) (c:=[]) (bE _ _ _ _ _ ⟨rfl,rfl⟩) ?_;simp(disch:=omega);refine ad ?_;unfold uP at hR';rw[decide_eq_true h1,Bool.true_and]at hR';simpa using hR'
  ·rw[decide_eq_false h1];simp(disch:=omega);refine ad ?_;unfold uP at hR';rw[decide_eq_false h1,Bool.false_and]at hR';simpa using hR'
 ·rw[cV];have hs6:=hs.trans s6;cases hw:isWord w
  ·rw[hw]at h;simp(disch:=omega);exact ad (h _ hs6)
  ·rw[hw]at h;cases hf:uP w i m
   ·rw[hf]at h;simp(disch:=omega);exact ad (h _ hs6)
   ·rw[hf]at h;have h60:=au hw;unfold uP at hf;rw[Bool.and_eq_true,decide_eq_true_eq,decide_eq_true_eq]at hf;obtain⟨i,rfl⟩:∃ j:Nat,i=j:=⟨i.toNat,by omega⟩;obtain⟨m,rfl⟩:∃ j:Nat,m=j:=⟨m.toNat,by omega⟩;have hsg:=fK (w:=w) (a:=i) (m:=m);rw[if_pos rfl,if_pos rfl,if_pos rfl,if_pos rfl,Int.toNat_natCast,Int.toNat_natCast]at h;have l3:=s6 _ _ k3;have l4:=s6 _ _ k4;have l5:=s6 _ _ k5;generalize N.put b6 (.cells true [str w] 1)=N6 at *;simp(disch:=omega)[aj l3,aj l4,aj l5];rw[hsg];exact ad (h _ hs6)
end Go.Proofs.YtapimhjbilkfpaaGreatDoor
