/- The law FnExactRunLine: both run a line on a desk alike, on desks of their own. -/
import Derived.Test.YtapimhjbilkfpaaGreatDoorZ32
import Derived.Test.YtapimhjbilkfpaaGreatDoorZ00
import Derived.Test.YtapimhjbilkfpaaGreatDoorZ10
import Derived.Test.YtapimhjbilkfpaaGreatDoorZ03
namespace Go.Proofs.YtapimhjbilkfpaaGreatDoor
open Go.Proofs.Tryz
open Go Go.RowKit
theorem NC{N N3 A B:Mem}{f:Mem->Mem}(t:NV N N3 f)(h:Sub A B):Sub (f A) (f B):=by
 rcases t.2 with rfl|⟨b,X,X0,_,rfl⟩
 ·exact h
 ·exact h.both _ _
theorem xC{N N3 A:Mem}{f:Mem->Mem}(t:NV N N3 f){b:Nat}(hb:N3 b=none):(f A) b=A b:=by
 rcases t.2 with rfl|⟨b0,X,X0,h0,rfl⟩
 ·rfl
 ·have:b≠b0:=by rintro rfl;rw[hb]at h0;cases h0
  exact ai _ _ this
theorem QK(d:Dk)(l:B8):(rlD d l).ms.length<=5:=by
 unfold rlD;by_cases h:gS d.w d.p d.ms=true
 ·rw[if_pos h];exact(aV (uZ (Ef h) l).2.2).2
 ·rw[if_neg h];exact lZe _
theorem rz(w p:B8)(v:Value)(xs:List Value)(k:Int)(M M1:Mem)(R:VP)(hv:Own M v xs M1)(hl:xs.length<=1099511627776)(h0:0<=k)(hk:k<=1099511627776)
  (h:∀ M2,Own M v (fa k xs.length) M2->R (.int .i64 (k+xs.length)) M2):ar prog 19 [cQ w p v,.int .i64 k] M1 R:=by
 unfold cQ;refine fnS func19 rfl ntmps19 results19 ?_;obtain⟨a,c,rfl,ha⟩:=hv.rd.opened;simp(disch:=omega);intro b1 hb1;simp(disch:=omega);have hM:M b1=none:=bA hv.sub hb1;refine uh _ xs k _ _ _ (hv.push hb1 _) hl h0 hk ?_;intro M2 o2;simp(disch:=omega);obtain⟨M3,o3,s3⟩:=o2.base ((Sub.refl M).put hM _);exact ae s3 (h M3 o3)
set_option maxHeartbeats 4000000 in
theorem pF(w p:B8)(v:Value)(ws:List B8)(l:B8)(M:Mem)(hvar:bW M)(hw0:w.length<=9223372036854775807)(hp0:p.length<=9223372036854775807)(hv:Rd M v (strs ws))(hn:ws.length<=9223372036854775807)(hw:∀ w∈ws,w.length<=9223372036854775807)(hl0:l.length<=9223372036854775807):ar prog 5 [cQ w p v,str l] M (fun v _=>v=.bool true):=by
 unfold cQ;refine fnS func5 rfl ntmps5 results5 ?_;obtain⟨a,c,rfl,ha⟩:=hv.opened;rw[ah]at ha hv ⊢;simp(disch:=omega);intro b1 hb1;have hs1:Sub M (M.put b1 (.cells true [str w,str p,.slice a ws.length c] 3)):=(Sub.refl M).put hb1 _;have k1:(M.put b1 (.cells true [str w,str p,.slice a ws.length c] 3)) b1=some (.cells true [str w,str p,.slice a ws.length c] 3):=ag _ _ _;have hv1:=hv.put hb1 (.cells true [str w,str p,.slice a ws.length c] 3);have vr1:=hvar.sub hs1;generalize M.put b1 (.cells true [str w,str p,.slice a ws.length c] 3)=N1 at *;by_cases hbig:1048576<l.length
 ·have hbI:(1048576:Int)<(l.length:Nat):=by omega
  simp(disch:=omega)[hbI];exact ad rfl
 have hbI:¬(1048576:Int)<(l.length:Nat):=by omega
 simp(disch:=omega)[hbI,aq k1];refine HH w p _ ws _ _ hv1 hw0 hp0 hn hw ?_ ?_
 ·intro hle q;have hsm:ws.length<=1048576:=by omega
  have hfine:cP ws:=fun w hw=>by have:=QN hw;omega
  have hD:=QK ⟨w,p,ws⟩ l;have idoes:=fun (v:Value) (M:Mem) (R:VP)=>fR ⟨w,p,ws⟩ v l M R (by show w.length<=_;omega) (by show p.length<=_;omega) hfine (by show ws.length<=_;omega);have sdoes:=fun (v:Value) (M:Mem) (R:VP)=>tN ⟨w,p,ws⟩ v l M R (by show w.length<=_;omega) (by show p.length<=_;omega) hfine (by show ws.length<=_;omega);generalize rlD ⟨w,p,ws⟩ l=D at *;generalize rlT ⟨w,p,ws⟩ l=T at *;have hDl:D.ms.length<=1099511627776:=by omega
  unfold dkV at idoes sdoes;simp(disch:=omega)[aq k1];refine kl w p _ ws _ _ hv1 hsm ?_;intro v2 N2 o2;unfold cQ;simp(disch:=omega);refine sdoes v2 _ _ o2.rd (by omega) ?_;intro v3 N3 o3;have k3:=o3.sub _ _ (o2.sub _ _ k1);obtain⟨a3,c3,rfl,_⟩:=o3.rd.opened;rw[ah]at o3 ⊢;simp(disch:=omega);intro b6 hb6;have n16:b1≠b6:=by rintro rfl;rw[k3]at hb6;cases hb6
  simp(disch:=omega)[aq k3];have s3:=(o2.sub.trans o3.sub).putN hb6 (.cells true [str D.w,str D.p,.slice a3 D.ms.length c3] 3);have q1:=s3 _ _ k1;have q6:=ag N3 b6 (.cells true [str D.w,str D.p,.slice a3 D.ms.length c3] 3);have r3:=o3.rd.put hb6 (.cells true [str D.w,str D.p,.slice a3 D.ms.length c3] 3);generalize N3.put b6 (.cells true [str D.w,str D.p,.slice a3 D.ms.length c3] 3)=P3 at *;refine kl w p _ ws _ _ (hv1.sub s3) hsm ?_;intro v4 N4 o4;have q1b:=o4.sub _ _ q1;have q6b:=o4.sub _ _ q6;obtain⟨a4,c4,rfl,_⟩:=o4.rd.opened;rw[ah]at o4 ⊢;unfold cQ;simp(disch:=omega);intro b8 hb8;have n18:b1≠b8:=by rintro rfl;rw[q1b]at hb8;cases hb8
  have n68:b6≠b8:=by rintro rfl;rw[q6b]at hb8;cases hb8
  simp(disch:=omega);have s4:=(Sub.refl N4).put hb8 (.cells true [str w,str p,.slice a4 ws.length c4] 3);have q8:=ag N4 b8 (.cells true [str w,str p,.slice a4 ws.length c4] 3);have r4:=o4.rd.put hb8 (.cells true [str w,str p,.slice a4 ws.length c4] 3);generalize N4.put b8 (.cells true [str w,str p,.slice a4 ws.length c4] 3)=P4 at *;have vr4:=((vr1.sub s3).sub o4.sub).sub s4;refine idoes _ _ _ vr4 r4 (by omega) ?_;intro v5 N5 o5;have p1:=o5.sub _ _ (s4 _ _ q1b);have p6:=o5.sub _ _ (s4 _ _ q6b);have p8:=o5.sub _ _ q8;obtain⟨a5,c5,rfl,_⟩:=o5.rd.opened;rw[ah]at o5 ⊢;simp(disch:=omega);intro b9 hb9;have n19:b1≠b9:=by rintro rfl;rw[p1]at hb9;cases hb9
  have n69:b6≠b9:=by rintro rfl;rw[p6]at hb9;cases hb9
  have n89:b8≠b9:=by rintro rfl;rw[p8]at hb9;cases hb9
  simp(disch:=omega)[aq p6];have s5:=(Sub.refl N5).put hb9 (.cells true [str D.w,str D.p,.slice a5 D.ms.length c5] 3);have p9:=ag N5 b9 (.cells true [str D.w,str D.p,.slice a5 D.ms.length c5] 3);generalize N5.put b9 (.cells true [str D.w,str D.p,.slice a5 D.ms.length c5] 3)=P5 at *;have s45:=(s4.trans o5.sub).trans s5;have t1:=s5 _ _ p1;have t6:=s5 _ _ p6;have t8:=s5 _ _ p8;refine fK _ _ _ _ _ _ _ _ _ _ (o5.rd.sub s5) ((r3.sub o4.sub).sub s45) hDl hDl ?_;simp(disch:=omega);refine plyS (ak [0,1] (.one 2 1 (.one 3 1 (ak [4] .fin)))) ?_;simp(disch:=omega)[aq t8,aq t1];refine kl w p _ ws _ _ ((hv1.sub s3).sub (o4.sub.trans s45)) hsm ?_;intro v6 N6 o6;simp(disch:=omega);refine⟨o6.sub,?_⟩;have s46:=s45.trans o6.sub;refine fK _ _ _ _ _ _ _ _ _ _ (o4.rd.sub s46) o6.rd (by omega) (by omega) ?_;simp(disch:=omega);have u1:=o6.sub _ _ t1;have u6:=o6.sub _ _ t6;have u8:=o6.sub _ _ t8;have u9:=o6.sub _ _ p9;simp(disch:=omega)[aq u8];obtain⟨K0,oK,hK⟩:=o4.on s46;refine rz _ _ _ (strs ws) _ K0 N6 _ oK (by rw[ah];omega) (by omega) (by omega) ?_;intro F oF;rw[ah]at oF ⊢;obtain⟨f,hT,rfl⟩:=hK _ _ (by rw[dT,ah]) oF;have kP:=hT.keep s46;have f1:=kP _ _ q1;have f6:=kP _ _ q6;have f8:(f N6) b8=some (.cells true [str w,str p,.slice a4 ws.length c4] 3):=by rw[xC hT hb8];exact u8
  have f9:(f N6) b9=some (.cells true [str D.w,str D.p,.slice a5 D.ms.length c5] 3):=by rw[xC hT (bA (s4.trans o5.sub) hb9)];exact u9
  have o5f:=o5.turn hT s4;have s5f:=NC hT (s5.trans o6.sub);have hq:¬((1:Int)+(ws.length:Nat)<0):=by omega
  have hq2:¬((1:Int)+(D.ms.length:Nat)<0):=by omega
  simp(disch:=omega)[hq,aq f9,aq f6];refine fK _ _ _ _ _ _ _ _ _ _ (o5f.rd.sub s5f) (r3.sub kP) hDl hDl ?_;simp(disch:=omega)[aq f9];obtain⟨K1,oK1,hK1⟩:=o5f.on s5f;refine rz _ _ _ (strs D.ms) _ K1 (f N6) _ oK1 (by rw[ah];omega) (by omega) (by omega) ?_;intro F2 oF2;rw[ah]at oF2 ⊢;obtain⟨f2,hT2,rfl⟩:=hK1 _ _ (by rw[dT,ah]) oF2;have kP2:=hT2.keep s5f;have kP3:=(hT.keep s4).trans kP2;have g1:=kP3 _ _ q1;have g6:=kP3 _ _ q6;have hN5:(f N5) b9=none:=by rw[xC hT (bA (s4.trans o5.sub) hb9)];exact hb9
  have g9:(f2 (f N6)) b9=some (.cells true [str D.w,str D.p,.slice a5 D.ms.length c5] 3):=by rw[xC hT2 hN5];exact f9
  simp(disch:=omega)[aq g9];refine gY _ _ _ _ _ _ _ oF2.rd (by omega) (by omega) (by omega) ?_;simp(disch:=omega)[hq2,aq g1];refine kl w p _ ws _ _ ((hv1.sub s3).sub kP3) hsm ?_;intro v7 N7 o7;unfold cQ;simp(disch:=omega);refine idoes _ _ _ ((((vr1.sub s3).sub kP3).sub o7.sub)) o7.rd (by omega) ?_;intro v8 N8 o8;have s78:=o7.sub.trans o8.sub;have h6:=s78 _ _ g6;have h9:=s78 _ _ g9;obtain⟨a8,c8,rfl,_⟩:=o8.rd.opened;rw[ah]at o8 ⊢;simp(disch:=omega);intro b14 hb14;have n6:b6≠b14:=by rintro rfl;rw[h6]at hb14;cases hb14
  have n9:b9≠b14:=by rintro rfl;rw[h9]at hb14;cases hb14
  simp(disch:=omega)[aq h6];refine fK _ _ _ _ _ _ _ _ _ _ (o8.rd.put hb14 _) (((r3.sub kP3).sub s78).put hb14 _) hDl hDl ?_;simp(disch:=omega)[aq h9];refine gY _ _ _ _ _ _ _ ((oF2.rd.sub s78).put hb14 _) (by omega) (by omega) (by omega) ?_;simp(disch:=omega)[hq2];exact ad rfl
 ·simp(disch:=omega);exact ad rfl
end Go.Proofs.YtapimhjbilkfpaaGreatDoor
