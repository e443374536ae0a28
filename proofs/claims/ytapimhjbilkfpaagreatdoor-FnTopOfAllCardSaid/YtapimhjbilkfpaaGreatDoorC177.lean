/- The law FnExactDeskAfter: both desks behind a text are alike, and their own. -/
import Derived.Test.YtapimhjbilkfpaaGreatDoorZ32
import Derived.Test.YtapimhjbilkfpaaGreatDoorZ00
import Derived.Test.YtapimhjbilkfpaaGreatDoorZ03
namespace Go.Proofs.YtapimhjbilkfpaaGreatDoor
open Go.Proofs.Tryz
open Go Go.RowKit
theorem Cx(l:B8):(daD l).ms.length<=5:=by
 unfold daD eC;by_cases h:l.length<=4000/\(bR l).length<=40
 ·rw[if_pos h];exact(aV (pB (bR l) (bR l).length (lRf _)).2.2).2
 ·rw[if_neg h];exact lZe _
set_option maxHeartbeats 1000000 in
theorem mH(l:B8)(M:Mem)(hvar:bW M):ar prog 6 [str l] M (fun v _=>v=.bool true):=by
 refine fnS func6 rfl ntmps6 results6 ?_;by_cases hbig:1048576<l.length
 ·have hbI:(1048576:Int)<(l.length:Nat):=by omega
  simp(disch:=omega)[hbI];exact ad rfl
 ·have hbI:¬(1048576:Int)<(l.length:Nat):=by omega
  simp(disch:=omega)[hbI];have hsm:=Cx l;have idoes:=fun (M:Mem) (R:VP) h1=>iK l M R (by omega) h1;have sdoes:=fun (M:Mem) (R:VP)=>iL l M R (by omega);generalize daD l=d at *;generalize daB l=q at *;have hl:d.ms.length<=1099511627776:=by omega
  refine sdoes _ _ ?_;intro v1 M1 o1;obtain⟨a1,c1,rfl,ha1⟩:=o1.rd.opened;rw[ah]at o1 ⊢;unfold dkV at idoes ⊢;simp(disch:=omega);intro b1 hb1;simp(disch:=omega);refine idoes _ _ ((hvar.sub o1.sub).sub ((Sub.refl M1).put hb1 _)) ?_;intro v2 M2 o2;obtain⟨a2,c2,rfl,ha2⟩:=o2.rd.opened;rw[ah]at o2 ⊢;simp(disch:=omega);intro b2 hb2;have k1:=o2.sub _ _ (ag M1 b1 (.cells true [str d.w,str d.p,.slice a1 d.ms.length c1] 3));have ne1:b1≠b2:=by rintro rfl;rw[k1]at hb2;cases hb2
  simp(disch:=omega)[aq k1];refine fK _ _ _ _ _ _ _ _ _ _ (o2.rd.put hb2 _) (((o1.rd.put hb1 _).sub o2.sub).put hb2 _) hl hl ?_;simp(disch:=omega);refine Bg _ _ _ (strs d.ms) _ _ _ _ (o2.push hb2 _) (by rw[ah];exact hl) (by omega) (by omega) ?_;rw[ah];intro N M3 hs3 o3;have k2:=o3.sub _ _ (hs3 _ _ (ag _ _ _));simp(disch:=omega)[aq k2];refine gY _ _ _ _ _ _ _ o3.rd (by omega) (by omega) (by omega) ?_;have hq:¬((1:Int)+(d.ms.length:Nat)<0):=by omega
  simp(disch:=omega)[hq];have k3:=o3.sub _ _ (hs3 _ _ ((ai _ _ ne1).trans (ag M1 b1 (.cells true [str d.w,str d.p,.slice a1 d.ms.length c1] 3))));have f1:=(Sub.refl M1).put hb1 (.cells true [str d.w,str d.p,.slice a1 d.ms.length c1] 3);have f2:=(Sub.refl (M1.put b1 (.cells true [str d.w,str d.p,.slice a1 d.ms.length c1] 3))).put (bA o2.sub hb2) (.cells true [str d.w,str d.p,.slice a2 d.ms.length c2] 3);have r3:=(((((o1.rd.sub f1).sub f2).sub hs3).sub o3.sub));refine idoes _ _ (((((hvar.sub o1.sub).sub f1).sub f2).sub hs3).sub o3.sub) ?_;intro v5 M5 o5;obtain⟨a5,c5,rfl,ha5⟩:=o5.rd.opened;rw[ah]at o5 ⊢;simp(disch:=omega);intro b6 hb6;have k4:=o5.sub _ _ k2;have k5:=o5.sub _ _ k3;have ne2:b1≠b6:=by rintro rfl;rw[k5]at hb6;cases hb6
  have ne3:b2≠b6:=by rintro rfl;rw[k4]at hb6;cases hb6
  simp(disch:=omega)[aq k5];refine fK _ _ _ _ _ _ _ _ _ _ (o5.rd.put hb6 _) ((r3.sub o5.sub).put hb6 _) hl hl ?_;simp(disch:=omega)[aq k4];refine gY _ _ _ _ _ _ _ ((o3.rd.sub o5.sub).put hb6 _) (by omega) (by omega) (by omega) ?_;simp(disch:=omega)[hq];exact ad rfl
end Go.Proofs.YtapimhjbilkfpaaGreatDoor
