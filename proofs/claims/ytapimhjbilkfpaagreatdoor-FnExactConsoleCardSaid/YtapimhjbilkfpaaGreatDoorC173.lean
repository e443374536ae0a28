/- The law FnExactConsole: both consoles say the same. -/
import Derived.Test.YtapimhjbilkfpaaGreatDoorZ32
import Derived.Test.YtapimhjbilkfpaaGreatDoorZ00
import Derived.Test.YtapimhjbilkfpaaGreatDoorZ03
namespace Go.Proofs.YtapimhjbilkfpaaGreatDoor
open Go.Proofs.Tryz
open Go
theorem aaP(l:B8)(M:Mem)(hvar:bW M):ar prog 3 [str l] M (fun v _=>v=.bool true):=by
 refine fnS func3 rfl ntmps3 results3 ?_;by_cases hbig:1048576<l.length
 ·have hbI:(1048576:Int)<(l.length:Nat):=by omega
  simp(disch:=omega)[hbI];exact ad rfl
 ·have hbI:¬(1048576:Int)<(l.length:Nat):=by omega
  simp(disch:=omega)[hbI];refine sf l _ _ (by omega) ?_;simp(disch:=omega);refine fQ l _ _ (by omega) hvar ?_;simp(disch:=omega);exact ad rfl
end Go.Proofs.YtapimhjbilkfpaaGreatDoor
