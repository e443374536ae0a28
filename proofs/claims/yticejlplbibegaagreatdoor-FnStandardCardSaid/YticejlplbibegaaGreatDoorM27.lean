/- A finite fact: numbers of short balanced words. -/
import Derived.Test.YticejlplbibegaaGreatDoorM10
import Derived.Test.YticejlplbibegaaGreatDoorCE
namespace Go.Proofs.YticejlplbibegaaGreatDoor
open Go

set_option maxRecDepth 100000 in
theorem bal_count : ∀ m, m < 11 → (balL m).length = cbN m m := by decide +kernel
end Go.Proofs.YticejlplbibegaaGreatDoor
