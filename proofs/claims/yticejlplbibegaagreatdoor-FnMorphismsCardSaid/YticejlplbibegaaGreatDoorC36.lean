/- Contracts: impl.match with a receiver that keeps a state in blocks of its own. -/
import Derived.Test.YticejlplbibegaaGreatDoorC21
import Derived.Test.YticejlplbibegaaGreatDoorEB
namespace Go.Proofs.YticejlplbibegaaGreatDoor
open Go
set_option linter.unusedSimpArgs false
set_option linter.unusedVariables false

/-- Blocks that are not the receiver's stay told as they were. -/
def KeepO (O : Nat → Prop) (M M' : Mem) : Prop := ∀ b B, ¬ O b → M b = some B → M' b = some B
theorem KeepO.refl (O : Nat → Prop) (M : Mem) : KeepO O M M := fun _ _ _ h => h
theorem KeepO.trans {O : Nat → Prop} {A B C : Mem} (h : KeepO O A B) (k : KeepO O B C) : KeepO O A C := fun b x ho hx => k b x ho (h b x ho hx)
theorem Sub.keepO {O : Nat → Prop} {A B : Mem} (h : Sub A B) : KeepO O A B := fun b x _ hx => h b x hx
end Go.Proofs.YticejlplbibegaaGreatDoor
