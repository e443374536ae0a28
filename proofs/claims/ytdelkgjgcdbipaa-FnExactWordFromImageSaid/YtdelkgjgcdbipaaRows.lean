/-
  No cell of these rows narrows 'for every input' (looked for: loops, veiled, ifaces, maps, wideKeys, modest, calm, conditions, laid).
  DERIVED. THE GIVEN ROWS OF THIS SEAT. 12 by the template 'for every input the law returns true; each argument reads behind the call as it read before'; 0 by the template 'total and deterministic' (their statements: YtdelkgjgcdbipaaTotals.lean).
  GIVEN WITH THE SEED: the statements are not yours to turn. If you find one false, say at which input.
  Laid BY PROGRAM, IN A SANDBOX (cutbox-rows.mjs): the forced cells as the released guide's own fill.sh prints them over the translation b82d5e1d44c47579… (all of the seat's roots in one cut). By AI agents, Wed Nov 11 2026. No macro, syntax, notation, axiom, sorry.
-/
import Derived.Test.YtdelkgjgcdbipaaChecked
import GoSem.Claim
import GoSem.ClaimJoined
import GoSem.ClaimMapViews
import Derived.JoinedTies
import Derived.KernelRfl
namespace Go.Proofs.Ytdelkgjgcdbipaa
/- THE CELL 'sum', in the pinned program and in every row, IS THE sha256 OF THE DUMP (.gsa) THAT YtdelkgjgcdbipaaProg.lean LOADS. Nothing in Lean hashes anything: it is a label: what it is worth is what the hold of that sum in a sandbox is worth. -/
noncomputable def Try.pinned : Pinned := { name := "ytdelkgjgcdbipaa", sum := "b82d5e1d44c47579363185d07aab4f198515aebfaf61dcbb79915147ee55c7d4", checked := Try.checked }
namespace Rows
def none {H : Type} : Left H := { results := [], args := [] }

/-- 'laws.FnExactIsDesk': WHATEVER THE INPUT: true; the input reads as it did. -/
def fnExactIsDeskSpec : ChangeSpec := { name := "fnExactIsDesk", fn := fun _ => fun
  | [d] => { results := [.lit (.bool true)], args := [d] }
  | _ => none }
def fnExactIsDeskRow : OpenClaim := { program := "ytdelkgjgcdbipaa", sum := "b82d5e1d44c47579363185d07aab4f198515aebfaf61dcbb79915147ee55c7d4", func := "loop.example/g01371/laws.FnExactIsDesk", spec := "fnExactIsDesk", unfollowed := true, recurses := true, apart := false }
def FnExactIsDeskSaid : Prop := fnExactIsDeskRow.holds Try.pinned (OpenSpec.ofChange fnExactIsDeskSpec)

/-- ITS FALSE NEIGHBOUR: 'it returns false'. Refute it at one input. -/
def fnExactIsDeskWrong : ChangeSpec := { name := "fnExactIsDesk", fn := fun _ => fun
  | [d] => { results := [.lit (.bool false)], args := [d] }
  | _ => none }
def FnExactIsDeskWrongFalsely : Prop := fnExactIsDeskRow.holds Try.pinned (OpenSpec.ofChange fnExactIsDeskWrong)

/-- 'laws.FnExactImageOf': WHATEVER THE INPUT: true; the input reads as it did. -/
def fnExactImageOfSpec : ChangeSpec := { name := "fnExactImageOf", fn := fun _ => fun
  | [d1, d2] => { results := [.lit (.bool true)], args := [d1, d2] }
  | _ => none }
def fnExactImageOfRow : OpenClaim := { program := "ytdelkgjgcdbipaa", sum := "b82d5e1d44c47579363185d07aab4f198515aebfaf61dcbb79915147ee55c7d4", func := "loop.example/g01371/laws.FnExactImageOf", spec := "fnExactImageOf", unfollowed := true, recurses := true, apart := false }
def FnExactImageOfSaid : Prop := fnExactImageOfRow.holds Try.pinned (OpenSpec.ofChange fnExactImageOfSpec)

/-- ITS FALSE NEIGHBOUR: 'it returns false'. Refute it at one input. -/
def fnExactImageOfWrong : ChangeSpec := { name := "fnExactImageOf", fn := fun _ => fun
  | [d1, d2] => { results := [.lit (.bool false)], args := [d1, d2] }
  | _ => none }
def FnExactImageOfWrongFalsely : Prop := fnExactImageOfRow.holds Try.pinned (OpenSpec.ofChange fnExactImageOfWrong)

/-- 'laws.FnExactIsUniform': WHATEVER THE INPUT: true; the input reads as it did. -/
def fnExactIsUniformSpec : ChangeSpec := { name := "fnExactIsUniform", fn := fun _ => fun
  | [d] => { results := [.lit (.bool true)], args := [d] }
  | _ => none }
def fnExactIsUniformRow : OpenClaim := { program := "ytdelkgjgcdbipaa", sum := "b82d5e1d44c47579363185d07aab4f198515aebfaf61dcbb79915147ee55c7d4", func := "loop.example/g01371/laws.FnExactIsUniform", spec := "fnExactIsUniform", unfollowed := true, recurses := true, apart := false }
def FnExactIsUniformSaid : Prop := fnExactIsUniformRow.holds Try.pinned (OpenSpec.ofChange fnExactIsUniformSpec)

/-- ITS FALSE NEIGHBOUR: 'it returns false'. Refute it at one input. -/
def fnExactIsUniformWrong : ChangeSpec := { name := "fnExactIsUniform", fn := fun _ => fun
  | [d] => { results := [.lit (.bool false)], args := [d] }
  | _ => none }
def FnExactIsUniformWrongFalsely : Prop := fnExactIsUniformRow.holds Try.pinned (OpenSpec.ofChange fnExactIsUniformWrong)

/-- 'laws.FnExactLongestAvoiding': WHATEVER THE INPUT: true; the input reads as it did. -/
def fnExactLongestAvoidingSpec : ChangeSpec := { name := "fnExactLongestAvoiding", fn := fun _ => fun
  | [d1, d2] => { results := [.lit (.bool true)], args := [d1, d2] }
  | _ => none }
def fnExactLongestAvoidingRow : OpenClaim := { program := "ytdelkgjgcdbipaa", sum := "b82d5e1d44c47579363185d07aab4f198515aebfaf61dcbb79915147ee55c7d4", func := "loop.example/g01371/laws.FnExactLongestAvoiding", spec := "fnExactLongestAvoiding", unfollowed := true, recurses := true, apart := false }
def FnExactLongestAvoidingSaid : Prop := fnExactLongestAvoidingRow.holds Try.pinned (OpenSpec.ofChange fnExactLongestAvoidingSpec)

/-- ITS FALSE NEIGHBOUR: 'it returns false'. Refute it at one input. -/
def fnExactLongestAvoidingWrong : ChangeSpec := { name := "fnExactLongestAvoiding", fn := fun _ => fun
  | [d1, d2] => { results := [.lit (.bool false)], args := [d1, d2] }
  | _ => none }
def FnExactLongestAvoidingWrongFalsely : Prop := fnExactLongestAvoidingRow.holds Try.pinned (OpenSpec.ofChange fnExactLongestAvoidingWrong)

/-- 'laws.FnExactIterateOf': WHATEVER THE INPUT: true; the input reads as it did. -/
def fnExactIterateOfSpec : ChangeSpec := { name := "fnExactIterateOf", fn := fun _ => fun
  | [d1, d2, d3] => { results := [.lit (.bool true)], args := [d1, d2, d3] }
  | _ => none }
def fnExactIterateOfRow : OpenClaim := { program := "ytdelkgjgcdbipaa", sum := "b82d5e1d44c47579363185d07aab4f198515aebfaf61dcbb79915147ee55c7d4", func := "loop.example/g01371/laws.FnExactIterateOf", spec := "fnExactIterateOf", unfollowed := true, recurses := true, apart := false }
def FnExactIterateOfSaid : Prop := fnExactIterateOfRow.holds Try.pinned (OpenSpec.ofChange fnExactIterateOfSpec)

/-- ITS FALSE NEIGHBOUR: 'it returns false'. Refute it at one input. -/
def fnExactIterateOfWrong : ChangeSpec := { name := "fnExactIterateOf", fn := fun _ => fun
  | [d1, d2, d3] => { results := [.lit (.bool false)], args := [d1, d2, d3] }
  | _ => none }
def FnExactIterateOfWrongFalsely : Prop := fnExactIterateOfRow.holds Try.pinned (OpenSpec.ofChange fnExactIterateOfWrong)

/-- 'laws.FnExactAbelianSquares': WHATEVER THE INPUT: true; the input reads as it did. -/
def fnExactAbelianSquaresSpec : ChangeSpec := { name := "fnExactAbelianSquares", fn := fun _ => fun
  | [d] => { results := [.lit (.bool true)], args := [d] }
  | _ => none }
def fnExactAbelianSquaresRow : OpenClaim := { program := "ytdelkgjgcdbipaa", sum := "b82d5e1d44c47579363185d07aab4f198515aebfaf61dcbb79915147ee55c7d4", func := "loop.example/g01371/laws.FnExactAbelianSquares", spec := "fnExactAbelianSquares", unfollowed := true, recurses := true, apart := false }
def FnExactAbelianSquaresSaid : Prop := fnExactAbelianSquaresRow.holds Try.pinned (OpenSpec.ofChange fnExactAbelianSquaresSpec)

/-- ITS FALSE NEIGHBOUR: 'it returns false'. Refute it at one input. -/
def fnExactAbelianSquaresWrong : ChangeSpec := { name := "fnExactAbelianSquares", fn := fun _ => fun
  | [d] => { results := [.lit (.bool false)], args := [d] }
  | _ => none }
def FnExactAbelianSquaresWrongFalsely : Prop := fnExactAbelianSquaresRow.holds Try.pinned (OpenSpec.ofChange fnExactAbelianSquaresWrong)

/-- 'laws.FnExactTestLength': WHATEVER THE INPUT: true; the input reads as it did. -/
def fnExactTestLengthSpec : ChangeSpec := { name := "fnExactTestLength", fn := fun _ => fun
  | [d] => { results := [.lit (.bool true)], args := [d] }
  | _ => none }
def fnExactTestLengthRow : OpenClaim := { program := "ytdelkgjgcdbipaa", sum := "b82d5e1d44c47579363185d07aab4f198515aebfaf61dcbb79915147ee55c7d4", func := "loop.example/g01371/laws.FnExactTestLength", spec := "fnExactTestLength", unfollowed := true, recurses := true, apart := false }
def FnExactTestLengthSaid : Prop := fnExactTestLengthRow.holds Try.pinned (OpenSpec.ofChange fnExactTestLengthSpec)

/-- ITS FALSE NEIGHBOUR: 'it returns false'. Refute it at one input. -/
def fnExactTestLengthWrong : ChangeSpec := { name := "fnExactTestLength", fn := fun _ => fun
  | [d] => { results := [.lit (.bool false)], args := [d] }
  | _ => none }
def FnExactTestLengthWrongFalsely : Prop := fnExactTestLengthRow.holds Try.pinned (OpenSpec.ofChange fnExactTestLengthWrong)

/-- 'laws.FnExactIsPrimitive': WHATEVER THE INPUT: true; the input reads as it did. -/
def fnExactIsPrimitiveSpec : ChangeSpec := { name := "fnExactIsPrimitive", fn := fun _ => fun
  | [d] => { results := [.lit (.bool true)], args := [d] }
  | _ => none }
def fnExactIsPrimitiveRow : OpenClaim := { program := "ytdelkgjgcdbipaa", sum := "b82d5e1d44c47579363185d07aab4f198515aebfaf61dcbb79915147ee55c7d4", func := "loop.example/g01371/laws.FnExactIsPrimitive", spec := "fnExactIsPrimitive", unfollowed := true, recurses := true, apart := false }
def FnExactIsPrimitiveSaid : Prop := fnExactIsPrimitiveRow.holds Try.pinned (OpenSpec.ofChange fnExactIsPrimitiveSpec)

/-- ITS FALSE NEIGHBOUR: 'it returns false'. Refute it at one input. -/
def fnExactIsPrimitiveWrong : ChangeSpec := { name := "fnExactIsPrimitive", fn := fun _ => fun
  | [d] => { results := [.lit (.bool false)], args := [d] }
  | _ => none }
def FnExactIsPrimitiveWrongFalsely : Prop := fnExactIsPrimitiveRow.holds Try.pinned (OpenSpec.ofChange fnExactIsPrimitiveWrong)

/-- 'laws.FnExactAbelianPowers': WHATEVER THE INPUT: true; the input reads as it did. -/
def fnExactAbelianPowersSpec : ChangeSpec := { name := "fnExactAbelianPowers", fn := fun _ => fun
  | [d1, d2] => { results := [.lit (.bool true)], args := [d1, d2] }
  | _ => none }
def fnExactAbelianPowersRow : OpenClaim := { program := "ytdelkgjgcdbipaa", sum := "b82d5e1d44c47579363185d07aab4f198515aebfaf61dcbb79915147ee55c7d4", func := "loop.example/g01371/laws.FnExactAbelianPowers", spec := "fnExactAbelianPowers", unfollowed := true, recurses := true, apart := false }
def FnExactAbelianPowersSaid : Prop := fnExactAbelianPowersRow.holds Try.pinned (OpenSpec.ofChange fnExactAbelianPowersSpec)

/-- ITS FALSE NEIGHBOUR: 'it returns false'. Refute it at one input. -/
def fnExactAbelianPowersWrong : ChangeSpec := { name := "fnExactAbelianPowers", fn := fun _ => fun
  | [d1, d2] => { results := [.lit (.bool false)], args := [d1, d2] }
  | _ => none }
def FnExactAbelianPowersWrongFalsely : Prop := fnExactAbelianPowersRow.holds Try.pinned (OpenSpec.ofChange fnExactAbelianPowersWrong)

/-- 'laws.FnExactComposeMorphisms': WHATEVER THE INPUT: true; the input reads as it did. -/
def fnExactComposeMorphismsSpec : ChangeSpec := { name := "fnExactComposeMorphisms", fn := fun _ => fun
  | [d1, d2] => { results := [.lit (.bool true)], args := [d1, d2] }
  | _ => none }
def fnExactComposeMorphismsRow : OpenClaim := { program := "ytdelkgjgcdbipaa", sum := "b82d5e1d44c47579363185d07aab4f198515aebfaf61dcbb79915147ee55c7d4", func := "loop.example/g01371/laws.FnExactComposeMorphisms", spec := "fnExactComposeMorphisms", unfollowed := true, recurses := true, apart := false }
def FnExactComposeMorphismsSaid : Prop := fnExactComposeMorphismsRow.holds Try.pinned (OpenSpec.ofChange fnExactComposeMorphismsSpec)

/-- ITS FALSE NEIGHBOUR: 'it returns false'. Refute it at one input. -/
def fnExactComposeMorphismsWrong : ChangeSpec := { name := "fnExactComposeMorphisms", fn := fun _ => fun
  | [d1, d2] => { results := [.lit (.bool false)], args := [d1, d2] }
  | _ => none }
def FnExactComposeMorphismsWrongFalsely : Prop := fnExactComposeMorphismsRow.holds Try.pinned (OpenSpec.ofChange fnExactComposeMorphismsWrong)

/-- 'laws.FnExactWordFromImage': WHATEVER THE INPUT: true; the input reads as it did. -/
def fnExactWordFromImageSpec : ChangeSpec := { name := "fnExactWordFromImage", fn := fun _ => fun
  | [d1, d2] => { results := [.lit (.bool true)], args := [d1, d2] }
  | _ => none }
def fnExactWordFromImageRow : OpenClaim := { program := "ytdelkgjgcdbipaa", sum := "b82d5e1d44c47579363185d07aab4f198515aebfaf61dcbb79915147ee55c7d4", func := "loop.example/g01371/laws.FnExactWordFromImage", spec := "fnExactWordFromImage", unfollowed := true, recurses := true, apart := false }
def FnExactWordFromImageSaid : Prop := fnExactWordFromImageRow.holds Try.pinned (OpenSpec.ofChange fnExactWordFromImageSpec)

/-- ITS FALSE NEIGHBOUR: 'it returns false'. Refute it at one input. -/
def fnExactWordFromImageWrong : ChangeSpec := { name := "fnExactWordFromImage", fn := fun _ => fun
  | [d1, d2] => { results := [.lit (.bool false)], args := [d1, d2] }
  | _ => none }
def FnExactWordFromImageWrongFalsely : Prop := fnExactWordFromImageRow.holds Try.pinned (OpenSpec.ofChange fnExactWordFromImageWrong)

/-- 'laws.FnExactAbelianPeriods': WHATEVER THE INPUT: true; the input reads as it did. -/
def fnExactAbelianPeriodsSpec : ChangeSpec := { name := "fnExactAbelianPeriods", fn := fun _ => fun
  | [d] => { results := [.lit (.bool true)], args := [d] }
  | _ => none }
def fnExactAbelianPeriodsRow : OpenClaim := { program := "ytdelkgjgcdbipaa", sum := "b82d5e1d44c47579363185d07aab4f198515aebfaf61dcbb79915147ee55c7d4", func := "loop.example/g01371/laws.FnExactAbelianPeriods", spec := "fnExactAbelianPeriods", unfollowed := true, recurses := true, apart := false }
def FnExactAbelianPeriodsSaid : Prop := fnExactAbelianPeriodsRow.holds Try.pinned (OpenSpec.ofChange fnExactAbelianPeriodsSpec)

/-- ITS FALSE NEIGHBOUR: 'it returns false'. Refute it at one input. -/
def fnExactAbelianPeriodsWrong : ChangeSpec := { name := "fnExactAbelianPeriods", fn := fun _ => fun
  | [d] => { results := [.lit (.bool false)], args := [d] }
  | _ => none }
def FnExactAbelianPeriodsWrongFalsely : Prop := fnExactAbelianPeriodsRow.holds Try.pinned (OpenSpec.ofChange fnExactAbelianPeriodsWrong)

/- THE SECOND FORM. 'bulk': how many values and letters a reading holds, each counted each time it is reached (what is shared counts as often as it is met; a slice's spare places count too). A statement '..UptoSaid' is the law's where the arguments, and the package variables that the reading takes, are together of bulk at most 1048576: NARROWER than '..Said'. Prove '..Said' where nothing that the law and all that it calls make is longer than what came in: it says more and counts as full. Else prove '..UptoSaid'. A law counts once. -/
mutual
def uptoBulk {H : Type} : DataW H → Nat
  | .lit (.string bytes) => bytes.length + 1
  | .lit _ => 1
  | .nil => 1
  | .ptr d => uptoBulk d + 1
  | .slice elems spare => uptoBulkAll elems + uptoBulkAll spare + 1
  | .agg parts => uptoBulkAll parts + 1
  | .iface _ d => uptoBulk d + 1
  | .map entries => uptoBulkEntries entries + 1
  | .held _ => 1
def uptoBulkAll {H : Type} : List (DataW H) → Nat
  | [] => 0
  | d :: r => uptoBulk d + uptoBulkAll r
def uptoBulkEntries {H : Type} : List (Lit × DataW H) → Nat
  | [] => 0
  | x :: r => uptoBulkEntry x + uptoBulkEntries r
def uptoBulkEntry {H : Type} : Lit × DataW H → Nat
  | (.string bytes, d) => bytes.length + uptoBulk d + 1
  | (_, d) => uptoBulk d + 1
 end
def uptoSmall : (H : Type) → List (DataW H) → Bool := fun _ ds => decide (uptoBulkAll ds ≤ 1048576)
def OpenSpec.upto (s : _root_.Go.ChangeSpec) : _root_.Go.OpenSpec := { _root_.Go.OpenSpec.ofChange s with cond := some uptoSmall }

/-- 'laws.FnExactIsDesk', WHERE WHAT IT READS IS OF BULK AT MOST 1048576: true; the input reads as it did. -/
def fnExactIsDeskUptoRow : OpenClaim := { program := "ytdelkgjgcdbipaa", sum := "b82d5e1d44c47579363185d07aab4f198515aebfaf61dcbb79915147ee55c7d4", func := "loop.example/g01371/laws.FnExactIsDesk", spec := "fnExactIsDesk", unfollowed := true, recurses := true, apart := false, narrowed := true }
def FnExactIsDeskUptoSaid : Prop := fnExactIsDeskUptoRow.holds Try.pinned (OpenSpec.upto fnExactIsDeskSpec)

/-- 'laws.FnExactImageOf', WHERE WHAT IT READS IS OF BULK AT MOST 1048576: true; the input reads as it did. -/
def fnExactImageOfUptoRow : OpenClaim := { program := "ytdelkgjgcdbipaa", sum := "b82d5e1d44c47579363185d07aab4f198515aebfaf61dcbb79915147ee55c7d4", func := "loop.example/g01371/laws.FnExactImageOf", spec := "fnExactImageOf", unfollowed := true, recurses := true, apart := false, narrowed := true }
def FnExactImageOfUptoSaid : Prop := fnExactImageOfUptoRow.holds Try.pinned (OpenSpec.upto fnExactImageOfSpec)

/-- 'laws.FnExactIsUniform', WHERE WHAT IT READS IS OF BULK AT MOST 1048576: true; the input reads as it did. -/
def fnExactIsUniformUptoRow : OpenClaim := { program := "ytdelkgjgcdbipaa", sum := "b82d5e1d44c47579363185d07aab4f198515aebfaf61dcbb79915147ee55c7d4", func := "loop.example/g01371/laws.FnExactIsUniform", spec := "fnExactIsUniform", unfollowed := true, recurses := true, apart := false, narrowed := true }
def FnExactIsUniformUptoSaid : Prop := fnExactIsUniformUptoRow.holds Try.pinned (OpenSpec.upto fnExactIsUniformSpec)

/-- 'laws.FnExactLongestAvoiding', WHERE WHAT IT READS IS OF BULK AT MOST 1048576: true; the input reads as it did. -/
def fnExactLongestAvoidingUptoRow : OpenClaim := { program := "ytdelkgjgcdbipaa", sum := "b82d5e1d44c47579363185d07aab4f198515aebfaf61dcbb79915147ee55c7d4", func := "loop.example/g01371/laws.FnExactLongestAvoiding", spec := "fnExactLongestAvoiding", unfollowed := true, recurses := true, apart := false, narrowed := true }
def FnExactLongestAvoidingUptoSaid : Prop := fnExactLongestAvoidingUptoRow.holds Try.pinned (OpenSpec.upto fnExactLongestAvoidingSpec)

/-- 'laws.FnExactIterateOf', WHERE WHAT IT READS IS OF BULK AT MOST 1048576: true; the input reads as it did. -/
def fnExactIterateOfUptoRow : OpenClaim := { program := "ytdelkgjgcdbipaa", sum := "b82d5e1d44c47579363185d07aab4f198515aebfaf61dcbb79915147ee55c7d4", func := "loop.example/g01371/laws.FnExactIterateOf", spec := "fnExactIterateOf", unfollowed := true, recurses := true, apart := false, narrowed := true }
def FnExactIterateOfUptoSaid : Prop := fnExactIterateOfUptoRow.holds Try.pinned (OpenSpec.upto fnExactIterateOfSpec)

/-- 'laws.FnExactAbelianSquares', WHERE WHAT IT READS IS OF BULK AT MOST 1048576: true; the input reads as it did. -/
def fnExactAbelianSquaresUptoRow : OpenClaim := { program := "ytdelkgjgcdbipaa", sum := "b82d5e1d44c47579363185d07aab4f198515aebfaf61dcbb79915147ee55c7d4", func := "loop.example/g01371/laws.FnExactAbelianSquares", spec := "fnExactAbelianSquares", unfollowed := true, recurses := true, apart := false, narrowed := true }
def FnExactAbelianSquaresUptoSaid : Prop := fnExactAbelianSquaresUptoRow.holds Try.pinned (OpenSpec.upto fnExactAbelianSquaresSpec)

/-- 'laws.FnExactTestLength', WHERE WHAT IT READS IS OF BULK AT MOST 1048576: true; the input reads as it did. -/
def fnExactTestLengthUptoRow : OpenClaim := { program := "ytdelkgjgcdbipaa", sum := "b82d5e1d44c47579363185d07aab4f198515aebfaf61dcbb79915147ee55c7d4", func := "loop.example/g01371/laws.FnExactTestLength", spec := "fnExactTestLength", unfollowed := true, recurses := true, apart := false, narrowed := true }
def FnExactTestLengthUptoSaid : Prop := fnExactTestLengthUptoRow.holds Try.pinned (OpenSpec.upto fnExactTestLengthSpec)

/-- 'laws.FnExactIsPrimitive', WHERE WHAT IT READS IS OF BULK AT MOST 1048576: true; the input reads as it did. -/
def fnExactIsPrimitiveUptoRow : OpenClaim := { program := "ytdelkgjgcdbipaa", sum := "b82d5e1d44c47579363185d07aab4f198515aebfaf61dcbb79915147ee55c7d4", func := "loop.example/g01371/laws.FnExactIsPrimitive", spec := "fnExactIsPrimitive", unfollowed := true, recurses := true, apart := false, narrowed := true }
def FnExactIsPrimitiveUptoSaid : Prop := fnExactIsPrimitiveUptoRow.holds Try.pinned (OpenSpec.upto fnExactIsPrimitiveSpec)

/-- 'laws.FnExactAbelianPowers', WHERE WHAT IT READS IS OF BULK AT MOST 1048576: true; the input reads as it did. -/
def fnExactAbelianPowersUptoRow : OpenClaim := { program := "ytdelkgjgcdbipaa", sum := "b82d5e1d44c47579363185d07aab4f198515aebfaf61dcbb79915147ee55c7d4", func := "loop.example/g01371/laws.FnExactAbelianPowers", spec := "fnExactAbelianPowers", unfollowed := true, recurses := true, apart := false, narrowed := true }
def FnExactAbelianPowersUptoSaid : Prop := fnExactAbelianPowersUptoRow.holds Try.pinned (OpenSpec.upto fnExactAbelianPowersSpec)

/-- 'laws.FnExactComposeMorphisms', WHERE WHAT IT READS IS OF BULK AT MOST 1048576: true; the input reads as it did. -/
def fnExactComposeMorphismsUptoRow : OpenClaim := { program := "ytdelkgjgcdbipaa", sum := "b82d5e1d44c47579363185d07aab4f198515aebfaf61dcbb79915147ee55c7d4", func := "loop.example/g01371/laws.FnExactComposeMorphisms", spec := "fnExactComposeMorphisms", unfollowed := true, recurses := true, apart := false, narrowed := true }
def FnExactComposeMorphismsUptoSaid : Prop := fnExactComposeMorphismsUptoRow.holds Try.pinned (OpenSpec.upto fnExactComposeMorphismsSpec)

/-- 'laws.FnExactWordFromImage', WHERE WHAT IT READS IS OF BULK AT MOST 1048576: true; the input reads as it did. -/
def fnExactWordFromImageUptoRow : OpenClaim := { program := "ytdelkgjgcdbipaa", sum := "b82d5e1d44c47579363185d07aab4f198515aebfaf61dcbb79915147ee55c7d4", func := "loop.example/g01371/laws.FnExactWordFromImage", spec := "fnExactWordFromImage", unfollowed := true, recurses := true, apart := false, narrowed := true }
def FnExactWordFromImageUptoSaid : Prop := fnExactWordFromImageUptoRow.holds Try.pinned (OpenSpec.upto fnExactWordFromImageSpec)

/-- 'laws.FnExactAbelianPeriods', WHERE WHAT IT READS IS OF BULK AT MOST 1048576: true; the input reads as it did. -/
def fnExactAbelianPeriodsUptoRow : OpenClaim := { program := "ytdelkgjgcdbipaa", sum := "b82d5e1d44c47579363185d07aab4f198515aebfaf61dcbb79915147ee55c7d4", func := "loop.example/g01371/laws.FnExactAbelianPeriods", spec := "fnExactAbelianPeriods", unfollowed := true, recurses := true, apart := false, narrowed := true }
def FnExactAbelianPeriodsUptoSaid : Prop := fnExactAbelianPeriodsUptoRow.holds Try.pinned (OpenSpec.upto fnExactAbelianPeriodsSpec)

end Rows
end Go.Proofs.Ytdelkgjgcdbipaa
