/-
  No cell of these rows narrows 'for every input' (looked for: loops, veiled, ifaces, maps, wideKeys, modest, calm, conditions, laid).
  DERIVED. THE GIVEN ROWS OF THIS SEAT. 8 by the template 'for every input the law returns true; each argument reads behind the call as it read before'; 0 by the template 'total and deterministic' (their statements: YtbefijbmgmbphaaTotals.lean).
  GIVEN WITH THE SEED: the statements are not yours to turn. If you find one false, say at which input.
  Laid BY PROGRAM, IN A SANDBOX (cutbox-rows.mjs): the forced cells as the released guide's own fill.sh prints them over the translation 5c8e2c819bd83556… (all of the seat's roots in one cut). By AI agents, Wed Nov 11 2026. No macro, syntax, notation, axiom, sorry.
-/
import Derived.Test.YtbefijbmgmbphaaChecked
import GoSem.Claim
import GoSem.ClaimJoined
import GoSem.ClaimMapViews
import Derived.JoinedTies
import Derived.KernelRfl
namespace Go.Proofs.Ytbefijbmgmbphaa
/- THE CELL 'sum', in the pinned program and in every row, IS THE sha256 OF THE DUMP (.gsa) THAT YtbefijbmgmbphaaProg.lean LOADS. Nothing in Lean hashes anything: it is a label: what it is worth is what the hold of that sum in a sandbox is worth. -/
noncomputable def Try.pinned : Pinned := { name := "ytbefijbmgmbphaa", sum := "5c8e2c819bd835569166b34e15da76f8be3f4774402a4c4b04a0d7e19889d6a6", checked := Try.checked }
namespace Rows
def none {H : Type} : Left H := { results := [], args := [] }

/-- 'laws.FnTop': WHATEVER THE INPUT: true; the input reads as it did. -/
def fnTopSpec : ChangeSpec := { name := "fnTop", fn := fun _ => fun
  | [d] => { results := [.lit (.bool true)], args := [d] }
  | _ => none }
def fnTopRow : OpenClaim := { program := "ytbefijbmgmbphaa", sum := "5c8e2c819bd835569166b34e15da76f8be3f4774402a4c4b04a0d7e19889d6a6", func := "loop.example/g01371/laws.FnTop", spec := "fnTop", inPlace := ["internal/abi.NoEscape", "internal/bytealg.MakeNoZero"], unfollowed := true, recurses := true, apart := false }
def FnTopSaid : Prop := fnTopRow.holds Try.pinned (OpenSpec.ofChange fnTopSpec)

/-- ITS FALSE NEIGHBOUR: 'it returns false'. Refute it at one input. -/
def fnTopWrong : ChangeSpec := { name := "fnTop", fn := fun _ => fun
  | [d] => { results := [.lit (.bool false)], args := [d] }
  | _ => none }
def FnTopWrongFalsely : Prop := fnTopRow.holds Try.pinned (OpenSpec.ofChange fnTopWrong)

/-- 'laws.FnExactFirstPlace': WHATEVER THE INPUT: true; the input reads as it did. -/
def fnExactFirstPlaceSpec : ChangeSpec := { name := "fnExactFirstPlace", fn := fun _ => fun
  | [d1, d2] => { results := [.lit (.bool true)], args := [d1, d2] }
  | _ => none }
def fnExactFirstPlaceRow : OpenClaim := { program := "ytbefijbmgmbphaa", sum := "5c8e2c819bd835569166b34e15da76f8be3f4774402a4c4b04a0d7e19889d6a6", func := "loop.example/g01371/laws.FnExactFirstPlace", spec := "fnExactFirstPlace", unfollowed := true, recurses := true, apart := false }
def FnExactFirstPlaceSaid : Prop := fnExactFirstPlaceRow.holds Try.pinned (OpenSpec.ofChange fnExactFirstPlaceSpec)

/-- ITS FALSE NEIGHBOUR: 'it returns false'. Refute it at one input. -/
def fnExactFirstPlaceWrong : ChangeSpec := { name := "fnExactFirstPlace", fn := fun _ => fun
  | [d1, d2] => { results := [.lit (.bool false)], args := [d1, d2] }
  | _ => none }
def FnExactFirstPlaceWrongFalsely : Prop := fnExactFirstPlaceRow.holds Try.pinned (OpenSpec.ofChange fnExactFirstPlaceWrong)

/-- 'laws.FnSquareMakers': WHATEVER THE INPUT: true; the input reads as it did. -/
def fnSquareMakersSpec : ChangeSpec := { name := "fnSquareMakers", fn := fun _ => fun
  | [d] => { results := [.lit (.bool true)], args := [d] }
  | _ => none }
def fnSquareMakersRow : OpenClaim := { program := "ytbefijbmgmbphaa", sum := "5c8e2c819bd835569166b34e15da76f8be3f4774402a4c4b04a0d7e19889d6a6", func := "loop.example/g01371/laws.FnSquareMakers", spec := "fnSquareMakers", unfollowed := true, recurses := true, apart := false }
def FnSquareMakersSaid : Prop := fnSquareMakersRow.holds Try.pinned (OpenSpec.ofChange fnSquareMakersSpec)

/-- ITS FALSE NEIGHBOUR: 'it returns false'. Refute it at one input. -/
def fnSquareMakersWrong : ChangeSpec := { name := "fnSquareMakers", fn := fun _ => fun
  | [d] => { results := [.lit (.bool false)], args := [d] }
  | _ => none }
def FnSquareMakersWrongFalsely : Prop := fnSquareMakersRow.holds Try.pinned (OpenSpec.ofChange fnSquareMakersWrong)

/-- 'laws.FnPatterns': WHATEVER THE INPUT: true; the input reads as it did. -/
def fnPatternsSpec : ChangeSpec := { name := "fnPatterns", fn := fun _ => fun
  | [d] => { results := [.lit (.bool true)], args := [d] }
  | _ => none }
def fnPatternsRow : OpenClaim := { program := "ytbefijbmgmbphaa", sum := "5c8e2c819bd835569166b34e15da76f8be3f4774402a4c4b04a0d7e19889d6a6", func := "loop.example/g01371/laws.FnPatterns", spec := "fnPatterns", unfollowed := true, recurses := true, apart := false }
def FnPatternsSaid : Prop := fnPatternsRow.holds Try.pinned (OpenSpec.ofChange fnPatternsSpec)

/-- ITS FALSE NEIGHBOUR: 'it returns false'. Refute it at one input. -/
def fnPatternsWrong : ChangeSpec := { name := "fnPatterns", fn := fun _ => fun
  | [d] => { results := [.lit (.bool false)], args := [d] }
  | _ => none }
def FnPatternsWrongFalsely : Prop := fnPatternsRow.holds Try.pinned (OpenSpec.ofChange fnPatternsWrong)

/-- 'laws.FnExactSumsOf': WHATEVER THE INPUT: true; the input reads as it did. -/
def fnExactSumsOfSpec : ChangeSpec := { name := "fnExactSumsOf", fn := fun _ => fun
  | [d1, d2] => { results := [.lit (.bool true)], args := [d1, d2] }
  | _ => none }
def fnExactSumsOfRow : OpenClaim := { program := "ytbefijbmgmbphaa", sum := "5c8e2c819bd835569166b34e15da76f8be3f4774402a4c4b04a0d7e19889d6a6", func := "loop.example/g01371/laws.FnExactSumsOf", spec := "fnExactSumsOf", unfollowed := true, recurses := true, apart := false }
def FnExactSumsOfSaid : Prop := fnExactSumsOfRow.holds Try.pinned (OpenSpec.ofChange fnExactSumsOfSpec)

/-- ITS FALSE NEIGHBOUR: 'it returns false'. Refute it at one input. -/
def fnExactSumsOfWrong : ChangeSpec := { name := "fnExactSumsOf", fn := fun _ => fun
  | [d1, d2] => { results := [.lit (.bool false)], args := [d1, d2] }
  | _ => none }
def FnExactSumsOfWrongFalsely : Prop := fnExactSumsOfRow.holds Try.pinned (OpenSpec.ofChange fnExactSumsOfWrong)

/-- 'laws.FnExactBalancedWords': WHATEVER THE INPUT: true; the input reads as it did. -/
def fnExactBalancedWordsSpec : ChangeSpec := { name := "fnExactBalancedWords", fn := fun _ => fun
  | [d] => { results := [.lit (.bool true)], args := [d] }
  | _ => none }
def fnExactBalancedWordsRow : OpenClaim := { program := "ytbefijbmgmbphaa", sum := "5c8e2c819bd835569166b34e15da76f8be3f4774402a4c4b04a0d7e19889d6a6", func := "loop.example/g01371/laws.FnExactBalancedWords", spec := "fnExactBalancedWords", unfollowed := true, recurses := true, apart := false }
def FnExactBalancedWordsSaid : Prop := fnExactBalancedWordsRow.holds Try.pinned (OpenSpec.ofChange fnExactBalancedWordsSpec)

/-- ITS FALSE NEIGHBOUR: 'it returns false'. Refute it at one input. -/
def fnExactBalancedWordsWrong : ChangeSpec := { name := "fnExactBalancedWords", fn := fun _ => fun
  | [d] => { results := [.lit (.bool false)], args := [d] }
  | _ => none }
def FnExactBalancedWordsWrongFalsely : Prop := fnExactBalancedWordsRow.holds Try.pinned (OpenSpec.ofChange fnExactBalancedWordsWrong)

/-- 'laws.FnExactIsUnavoidable': WHATEVER THE INPUT: true; the input reads as it did. -/
def fnExactIsUnavoidableSpec : ChangeSpec := { name := "fnExactIsUnavoidable", fn := fun _ => fun
  | [d] => { results := [.lit (.bool true)], args := [d] }
  | _ => none }
def fnExactIsUnavoidableRow : OpenClaim := { program := "ytbefijbmgmbphaa", sum := "5c8e2c819bd835569166b34e15da76f8be3f4774402a4c4b04a0d7e19889d6a6", func := "loop.example/g01371/laws.FnExactIsUnavoidable", spec := "fnExactIsUnavoidable", unfollowed := true, recurses := true, apart := false }
def FnExactIsUnavoidableSaid : Prop := fnExactIsUnavoidableRow.holds Try.pinned (OpenSpec.ofChange fnExactIsUnavoidableSpec)

/-- ITS FALSE NEIGHBOUR: 'it returns false'. Refute it at one input. -/
def fnExactIsUnavoidableWrong : ChangeSpec := { name := "fnExactIsUnavoidable", fn := fun _ => fun
  | [d] => { results := [.lit (.bool false)], args := [d] }
  | _ => none }
def FnExactIsUnavoidableWrongFalsely : Prop := fnExactIsUnavoidableRow.holds Try.pinned (OpenSpec.ofChange fnExactIsUnavoidableWrong)

/-- 'laws.FnGrown': WHATEVER THE INPUT: true; the input reads as it did. -/
def fnGrownSpec : ChangeSpec := { name := "fnGrown", fn := fun _ => fun
  | [d] => { results := [.lit (.bool true)], args := [d] }
  | _ => none }
def fnGrownRow : OpenClaim := { program := "ytbefijbmgmbphaa", sum := "5c8e2c819bd835569166b34e15da76f8be3f4774402a4c4b04a0d7e19889d6a6", func := "loop.example/g01371/laws.FnGrown", spec := "fnGrown", inPlace := ["internal/bytealg.IndexByteString", "internal/bytealg.IndexString"], unfollowed := true, recurses := true, named := ["internal/bytealg.MaxLen"], apart := false }
def FnGrownSaid : Prop := fnGrownRow.holds Try.pinned (OpenSpec.ofChange fnGrownSpec)

/-- ITS FALSE NEIGHBOUR: 'it returns false'. Refute it at one input. -/
def fnGrownWrong : ChangeSpec := { name := "fnGrown", fn := fun _ => fun
  | [d] => { results := [.lit (.bool false)], args := [d] }
  | _ => none }
def FnGrownWrongFalsely : Prop := fnGrownRow.holds Try.pinned (OpenSpec.ofChange fnGrownWrong)

/- THE SECOND FORM. 'bulk': how many values and letters a reading holds, each counted each time it is reached (what is shared counts as often as it is met; a slice's spare places count too). A statement '..UptoSaid' is the law's where the arguments, and the package variables that the reading takes, are together of bulk at most 1048576: NARROWER than '..Said'. Prove '..Said' where nothing that the law and all that it calls make is longer than what came in: it says more and counts as full. Else prove '..UptoSaid'. A law counts once. -/
mutual
def uptoBulk {H : Type} : DataW H → Nat
  | .lit (.string bytes) => bytes.length + 1
  | .lit _ => 1
  | .nil => 1
  | .ptr d => uptoBulk d + 1
  | .slice elems spare => uptoBulkAll elems + uptoBulkAll spare + 1
  | .agg parts => uptoBulkAll parts + 1
  | .iface _ d => uptoBulk d + 1
  | .map entries => uptoBulkEntries entries + 1
  | .held _ => 1
def uptoBulkAll {H : Type} : List (DataW H) → Nat
  | [] => 0
  | d :: r => uptoBulk d + uptoBulkAll r
def uptoBulkEntries {H : Type} : List (Lit × DataW H) → Nat
  | [] => 0
  | x :: r => uptoBulkEntry x + uptoBulkEntries r
def uptoBulkEntry {H : Type} : Lit × DataW H → Nat
  | (.string bytes, d) => bytes.length + uptoBulk d + 1
  | (_, d) => uptoBulk d + 1
 end
def uptoSmall : (H : Type) → List (DataW H) → Bool := fun _ ds => decide (uptoBulkAll ds ≤ 1048576)
def OpenSpec.upto (s : _root_.Go.ChangeSpec) : _root_.Go.OpenSpec := { _root_.Go.OpenSpec.ofChange s with cond := some uptoSmall }

/-- 'laws.FnTop', WHERE WHAT IT READS IS OF BULK AT MOST 1048576: true; the input reads as it did. -/
def fnTopUptoRow : OpenClaim := { program := "ytbefijbmgmbphaa", sum := "5c8e2c819bd835569166b34e15da76f8be3f4774402a4c4b04a0d7e19889d6a6", func := "loop.example/g01371/laws.FnTop", spec := "fnTop", inPlace := ["internal/abi.NoEscape", "internal/bytealg.MakeNoZero"], unfollowed := true, recurses := true, apart := false, narrowed := true }
def FnTopUptoSaid : Prop := fnTopUptoRow.holds Try.pinned (OpenSpec.upto fnTopSpec)

/-- 'laws.FnExactFirstPlace', WHERE WHAT IT READS IS OF BULK AT MOST 1048576: true; the input reads as it did. -/
def fnExactFirstPlaceUptoRow : OpenClaim := { program := "ytbefijbmgmbphaa", sum := "5c8e2c819bd835569166b34e15da76f8be3f4774402a4c4b04a0d7e19889d6a6", func := "loop.example/g01371/laws.FnExactFirstPlace", spec := "fnExactFirstPlace", unfollowed := true, recurses := true, apart := false, narrowed := true }
def FnExactFirstPlaceUptoSaid : Prop := fnExactFirstPlaceUptoRow.holds Try.pinned (OpenSpec.upto fnExactFirstPlaceSpec)

/-- 'laws.FnSquareMakers', WHERE WHAT IT READS IS OF BULK AT MOST 1048576: true; the input reads as it did. -/
def fnSquareMakersUptoRow : OpenClaim := { program := "ytbefijbmgmbphaa", sum := "5c8e2c819bd835569166b34e15da76f8be3f4774402a4c4b04a0d7e19889d6a6", func := "loop.example/g01371/laws.FnSquareMakers", spec := "fnSquareMakers", unfollowed := true, recurses := true, apart := false, narrowed := true }
def FnSquareMakersUptoSaid : Prop := fnSquareMakersUptoRow.holds Try.pinned (OpenSpec.upto fnSquareMakersSpec)

/-- 'laws.FnPatterns', WHERE WHAT IT READS IS OF BULK AT MOST 1048576: true; the input reads as it did. -/
def fnPatternsUptoRow : OpenClaim := { program := "ytbefijbmgmbphaa", sum := "5c8e2c819bd835569166b34e15da76f8be3f4774402a4c4b04a0d7e19889d6a6", func := "loop.example/g01371/laws.FnPatterns", spec := "fnPatterns", unfollowed := true, recurses := true, apart := false, narrowed := true }
def FnPatternsUptoSaid : Prop := fnPatternsUptoRow.holds Try.pinned (OpenSpec.upto fnPatternsSpec)

/-- 'laws.FnExactSumsOf', WHERE WHAT IT READS IS OF BULK AT MOST 1048576: true; the input reads as it did. -/
def fnExactSumsOfUptoRow : OpenClaim := { program := "ytbefijbmgmbphaa", sum := "5c8e2c819bd835569166b34e15da76f8be3f4774402a4c4b04a0d7e19889d6a6", func := "loop.example/g01371/laws.FnExactSumsOf", spec := "fnExactSumsOf", unfollowed := true, recurses := true, apart := false, narrowed := true }
def FnExactSumsOfUptoSaid : Prop := fnExactSumsOfUptoRow.holds Try.pinned (OpenSpec.upto fnExactSumsOfSpec)

/-- 'laws.FnExactBalancedWords', WHERE WHAT IT READS IS OF BULK AT MOST 1048576: true; the input reads as it did. -/
def fnExactBalancedWordsUptoRow : OpenClaim := { program := "ytbefijbmgmbphaa", sum := "5c8e2c819bd835569166b34e15da76f8be3f4774402a4c4b04a0d7e19889d6a6", func := "loop.example/g01371/laws.FnExactBalancedWords", spec := "fnExactBalancedWords", unfollowed := true, recurses := true, apart := false, narrowed := true }
def FnExactBalancedWordsUptoSaid : Prop := fnExactBalancedWordsUptoRow.holds Try.pinned (OpenSpec.upto fnExactBalancedWordsSpec)

/-- 'laws.FnExactIsUnavoidable', WHERE WHAT IT READS IS OF BULK AT MOST 1048576: true; the input reads as it did. -/
def fnExactIsUnavoidableUptoRow : OpenClaim := { program := "ytbefijbmgmbphaa", sum := "5c8e2c819bd835569166b34e15da76f8be3f4774402a4c4b04a0d7e19889d6a6", func := "loop.example/g01371/laws.FnExactIsUnavoidable", spec := "fnExactIsUnavoidable", unfollowed := true, recurses := true, apart := false, narrowed := true }
def FnExactIsUnavoidableUptoSaid : Prop := fnExactIsUnavoidableUptoRow.holds Try.pinned (OpenSpec.upto fnExactIsUnavoidableSpec)

/-- 'laws.FnGrown', WHERE WHAT IT READS IS OF BULK AT MOST 1048576: true; the input reads as it did. -/
def fnGrownUptoRow : OpenClaim := { program := "ytbefijbmgmbphaa", sum := "5c8e2c819bd835569166b34e15da76f8be3f4774402a4c4b04a0d7e19889d6a6", func := "loop.example/g01371/laws.FnGrown", spec := "fnGrown", inPlace := ["internal/bytealg.IndexByteString", "internal/bytealg.IndexString"], unfollowed := true, recurses := true, named := ["internal/bytealg.MaxLen"], apart := false, narrowed := true }
def FnGrownUptoSaid : Prop := fnGrownUptoRow.holds Try.pinned (OpenSpec.upto fnGrownSpec)

end Rows
end Go.Proofs.Ytbefijbmgmbphaa
