/-
  No cell of these rows narrows 'for every input' (looked for: loops, veiled, ifaces, maps, wideKeys, modest, calm, conditions, laid).
  DERIVED. THE GIVEN ROWS OF THIS SEAT. 9 by the template 'for every input the law returns true; each argument reads behind the call as it read before'; 0 by the template 'total and deterministic' (their statements: YtncpooklejiphaaTotals.lean).
  GIVEN WITH THE SEED: the statements are not yours to turn. If you find one false, say at which input.
  Laid BY PROGRAM, IN A SANDBOX (cutbox-rows.mjs): the forced cells as the released guide's own fill.sh prints them over the translation 5e83bd44cc186220… (all of the seat's roots in one cut). By AI agents, Wed Nov 11 2026. No macro, syntax, notation, axiom, sorry.
-/
import Derived.Test.YtncpooklejiphaaChecked
import GoSem.Claim
import GoSem.ClaimJoined
import GoSem.ClaimMapViews
import Derived.JoinedTies
import Derived.KernelRfl
namespace Go.Proofs.Ytncpooklejiphaa
/- THE CELL 'sum', in the pinned program and in every row, IS THE sha256 OF THE DUMP (.gsa) THAT YtncpooklejiphaaProg.lean LOADS. Nothing in Lean hashes anything: it is a label: what it is worth is what the hold of that sum in a sandbox is worth. -/
noncomputable def Try.pinned : Pinned := { name := "ytncpooklejiphaa", sum := "5e83bd44cc1862201adac9609d5386e1796178303ca0341ab5f761e4c95a287f", checked := Try.checked }
namespace Rows
def none {H : Type} : Left H := { results := [], args := [] }

/-- 'laws.FnExactMorphismText': WHATEVER THE INPUT: true; the input reads as it did. -/
def fnExactMorphismTextSpec : ChangeSpec := { name := "fnExactMorphismText", fn := fun _ => fun
  | [d] => { results := [.lit (.bool true)], args := [d] }
  | _ => none }
def fnExactMorphismTextRow : OpenClaim := { program := "ytncpooklejiphaa", sum := "5e83bd44cc1862201adac9609d5386e1796178303ca0341ab5f761e4c95a287f", func := "loop.example/g01371/laws.FnExactMorphismText", spec := "fnExactMorphismText", inPlace := ["internal/abi.NoEscape", "internal/bytealg.MakeNoZero"], unfollowed := true, recurses := true, apart := false }
def FnExactMorphismTextSaid : Prop := fnExactMorphismTextRow.holds Try.pinned (OpenSpec.ofChange fnExactMorphismTextSpec)

/-- ITS FALSE NEIGHBOUR: 'it returns false'. Refute it at one input. -/
def fnExactMorphismTextWrong : ChangeSpec := { name := "fnExactMorphismText", fn := fun _ => fun
  | [d] => { results := [.lit (.bool false)], args := [d] }
  | _ => none }
def FnExactMorphismTextWrongFalsely : Prop := fnExactMorphismTextRow.holds Try.pinned (OpenSpec.ofChange fnExactMorphismTextWrong)

/-- 'laws.FnExactMatrixOf': WHATEVER THE INPUT: true; the input reads as it did. -/
def fnExactMatrixOfSpec : ChangeSpec := { name := "fnExactMatrixOf", fn := fun _ => fun
  | [d] => { results := [.lit (.bool true)], args := [d] }
  | _ => none }
def fnExactMatrixOfRow : OpenClaim := { program := "ytncpooklejiphaa", sum := "5e83bd44cc1862201adac9609d5386e1796178303ca0341ab5f761e4c95a287f", func := "loop.example/g01371/laws.FnExactMatrixOf", spec := "fnExactMatrixOf", unfollowed := true, recurses := true, apart := false }
def FnExactMatrixOfSaid : Prop := fnExactMatrixOfRow.holds Try.pinned (OpenSpec.ofChange fnExactMatrixOfSpec)

/-- ITS FALSE NEIGHBOUR: 'it returns false'. Refute it at one input. -/
def fnExactMatrixOfWrong : ChangeSpec := { name := "fnExactMatrixOf", fn := fun _ => fun
  | [d] => { results := [.lit (.bool false)], args := [d] }
  | _ => none }
def FnExactMatrixOfWrongFalsely : Prop := fnExactMatrixOfRow.holds Try.pinned (OpenSpec.ofChange fnExactMatrixOfWrong)

/-- 'laws.FnExactLengthsAfter': WHATEVER THE INPUT: true; the input reads as it did. -/
def fnExactLengthsAfterSpec : ChangeSpec := { name := "fnExactLengthsAfter", fn := fun _ => fun
  | [d1, d2, d3] => { results := [.lit (.bool true)], args := [d1, d2, d3] }
  | _ => none }
def fnExactLengthsAfterRow : OpenClaim := { program := "ytncpooklejiphaa", sum := "5e83bd44cc1862201adac9609d5386e1796178303ca0341ab5f761e4c95a287f", func := "loop.example/g01371/laws.FnExactLengthsAfter", spec := "fnExactLengthsAfter", unfollowed := true, recurses := true, apart := false }
def FnExactLengthsAfterSaid : Prop := fnExactLengthsAfterRow.holds Try.pinned (OpenSpec.ofChange fnExactLengthsAfterSpec)

/-- ITS FALSE NEIGHBOUR: 'it returns false'. Refute it at one input. -/
def fnExactLengthsAfterWrong : ChangeSpec := { name := "fnExactLengthsAfter", fn := fun _ => fun
  | [d1, d2, d3] => { results := [.lit (.bool false)], args := [d1, d2, d3] }
  | _ => none }
def FnExactLengthsAfterWrongFalsely : Prop := fnExactLengthsAfterRow.holds Try.pinned (OpenSpec.ofChange fnExactLengthsAfterWrong)

/-- 'laws.FnExactFirstSquareMaker': WHATEVER THE INPUT: true; the input reads as it did. -/
def fnExactFirstSquareMakerSpec : ChangeSpec := { name := "fnExactFirstSquareMaker", fn := fun _ => fun
  | [d] => { results := [.lit (.bool true)], args := [d] }
  | _ => none }
def fnExactFirstSquareMakerRow : OpenClaim := { program := "ytncpooklejiphaa", sum := "5e83bd44cc1862201adac9609d5386e1796178303ca0341ab5f761e4c95a287f", func := "loop.example/g01371/laws.FnExactFirstSquareMaker", spec := "fnExactFirstSquareMaker", unfollowed := true, recurses := true, apart := false }
def FnExactFirstSquareMakerSaid : Prop := fnExactFirstSquareMakerRow.holds Try.pinned (OpenSpec.ofChange fnExactFirstSquareMakerSpec)

/-- ITS FALSE NEIGHBOUR: 'it returns false'. Refute it at one input. -/
def fnExactFirstSquareMakerWrong : ChangeSpec := { name := "fnExactFirstSquareMaker", fn := fun _ => fun
  | [d] => { results := [.lit (.bool false)], args := [d] }
  | _ => none }
def FnExactFirstSquareMakerWrongFalsely : Prop := fnExactFirstSquareMakerRow.holds Try.pinned (OpenSpec.ofChange fnExactFirstSquareMakerWrong)

/-- 'laws.FnExactFirstPlace': WHATEVER THE INPUT: true; the input reads as it did. -/
def fnExactFirstPlaceSpec : ChangeSpec := { name := "fnExactFirstPlace", fn := fun _ => fun
  | [d1, d2] => { results := [.lit (.bool true)], args := [d1, d2] }
  | _ => none }
def fnExactFirstPlaceRow : OpenClaim := { program := "ytncpooklejiphaa", sum := "5e83bd44cc1862201adac9609d5386e1796178303ca0341ab5f761e4c95a287f", func := "loop.example/g01371/laws.FnExactFirstPlace", spec := "fnExactFirstPlace", unfollowed := true, recurses := true, apart := false }
def FnExactFirstPlaceSaid : Prop := fnExactFirstPlaceRow.holds Try.pinned (OpenSpec.ofChange fnExactFirstPlaceSpec)

/-- ITS FALSE NEIGHBOUR: 'it returns false'. Refute it at one input. -/
def fnExactFirstPlaceWrong : ChangeSpec := { name := "fnExactFirstPlace", fn := fun _ => fun
  | [d1, d2] => { results := [.lit (.bool false)], args := [d1, d2] }
  | _ => none }
def FnExactFirstPlaceWrongFalsely : Prop := fnExactFirstPlaceRow.holds Try.pinned (OpenSpec.ofChange fnExactFirstPlaceWrong)

/-- 'laws.FnExactGrownWord': WHATEVER THE INPUT: true; the input reads as it did. -/
def fnExactGrownWordSpec : ChangeSpec := { name := "fnExactGrownWord", fn := fun _ => fun
  | [d1, d2, d3] => { results := [.lit (.bool true)], args := [d1, d2, d3] }
  | _ => none }
def fnExactGrownWordRow : OpenClaim := { program := "ytncpooklejiphaa", sum := "5e83bd44cc1862201adac9609d5386e1796178303ca0341ab5f761e4c95a287f", func := "loop.example/g01371/laws.FnExactGrownWord", spec := "fnExactGrownWord", inPlace := ["internal/bytealg.IndexByteString", "internal/bytealg.IndexString"], unfollowed := true, recurses := true, named := ["internal/bytealg.MaxLen"], apart := false }
def FnExactGrownWordSaid : Prop := fnExactGrownWordRow.holds Try.pinned (OpenSpec.ofChange fnExactGrownWordSpec)

/-- ITS FALSE NEIGHBOUR: 'it returns false'. Refute it at one input. -/
def fnExactGrownWordWrong : ChangeSpec := { name := "fnExactGrownWord", fn := fun _ => fun
  | [d1, d2, d3] => { results := [.lit (.bool false)], args := [d1, d2, d3] }
  | _ => none }
def FnExactGrownWordWrongFalsely : Prop := fnExactGrownWordRow.holds Try.pinned (OpenSpec.ofChange fnExactGrownWordWrong)

/-- 'laws.FnSquareMakers': WHATEVER THE INPUT: true; the input reads as it did. -/
def fnSquareMakersSpec : ChangeSpec := { name := "fnSquareMakers", fn := fun _ => fun
  | [d] => { results := [.lit (.bool true)], args := [d] }
  | _ => none }
def fnSquareMakersRow : OpenClaim := { program := "ytncpooklejiphaa", sum := "5e83bd44cc1862201adac9609d5386e1796178303ca0341ab5f761e4c95a287f", func := "loop.example/g01371/laws.FnSquareMakers", spec := "fnSquareMakers", unfollowed := true, recurses := true, apart := false }
def FnSquareMakersSaid : Prop := fnSquareMakersRow.holds Try.pinned (OpenSpec.ofChange fnSquareMakersSpec)

/-- ITS FALSE NEIGHBOUR: 'it returns false'. Refute it at one input. -/
def fnSquareMakersWrong : ChangeSpec := { name := "fnSquareMakers", fn := fun _ => fun
  | [d] => { results := [.lit (.bool false)], args := [d] }
  | _ => none }
def FnSquareMakersWrongFalsely : Prop := fnSquareMakersRow.holds Try.pinned (OpenSpec.ofChange fnSquareMakersWrong)

/-- 'laws.FnExactBalanceOf': WHATEVER THE INPUT: true; the input reads as it did. -/
def fnExactBalanceOfSpec : ChangeSpec := { name := "fnExactBalanceOf", fn := fun _ => fun
  | [d] => { results := [.lit (.bool true)], args := [d] }
  | _ => none }
def fnExactBalanceOfRow : OpenClaim := { program := "ytncpooklejiphaa", sum := "5e83bd44cc1862201adac9609d5386e1796178303ca0341ab5f761e4c95a287f", func := "loop.example/g01371/laws.FnExactBalanceOf", spec := "fnExactBalanceOf", unfollowed := true, recurses := true, apart := false }
def FnExactBalanceOfSaid : Prop := fnExactBalanceOfRow.holds Try.pinned (OpenSpec.ofChange fnExactBalanceOfSpec)

/-- ITS FALSE NEIGHBOUR: 'it returns false'. Refute it at one input. -/
def fnExactBalanceOfWrong : ChangeSpec := { name := "fnExactBalanceOf", fn := fun _ => fun
  | [d] => { results := [.lit (.bool false)], args := [d] }
  | _ => none }
def FnExactBalanceOfWrongFalsely : Prop := fnExactBalanceOfRow.holds Try.pinned (OpenSpec.ofChange fnExactBalanceOfWrong)

/-- 'laws.FnExactIsBalancedWord': WHATEVER THE INPUT: true; the input reads as it did. -/
def fnExactIsBalancedWordSpec : ChangeSpec := { name := "fnExactIsBalancedWord", fn := fun _ => fun
  | [d] => { results := [.lit (.bool true)], args := [d] }
  | _ => none }
def fnExactIsBalancedWordRow : OpenClaim := { program := "ytncpooklejiphaa", sum := "5e83bd44cc1862201adac9609d5386e1796178303ca0341ab5f761e4c95a287f", func := "loop.example/g01371/laws.FnExactIsBalancedWord", spec := "fnExactIsBalancedWord", unfollowed := true, recurses := true, apart := false }
def FnExactIsBalancedWordSaid : Prop := fnExactIsBalancedWordRow.holds Try.pinned (OpenSpec.ofChange fnExactIsBalancedWordSpec)

/-- ITS FALSE NEIGHBOUR: 'it returns false'. Refute it at one input. -/
def fnExactIsBalancedWordWrong : ChangeSpec := { name := "fnExactIsBalancedWord", fn := fun _ => fun
  | [d] => { results := [.lit (.bool false)], args := [d] }
  | _ => none }
def FnExactIsBalancedWordWrongFalsely : Prop := fnExactIsBalancedWordRow.holds Try.pinned (OpenSpec.ofChange fnExactIsBalancedWordWrong)

/- THE SECOND FORM. 'bulk': how many values and letters a reading holds, each counted each time it is reached (what is shared counts as often as it is met; a slice's spare places count too). A statement '..UptoSaid' is the law's where the arguments, and the package variables that the reading takes, are together of bulk at most 1048576: NARROWER than '..Said'. Prove '..Said' where nothing that the law and all that it calls make is longer than what came in: it says more and counts as full. Else prove '..UptoSaid'. A law counts once. -/
mutual
def uptoBulk {H : Type} : DataW H → Nat
  | .lit (.string bytes) => bytes.length + 1
  | .lit _ => 1
  | .nil => 1
  | .ptr d => uptoBulk d + 1
  | .slice elems spare => uptoBulkAll elems + uptoBulkAll spare + 1
  | .agg parts => uptoBulkAll parts + 1
  | .iface _ d => uptoBulk d + 1
  | .map entries => uptoBulkEntries entries + 1
  | .held _ => 1
def uptoBulkAll {H : Type} : List (DataW H) → Nat
  | [] => 0
  | d :: r => uptoBulk d + uptoBulkAll r
def uptoBulkEntries {H : Type} : List (Lit × DataW H) → Nat
  | [] => 0
  | x :: r => uptoBulkEntry x + uptoBulkEntries r
def uptoBulkEntry {H : Type} : Lit × DataW H → Nat
  | (.string bytes, d) => bytes.length + uptoBulk d + 1
  | (_, d) => uptoBulk d + 1
 end
def uptoSmall : (H : Type) → List (DataW H) → Bool := fun _ ds => decide (uptoBulkAll ds ≤ 1048576)
def OpenSpec.upto (s : _root_.Go.ChangeSpec) : _root_.Go.OpenSpec := { _root_.Go.OpenSpec.ofChange s with cond := some uptoSmall }

/-- 'laws.FnExactMorphismText', WHERE WHAT IT READS IS OF BULK AT MOST 1048576: true; the input reads as it did. -/
def fnExactMorphismTextUptoRow : OpenClaim := { program := "ytncpooklejiphaa", sum := "5e83bd44cc1862201adac9609d5386e1796178303ca0341ab5f761e4c95a287f", func := "loop.example/g01371/laws.FnExactMorphismText", spec := "fnExactMorphismText", inPlace := ["internal/abi.NoEscape", "internal/bytealg.MakeNoZero"], unfollowed := true, recurses := true, apart := false, narrowed := true }
def FnExactMorphismTextUptoSaid : Prop := fnExactMorphismTextUptoRow.holds Try.pinned (OpenSpec.upto fnExactMorphismTextSpec)

/-- 'laws.FnExactMatrixOf', WHERE WHAT IT READS IS OF BULK AT MOST 1048576: true; the input reads as it did. -/
def fnExactMatrixOfUptoRow : OpenClaim := { program := "ytncpooklejiphaa", sum := "5e83bd44cc1862201adac9609d5386e1796178303ca0341ab5f761e4c95a287f", func := "loop.example/g01371/laws.FnExactMatrixOf", spec := "fnExactMatrixOf", unfollowed := true, recurses := true, apart := false, narrowed := true }
def FnExactMatrixOfUptoSaid : Prop := fnExactMatrixOfUptoRow.holds Try.pinned (OpenSpec.upto fnExactMatrixOfSpec)

/-- 'laws.FnExactLengthsAfter', WHERE WHAT IT READS IS OF BULK AT MOST 1048576: true; the input reads as it did. -/
def fnExactLengthsAfterUptoRow : OpenClaim := { program := "ytncpooklejiphaa", sum := "5e83bd44cc1862201adac9609d5386e1796178303ca0341ab5f761e4c95a287f", func := "loop.example/g01371/laws.FnExactLengthsAfter", spec := "fnExactLengthsAfter", unfollowed := true, recurses := true, apart := false, narrowed := true }
def FnExactLengthsAfterUptoSaid : Prop := fnExactLengthsAfterUptoRow.holds Try.pinned (OpenSpec.upto fnExactLengthsAfterSpec)

/-- 'laws.FnExactFirstSquareMaker', WHERE WHAT IT READS IS OF BULK AT MOST 1048576: true; the input reads as it did. -/
def fnExactFirstSquareMakerUptoRow : OpenClaim := { program := "ytncpooklejiphaa", sum := "5e83bd44cc1862201adac9609d5386e1796178303ca0341ab5f761e4c95a287f", func := "loop.example/g01371/laws.FnExactFirstSquareMaker", spec := "fnExactFirstSquareMaker", unfollowed := true, recurses := true, apart := false, narrowed := true }
def FnExactFirstSquareMakerUptoSaid : Prop := fnExactFirstSquareMakerUptoRow.holds Try.pinned (OpenSpec.upto fnExactFirstSquareMakerSpec)

/-- 'laws.FnExactFirstPlace', WHERE WHAT IT READS IS OF BULK AT MOST 1048576: true; the input reads as it did. -/
def fnExactFirstPlaceUptoRow : OpenClaim := { program := "ytncpooklejiphaa", sum := "5e83bd44cc1862201adac9609d5386e1796178303ca0341ab5f761e4c95a287f", func := "loop.example/g01371/laws.FnExactFirstPlace", spec := "fnExactFirstPlace", unfollowed := true, recurses := true, apart := false, narrowed := true }
def FnExactFirstPlaceUptoSaid : Prop := fnExactFirstPlaceUptoRow.holds Try.pinned (OpenSpec.upto fnExactFirstPlaceSpec)

/-- 'laws.FnExactGrownWord', WHERE WHAT IT READS IS OF BULK AT MOST 1048576: true; the input reads as it did. -/
def fnExactGrownWordUptoRow : OpenClaim := { program := "ytncpooklejiphaa", sum := "5e83bd44cc1862201adac9609d5386e1796178303ca0341ab5f761e4c95a287f", func := "loop.example/g01371/laws.FnExactGrownWord", spec := "fnExactGrownWord", inPlace := ["internal/bytealg.IndexByteString", "internal/bytealg.IndexString"], unfollowed := true, recurses := true, named := ["internal/bytealg.MaxLen"], apart := false, narrowed := true }
def FnExactGrownWordUptoSaid : Prop := fnExactGrownWordUptoRow.holds Try.pinned (OpenSpec.upto fnExactGrownWordSpec)

/-- 'laws.FnSquareMakers', WHERE WHAT IT READS IS OF BULK AT MOST 1048576: true; the input reads as it did. -/
def fnSquareMakersUptoRow : OpenClaim := { program := "ytncpooklejiphaa", sum := "5e83bd44cc1862201adac9609d5386e1796178303ca0341ab5f761e4c95a287f", func := "loop.example/g01371/laws.FnSquareMakers", spec := "fnSquareMakers", unfollowed := true, recurses := true, apart := false, narrowed := true }
def FnSquareMakersUptoSaid : Prop := fnSquareMakersUptoRow.holds Try.pinned (OpenSpec.upto fnSquareMakersSpec)

/-- 'laws.FnExactBalanceOf', WHERE WHAT IT READS IS OF BULK AT MOST 1048576: true; the input reads as it did. -/
def fnExactBalanceOfUptoRow : OpenClaim := { program := "ytncpooklejiphaa", sum := "5e83bd44cc1862201adac9609d5386e1796178303ca0341ab5f761e4c95a287f", func := "loop.example/g01371/laws.FnExactBalanceOf", spec := "fnExactBalanceOf", unfollowed := true, recurses := true, apart := false, narrowed := true }
def FnExactBalanceOfUptoSaid : Prop := fnExactBalanceOfUptoRow.holds Try.pinned (OpenSpec.upto fnExactBalanceOfSpec)

/-- 'laws.FnExactIsBalancedWord', WHERE WHAT IT READS IS OF BULK AT MOST 1048576: true; the input reads as it did. -/
def fnExactIsBalancedWordUptoRow : OpenClaim := { program := "ytncpooklejiphaa", sum := "5e83bd44cc1862201adac9609d5386e1796178303ca0341ab5f761e4c95a287f", func := "loop.example/g01371/laws.FnExactIsBalancedWord", spec := "fnExactIsBalancedWord", unfollowed := true, recurses := true, apart := false, narrowed := true }
def FnExactIsBalancedWordUptoSaid : Prop := fnExactIsBalancedWordUptoRow.holds Try.pinned (OpenSpec.upto fnExactIsBalancedWordSpec)

end Rows
end Go.Proofs.Ytncpooklejiphaa
