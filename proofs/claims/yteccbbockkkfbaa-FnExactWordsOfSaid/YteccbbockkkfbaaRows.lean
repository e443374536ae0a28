/-
  No cell of these rows narrows 'for every input' (looked for: loops, veiled, ifaces, maps, wideKeys, modest, calm, conditions, laid).
  DERIVED. THE GIVEN ROWS OF THIS SEAT. 12 by the template 'for every input the law returns true; each argument reads behind the call as it read before'; 0 by the template 'total and deterministic' (their statements: YteccbbockkkfbaaTotals.lean).
  GIVEN WITH THE SEED: the statements are not yours to turn. If you find one false, say at which input.
  Laid BY PROGRAM, IN A SANDBOX (cutbox-rows.mjs): the forced cells as the released guide's own fill.sh prints them over the translation db6900c779c2a50c… (all of the seat's roots in one cut). By AI agents, Wed Nov 11 2026. No macro, syntax, notation, axiom, sorry.
-/
import Derived.Test.YteccbbockkkfbaaChecked
import GoSem.Claim
import GoSem.ClaimJoined
import GoSem.ClaimMapViews
import Derived.JoinedTies
import Derived.KernelRfl
namespace Go.Proofs.Yteccbbockkkfbaa
/- THE CELL 'sum', in the pinned program and in every row, IS THE sha256 OF THE DUMP (.gsa) THAT YteccbbockkkfbaaProg.lean LOADS. Nothing in Lean hashes anything: it is a label: what it is worth is what the hold of that sum in a sandbox is worth. -/
noncomputable def Try.pinned : Pinned := { name := "yteccbbockkkfbaa", sum := "db6900c779c2a50c99ee5b639d718b2540f0fb0a3a8394d9527f0204a7b69f88", checked := Try.checked }
namespace Rows
def none {H : Type} : Left H := { results := [], args := [] }

/-- 'laws.FnExactNamedWord': WHATEVER THE INPUT: true; the input reads as it did. -/
def fnExactNamedWordSpec : ChangeSpec := { name := "fnExactNamedWord", fn := fun _ => fun
  | [d1, d2] => { results := [.lit (.bool true)], args := [d1, d2] }
  | _ => none }
def fnExactNamedWordRow : OpenClaim := { program := "yteccbbockkkfbaa", sum := "db6900c779c2a50c99ee5b639d718b2540f0fb0a3a8394d9527f0204a7b69f88", func := "loop.example/g01371/laws.FnExactNamedWord", spec := "fnExactNamedWord", apart := false }
def FnExactNamedWordSaid : Prop := fnExactNamedWordRow.holds Try.pinned (OpenSpec.ofChange fnExactNamedWordSpec)

/-- ITS FALSE NEIGHBOUR: 'it returns false'. Refute it at one input. -/
def fnExactNamedWordWrong : ChangeSpec := { name := "fnExactNamedWord", fn := fun _ => fun
  | [d1, d2] => { results := [.lit (.bool false)], args := [d1, d2] }
  | _ => none }
def FnExactNamedWordWrongFalsely : Prop := fnExactNamedWordRow.holds Try.pinned (OpenSpec.ofChange fnExactNamedWordWrong)

/-- 'laws.FnExactNewDesk': WHATEVER THE INPUT: true; the input reads as it did. -/
def fnExactNewDeskSpec : ChangeSpec := { name := "fnExactNewDesk", fn := fun _ => fun
  | [] => { results := [.lit (.bool true)], args := [] }
  | _ => none }
def fnExactNewDeskRow : OpenClaim := { program := "yteccbbockkkfbaa", sum := "db6900c779c2a50c99ee5b639d718b2540f0fb0a3a8394d9527f0204a7b69f88", func := "loop.example/g01371/laws.FnExactNewDesk", spec := "fnExactNewDesk", apart := false }
def FnExactNewDeskSaid : Prop := fnExactNewDeskRow.holds Try.pinned (OpenSpec.ofChange fnExactNewDeskSpec)

/-- ITS FALSE NEIGHBOUR: 'it returns false'. Refute it at one input. -/
def fnExactNewDeskWrong : ChangeSpec := { name := "fnExactNewDesk", fn := fun _ => fun
  | [] => { results := [.lit (.bool false)], args := [] }
  | _ => none }
def FnExactNewDeskWrongFalsely : Prop := fnExactNewDeskRow.holds Try.pinned (OpenSpec.ofChange fnExactNewDeskWrong)

/-- 'laws.FnExactAreAlike': WHATEVER THE INPUT: true; the input reads as it did. -/
def fnExactAreAlikeSpec : ChangeSpec := { name := "fnExactAreAlike", fn := fun _ => fun
  | [d1, d2] => { results := [.lit (.bool true)], args := [d1, d2] }
  | _ => none }
def fnExactAreAlikeRow : OpenClaim := { program := "yteccbbockkkfbaa", sum := "db6900c779c2a50c99ee5b639d718b2540f0fb0a3a8394d9527f0204a7b69f88", func := "loop.example/g01371/laws.FnExactAreAlike", spec := "fnExactAreAlike", unfollowed := true, recurses := true, apart := false }
def FnExactAreAlikeSaid : Prop := fnExactAreAlikeRow.holds Try.pinned (OpenSpec.ofChange fnExactAreAlikeSpec)

/-- ITS FALSE NEIGHBOUR: 'it returns false'. Refute it at one input. -/
def fnExactAreAlikeWrong : ChangeSpec := { name := "fnExactAreAlike", fn := fun _ => fun
  | [d1, d2] => { results := [.lit (.bool false)], args := [d1, d2] }
  | _ => none }
def FnExactAreAlikeWrongFalsely : Prop := fnExactAreAlikeRow.holds Try.pinned (OpenSpec.ofChange fnExactAreAlikeWrong)

/-- 'laws.FnExactLettersOf': WHATEVER THE INPUT: true; the input reads as it did. -/
def fnExactLettersOfSpec : ChangeSpec := { name := "fnExactLettersOf", fn := fun _ => fun
  | [d] => { results := [.lit (.bool true)], args := [d] }
  | _ => none }
def fnExactLettersOfRow : OpenClaim := { program := "yteccbbockkkfbaa", sum := "db6900c779c2a50c99ee5b639d718b2540f0fb0a3a8394d9527f0204a7b69f88", func := "loop.example/g01371/laws.FnExactLettersOf", spec := "fnExactLettersOf", unfollowed := true, recurses := true, apart := false }
def FnExactLettersOfSaid : Prop := fnExactLettersOfRow.holds Try.pinned (OpenSpec.ofChange fnExactLettersOfSpec)

/-- ITS FALSE NEIGHBOUR: 'it returns false'. Refute it at one input. -/
def fnExactLettersOfWrong : ChangeSpec := { name := "fnExactLettersOf", fn := fun _ => fun
  | [d] => { results := [.lit (.bool false)], args := [d] }
  | _ => none }
def FnExactLettersOfWrongFalsely : Prop := fnExactLettersOfRow.holds Try.pinned (OpenSpec.ofChange fnExactLettersOfWrong)

/-- 'laws.FnExactCountAlike': WHATEVER THE INPUT: true; the input reads as it did. -/
def fnExactCountAlikeSpec : ChangeSpec := { name := "fnExactCountAlike", fn := fun _ => fun
  | [d] => { results := [.lit (.bool true)], args := [d] }
  | _ => none }
def fnExactCountAlikeRow : OpenClaim := { program := "yteccbbockkkfbaa", sum := "db6900c779c2a50c99ee5b639d718b2540f0fb0a3a8394d9527f0204a7b69f88", func := "loop.example/g01371/laws.FnExactCountAlike", spec := "fnExactCountAlike", unfollowed := true, recurses := true, apart := false }
def FnExactCountAlikeSaid : Prop := fnExactCountAlikeRow.holds Try.pinned (OpenSpec.ofChange fnExactCountAlikeSpec)

/-- ITS FALSE NEIGHBOUR: 'it returns false'. Refute it at one input. -/
def fnExactCountAlikeWrong : ChangeSpec := { name := "fnExactCountAlike", fn := fun _ => fun
  | [d] => { results := [.lit (.bool false)], args := [d] }
  | _ => none }
def FnExactCountAlikeWrongFalsely : Prop := fnExactCountAlikeRow.holds Try.pinned (OpenSpec.ofChange fnExactCountAlikeWrong)

/-- 'laws.FnExactCountLetters': WHATEVER THE INPUT: true; the input reads as it did. -/
def fnExactCountLettersSpec : ChangeSpec := { name := "fnExactCountLetters", fn := fun _ => fun
  | [d] => { results := [.lit (.bool true)], args := [d] }
  | _ => none }
def fnExactCountLettersRow : OpenClaim := { program := "yteccbbockkkfbaa", sum := "db6900c779c2a50c99ee5b639d718b2540f0fb0a3a8394d9527f0204a7b69f88", func := "loop.example/g01371/laws.FnExactCountLetters", spec := "fnExactCountLetters", unfollowed := true, recurses := true, apart := false }
def FnExactCountLettersSaid : Prop := fnExactCountLettersRow.holds Try.pinned (OpenSpec.ofChange fnExactCountLettersSpec)

/-- ITS FALSE NEIGHBOUR: 'it returns false'. Refute it at one input. -/
def fnExactCountLettersWrong : ChangeSpec := { name := "fnExactCountLetters", fn := fun _ => fun
  | [d] => { results := [.lit (.bool false)], args := [d] }
  | _ => none }
def FnExactCountLettersWrongFalsely : Prop := fnExactCountLettersRow.holds Try.pinned (OpenSpec.ofChange fnExactCountLettersWrong)

/-- 'laws.FnTop': WHATEVER THE INPUT: true; the input reads as it did. -/
def fnTopSpec : ChangeSpec := { name := "fnTop", fn := fun _ => fun
  | [d] => { results := [.lit (.bool true)], args := [d] }
  | _ => none }
def fnTopRow : OpenClaim := { program := "yteccbbockkkfbaa", sum := "db6900c779c2a50c99ee5b639d718b2540f0fb0a3a8394d9527f0204a7b69f88", func := "loop.example/g01371/laws.FnTop", spec := "fnTop", inPlace := ["internal/abi.NoEscape", "internal/bytealg.MakeNoZero"], unfollowed := true, recurses := true, apart := false }
def FnTopSaid : Prop := fnTopRow.holds Try.pinned (OpenSpec.ofChange fnTopSpec)

/-- ITS FALSE NEIGHBOUR: 'it returns false'. Refute it at one input. -/
def fnTopWrong : ChangeSpec := { name := "fnTop", fn := fun _ => fun
  | [d] => { results := [.lit (.bool false)], args := [d] }
  | _ => none }
def FnTopWrongFalsely : Prop := fnTopRow.holds Try.pinned (OpenSpec.ofChange fnTopWrong)

/-- 'laws.FnExactRenameLetters': WHATEVER THE INPUT: true; the input reads as it did. -/
def fnExactRenameLettersSpec : ChangeSpec := { name := "fnExactRenameLetters", fn := fun _ => fun
  | [d1, d2] => { results := [.lit (.bool true)], args := [d1, d2] }
  | _ => none }
def fnExactRenameLettersRow : OpenClaim := { program := "yteccbbockkkfbaa", sum := "db6900c779c2a50c99ee5b639d718b2540f0fb0a3a8394d9527f0204a7b69f88", func := "loop.example/g01371/laws.FnExactRenameLetters", spec := "fnExactRenameLetters", unfollowed := true, recurses := true, apart := false }
def FnExactRenameLettersSaid : Prop := fnExactRenameLettersRow.holds Try.pinned (OpenSpec.ofChange fnExactRenameLettersSpec)

/-- ITS FALSE NEIGHBOUR: 'it returns false'. Refute it at one input. -/
def fnExactRenameLettersWrong : ChangeSpec := { name := "fnExactRenameLetters", fn := fun _ => fun
  | [d1, d2] => { results := [.lit (.bool false)], args := [d1, d2] }
  | _ => none }
def FnExactRenameLettersWrongFalsely : Prop := fnExactRenameLettersRow.holds Try.pinned (OpenSpec.ofChange fnExactRenameLettersWrong)

/-- 'laws.FnExactWordsOf': WHATEVER THE INPUT: true; the input reads as it did. -/
def fnExactWordsOfSpec : ChangeSpec := { name := "fnExactWordsOf", fn := fun _ => fun
  | [d1, d2] => { results := [.lit (.bool true)], args := [d1, d2] }
  | _ => none }
def fnExactWordsOfRow : OpenClaim := { program := "yteccbbockkkfbaa", sum := "db6900c779c2a50c99ee5b639d718b2540f0fb0a3a8394d9527f0204a7b69f88", func := "loop.example/g01371/laws.FnExactWordsOf", spec := "fnExactWordsOf", apart := false }
def FnExactWordsOfSaid : Prop := fnExactWordsOfRow.holds Try.pinned (OpenSpec.ofChange fnExactWordsOfSpec)

/-- ITS FALSE NEIGHBOUR: 'it returns false'. Refute it at one input. -/
def fnExactWordsOfWrong : ChangeSpec := { name := "fnExactWordsOf", fn := fun _ => fun
  | [d1, d2] => { results := [.lit (.bool false)], args := [d1, d2] }
  | _ => none }
def FnExactWordsOfWrongFalsely : Prop := fnExactWordsOfRow.holds Try.pinned (OpenSpec.ofChange fnExactWordsOfWrong)

/-- 'laws.FnExactIsMorphism': WHATEVER THE INPUT: true; the input reads as it did. -/
def fnExactIsMorphismSpec : ChangeSpec := { name := "fnExactIsMorphism", fn := fun _ => fun
  | [d] => { results := [.lit (.bool true)], args := [d] }
  | _ => none }
def fnExactIsMorphismRow : OpenClaim := { program := "yteccbbockkkfbaa", sum := "db6900c779c2a50c99ee5b639d718b2540f0fb0a3a8394d9527f0204a7b69f88", func := "loop.example/g01371/laws.FnExactIsMorphism", spec := "fnExactIsMorphism", unfollowed := true, recurses := true, apart := false }
def FnExactIsMorphismSaid : Prop := fnExactIsMorphismRow.holds Try.pinned (OpenSpec.ofChange fnExactIsMorphismSpec)

/-- ITS FALSE NEIGHBOUR: 'it returns false'. Refute it at one input. -/
def fnExactIsMorphismWrong : ChangeSpec := { name := "fnExactIsMorphism", fn := fun _ => fun
  | [d] => { results := [.lit (.bool false)], args := [d] }
  | _ => none }
def FnExactIsMorphismWrongFalsely : Prop := fnExactIsMorphismRow.holds Try.pinned (OpenSpec.ofChange fnExactIsMorphismWrong)

/-- 'laws.FnExactFirstAbelianFree': WHATEVER THE INPUT: true; the input reads as it did. -/
def fnExactFirstAbelianFreeSpec : ChangeSpec := { name := "fnExactFirstAbelianFree", fn := fun _ => fun
  | [d1, d2, d3] => { results := [.lit (.bool true)], args := [d1, d2, d3] }
  | _ => none }
def fnExactFirstAbelianFreeRow : OpenClaim := { program := "yteccbbockkkfbaa", sum := "db6900c779c2a50c99ee5b639d718b2540f0fb0a3a8394d9527f0204a7b69f88", func := "loop.example/g01371/laws.FnExactFirstAbelianFree", spec := "fnExactFirstAbelianFree", unfollowed := true, recurses := true, apart := false }
def FnExactFirstAbelianFreeSaid : Prop := fnExactFirstAbelianFreeRow.holds Try.pinned (OpenSpec.ofChange fnExactFirstAbelianFreeSpec)

/-- ITS FALSE NEIGHBOUR: 'it returns false'. Refute it at one input. -/
def fnExactFirstAbelianFreeWrong : ChangeSpec := { name := "fnExactFirstAbelianFree", fn := fun _ => fun
  | [d1, d2, d3] => { results := [.lit (.bool false)], args := [d1, d2, d3] }
  | _ => none }
def FnExactFirstAbelianFreeWrongFalsely : Prop := fnExactFirstAbelianFreeRow.holds Try.pinned (OpenSpec.ofChange fnExactFirstAbelianFreeWrong)

/-- 'laws.FnExactIsAbelianFree': WHATEVER THE INPUT: true; the input reads as it did. -/
def fnExactIsAbelianFreeSpec : ChangeSpec := { name := "fnExactIsAbelianFree", fn := fun _ => fun
  | [d1, d2] => { results := [.lit (.bool true)], args := [d1, d2] }
  | _ => none }
def fnExactIsAbelianFreeRow : OpenClaim := { program := "yteccbbockkkfbaa", sum := "db6900c779c2a50c99ee5b639d718b2540f0fb0a3a8394d9527f0204a7b69f88", func := "loop.example/g01371/laws.FnExactIsAbelianFree", spec := "fnExactIsAbelianFree", unfollowed := true, recurses := true, apart := false }
def FnExactIsAbelianFreeSaid : Prop := fnExactIsAbelianFreeRow.holds Try.pinned (OpenSpec.ofChange fnExactIsAbelianFreeSpec)

/-- ITS FALSE NEIGHBOUR: 'it returns false'. Refute it at one input. -/
def fnExactIsAbelianFreeWrong : ChangeSpec := { name := "fnExactIsAbelianFree", fn := fun _ => fun
  | [d1, d2] => { results := [.lit (.bool false)], args := [d1, d2] }
  | _ => none }
def FnExactIsAbelianFreeWrongFalsely : Prop := fnExactIsAbelianFreeRow.holds Try.pinned (OpenSpec.ofChange fnExactIsAbelianFreeWrong)

/- THE SECOND FORM. 'bulk': how many values and letters a reading holds, each counted each time it is reached (what is shared counts as often as it is met; a slice's spare places count too). A statement '..UptoSaid' is the law's where the arguments, and the package variables that the reading takes, are together of bulk at most 1048576: NARROWER than '..Said'. Prove '..Said' where nothing that the law and all that it calls make is longer than what came in: it says more and counts as full. Else prove '..UptoSaid'. A law counts once. -/
mutual
def uptoBulk {H : Type} : DataW H → Nat
  | .lit (.string bytes) => bytes.length + 1
  | .lit _ => 1
  | .nil => 1
  | .ptr d => uptoBulk d + 1
  | .slice elems spare => uptoBulkAll elems + uptoBulkAll spare + 1
  | .agg parts => uptoBulkAll parts + 1
  | .iface _ d => uptoBulk d + 1
  | .map entries => uptoBulkEntries entries + 1
  | .held _ => 1
def uptoBulkAll {H : Type} : List (DataW H) → Nat
  | [] => 0
  | d :: r => uptoBulk d + uptoBulkAll r
def uptoBulkEntries {H : Type} : List (Lit × DataW H) → Nat
  | [] => 0
  | x :: r => uptoBulkEntry x + uptoBulkEntries r
def uptoBulkEntry {H : Type} : Lit × DataW H → Nat
  | (.string bytes, d) => bytes.length + uptoBulk d + 1
  | (_, d) => uptoBulk d + 1
 end
def uptoSmall : (H : Type) → List (DataW H) → Bool := fun _ ds => decide (uptoBulkAll ds ≤ 1048576)
def OpenSpec.upto (s : _root_.Go.ChangeSpec) : _root_.Go.OpenSpec := { _root_.Go.OpenSpec.ofChange s with cond := some uptoSmall }

/-- 'laws.FnExactNamedWord', WHERE WHAT IT READS IS OF BULK AT MOST 1048576: true; the input reads as it did. -/
def fnExactNamedWordUptoRow : OpenClaim := { program := "yteccbbockkkfbaa", sum := "db6900c779c2a50c99ee5b639d718b2540f0fb0a3a8394d9527f0204a7b69f88", func := "loop.example/g01371/laws.FnExactNamedWord", spec := "fnExactNamedWord", apart := false, narrowed := true }
def FnExactNamedWordUptoSaid : Prop := fnExactNamedWordUptoRow.holds Try.pinned (OpenSpec.upto fnExactNamedWordSpec)

/-- 'laws.FnExactNewDesk', WHERE WHAT IT READS IS OF BULK AT MOST 1048576: true; the input reads as it did. -/
def fnExactNewDeskUptoRow : OpenClaim := { program := "yteccbbockkkfbaa", sum := "db6900c779c2a50c99ee5b639d718b2540f0fb0a3a8394d9527f0204a7b69f88", func := "loop.example/g01371/laws.FnExactNewDesk", spec := "fnExactNewDesk", apart := false, narrowed := true }
def FnExactNewDeskUptoSaid : Prop := fnExactNewDeskUptoRow.holds Try.pinned (OpenSpec.upto fnExactNewDeskSpec)

/-- 'laws.FnExactAreAlike', WHERE WHAT IT READS IS OF BULK AT MOST 1048576: true; the input reads as it did. -/
def fnExactAreAlikeUptoRow : OpenClaim := { program := "yteccbbockkkfbaa", sum := "db6900c779c2a50c99ee5b639d718b2540f0fb0a3a8394d9527f0204a7b69f88", func := "loop.example/g01371/laws.FnExactAreAlike", spec := "fnExactAreAlike", unfollowed := true, recurses := true, apart := false, narrowed := true }
def FnExactAreAlikeUptoSaid : Prop := fnExactAreAlikeUptoRow.holds Try.pinned (OpenSpec.upto fnExactAreAlikeSpec)

/-- 'laws.FnExactLettersOf', WHERE WHAT IT READS IS OF BULK AT MOST 1048576: true; the input reads as it did. -/
def fnExactLettersOfUptoRow : OpenClaim := { program := "yteccbbockkkfbaa", sum := "db6900c779c2a50c99ee5b639d718b2540f0fb0a3a8394d9527f0204a7b69f88", func := "loop.example/g01371/laws.FnExactLettersOf", spec := "fnExactLettersOf", unfollowed := true, recurses := true, apart := false, narrowed := true }
def FnExactLettersOfUptoSaid : Prop := fnExactLettersOfUptoRow.holds Try.pinned (OpenSpec.upto fnExactLettersOfSpec)

/-- 'laws.FnExactCountAlike', WHERE WHAT IT READS IS OF BULK AT MOST 1048576: true; the input reads as it did. -/
def fnExactCountAlikeUptoRow : OpenClaim := { program := "yteccbbockkkfbaa", sum := "db6900c779c2a50c99ee5b639d718b2540f0fb0a3a8394d9527f0204a7b69f88", func := "loop.example/g01371/laws.FnExactCountAlike", spec := "fnExactCountAlike", unfollowed := true, recurses := true, apart := false, narrowed := true }
def FnExactCountAlikeUptoSaid : Prop := fnExactCountAlikeUptoRow.holds Try.pinned (OpenSpec.upto fnExactCountAlikeSpec)

/-- 'laws.FnExactCountLetters', WHERE WHAT IT READS IS OF BULK AT MOST 1048576: true; the input reads as it did. -/
def fnExactCountLettersUptoRow : OpenClaim := { program := "yteccbbockkkfbaa", sum := "db6900c779c2a50c99ee5b639d718b2540f0fb0a3a8394d9527f0204a7b69f88", func := "loop.example/g01371/laws.FnExactCountLetters", spec := "fnExactCountLetters", unfollowed := true, recurses := true, apart := false, narrowed := true }
def FnExactCountLettersUptoSaid : Prop := fnExactCountLettersUptoRow.holds Try.pinned (OpenSpec.upto fnExactCountLettersSpec)

/-- 'laws.FnTop', WHERE WHAT IT READS IS OF BULK AT MOST 1048576: true; the input reads as it did. -/
def fnTopUptoRow : OpenClaim := { program := "yteccbbockkkfbaa", sum := "db6900c779c2a50c99ee5b639d718b2540f0fb0a3a8394d9527f0204a7b69f88", func := "loop.example/g01371/laws.FnTop", spec := "fnTop", inPlace := ["internal/abi.NoEscape", "internal/bytealg.MakeNoZero"], unfollowed := true, recurses := true, apart := false, narrowed := true }
def FnTopUptoSaid : Prop := fnTopUptoRow.holds Try.pinned (OpenSpec.upto fnTopSpec)

/-- 'laws.FnExactRenameLetters', WHERE WHAT IT READS IS OF BULK AT MOST 1048576: true; the input reads as it did. -/
def fnExactRenameLettersUptoRow : OpenClaim := { program := "yteccbbockkkfbaa", sum := "db6900c779c2a50c99ee5b639d718b2540f0fb0a3a8394d9527f0204a7b69f88", func := "loop.example/g01371/laws.FnExactRenameLetters", spec := "fnExactRenameLetters", unfollowed := true, recurses := true, apart := false, narrowed := true }
def FnExactRenameLettersUptoSaid : Prop := fnExactRenameLettersUptoRow.holds Try.pinned (OpenSpec.upto fnExactRenameLettersSpec)

/-- 'laws.FnExactWordsOf', WHERE WHAT IT READS IS OF BULK AT MOST 1048576: true; the input reads as it did. -/
def fnExactWordsOfUptoRow : OpenClaim := { program := "yteccbbockkkfbaa", sum := "db6900c779c2a50c99ee5b639d718b2540f0fb0a3a8394d9527f0204a7b69f88", func := "loop.example/g01371/laws.FnExactWordsOf", spec := "fnExactWordsOf", apart := false, narrowed := true }
def FnExactWordsOfUptoSaid : Prop := fnExactWordsOfUptoRow.holds Try.pinned (OpenSpec.upto fnExactWordsOfSpec)

/-- 'laws.FnExactIsMorphism', WHERE WHAT IT READS IS OF BULK AT MOST 1048576: true; the input reads as it did. -/
def fnExactIsMorphismUptoRow : OpenClaim := { program := "yteccbbockkkfbaa", sum := "db6900c779c2a50c99ee5b639d718b2540f0fb0a3a8394d9527f0204a7b69f88", func := "loop.example/g01371/laws.FnExactIsMorphism", spec := "fnExactIsMorphism", unfollowed := true, recurses := true, apart := false, narrowed := true }
def FnExactIsMorphismUptoSaid : Prop := fnExactIsMorphismUptoRow.holds Try.pinned (OpenSpec.upto fnExactIsMorphismSpec)

/-- 'laws.FnExactFirstAbelianFree', WHERE WHAT IT READS IS OF BULK AT MOST 1048576: true; the input reads as it did. -/
def fnExactFirstAbelianFreeUptoRow : OpenClaim := { program := "yteccbbockkkfbaa", sum := "db6900c779c2a50c99ee5b639d718b2540f0fb0a3a8394d9527f0204a7b69f88", func := "loop.example/g01371/laws.FnExactFirstAbelianFree", spec := "fnExactFirstAbelianFree", unfollowed := true, recurses := true, apart := false, narrowed := true }
def FnExactFirstAbelianFreeUptoSaid : Prop := fnExactFirstAbelianFreeUptoRow.holds Try.pinned (OpenSpec.upto fnExactFirstAbelianFreeSpec)

/-- 'laws.FnExactIsAbelianFree', WHERE WHAT IT READS IS OF BULK AT MOST 1048576: true; the input reads as it did. -/
def fnExactIsAbelianFreeUptoRow : OpenClaim := { program := "yteccbbockkkfbaa", sum := "db6900c779c2a50c99ee5b639d718b2540f0fb0a3a8394d9527f0204a7b69f88", func := "loop.example/g01371/laws.FnExactIsAbelianFree", spec := "fnExactIsAbelianFree", unfollowed := true, recurses := true, apart := false, narrowed := true }
def FnExactIsAbelianFreeUptoSaid : Prop := fnExactIsAbelianFreeUptoRow.holds Try.pinned (OpenSpec.upto fnExactIsAbelianFreeSpec)

end Rows
end Go.Proofs.Yteccbbockkkfbaa
