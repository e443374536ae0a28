/- Laws: morphisms. -/
import Derived.Test.YtdelkgjgcdbipaaC13
namespace Go.Proofs.Ytdelkgjgcdbipaa
open Go
set_option linter.unusedSimpArgs false
set_option linter.unusedVariables false

end Go.Proofs.Ytdelkgjgcdbipaa
