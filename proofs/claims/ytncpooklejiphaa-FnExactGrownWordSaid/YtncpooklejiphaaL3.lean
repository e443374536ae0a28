/- Laws: morphisms. -/
import Derived.Test.YtncpooklejiphaaC13
namespace Go.Proofs.Ytncpooklejiphaa
open Go
set_option linter.unusedSimpArgs false
set_option linter.unusedVariables false

end Go.Proofs.Ytncpooklejiphaa
