/- Contracts: at and has of the program's fields. -/
import Derived.Test.YtkhhloeemecokaaFld
import Derived.Deep.QuietTactic
import Derived.BigQuiet
namespace Go.Proofs.Ytkhhloeemecokaa
open Go.RowKit
set_option linter.unusedVariables false



end Go.Proofs.Ytkhhloeemecokaa
