/- strings.Builder at this program: 'copyCheck', 'WriteString' of a builder of the calls' own (after the shelf's own proofs over any program; here at this dump, whose copyCheck lacks the panic's text). -/
import Derived.Test.YtlelgpknkgjaeaaInt
import Derived.Lib.Builder
import Derived.Lib.AppendStr
import Derived.Lib.Strings
import Derived.Laws.Externs
import Derived.OwnWalk
namespace Go.Proofs.Ytlelgpknkgjaeaa
open Go.ChangeShapes Go.WideShapes Go.ChangeAt Go.RowKit
set_option maxRecDepth 20000
set_option linter.unusedSimpArgs false
set_option linter.unusedVariables false

end Go.Proofs.Ytlelgpknkgjaeaa
