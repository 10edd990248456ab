/- The laws' helpers over one record: 'to..', 'sz..'. -/
import Derived.Test.YtlelgpknkgjaeaaGreatDoorInt
namespace Go.Proofs.YtlelgpknkgjaeaaGreatDoor
open Go.ChangeShapes Go.WideShapes Go.ChangeAt Go.RowKit
set_option linter.unusedVariables false
set_option linter.unusedSimpArgs false

end Go.Proofs.YtlelgpknkgjaeaaGreatDoor
