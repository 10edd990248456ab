/- The shelf's contract of '(*strings.Builder).String' at this program. -/
import Derived.Test.YtlelgpknkgjaeaaDoorShelfB
import Derived.Shelf.Strings.BuilderK
namespace Go.Proofs
open Go.Shelf Go.RowKit
end Go.Proofs
