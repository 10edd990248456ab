/- No law of the shelf is wanted here. -/
import Derived.Lib.Repeat
import Derived.Test.YtlelgpknkgjaeaaDoorProg
namespace Go.Proofs
end Go.Proofs
