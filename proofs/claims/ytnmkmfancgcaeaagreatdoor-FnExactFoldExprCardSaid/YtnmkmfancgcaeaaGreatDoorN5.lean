/- Part N5 of the proof: contracts of functions of the program, each walked once. -/
import Derived.Test.YtnmkmfancgcaeaaGreatDoorN4
import Derived.Test.YtnmkmfancgcaeaaGreatDoorD7
import Derived.Test.YtnmkmfancgcaeaaGreatDoorD13
set_option linter.all false
namespace Go.Gv
open Go.Av Go.Proofs
set_option maxRecDepth 10000
set_option maxHeartbeats 8000000
variable {I:∀{α:Type},α->α}
section
variable (hI:II @I)
include hI
end
open Go.Av Go.Proofs Go.Shelf Go.RowKit
end Go.Gv
