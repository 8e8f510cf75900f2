/- Part N4 of the proof: contracts of functions of the program, each walked once. -/
import Derived.Test.YtnmkmfancgcaeaaGreatDoorN2
import Derived.Test.YtnmkmfancgcaeaaGreatDoorN3
set_option linter.all false
namespace Go.Gv
open Go.Av Go.Proofs
set_option maxRecDepth 10000
set_option maxHeartbeats 8000000
variable {I:∀{α:Type},α->α}
section
variable (hI:II @I) (y:Sm)
include hI
variable (hs:y.s.size<=1048576) (ht:y.tt.size<=1048576)
include hs ht
end
end Go.Gv
