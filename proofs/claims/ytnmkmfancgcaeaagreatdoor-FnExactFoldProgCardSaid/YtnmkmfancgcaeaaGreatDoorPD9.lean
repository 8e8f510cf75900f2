/- Part PD9 of the proof: Avs: the last two stores of a region, in whatever order. -/
import Derived.Test.YtnmkmfancgcaeaaGreatDoorPD8
set_option linter.all false
/- Avs: the last two stores of a region, in whatever order. -/
namespace Go.Av
variable {P:Program} {C:Ctx} {X:List Nat} {σ σ1:AS} {a:Act} {w:World} {base i:Nat}
end Go.Av
