/- Part PD11 of the proof: Avs: the rule itself. -/
import Derived.Test.YtnmkmfancgcaeaaGreatDoorPD10
set_option linter.all false
/- Avs: the rule itself. -/
namespace Go.Gv
open Go.Av
variable {P:Program} {ts:Nat->Option TI} {ops:Array Oper} {C:Ctx} {O:Ops} {σ:AS} {Q:Exit->AS->Prop}
end Go.Gv
namespace Go.Gv
open Go.Av
variable {P:Program} {ts:Nat->Option TI} {ops:Array Oper} {C:Ctx} {O:Ops} {σ:AS} {Q:Exit->AS->Prop}
end Go.Gv
