/- Part PD8 of the proof: Avs: a region whose last two stores are in no order. -/
import Derived.Test.YtnmkmfancgcaeaaGreatDoorPD5
set_option linter.all false
/- Avs: a region whose last two stores are in no order. -/
namespace Go.Gv
open Go.Av
variable {P:Program} {ts:Nat->Option TI} {ops:Array Oper} {C:Ctx} {Q:Exit->Act->World->Prop} {base:Nat}
end Go.Gv
