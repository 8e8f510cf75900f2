/- Part PD10 of the proof: Avs: the rule for such regions. -/
import Derived.Test.YtnmkmfancgcaeaaGreatDoorPD9
set_option linter.all false
/- Avs: the rule for such regions. -/
namespace Go.Gv
open Go.Av
variable {P:Program} {ts:Nat->Option TI} {ops:Array Oper} {C:Ctx} {Q:Exit->Act->World->Prop} {base:Nat}
theorem run_store {a:Act} {w:World} {t:TypeId} {p x:Operand} {g o:Nat} {row:Array Value} (hp:a.eval p=.pointer (some ⟨g,o,none⟩)) (h:(storeVar t ⟨g,o,none⟩ (a.eval x)).run P w=.ok () (w.setRow g row)) (dst:Option Tmp) (type:TypeId) (pos:String) (after:Array Edge) (guard:Option (Nat×Bool)) :
  (execOp a.eval ⟨dst,.store t p x,type,pos,after,guard⟩).run P w=.ok .skip (w.setRow g row):=by
 simp only[execOp,hp,Instr.storeAt,Instr.sureAddr,pure_bind];simp only[Sem.run_bind,h]
 rfl
end Go.Gv
