/- Part Facts of the proof: The closed facts of the row, each by itself. -/
import Derived.Test.YtomgmhbmchidnaaGreatRows
import Derived.ProofKit
import Derived.KernelRfl
set_option linter.all false
/- The closed facts of the row, each by itself. -/
namespace Go.Proofs.YtomgmhbmchidnaaGreat.fnExactGenBlockDone
open Go.ChangeShapes Go.WideShapes Go.ChangeAt Go.RowKit
theorem named:Tryz.prog.funcNamed Rows.fnExactGenBlockRow.func=some 3:=by kernel_rfl
set_option maxHeartbeats 8000000 in
theorem facts:joinedFacts Tryz.prog 3 Tryz.f3 Rows.fnExactGenBlockSpec Rows.fnExactGenBlockRow=true:=by
 unfold joinedFacts;simp only[Bool.and_eq_true]
 repeat' apply And.intro
 all_goals (as_aux_lemma=>kernel_rfl)
end Go.Proofs.YtomgmhbmchidnaaGreat.fnExactGenBlockDone
