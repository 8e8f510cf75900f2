/- Part PFacts of the proof: The closed facts of the row, each by itself. -/
import Derived.Test.YtnmkmfancgcaeaaGreatDoorRows
import Derived.ProofKit
import Derived.KernelRfl
set_option linter.all false
/- The closed facts of the row, each by itself. -/
namespace Go.Proofs.YtnmkmfancgcaeaaGreatDoor.fnExactFoldProgDone
open Go.ChangeShapes Go.WideShapes Go.ChangeAt Go.RowKit
theorem named:Tryz.prog.funcNamed Rows.fnExactFoldProgRow.func=some 4:=by kernel_rfl
set_option maxHeartbeats 8000000 in
theorem facts:joinedFacts Tryz.prog 4 Tryz.f4 Rows.fnExactFoldProgSpec Rows.fnExactFoldProgRow=true:=by
 unfold joinedFacts;simp only[Bool.and_eq_true]
 repeat' apply And.intro
 all_goals (as_aux_lemma=>kernel_rfl)
end Go.Proofs.YtnmkmfancgcaeaaGreatDoor.fnExactFoldProgDone
