/- Proved: Rows.FnExactCountedSaid: whatever machine it is given, laws.FnExactCounted returns true, and it reads behind the call as it read before. There is no condition. -/
import Derived.Test.YtjobmglbjcaopaaH5
import Derived.Test.YtjobmglbjcaopaaL1
import Derived.Test.YtjobmglbjcaopaaRows

namespace Go.Proofs.Ytjobmglbjcaopaa.fnExactCountedDone
open Go.ChangeShapes Go.WideShapes Go.ChangeAt Go.RowKit
set_option linter.unusedVariables false

theorem own : ownKnob Try.prog.godebug = none := by kernel_rfl
theorem laidOut : laidOutB Try.prog = true := by kernel_rfl
theorem plain : Go.Gv.plainSet Try.prog [3, 4, 5, 9, 22, 24, 25, 26, 27, 28, 30, 31, 33, 89, 91, 93, 94, 95, 97, 115, 117, 136, 138, 142, 146] = true := by kernel_rfl

set_option maxRecDepth 100000 in
theorem lifted (os : Os) (started : os.Started) (H : Type) (enc : TypeId × Value → H) :
    ReturnsInHanded {} Try.checked os 4 .any (Rows.fnExactCountedSpec.pre6 enc Try.prog Try.f4 Rows.fnExactCountedRow.domain false) (Rows.fnExactCountedSpec.post enc Try.prog Try.f4 false true false false) := by
  refine returnsInHanded_of_change (C := Try.checked) own started (by kernel_rfl) Try.func4
    (ChangeSpec.witness6 (enc := enc) (C := Try.checked) false ⟨#[], #[.agg #[.slice none 0 0, .slice none 0 0, .slice none 0 0, .slice none 0 0, .string ⟨#[]⟩, .slice none 0 0, .int .i64 0, .slice none 0 0, .int .i64 0, .int .i64 0, .int .i64 0, .int .i64 0, .bool false]], []⟩ 12 (by kernel_rfl) (by kernel_rfl) (by kernel_rfl) (by kernel_rfl)) ?_
  intro W base args ds gs before hval0 hW hcnd _
  have hval : ∀ (j : Nat) t v, Try.f4.params[j]? = some t → args[j]? = some v → Value.okWide Try.prog W .any base t v := hval0
  have hW' := hW
  obtain ⟨p, q, hA0, hV, rfl, hfz, hnd⟩ := hW
  have hA : DataW.TrodAll enc Try.prog W 0 (fun _ => true) true Try.f4.params.toList args.toList ds p := hA0
  rw [Try.params4] at hA hval
  obtain ⟨v0, vs0, d0, ds0, p0, q0, hargs0, rfl, rfl, h0, r0⟩ := trodAll_cons hA
  obtain ⟨rfl, rfl, rfl⟩ := trodAll_nil r0
  obtain rfl : args = #[v0] := by cases args; simp_all
  obtain ⟨rfl, rfl⟩ := trodVars_none hV
  have k0 := h0
  have lt0 : ∀ x ∈ p0, x.block < W.heap.size := by obtain ⟨m, hm⟩ := k0; exact DataW.trod_lt m _ _ _ hm
  obtain ⟨ts0, hr0, hs0⟩ : ∃ ts, Go.Av.RepTs (fun b => b < W.heap.size) W ts v0.cells.toList ∧ Go.Gv.Shape Try.prog 33 ts := by
    obtain ⟨fuel, hf⟩ := h0
    exact Go.Gv.trod_shape plain fuel 33 _ _ _ (by simp) hf
  obtain ⟨x0, rfl, hw0⟩ := Go.Gv.mc_of ts0 hs0
  clear hA0 hval0
  refine (Go.Gv.law_of_slots (Go.Gv.c_FnExactCounted x0 hw0) (Go.Gv.slots_agg (by simp [Go.Gv.Mc.t_len]) hr0 Go.Gv.slots_nil)).mono fun e W' ⟨he, bel⟩ => ?_
  subst he
  exact ⟨_, rfl, _, _, _, [], _, [], hW', trodAll_mk1 (shut_bool Try.underlying4 _), (trodAll_cons_mk (Below.trod laidOut (by kernel_rfl) (of_decide_eq_true (by kernel_rfl)) k0 bel lt0) trodAll_mk0), rfl, bel.frame _, fun h => by cases h⟩

theorem over : Rows.fnExactCountedRow.holds Try.pinned (OpenSpec.ofChange Rows.fnExactCountedSpec) :=
  OpenClaim.holds_of_wide 4 Try.f4 rfl rfl rfl rfl rfl rfl rfl ⟨rfl, rfl, rfl, rfl, rfl⟩ rfl rfl rfl rfl rfl (by kernel_rfl) Try.func4 (by kernel_rfl)
    (of_decide_eq_true (by kernel_rfl)) (by unfold Func.isWrapper; first | (rw [if_pos (by decide +kernel)]; kernel_rfl) | (rw [if_neg (by decide +kernel)]; exact ⟨rfl, rfl⟩))
    (fun os started H enc _ => lifted os started H enc)

/-- THE STATEMENT. -/
theorem proved : Rows.FnExactCountedSaid := over
#print axioms proved
end Go.Proofs.Ytjobmglbjcaopaa.fnExactCountedDone
