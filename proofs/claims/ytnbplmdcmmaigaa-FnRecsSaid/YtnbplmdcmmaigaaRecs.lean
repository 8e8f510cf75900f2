/- Proved: Rows.FnRecsSaid: whatever bytes it is given, laws.FnRecs returns true, and the bytes read behind the call as they read before. There is no condition. -/
import Derived.Test.YtnbplmdcmmaigaaF13
import Derived.Test.YtnbplmdcmmaigaaRows
import Derived.WalkKit
import Derived.ProofKit
import Derived.OpenShut
import Derived.ShutString
import Derived.ChangeOld
import Derived.Below

namespace Go.Gv
open Go.Av Go.Proofs

/-- What a walk is told of a slice of integers that came in. -/
def IsRow (k : IntKind) (w : World) (a : Option Addr) (len cap : Nat) (zs : List Int) : Prop :=
  (a = none ∧ len = 0 ∧ cap = 0 ∧ zs = []) ∨
  ∃ x, a = some x ∧ len ≤ cap ∧ cap ≤ maxLen ∧ zs.length = cap ∧ (∀ i, i < zs.length → w.cell? (x.add i) = some (.int k (zs.getD i 0))) ∧ ∀ n ∈ zs, (Lit.int k n).wf = true

theorem byts_rep {S : Nat → Prop} {w : World} {b : Nat} : ∀ {l : List Int} {o : Nat}, (∀ j x, l[j]? = some x → w.cell? ⟨b, o + j, none⟩ = some (.int .u8 x)) → RepSE S w b o (byts l)
  | [], o, _ => by simp only [byts, List.map_nil, RepSE]
  | x :: l, o, h => by
    simp only [byts, List.map_cons, RepSE, RepSC, List.length_singleton]
    refine ⟨⟨⟨.int .u8 x, by simpa using h 0 x rfl, by simp only [RepS]; exact ⟨trivial, rfl⟩⟩, trivial⟩, ?_⟩
    refine byts_rep fun j y hj => ?_
    have := h (j + 1) y (by simpa using hj)
    rwa [show o + 1 + j = o + (j + 1) by omega]

theorem cell_block {w : World} {b o : Nat} {v : Value} (h : w.cell? ⟨b, o, none⟩ = some v) : b < w.heap.size := by
  unfold World.cell? at h
  split at h
  · rename_i hb
    exact (Array.getElem?_eq_some_iff.1 hb).1
  · simp at h

/-- A LAW OVER BYTES that comes to true: as the model has it. -/
theorem law_of_bytes {P : Program} {f : FuncId} (h : ∀ l : List Int, ACalls P f [⟨.one, [.ro true (byts l)]⟩] [] (fun res bx => res = litB true ∧ bx = []))
    {a : Option Addr} {len cap : Nat} {zs : List Int} {w : World} (w0 : IsRow .u8 w a len cap zs) : Calls P f #[.slice a len cap] w fun e w' => e = .returned (.bool true) ∧ RowKit.Below w.heap.size w w' := by
  have main : ∀ (S : Nat → Prop) (l : List Int), (∀ b, S b → b < w.heap.size) → RepS S w (.sl (byts l)) (.slice a len cap) → Calls P f #[.slice a len cap] w fun e w' => e = .returned (.bool true) ∧ RowKit.Below w.heap.size w w' := by
    intro S l hS hr
    refine (h l w #[.slice a len cap] S S [] [] [] ⟨_, [], [], [], rfl, rfl, ⟨⟨rfl, rfl⟩, _, [], [], [], rfl, rfl, ⟨hr, rfl⟩, rfl, rfl⟩, rfl, rfl⟩ ⟨rfl, rfl⟩ (by simp) (fun _ h => h) (fun b hb => ⟨hS b hb, by simp⟩)).mono ?_
    rintro e w' ⟨v, rfl, res, bx', S', bl', o1, o2, ⟨rfl, rfl⟩, hv, h3, h4, h5, h6, h7, h8, h9, h10⟩
    refine ⟨?_, Keeps.below h8⟩
    obtain ⟨g1, g2⟩ := hv
    rw [flat_one g1] at g2
    obtain ⟨u, us, p1, p2, e1, e2, ⟨rfl, _, _⟩, _⟩ := g2
    simp at e1
    rw [e1.1]
  rcases w0 with ⟨rfl, rfl, rfl, rfl⟩ | ⟨x, rfl, hl, hm, hz, hcell, hwz⟩
  · refine main (fun _ => False) [] (fun _ h => h.elim) ?_
    simp only [RepS]
    exact ⟨none, 0, rfl, by simp [byts], fun h => by simp [byts] at h⟩
  · obtain ⟨b, off, spot⟩ := x
    by_cases h0 : cap = 0
    · subst h0
      obtain rfl : len = 0 := by omega
      refine main (fun _ => False) [] (fun _ h => h.elim) ?_
      simp only [RepS]
      exact ⟨_, 0, rfl, by simp [byts], fun h => by simp [byts] at h⟩
    · have hc := hcell 0 (by omega)
      have hspot : spot = none := by simpa [Addr.add] using World.cell?_spot hc
      subst hspot
      have hcell' : ∀ i, i < zs.length → w.cell? ⟨b, off + i, none⟩ = some (.int .u8 (zs.getD i 0)) := fun i hi => by
        have := hcell i hi
        rwa [add_none] at this
      refine main (fun k => k = b) (zs.take len) (fun k hk => hk ▸ cell_block (hcell' 0 (by omega))) ?_
      simp only [RepS]
      have hlen : (byts (zs.take len)).length = len := by simp [byts]; omega
      refine ⟨_, cap, by rw [hlen], by rw [hlen]; exact hl, fun _ => ⟨b, off, rfl, rfl, byts_rep fun j y hj => ?_⟩⟩
      rw [List.getElem?_take] at hj
      split at hj
      · rename_i hjl
        have := hcell' j (by omega)
        rw [this]
        simp [hj]
      · simp at hj
end Go.Gv
namespace Go.Proofs.Ytnbplmdcmmaigaa.fnRecsDone
open Go.ChangeShapes Go.WideShapes Go.ChangeAt Go.RowKit
open Go.Gv (IsRow)
set_option linter.unusedVariables false

theorem own : ownKnob Try.prog.godebug = none := by kernel_rfl
theorem laidOut : laidOutB Try.prog = true := by kernel_rfl

theorem walk (a0 : Option Addr) (len0 cap0 : Nat) (z0 : List Int) (w : World) (w0 : IsRow .u8 w a0 len0 cap0 z0) :
    Calls Try.prog 3 #[.slice a0 len0 cap0] w fun e w' => e = .returned (.bool true) ∧ Below w.heap.size w w' :=
  Go.Gv.law_of_bytes (fun l => Go.Gv.c_FnRecs _ l rfl) w0

set_option maxRecDepth 100000 in
theorem lifted (os : Os) (started : os.Started) (H : Type) (enc : TypeId × Value → H) :
    ReturnsInHanded {} Try.checked os 3 .any (Rows.fnRecsSpec.pre6 enc Try.prog Try.f3 Rows.fnRecsRow.domain false) (Rows.fnRecsSpec.post enc Try.prog Try.f3 false true false false) := by
  refine returnsInHanded_of_change (C := Try.checked) own started (by kernel_rfl) Try.func3
    (ChangeSpec.witness6 (enc := enc) (C := Try.checked) false ⟨#[], #[.slice none 0 0], []⟩ 8 (by kernel_rfl) (by kernel_rfl) (by kernel_rfl) (by kernel_rfl)) ?_
  intro W base args ds gs before hval0 hW hcnd _
  have hval : ∀ (j : Nat) t v, Try.f3.params[j]? = some t → args[j]? = some v → Value.okWide Try.prog W .any base t v := hval0
  have hW' := hW
  obtain ⟨p, q, hA0, hV, rfl, hfz, hnd⟩ := hW
  have hA : DataW.TrodAll enc Try.prog W 0 (fun _ => true) true Try.f3.params.toList args.toList ds p := hA0
  rw [Try.params3] at hA hval
  obtain ⟨v0, vs0, d0, ds0, p0, q0, hargs, rfl, rfl, h0, r0⟩ := trodAll_cons hA
  obtain ⟨rfl, rfl, rfl⟩ := trodAll_nil r0
  obtain rfl : args = #[v0] := by cases args; simp_all
  obtain ⟨rfl, rfl⟩ := trodVars_none hV
  obtain ⟨a0, len0, cap0, rfl⟩ := okWide_slice Try.underlying22 (hval 0 22 v0 rfl rfl)
  have k0 := h0
  have lt0 : ∀ x ∈ p0, x.block < W.heap.size := by obtain ⟨m, hm⟩ := k0; exact DataW.trod_lt m _ _ _ hm
  obtain ⟨z0, w0⟩ : ∃ zs, IsRow .u8 W a0 len0 cap0 zs := by
    obtain ⟨fuel, hf⟩ := h0
    rcases open_ints Try.underlying22 Try.underlying5 (by kernel_rfl) hf with ⟨hcs, _⟩ | ⟨x, l, c, zs, hcs, _, hl, hm, hz, _, hcell, hwz⟩
    · simp [Value.cells] at hcs
      obtain ⟨rfl, rfl, rfl⟩ := hcs
      exact ⟨[], .inl ⟨rfl, rfl, rfl, rfl⟩⟩
    · simp [Value.cells] at hcs
      obtain ⟨rfl, rfl, rfl⟩ := hcs
      exact ⟨zs, .inr ⟨_, rfl, hl, hm, by simpa using hz, hcell, hwz⟩⟩
  clear hA0 hval0
  refine (walk a0 len0 cap0 z0 W w0).mono fun e W' ⟨he, bel⟩ => ?_
  subst he
  exact ⟨_, rfl, _, _, _, [], _, [], hW', trodAll_mk1 (shut_bool Try.underlying4 _), (trodAll_cons_mk (Below.trod laidOut (by kernel_rfl) (of_decide_eq_true (by kernel_rfl)) k0 bel lt0) trodAll_mk0), rfl, bel.frame _, fun h => by cases h⟩

theorem over : Rows.fnRecsRow.holds Try.pinned (OpenSpec.ofChange Rows.fnRecsSpec) :=
  OpenClaim.holds_of_wide 3 Try.f3 rfl rfl rfl rfl rfl rfl rfl ⟨rfl, rfl, rfl, rfl, rfl⟩ rfl rfl rfl rfl rfl (by kernel_rfl) Try.func3 (by kernel_rfl)
    (of_decide_eq_true (by kernel_rfl)) (by unfold Func.isWrapper; first | (rw [if_pos (by decide +kernel)]; kernel_rfl) | (rw [if_neg (by decide +kernel)]; exact ⟨rfl, rfl⟩))
    (fun os started H enc _ => lifted os started H enc)

/-- THE STATEMENT. -/
theorem proved : Rows.FnRecsSaid := over
#print axioms proved
end Go.Proofs.Ytnbplmdcmmaigaa.fnRecsDone
