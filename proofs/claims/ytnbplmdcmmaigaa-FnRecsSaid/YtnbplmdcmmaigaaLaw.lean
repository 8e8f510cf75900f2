/- Part Law of the proof: contracts of functions of the program, each walked once. -/
import Derived.Test.YtnbplmdcmmaigaaT1
import Derived.Test.YtnbplmdcmmaigaaF8
import Derived.WalkKit
import Derived.ProofKit
import Derived.OpenShut
import Derived.ShutString
import Derived.ChangeOld
import Derived.Below

namespace Go.Gv
open Go.Av Go.Proofs

/-- What a walk is told of a slice of integers that came in. -/
def IsRow (k : IntKind) (w : World) (a : Option Addr) (len cap : Nat) (zs : List Int) : Prop :=
  (a = none ∧ len = 0 ∧ cap = 0 ∧ zs = []) ∨
  ∃ x, a = some x ∧ len ≤ cap ∧ cap ≤ maxLen ∧ zs.length = cap ∧ (∀ i, i < zs.length → w.cell? (x.add i) = some (.int k (zs.getD i 0))) ∧ ∀ n ∈ zs, (Lit.int k n).wf = true

theorem byts_rep {S : Nat → Prop} {w : World} {b : Nat} : ∀ {l : List Int} {o : Nat}, (∀ j x, l[j]? = some x → w.cell? ⟨b, o + j, none⟩ = some (.int .u8 x)) → RepSE S w b o (byts l)
  | [], o, _ => by simp only [byts, List.map_nil, RepSE]
  | x :: l, o, h => by
    simp only [byts, List.map_cons, RepSE, RepSC, List.length_singleton]
    refine ⟨⟨⟨.int .u8 x, by simpa using h 0 x rfl, by simp only [RepS]; exact ⟨trivial, rfl⟩⟩, trivial⟩, ?_⟩
    refine byts_rep fun j y hj => ?_
    have := h (j + 1) y (by simpa using hj)
    rwa [show o + 1 + j = o + (j + 1) by omega]

theorem cell_block {w : World} {b o : Nat} {v : Value} (h : w.cell? ⟨b, o, none⟩ = some v) : b < w.heap.size := by
  unfold World.cell? at h
  split at h
  · rename_i hb
    exact (Array.getElem?_eq_some_iff.1 hb).1
  · simp at h

/-- A LAW OVER BYTES that comes to true: as the model has it. -/
theorem law_of_bytes {P : Program} {f : FuncId} (h : ∀ l : List Int, ACalls P f [⟨.one, [.ro true (byts l)]⟩] [] (fun res bx => res = litB true ∧ bx = []))
    {a : Option Addr} {len cap : Nat} {zs : List Int} {w : World} (w0 : IsRow .u8 w a len cap zs) : Calls P f #[.slice a len cap] w fun e w' => e = .returned (.bool true) ∧ RowKit.Below w.heap.size w w' := by
  have main : ∀ (S : Nat → Prop) (l : List Int), (∀ b, S b → b < w.heap.size) → RepS S w (.sl (byts l)) (.slice a len cap) → Calls P f #[.slice a len cap] w fun e w' => e = .returned (.bool true) ∧ RowKit.Below w.heap.size w w' := by
    intro S l hS hr
    refine (h l w #[.slice a len cap] S S [] [] [] ⟨_, [], [], [], rfl, rfl, ⟨⟨rfl, rfl⟩, _, [], [], [], rfl, rfl, ⟨hr, rfl⟩, rfl, rfl⟩, rfl, rfl⟩ ⟨rfl, rfl⟩ (by simp) (fun _ h => h) (fun b hb => ⟨hS b hb, by simp⟩)).mono ?_
    rintro e w' ⟨v, rfl, res, bx', S', bl', o1, o2, ⟨rfl, rfl⟩, hv, h3, h4, h5, h6, h7, h8, h9, h10⟩
    refine ⟨?_, Keeps.below h8⟩
    obtain ⟨g1, g2⟩ := hv
    rw [flat_one g1] at g2
    obtain ⟨u, us, p1, p2, e1, e2, ⟨rfl, _, _⟩, _⟩ := g2
    simp at e1
    rw [e1.1]
  rcases w0 with ⟨rfl, rfl, rfl, rfl⟩ | ⟨x, rfl, hl, hm, hz, hcell, hwz⟩
  · refine main (fun _ => False) [] (fun _ h => h.elim) ?_
    simp only [RepS]
    exact ⟨none, 0, rfl, by simp [byts], fun h => by simp [byts] at h⟩
  · obtain ⟨b, off, spot⟩ := x
    by_cases h0 : cap = 0
    · subst h0
      obtain rfl : len = 0 := by omega
      refine main (fun _ => False) [] (fun _ h => h.elim) ?_
      simp only [RepS]
      exact ⟨_, 0, rfl, by simp [byts], fun h => by simp [byts] at h⟩
    · have hc := hcell 0 (by omega)
      have hspot : spot = none := by simpa [Addr.add] using World.cell?_spot hc
      subst hspot
      have hcell' : ∀ i, i < zs.length → w.cell? ⟨b, off + i, none⟩ = some (.int .u8 (zs.getD i 0)) := fun i hi => by
        have := hcell i hi
        rwa [add_none] at this
      refine main (fun k => k = b) (zs.take len) (fun k hk => hk ▸ cell_block (hcell' 0 (by omega))) ?_
      simp only [RepS]
      have hlen : (byts (zs.take len)).length = len := by simp [byts]; omega
      refine ⟨_, cap, by rw [hlen], by rw [hlen]; exact hl, fun _ => ⟨b, off, rfl, rfl, byts_rep fun j y hj => ?_⟩⟩
      rw [List.getElem?_take] at hj
      split at hj
      · rename_i hjl
        have := hcell' j (by omega)
        rw [this]
        simp [hj]
      · simp at hj
end Go.Gv
