/- Part L1 of the proof: A law over one value of several cells, plain data that is read. -/
import Derived.Test.YtbnjnjnkopdeaaaK1
import Derived.WalkKit
import Derived.ProofKit
import Derived.OpenShut
import Derived.ShutString
import Derived.ChangeOld
import Derived.Below
import Derived.Test.YtbnjnjnkopdeaaaR6
import Derived.KernelRfl

/- A law over one value of several cells, plain data that is read. -/
namespace Go.Gv
open Go.Av

theorem repAs_of_repTs {E : Env} (hw : E.LS true = E.S) : ∀ {ts : List T} {us : List Value}, RepTs E.S E.w ts us → RepAs E (ts.map (tA true)) us []
  | [], us, h => by subst h; exact ⟨rfl, rfl⟩
  | t :: ts, us, h => by
    obtain ⟨u, us', rfl, h1, h2⟩ := h
    refine ⟨u, us', [], [], rfl, rfl, ?_, repAs_of_repTs hw h2⟩
    cases t with
    | lit v => simp only [RepS] at h1; exact ⟨h1.1, h1.2, rfl⟩
    | sl els => exact ⟨by rw [hw]; exact h1, rfl⟩

theorem keeps_below {w w' : World} (h : Av.Keeps [] w w') : RowKit.Below w.heap.size w w' := ⟨h.os, h.tape, h.output, h.size, fun b hb => h.block b hb (by simp)⟩

theorem agg_of_cells {v : Value} (h : 2 ≤ v.cells.size) : ∃ cs, v = .agg cs := by
  cases v <;> first | exact ⟨_, rfl⟩ | (simp [Value.cells] at h)

/-- A LAW OVER PLAIN DATA that comes to true: as the model has it. -/
theorem law_of_agg {P : Program} {f : FuncId} {ts : List T} (h : ACalls P f [⟨.agg, ts.map (tA true)⟩] [] (fun res bx => res = litB true ∧ bx = []))
    {v : Value} {w : World} (hl : 2 ≤ ts.length) (hr : RepTs (fun b => b < w.heap.size) w ts v.cells.toList) :
    Calls P f #[v] w fun e w' => e = .returned (.bool true) ∧ RowKit.Below w.heap.size w w' := by
  have hs : v.cells.size = ts.length := by rw [← Array.length_toList, RepTs.length hr]
  obtain ⟨cs, rfl⟩ := agg_of_cells (v := v) (by omega)
  refine (h w #[.agg cs] (fun b => b < w.heap.size) (fun b => b < w.heap.size) [] [] [] ⟨_, [], [], [], rfl, rfl, ⟨rfl, repAs_of_repTs rfl hr⟩, rfl, rfl⟩ ⟨rfl, rfl⟩ (by simp) (fun _ h => h) (fun b hb => ⟨hb, by simp⟩)).mono ?_
  rintro e w' ⟨v, rfl, res, bx', S', bl', o1, o2, ⟨rfl, rfl⟩, hv, h3, h4, h5, h6, h7, h8, h9, h10⟩
  refine ⟨?_, keeps_below h8⟩
  obtain ⟨g1, g2⟩ := hv
  rw [flat_one g1] at g2
  obtain ⟨u, us, p1, p2, e1, e2, ⟨rfl, _, _⟩, _⟩ := g2
  simp at e1
  rw [e1.1]
end Go.Gv

namespace Go.Gv
open Go.Av Go.Proofs

theorem szOf_mem {x : List T} {els : List (List T)} (h : x ∈ els) : SizeOf.sizeOf x < SizeOf.sizeOf [T.sl els] := by
  have := List.sizeOf_lt_of_mem h
  simp
  omega

theorem str_of {ts : List T} (h : Shape Try.prog 9 ts) : ∃ s, ts = strT s ∧ s.size ≤ maxLen := by
  obtain ⟨s, rfl, hs⟩ := h.str_inv Try.underlying9
  exact ⟨s, rfl, hs⟩

theorem ex_of : ∀ (ts : List T), Shape Try.prog 57 ts → ∃ e : Ex, ts = e.t ∧ e.Wf
  | ts, h => by
    obtain ⟨hl, hf⟩ := h.struct_inv Try.underlying57
    rw [show Try.prog.cellsOf 57 = 4 by kernel_rfl] at hl
    obtain ⟨a, b, c, d, hts⟩ : ∃ a b c d, ts = [a, b, c, d] := by
      match ts, hl with
      | [a, b, c, d], _ => exact ⟨a, b, c, d, rfl⟩
    have c3 : Try.prog.cellsOf 3 = 1 := by kernel_rfl
    have c9 : Try.prog.cellsOf 9 = 1 := by kernel_rfl
    have c55 : Try.prog.cellsOf 55 = 1 := by kernel_rfl
    rw [hts] at hf
    simp only [List.forall_mem_cons, c3, c9, c55, List.drop, List.take] at hf
    obtain ⟨h1, h2, h3, h4, _⟩ := hf
    obtain ⟨k, e1, w1⟩ := h1.int_inv Try.underlying3
    obtain ⟨n, e2, w2⟩ := h2.int_inv Try.underlying3
    obtain ⟨s, e3, w3⟩ := h3.str_inv Try.underlying9
    obtain ⟨els, e4, w4, w5⟩ := h4.slice_inv Try.underlying55
    simp only [List.cons.injEq, and_true] at e1 e2 e3 e4
    subst e1 e2 e3 e4
    obtain ⟨l, rfl, hl⟩ := list_of (f := Ex.t) (W := Ex.Wf) fun x hx => by
      have := szOf_mem hx
      exact ex_of x (w5 x hx)
    refine ⟨.mk k n s l, by rw [hts, Ex.t_mk], .mk (i64r_of w1) (i64r_of w2) w3 (by simpa using w4) hl⟩
termination_by ts => SizeOf.sizeOf ts
decreasing_by subst hts; simp at this ⊢; omega

theorem sm_of : ∀ (ts : List T), Shape Try.prog 90 ts → ∃ e : Sm, ts = e.t ∧ e.Wf
  | ts, h => by
    obtain ⟨hl, hf⟩ := h.struct_inv Try.underlying90
    rw [show Try.prog.cellsOf 90 = 6 by kernel_rfl] at hl
    obtain ⟨a, b, c, d, e, f, hts⟩ : ∃ a b c d e f, ts = [a, b, c, d, e, f] := by
      match ts, hl with
      | [a, b, c, d, e, f], _ => exact ⟨a, b, c, d, e, f, rfl⟩
    have c3 : Try.prog.cellsOf 3 = 1 := by kernel_rfl
    have c9 : Try.prog.cellsOf 9 = 1 := by kernel_rfl
    have c55 : Try.prog.cellsOf 55 = 1 := by kernel_rfl
    have c58 : Try.prog.cellsOf 58 = 1 := by kernel_rfl
    rw [hts] at hf
    simp only [List.forall_mem_cons, c3, c9, c55, c58, List.drop, List.take] at hf
    obtain ⟨h1, h2, h3, h4, h5, h6, _⟩ := hf
    obtain ⟨k, e1, w1⟩ := h1.int_inv Try.underlying3
    obtain ⟨s, e2, w2⟩ := h2.str_inv Try.underlying9
    obtain ⟨t, e3, w3⟩ := h3.str_inv Try.underlying9
    obtain ⟨els, e4, w4, w4'⟩ := h4.slice_inv Try.underlying55
    obtain ⟨elsa, e5, w5, w5'⟩ := h5.slice_inv Try.underlying58
    obtain ⟨elsb, e6, w6, w6'⟩ := h6.slice_inv Try.underlying58
    simp only [List.cons.injEq, and_true] at e1 e2 e3 e4 e5 e6
    subst e1 e2 e3 e4 e5 e6
    obtain ⟨x, rfl, hx⟩ := list_of (f := Ex.t) (W := Ex.Wf) fun x hx => ex_of x (w4' x hx)
    obtain ⟨la, rfl, hla⟩ := list_of (f := Sm.t) (W := Sm.Wf) fun x hx => by
      have := szOf_mem hx
      exact sm_of x (w5' x hx)
    obtain ⟨lb, rfl, hlb⟩ := list_of (f := Sm.t) (W := Sm.Wf) fun x hx => by
      have := szOf_mem hx
      exact sm_of x (w6' x hx)
    refine ⟨.mk k s t x la lb, by rw [hts, Sm.t_mk], .mk (i64r_of w1) w2 w3 (by simpa using w4) hx (by simpa using w5) hla (by simpa using w6) hlb⟩
termination_by ts => SizeOf.sizeOf ts
decreasing_by all_goals (subst hts; simp at this ⊢; omega)

theorem stmts_of {els : List (List T)} (h : ∀ x ∈ els, Shape Try.prog 90 x) : ∃ l : List Sm, els = l.map Sm.t ∧ ∀ e ∈ l, e.Wf := list_of fun x hx => sm_of x (h x hx)

theorem ru_of (ts : List T) (h : Shape Try.prog 60 ts) : ∃ e : Ru, ts = e.t ∧ e.Wf := by
  obtain ⟨hl, hf⟩ := h.struct_inv Try.underlying60
  rw [show Try.prog.cellsOf 60 = 6 by kernel_rfl] at hl
  obtain ⟨a, b, c, d, e, f, hts⟩ : ∃ a b c d e f, ts = [a, b, c, d, e, f] := by
    match ts, hl with
    | [a, b, c, d, e, f], _ => exact ⟨a, b, c, d, e, f, rfl⟩
  have c3 : Try.prog.cellsOf 3 = 1 := by kernel_rfl
  have c57 : Try.prog.cellsOf 57 = 4 := by kernel_rfl
  have c58 : Try.prog.cellsOf 58 = 1 := by kernel_rfl
  rw [hts] at hf
  simp only [List.forall_mem_cons, c3, c57, c58, List.drop, List.take] at hf
  obtain ⟨h1, h2, h3, _⟩ := hf
  obtain ⟨k, e1, w1⟩ := h1.int_inv Try.underlying3
  obtain ⟨p, e2, w2⟩ := ex_of _ h2
  obtain ⟨els, e3, w3, w3'⟩ := h3.slice_inv Try.underlying58
  simp only [List.cons.injEq, and_true] at e1 e3
  subst e1 e3
  obtain ⟨l, rfl, hx⟩ := stmts_of w3'
  refine ⟨⟨k, p, l⟩, ?_, i64r_of w1, w2, by simpa using w3, hx⟩
  rw [hts, Ru.t, ← e2]; rfl

theorem fu_of (ts : List T) (h : Shape Try.prog 63 ts) : ∃ e : Fu, ts = e.t ∧ e.Wf := by
  obtain ⟨hl, hf⟩ := h.struct_inv Try.underlying63
  rw [show Try.prog.cellsOf 63 = 3 by kernel_rfl] at hl
  obtain ⟨a, b, c, hts⟩ : ∃ a b c, ts = [a, b, c] := by
    match ts, hl with
    | [a, b, c], _ => exact ⟨a, b, c, rfl⟩
  have c9 : Try.prog.cellsOf 9 = 1 := by kernel_rfl
  have c45 : Try.prog.cellsOf 45 = 1 := by kernel_rfl
  have c58 : Try.prog.cellsOf 58 = 1 := by kernel_rfl
  rw [hts] at hf
  simp only [List.forall_mem_cons, c9, c45, c58, List.drop, List.take] at hf
  obtain ⟨h1, h2, h3, _⟩ := hf
  obtain ⟨s, e1, w1⟩ := h1.str_inv Try.underlying9
  obtain ⟨elsp, e2, w2, w2'⟩ := h2.slice_inv Try.underlying45
  obtain ⟨els, e3, w3, w3'⟩ := h3.slice_inv Try.underlying58
  simp only [List.cons.injEq, and_true] at e1 e2 e3
  subst e1 e2 e3
  obtain ⟨l, rfl, hx⟩ := stmts_of w3'
  obtain ⟨lp, rfl, hp⟩ := list_of fun x hx => str_of (w2' x hx)
  exact ⟨⟨s, lp, l⟩, hts, w1, by simpa using w2, hp, by simpa using w3, hx⟩

theorem pg_of (ts : List T) (h : Shape Try.prog 25 ts) : ∃ e : Pg, ts = e.t ∧ e.Wf := by
  obtain ⟨hl, hf⟩ := h.struct_inv Try.underlying25
  rw [show Try.prog.cellsOf 25 = 2 by kernel_rfl] at hl
  obtain ⟨a, b, hts⟩ : ∃ a b, ts = [a, b] := by
    match ts, hl with
    | [a, b], _ => exact ⟨a, b, rfl⟩
  have c22 : Try.prog.cellsOf 22 = 1 := by kernel_rfl
  have c23 : Try.prog.cellsOf 23 = 1 := by kernel_rfl
  rw [hts] at hf
  simp only [List.forall_mem_cons, c22, c23, List.drop, List.take] at hf
  obtain ⟨h1, h2, _⟩ := hf
  obtain ⟨elsr, e1, w1, w1'⟩ := h1.slice_inv Try.underlying22
  obtain ⟨elsf, e2, w2, w2'⟩ := h2.slice_inv Try.underlying23
  simp only [List.cons.injEq, and_true] at e1 e2
  subst e1 e2
  obtain ⟨lr, rfl, hr⟩ := list_of fun x hx => ru_of x (w1' x hx)
  obtain ⟨lf, rfl, hf⟩ := list_of fun x hx => fu_of x (w2' x hx)
  exact ⟨⟨lr, lf⟩, hts, by simpa using w1, hr, by simpa using w2, hf⟩
end Go.Gv
