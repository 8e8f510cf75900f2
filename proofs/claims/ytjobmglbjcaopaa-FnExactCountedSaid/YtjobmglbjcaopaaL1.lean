/- Part L1 of the proof: A law over one value of several cells, plain data that is read. -/
import Derived.Test.YtjobmglbjcaopaaK1
import Derived.WalkKit
import Derived.ProofKit
import Derived.OpenShut
import Derived.ShutString
import Derived.ChangeOld
import Derived.Below
import Derived.Test.YtjobmglbjcaopaaT1
import Derived.KernelRfl

/- A law over one value of several cells, plain data that is read. -/
namespace Go.Gv
open Go.Av

theorem repAs_of_repTs {E : Env} (hw : E.LS true = E.S) : ∀ {ts : List T} {us : List Value}, RepTs E.S E.w ts us → RepAs E (ts.map (tA true)) us []
  | [], us, h => by subst h; exact ⟨rfl, rfl⟩
  | t :: ts, us, h => by
    obtain ⟨u, us', rfl, h1, h2⟩ := h
    refine ⟨u, us', [], [], rfl, rfl, ?_, repAs_of_repTs hw h2⟩
    cases t with
    | lit v => simp only [RepS] at h1; exact ⟨h1.1, h1.2, rfl⟩
    | sl els => exact ⟨by rw [hw]; exact h1, rfl⟩

theorem keeps_below {w w' : World} (h : Av.Keeps [] w w') : RowKit.Below w.heap.size w w' := ⟨h.os, h.tape, h.output, h.size, fun b hb => h.block b hb (by simp)⟩

theorem agg_of_cells {v : Value} (h : 2 ≤ v.cells.size) : ∃ cs, v = .agg cs := by
  cases v <;> first | exact ⟨_, rfl⟩ | (simp [Value.cells] at h)

/-- A LAW that comes to true: as the model has it. -/
theorem law_of_slots {P : Program} {f : FuncId} {args : List AV} (h : ACalls P f args [] (fun res bx => res = litB true ∧ bx = []))
    {vals : Array Value} {w : World} (hr : RepSlots (Env.zero (fun b => b < w.heap.size) (fun b => b < w.heap.size) [] w) args vals.toList []) :
    Calls P f vals w fun e w' => e = .returned (.bool true) ∧ RowKit.Below w.heap.size w w' := by
  refine (h w vals (fun b => b < w.heap.size) (fun b => b < w.heap.size) [] [] [] hr ⟨rfl, rfl⟩ (by simp) (fun _ h => h) (fun b hb => ⟨hb, by simp⟩)).mono ?_
  rintro e w' ⟨v, rfl, res, bx', S', bl', o1, o2, ⟨rfl, rfl⟩, hv, h3, h4, h5, h6, h7, h8, h9, h10⟩
  refine ⟨?_, keeps_below h8⟩
  obtain ⟨g1, g2⟩ := hv
  rw [flat_one g1] at g2
  obtain ⟨u, us, p1, p2, e1, e2, ⟨rfl, _, _⟩, _⟩ := g2
  simp at e1
  rw [e1.1]

theorem slots_agg {w : World} {ts : List T} {v : Value} {avs : List AV} {vs : List Value} (hl : 2 ≤ ts.length) (hr : RepTs (fun b => b < w.heap.size) w ts v.cells.toList)
    (h : RepSlots (Env.zero (fun b => b < w.heap.size) (fun b => b < w.heap.size) [] w) avs vs []) :
    RepSlots (Env.zero (fun b => b < w.heap.size) (fun b => b < w.heap.size) [] w) (⟨.agg, ts.map (tA true)⟩ :: avs) (v :: vs) [] := by
  have hs : v.cells.size = ts.length := by rw [← Array.length_toList, RepTs.length hr]
  obtain ⟨cs, rfl⟩ := agg_of_cells (v := v) (by omega)
  exact ⟨_, vs, [], [], rfl, rfl, ⟨rfl, repAs_of_repTs rfl hr⟩, h⟩
theorem slots_lit {E : Env} {v : Value} {avs : List AV} {vs : List Value} (hv : isLit v = true) (h1 : isTuple v = false ∧ isAggV v = false) (h : RepSlots E avs vs []) : RepSlots E (⟨.one, [.lit v]⟩ :: avs) (v :: vs) [] :=
  ⟨v, vs, [], [], rfl, rfl, ⟨h1, by rw [flat_one h1]; exact ⟨v, [], [], [], rfl, rfl, ⟨rfl, hv, rfl⟩, rfl, rfl⟩⟩, h⟩
theorem slots_nil {E : Env} : RepSlots E [] [] [] := ⟨rfl, rfl⟩

/-- A LAW OVER PLAIN DATA that comes to true: as the model has it. -/
theorem law_of_agg {P : Program} {f : FuncId} {ts : List T} (h : ACalls P f [⟨.agg, ts.map (tA true)⟩] [] (fun res bx => res = litB true ∧ bx = []))
    {v : Value} {w : World} (hl : 2 ≤ ts.length) (hr : RepTs (fun b => b < w.heap.size) w ts v.cells.toList) :
    Calls P f #[v] w fun e w' => e = .returned (.bool true) ∧ RowKit.Below w.heap.size w w' := by
  have hs : v.cells.size = ts.length := by rw [← Array.length_toList, RepTs.length hr]
  obtain ⟨cs, rfl⟩ := agg_of_cells (v := v) (by omega)
  refine (h w #[.agg cs] (fun b => b < w.heap.size) (fun b => b < w.heap.size) [] [] [] ⟨_, [], [], [], rfl, rfl, ⟨rfl, repAs_of_repTs rfl hr⟩, rfl, rfl⟩ ⟨rfl, rfl⟩ (by simp) (fun _ h => h) (fun b hb => ⟨hb, by simp⟩)).mono ?_
  rintro e w' ⟨v, rfl, res, bx', S', bl', o1, o2, ⟨rfl, rfl⟩, hv, h3, h4, h5, h6, h7, h8, h9, h10⟩
  refine ⟨?_, keeps_below h8⟩
  obtain ⟨g1, g2⟩ := hv
  rw [flat_one g1] at g2
  obtain ⟨u, us, p1, p2, e1, e2, ⟨rfl, _, _⟩, _⟩ := g2
  simp at e1
  rw [e1.1]
end Go.Gv

namespace Go.Gv
open Go.Av Go.Proofs
theorem str_of {ts : List T} (h : Shape Try.prog 9 ts) : ∃ s, ts = strT s ∧ s.size ≤ maxLen := by
  obtain ⟨s, rfl, hs⟩ := h.str_inv Try.underlying9
  exact ⟨s, rfl, hs⟩
theorem int_of {ts : List T} (h : Shape Try.prog 3 ts) : ∃ s, ts = intT s ∧ i64r s := by
  obtain ⟨s, rfl, hs⟩ := h.int_inv Try.underlying3
  exact ⟨s, rfl, i64r_of hs⟩
theorem byte_of {ts : List T} (h : Shape Try.prog 5 ts) : ∃ s, ts = byteT s ∧ True := by
  obtain ⟨s, rfl, hs⟩ := h.int_inv Try.underlying5
  exact ⟨s, rfl, trivial⟩
set_option maxRecDepth 100000 in
theorem vl_of (ts : List T) (h : Shape Try.prog 115 ts) : ∃ e : Vl, ts = e.t ∧ e.Wf := by
  obtain ⟨hl, hf⟩ := h.struct_inv Try.underlying115
  rw [show Try.prog.cellsOf 115 = 3 by kernel_rfl] at hl
  obtain ⟨c0, c1, c2, hts⟩ : ∃ c0 c1 c2, ts = [c0, c1, c2] := by
    match ts, hl with
    | [c0, c1, c2], _ => exact ⟨c0, c1, c2, rfl⟩
  have d3 : Try.prog.cellsOf 3 = 1 := by kernel_rfl
  have d9 : Try.prog.cellsOf 9 = 1 := by kernel_rfl
  rw [hts] at hf
  simp only [List.forall_mem_cons, d3, d9, List.drop, List.take] at hf
  obtain ⟨h0, h1, h2, _⟩ := hf
  obtain ⟨v0, e0, w0⟩ := h0.int_inv Try.underlying3
  obtain ⟨v1, e1, w1⟩ := h1.int_inv Try.underlying3
  obtain ⟨v2, e2, w2⟩ := h2.str_inv Try.underlying9
  simp only [List.cons.injEq, and_true] at e0 e1 e2
  subst e0 e1 e2
  refine ⟨⟨v0, v1, v2⟩, ?_, ⟨(i64r_of w0), (i64r_of w1), w2⟩⟩
  rw [hts, Vl.t]; try rfl

set_option maxRecDepth 100000 in
theorem rc_of (ts : List T) (h : Shape Try.prog 30 ts) : ∃ e : Rc, ts = e.t ∧ e.Wf := by
  obtain ⟨hl, hf⟩ := h.struct_inv Try.underlying30
  rw [show Try.prog.cellsOf 30 = 2 by kernel_rfl] at hl
  obtain ⟨c0, c1, hts⟩ : ∃ c0 c1, ts = [c0, c1] := by
    match ts, hl with
    | [c0, c1], _ => exact ⟨c0, c1, rfl⟩
  have d9 : Try.prog.cellsOf 9 = 1 := by kernel_rfl
  have d28 : Try.prog.cellsOf 28 = 1 := by kernel_rfl
  rw [hts] at hf
  simp only [List.forall_mem_cons, d9, d28, List.drop, List.take] at hf
  obtain ⟨h0, h1, _⟩ := hf
  obtain ⟨v0, e0, w0⟩ := h0.str_inv Try.underlying9
  obtain ⟨s1, e1, w1, w1'⟩ := h1.slice_inv Try.underlying28
  simp only [List.cons.injEq, and_true] at e0 e1
  subst e0 e1
  obtain ⟨l1, rfl, hl1⟩ := list_of fun x hx => str_of (w1' x hx)
  refine ⟨⟨v0, l1⟩, ?_, ⟨w0, (by simpa using w1), hl1⟩⟩
  rw [hts, Rc.t]; try rfl

set_option maxRecDepth 100000 in
theorem ce_of (ts : List T) (h : Shape Try.prog 117 ts) : ∃ e : Ce, ts = e.t ∧ e.Wf := by
  obtain ⟨hl, hf⟩ := h.struct_inv Try.underlying117
  rw [show Try.prog.cellsOf 117 = 4 by kernel_rfl] at hl
  obtain ⟨c0, c1, c2, c3, hts⟩ : ∃ c0 c1 c2 c3, ts = [c0, c1, c2, c3] := by
    match ts, hl with
    | [c0, c1, c2, c3], _ => exact ⟨c0, c1, c2, c3, rfl⟩
  have d3 : Try.prog.cellsOf 3 = 1 := by kernel_rfl
  have d115 : Try.prog.cellsOf 115 = 3 := by kernel_rfl
  rw [hts] at hf
  simp only [List.forall_mem_cons, d3, d115, List.drop, List.take] at hf
  obtain ⟨h0, h1, _⟩ := hf
  obtain ⟨v0, e0, w0⟩ := h0.int_inv Try.underlying3
  obtain ⟨v1, e1, w1⟩ := vl_of _ h1
  simp only [List.cons.injEq, and_true] at e0
  subst e0
  refine ⟨⟨v0, v1⟩, ?_, ⟨(i64r_of w0), w1⟩⟩
  rw [hts, Ce.t, ← e1]; try rfl

set_option maxRecDepth 100000 in
theorem he_of (ts : List T) (h : Shape Try.prog 24 ts) : ∃ e : He, ts = e.t ∧ e.Wf := by
  obtain ⟨hl, hf⟩ := h.struct_inv Try.underlying24
  rw [show Try.prog.cellsOf 24 = 1 by kernel_rfl] at hl
  obtain ⟨c0, hts⟩ : ∃ c0, ts = [c0] := by
    match ts, hl with
    | [c0], _ => exact ⟨c0, rfl⟩
  have d22 : Try.prog.cellsOf 22 = 1 := by kernel_rfl
  rw [hts] at hf
  simp only [List.forall_mem_cons, d22, List.drop, List.take] at hf
  obtain ⟨h0, _⟩ := hf
  obtain ⟨s0, e0, w0, w0'⟩ := h0.slice_inv Try.underlying22
  simp only [List.cons.injEq, and_true] at e0
  subst e0
  obtain ⟨l0, rfl, hl0⟩ := list_of fun x hx => ce_of x (w0' x hx)
  refine ⟨⟨l0⟩, ?_, ⟨(by simpa using w0), hl0⟩⟩
  rw [hts, He.t]; try rfl

set_option maxRecDepth 100000 in
theorem me_of (ts : List T) (h : Shape Try.prog 136 ts) : ∃ e : Me, ts = e.t ∧ e.Wf := by
  obtain ⟨hl, hf⟩ := h.struct_inv Try.underlying136
  rw [show Try.prog.cellsOf 136 = 2 by kernel_rfl] at hl
  obtain ⟨c0, c1, hts⟩ : ∃ c0 c1, ts = [c0, c1] := by
    match ts, hl with
    | [c0, c1], _ => exact ⟨c0, c1, rfl⟩
  have d9 : Try.prog.cellsOf 9 = 1 := by kernel_rfl
  have d3 : Try.prog.cellsOf 3 = 1 := by kernel_rfl
  rw [hts] at hf
  simp only [List.forall_mem_cons, d9, d3, List.drop, List.take] at hf
  obtain ⟨h0, h1, _⟩ := hf
  obtain ⟨v0, e0, w0⟩ := h0.str_inv Try.underlying9
  obtain ⟨v1, e1, w1⟩ := h1.int_inv Try.underlying3
  simp only [List.cons.injEq, and_true] at e0 e1
  subst e0 e1
  refine ⟨⟨v0, v1⟩, ?_, ⟨w0, (i64r_of w1)⟩⟩
  rw [hts, Me.t]; try rfl

set_option maxRecDepth 100000 in
theorem mt_of (ts : List T) (h : Shape Try.prog 91 ts) : ∃ e : Mt, ts = e.t ∧ e.Wf := by
  obtain ⟨hl, hf⟩ := h.struct_inv Try.underlying91
  rw [show Try.prog.cellsOf 91 = 1 by kernel_rfl] at hl
  obtain ⟨c0, hts⟩ : ∃ c0, ts = [c0] := by
    match ts, hl with
    | [c0], _ => exact ⟨c0, rfl⟩
  have d89 : Try.prog.cellsOf 89 = 1 := by kernel_rfl
  rw [hts] at hf
  simp only [List.forall_mem_cons, d89, List.drop, List.take] at hf
  obtain ⟨h0, _⟩ := hf
  obtain ⟨s0, e0, w0, w0'⟩ := h0.slice_inv Try.underlying89
  simp only [List.cons.injEq, and_true] at e0
  subst e0
  obtain ⟨l0, rfl, hl0⟩ := list_of fun x hx => me_of x (w0' x hx)
  refine ⟨⟨l0⟩, ?_, ⟨(by simpa using w0), hl0⟩⟩
  rw [hts, Mt.t]; try rfl

set_option maxRecDepth 100000 in
theorem sl_of (ts : List T) (h : Shape Try.prog 142 ts) : ∃ e : Sl, ts = e.t ∧ e.Wf := by
  obtain ⟨hl, hf⟩ := h.struct_inv Try.underlying142
  rw [show Try.prog.cellsOf 142 = 2 by kernel_rfl] at hl
  obtain ⟨c0, c1, hts⟩ : ∃ c0 c1, ts = [c0, c1] := by
    match ts, hl with
    | [c0, c1], _ => exact ⟨c0, c1, rfl⟩
  have d4 : Try.prog.cellsOf 4 = 1 := by kernel_rfl
  have d3 : Try.prog.cellsOf 3 = 1 := by kernel_rfl
  rw [hts] at hf
  simp only [List.forall_mem_cons, d4, d3, List.drop, List.take] at hf
  obtain ⟨h0, h1, _⟩ := hf
  obtain ⟨v0, e0⟩ := h0.bool_inv Try.underlying4
  obtain ⟨v1, e1, w1⟩ := h1.int_inv Try.underlying3
  simp only [List.cons.injEq, and_true] at e0 e1
  subst e0 e1
  refine ⟨⟨v0, v1⟩, ?_, ⟨(i64r_of w1)⟩⟩
  rw [hts, Sl.t]; try rfl

set_option maxRecDepth 100000 in
theorem la_of (ts : List T) (h : Shape Try.prog 146 ts) : ∃ e : La, ts = e.t ∧ e.Wf := by
  obtain ⟨hl, hf⟩ := h.struct_inv Try.underlying146
  rw [show Try.prog.cellsOf 146 = 5 by kernel_rfl] at hl
  obtain ⟨c0, c1, c2, c3, c4, hts⟩ : ∃ c0 c1 c2 c3 c4, ts = [c0, c1, c2, c3, c4] := by
    match ts, hl with
    | [c0, c1, c2, c3, c4], _ => exact ⟨c0, c1, c2, c3, c4, rfl⟩
  have d4 : Try.prog.cellsOf 4 = 1 := by kernel_rfl
  have d3 : Try.prog.cellsOf 3 = 1 := by kernel_rfl
  rw [hts] at hf
  simp only [List.forall_mem_cons, d4, d3, List.drop, List.take] at hf
  obtain ⟨h0, h1, h2, h3, h4, _⟩ := hf
  obtain ⟨v0, e0⟩ := h0.bool_inv Try.underlying4
  obtain ⟨v1, e1, w1⟩ := h1.int_inv Try.underlying3
  obtain ⟨v2, e2, w2⟩ := h2.int_inv Try.underlying3
  obtain ⟨v3, e3, w3⟩ := h3.int_inv Try.underlying3
  obtain ⟨v4, e4, w4⟩ := h4.int_inv Try.underlying3
  simp only [List.cons.injEq, and_true] at e0 e1 e2 e3 e4
  subst e0 e1 e2 e3 e4
  refine ⟨⟨v0, v1, v2, v3, v4⟩, ?_, ⟨(i64r_of w1), (i64r_of w2), (i64r_of w3), (i64r_of w4)⟩⟩
  rw [hts, La.t]; try rfl

set_option maxRecDepth 100000 in
theorem it_of (ts : List T) (h : Shape Try.prog 138 ts) : ∃ e : It, ts = e.t ∧ e.Wf := by
  obtain ⟨hl, hf⟩ := h.struct_inv Try.underlying138
  rw [show Try.prog.cellsOf 138 = 2 by kernel_rfl] at hl
  obtain ⟨c0, c1, hts⟩ : ∃ c0 c1, ts = [c0, c1] := by
    match ts, hl with
    | [c0, c1], _ => exact ⟨c0, c1, rfl⟩
  have d25 : Try.prog.cellsOf 25 = 1 := by kernel_rfl
  have d3 : Try.prog.cellsOf 3 = 1 := by kernel_rfl
  rw [hts] at hf
  simp only [List.forall_mem_cons, d25, d3, List.drop, List.take] at hf
  obtain ⟨h0, h1, _⟩ := hf
  obtain ⟨s0, e0, w0, w0'⟩ := h0.slice_inv Try.underlying25
  obtain ⟨v1, e1, w1⟩ := h1.int_inv Try.underlying3
  simp only [List.cons.injEq, and_true] at e0 e1
  subst e0 e1
  obtain ⟨l0, rfl, hl0⟩ := list_of fun x hx => int_of (w0' x hx)
  refine ⟨⟨l0, v1⟩, ?_, ⟨(by simpa using w0), (i64r_of w1)⟩⟩
  rw [hts, It.t]; try rfl

set_option maxRecDepth 100000 in
theorem fr_of (ts : List T) (h : Shape Try.prog 97 ts) : ∃ e : Fr, ts = e.t ∧ e.Wf := by
  obtain ⟨hl, hf⟩ := h.struct_inv Try.underlying97
  rw [show Try.prog.cellsOf 97 = 6 by kernel_rfl] at hl
  obtain ⟨c0, c1, c2, c3, c4, c5, hts⟩ : ∃ c0 c1 c2 c3 c4 c5, ts = [c0, c1, c2, c3, c4, c5] := by
    match ts, hl with
    | [c0, c1, c2, c3, c4, c5], _ => exact ⟨c0, c1, c2, c3, c4, c5, rfl⟩
  have d3 : Try.prog.cellsOf 3 = 1 := by kernel_rfl
  have d25 : Try.prog.cellsOf 25 = 1 := by kernel_rfl
  have d93 : Try.prog.cellsOf 93 = 1 := by kernel_rfl
  have d94 : Try.prog.cellsOf 94 = 1 := by kernel_rfl
  have d95 : Try.prog.cellsOf 95 = 1 := by kernel_rfl
  rw [hts] at hf
  simp only [List.forall_mem_cons, d3, d25, d93, d94, d95, List.drop, List.take] at hf
  obtain ⟨h0, h1, h2, h3, h4, h5, _⟩ := hf
  obtain ⟨v0, e0, w0⟩ := h0.int_inv Try.underlying3
  obtain ⟨v1, e1, w1⟩ := h1.int_inv Try.underlying3
  obtain ⟨s2, e2, w2, w2'⟩ := h2.slice_inv Try.underlying25
  obtain ⟨s3, e3, w3, w3'⟩ := h3.slice_inv Try.underlying93
  obtain ⟨s4, e4, w4, w4'⟩ := h4.slice_inv Try.underlying94
  obtain ⟨s5, e5, w5, w5'⟩ := h5.slice_inv Try.underlying95
  simp only [List.cons.injEq, and_true] at e0 e1 e2 e3 e4 e5
  subst e0 e1 e2 e3 e4 e5
  obtain ⟨l2, rfl, hl2⟩ := list_of fun x hx => int_of (w2' x hx)
  obtain ⟨l3, rfl, hl3⟩ := list_of fun x hx => sl_of x (w3' x hx)
  obtain ⟨l4, rfl, hl4⟩ := list_of fun x hx => la_of x (w4' x hx)
  obtain ⟨l5, rfl, hl5⟩ := list_of fun x hx => it_of x (w5' x hx)
  refine ⟨⟨v0, v1, l2, l3, l4, l5⟩, ?_, ⟨(i64r_of w0), (i64r_of w1), (by simpa using w2), (by simpa using w3), hl3, (by simpa using w4), hl4, (by simpa using w5), hl5⟩⟩
  rw [hts, Fr.t]; try rfl

set_option maxRecDepth 100000 in
theorem mc_of (ts : List T) (h : Shape Try.prog 33 ts) : ∃ e : Mc, ts = e.t ∧ e.Wf := by
  obtain ⟨hl, hf⟩ := h.struct_inv Try.underlying33
  rw [show Try.prog.cellsOf 33 = 13 by kernel_rfl] at hl
  obtain ⟨c0, c1, c2, c3, c4, c5, c6, c7, c8, c9, c10, c11, c12, hts⟩ : ∃ c0 c1 c2 c3 c4 c5 c6 c7 c8 c9 c10 c11 c12, ts = [c0, c1, c2, c3, c4, c5, c6, c7, c8, c9, c10, c11, c12] := by
    match ts, hl with
    | [c0, c1, c2, c3, c4, c5, c6, c7, c8, c9, c10, c11, c12], _ => exact ⟨c0, c1, c2, c3, c4, c5, c6, c7, c8, c9, c10, c11, c12, rfl⟩
  have d24 : Try.prog.cellsOf 24 = 1 := by kernel_rfl
  have d25 : Try.prog.cellsOf 25 = 1 := by kernel_rfl
  have d26 : Try.prog.cellsOf 26 = 1 := by kernel_rfl
  have d27 : Try.prog.cellsOf 27 = 1 := by kernel_rfl
  have d30 : Try.prog.cellsOf 30 = 2 := by kernel_rfl
  have d3 : Try.prog.cellsOf 3 = 1 := by kernel_rfl
  have d31 : Try.prog.cellsOf 31 = 1 := by kernel_rfl
  have d4 : Try.prog.cellsOf 4 = 1 := by kernel_rfl
  rw [hts] at hf
  simp only [List.forall_mem_cons, d24, d25, d26, d27, d30, d3, d31, d4, List.drop, List.take] at hf
  obtain ⟨h0, h1, h2, h3, h4, h5, h6, h7, h8, h9, h10, h11, _⟩ := hf
  obtain ⟨v0, e0, w0⟩ := he_of _ h0
  obtain ⟨s1, e1, w1, w1'⟩ := h1.slice_inv Try.underlying25
  obtain ⟨s2, e2, w2, w2'⟩ := h2.slice_inv Try.underlying26
  obtain ⟨s3, e3, w3, w3'⟩ := h3.slice_inv Try.underlying27
  obtain ⟨v4, e4, w4⟩ := rc_of _ h4
  obtain ⟨v5, e5, w5⟩ := h5.int_inv Try.underlying3
  obtain ⟨s6, e6, w6, w6'⟩ := h6.slice_inv Try.underlying31
  obtain ⟨v7, e7, w7⟩ := h7.int_inv Try.underlying3
  obtain ⟨v8, e8, w8⟩ := h8.int_inv Try.underlying3
  obtain ⟨v9, e9, w9⟩ := h9.int_inv Try.underlying3
  obtain ⟨v10, e10, w10⟩ := h10.int_inv Try.underlying3
  obtain ⟨v11, e11⟩ := h11.bool_inv Try.underlying4
  simp only [List.cons.injEq, and_true] at e1 e2 e3 e5 e6 e7 e8 e9 e10 e11
  subst e1 e2 e3 e5 e6 e7 e8 e9 e10 e11
  obtain ⟨l1, rfl, hl1⟩ := list_of fun x hx => int_of (w1' x hx)
  obtain ⟨l2, rfl, hl2⟩ := list_of fun x hx => mt_of x (w2' x hx)
  obtain ⟨l3, rfl, hl3⟩ := list_of fun x hx => fr_of x (w3' x hx)
  obtain ⟨l6, rfl, hl6⟩ := list_of fun x hx => byte_of (w6' x hx)
  refine ⟨⟨v0, l1, l2, l3, v4, v5, l6, v7, v8, v9, v10, v11⟩, ?_, ⟨w0, (by simpa using w1), (by simpa using w2), hl2, (by simpa using w3), hl3, w4, (i64r_of w5), (by simpa using w6), (i64r_of w7), (i64r_of w8), (i64r_of w9), (i64r_of w10)⟩⟩
  rw [hts, Mc.t, ← e0, ← e4]; try rfl

end Go.Gv
