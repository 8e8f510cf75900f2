/- Part L1 of the proof: contracts of functions of the program, each walked once. -/
import Derived.Test.YtnmkmfancgcaeaaGreatDoorD5
import Derived.Test.YtnmkmfancgcaeaaGreatDoorD13
import Derived.KernelRfl
set_option linter.all false
namespace Go.Gv
open Go.Av Go.Proofs
set_option maxRecDepth 100000
theorem QJ0 {x:List T} {els:List (List T)} (h:x∈els):SizeOf.sizeOf x < SizeOf.sizeOf [T.sl els]:=by
 have:=List.sizeOf_lt_of_mem h;simp;omega
theorem ex_of:∀(ts:List T),Shape Tryz.prog 24 ts->∃e:Ex,ts=e.t/\e.Wf
 | ts,h=>by
  obtain ⟨hl,hf⟩:=h.struct_inv Tryz.underlying24;rw[show Tryz.prog.cellsOf 24=4 by kernel_rfl] at hl
  obtain ⟨a,b,c,d,hts⟩:∃a b c d,ts=[a,b,c,d]:=by
   match ts,hl with
   | [a,b,c,d],_=>exact ⟨a,b,c,d,rfl⟩
  have c3:Tryz.prog.cellsOf 3=1:=by kernel_rfl
  have c9:Tryz.prog.cellsOf 9=1:=by kernel_rfl
  have c62:Tryz.prog.cellsOf 22=1:=by kernel_rfl
  rw[hts] at hf;simp only[List.forall_mem_cons,c3,c9,c62,List.drop,List.take] at hf;obtain ⟨h1,h2,h3,h4,_⟩:=hf;obtain ⟨k,e1,w1⟩:=h1.int_inv Tryz.underlying3;obtain ⟨n,e2,w2⟩:=h2.int_inv Tryz.underlying3;obtain ⟨s,e3,w3⟩:=h3.str_inv Tryz.underlying9;obtain ⟨els,e4,w4,w5⟩:=h4.slice_inv Tryz.underlying22;simp only[List.cons.injEq,and_true] at e1 e2 e3 e4;subst e1 e2 e3 e4;obtain ⟨l,rfl,hl⟩:=UN0 (f:=Ex.t) (W:=Ex.Wf) fun x hx=>by
   have:=QJ0 hx;exact ex_of x (w5 x hx)
  refine ⟨.mk k n s l,by rw[hts,Ex.t_mk],.mk (UY0 w1) (UY0 w2) w3 (by simpa using w4) hl⟩
termination_by ts=>SizeOf.sizeOf ts
decreasing_by subst hts;simp at this |-;omega
end Go.Gv
