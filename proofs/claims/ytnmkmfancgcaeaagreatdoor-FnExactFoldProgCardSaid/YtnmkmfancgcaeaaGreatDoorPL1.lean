/- Part PL1 of the proof: contracts of functions of the program, each walked once. -/
import Derived.Test.YtnmkmfancgcaeaaGreatDoorPD5
import Derived.Test.YtnmkmfancgcaeaaGreatDoorPD13
import Derived.KernelRfl
set_option linter.all false
namespace Go.Gv
open Go.Av Go.Proofs
set_option maxRecDepth 100000
theorem fA0 {x:List T} {els:List (List T)} (h:x∈els):SizeOf.sizeOf x < SizeOf.sizeOf [T.sl els]:=by
 have:=List.sizeOf_lt_of_mem h;simp;omega
theorem wL1 {ts:List T} (h:Shape Tryz.prog 9 ts):∃s,ts=strT s/\s.size<=maxLen:=by
 obtain ⟨s,rfl,hs⟩:=h.str_inv Tryz.underlying9;exact ⟨s,rfl,hs⟩
theorem yN1:∀(ts:List T),Shape Tryz.prog 24 ts->∃e:Ex,ts=e.t/\e.Wf
 | ts,h=>by
  obtain ⟨hl,hf⟩:=h.struct_inv Tryz.underlying24;rw[show Tryz.prog.cellsOf 24=4 by kernel_rfl] at hl
  obtain ⟨a,b,c,d,hts⟩:∃a b c d,ts=[a,b,c,d]:=by
   match ts,hl with
   | [a,b,c,d],_=>exact ⟨a,b,c,d,rfl⟩
  have c3:Tryz.prog.cellsOf 3=1:=by kernel_rfl
  have c9:Tryz.prog.cellsOf 9=1:=by kernel_rfl
  have c62:Tryz.prog.cellsOf 22=1:=by kernel_rfl
  rw[hts] at hf;simp only[List.forall_mem_cons,c3,c9,c62,List.drop,List.take] at hf;obtain ⟨h1,h2,h3,h4,_⟩:=hf;obtain ⟨k,e1,w1⟩:=h1.int_inv Tryz.underlying3;obtain ⟨n,e2,w2⟩:=h2.int_inv Tryz.underlying3;obtain ⟨s,e3,w3⟩:=h3.str_inv Tryz.underlying9;obtain ⟨els,e4,w4,w5⟩:=h4.slice_inv Tryz.underlying22;simp only[List.cons.injEq,and_true] at e1 e2 e3 e4;subst e1 e2 e3 e4;obtain ⟨l,rfl,hl⟩:=vW0 (f:=Ex.t) (W:=Ex.Wf) fun x hx=>by
   have:=fA0 hx;exact yN1 x (w5 x hx)
  refine ⟨.mk k n s l,by rw[hts,Ex.t_mk],.mk (fT0 w1) (fT0 w2) w3 (by simpa using w4) hl⟩
termination_by ts=>SizeOf.sizeOf ts
decreasing_by subst hts;simp at this |-;omega
theorem zN1:∀(ts:List T),Shape Tryz.prog 127 ts->∃e:Sm,ts=e.t/\e.Wf
 | ts,h=>by
  obtain ⟨hl,hf⟩:=h.struct_inv Tryz.underlying127;rw[show Tryz.prog.cellsOf 127=6 by kernel_rfl] at hl
  obtain ⟨a,b,c,d,e,f,hts⟩:∃a b c d e f,ts=[a,b,c,d,e,f]:=by
   match ts,hl with
   | [a,b,c,d,e,f],_=>exact ⟨a,b,c,d,e,f,rfl⟩
  have c3:Tryz.prog.cellsOf 3=1:=by kernel_rfl
  have c9:Tryz.prog.cellsOf 9=1:=by kernel_rfl
  have c62:Tryz.prog.cellsOf 22=1:=by kernel_rfl
  have c26:Tryz.prog.cellsOf 80=1:=by kernel_rfl
  rw[hts] at hf;simp only[List.forall_mem_cons,c3,c9,c62,c26,List.drop,List.take] at hf;obtain ⟨h1,h2,h3,h4,h5,h6,_⟩:=hf;obtain ⟨k,e1,w1⟩:=h1.int_inv Tryz.underlying3;obtain ⟨s,e2,w2⟩:=h2.str_inv Tryz.underlying9;obtain ⟨t,e3,w3⟩:=h3.str_inv Tryz.underlying9;obtain ⟨els,e4,w4,w4'⟩:=h4.slice_inv Tryz.underlying22;obtain ⟨elsa,e5,w5,w5'⟩:=h5.slice_inv Tryz.underlying80;obtain ⟨elsb,e6,w6,w6'⟩:=h6.slice_inv Tryz.underlying80
  simp only[List.cons.injEq,and_true] at e1 e2 e3 e4 e5 e6;subst e1 e2 e3 e4 e5 e6;obtain ⟨x,rfl,hx⟩:=vW0 (f:=Ex.t) (W:=Ex.Wf) fun x hx=>yN1 x (w4' x hx);obtain ⟨la,rfl,hla⟩:=vW0 (f:=Sm.t) (W:=Sm.Wf) fun x hx=>by
   have:=fA0 hx;exact zN1 x (w5' x hx)
  obtain ⟨lb,rfl,hlb⟩:=vW0 (f:=Sm.t) (W:=Sm.Wf) fun x hx=>by
   have:=fA0 hx;exact zN1 x (w6' x hx)
  refine ⟨.mk k s t x la lb,by rw[hts,Sm.t_mk],.mk (fT0 w1) w2 w3 (by simpa using w4) hx (by simpa using w5) hla (by simpa using w6) hlb⟩
termination_by ts=>SizeOf.sizeOf ts
decreasing_by all_goals (subst hts;simp at this |-;omega)
theorem UC0 {els:List (List T)} (h:∀x∈els,Shape Tryz.prog 127 x):∃l:List Sm,els=l.map Sm.t/\∀e∈l,e.Wf:=vW0 fun x hx=>zN1 x (h x hx)
theorem ru_of (ts:List T) (h:Shape Tryz.prog 82 ts):∃e:Ru,ts=e.t/\e.Wf:=by
 obtain ⟨hl,hf⟩:=h.struct_inv Tryz.underlying82;rw[show Tryz.prog.cellsOf 82=6 by kernel_rfl] at hl
 obtain ⟨a,b,c,d,e,f,hts⟩:∃a b c d e f,ts=[a,b,c,d,e,f]:=by
  match ts,hl with
  | [a,b,c,d,e,f],_=>exact ⟨a,b,c,d,e,f,rfl⟩
 have c3:Tryz.prog.cellsOf 3=1:=by kernel_rfl
 have c118:Tryz.prog.cellsOf 24=4:=by kernel_rfl
 have c26:Tryz.prog.cellsOf 80=1:=by kernel_rfl
 rw[hts] at hf;simp only[List.forall_mem_cons,c3,c118,c26,List.drop,List.take] at hf;obtain ⟨h1,h2,h3,_⟩:=hf;obtain ⟨k,e1,w1⟩:=h1.int_inv Tryz.underlying3;obtain ⟨p,e2,w2⟩:=yN1 _ h2;obtain ⟨els,e3,w3,w3'⟩:=h3.slice_inv Tryz.underlying80;simp only[List.cons.injEq,and_true] at e1 e3;subst e1 e3;obtain ⟨l,rfl,hx⟩:=UC0 w3';refine ⟨⟨k,p,l⟩,?_,fT0 w1,w2,by simpa using w3,hx⟩
 rw[hts,Ru.t,<-e2];rfl
theorem fu_of (ts:List T) (h:Shape Tryz.prog 85 ts):∃e:Fu,ts=e.t/\e.Wf:=by
 obtain ⟨hl,hf⟩:=h.struct_inv Tryz.underlying85;rw[show Tryz.prog.cellsOf 85=3 by kernel_rfl] at hl
 obtain ⟨a,b,c,hts⟩:∃a b c,ts=[a,b,c]:=by
  match ts,hl with
  | [a,b,c],_=>exact ⟨a,b,c,rfl⟩
 have c9:Tryz.prog.cellsOf 9=1:=by kernel_rfl
 have c71:Tryz.prog.cellsOf 60=1:=by kernel_rfl
 have c26:Tryz.prog.cellsOf 80=1:=by kernel_rfl
 rw[hts] at hf;simp only[List.forall_mem_cons,c9,c71,c26,List.drop,List.take] at hf;obtain ⟨h1,h2,h3,_⟩:=hf;obtain ⟨s,e1,w1⟩:=h1.str_inv Tryz.underlying9;obtain ⟨elsp,e2,w2,w2'⟩:=h2.slice_inv Tryz.underlying60;obtain ⟨els,e3,w3,w3'⟩:=h3.slice_inv Tryz.underlying80;simp only[List.cons.injEq,and_true] at e1 e2 e3;subst e1 e2 e3;obtain ⟨l,rfl,hx⟩:=UC0 w3';obtain ⟨lp,rfl,hp⟩:=vW0 fun x hx=>wL1 (w2' x hx)
 exact ⟨⟨s,lp,l⟩,hts,w1,by simpa using w2,hp,by simpa using w3,hx⟩
theorem pg_of (ts:List T) (h:Shape Tryz.prog 37 ts):∃e:Pg,ts=e.t/\e.Wf:=by
 obtain ⟨hl,hf⟩:=h.struct_inv Tryz.underlying37;rw[show Tryz.prog.cellsOf 37=2 by kernel_rfl] at hl
 obtain ⟨a,b,hts⟩:∃a b,ts=[a,b]:=by
  match ts,hl with
  | [a,b],_=>exact ⟨a,b,rfl⟩
 have c22:Tryz.prog.cellsOf 34=1:=by kernel_rfl
 have c23:Tryz.prog.cellsOf 35=1:=by kernel_rfl
 rw[hts] at hf;simp only[List.forall_mem_cons,c22,c23,List.drop,List.take] at hf;obtain ⟨h1,h2,_⟩:=hf;obtain ⟨elsr,e1,w1,w1'⟩:=h1.slice_inv Tryz.underlying34;obtain ⟨elsf,e2,w2,w2'⟩:=h2.slice_inv Tryz.underlying35;simp only[List.cons.injEq,and_true] at e1 e2;subst e1 e2;obtain ⟨lr,rfl,hr⟩:=vW0 fun x hx=>ru_of x (w1' x hx);obtain ⟨lf,rfl,hf⟩:=vW0 fun x hx=>fu_of x (w2' x hx);exact ⟨⟨lr,lf⟩,hts,by simpa using w1,hr,by simpa using w2,hf⟩
end Go.Gv
