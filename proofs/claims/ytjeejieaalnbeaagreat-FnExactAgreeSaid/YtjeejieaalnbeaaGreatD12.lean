/- Part D12 of the proof: contracts of functions of the program, each walked once. -/
import Derived.Test.YtjeejieaalnbeaaGreatT1
import Derived.Test.YtjeejieaalnbeaaGreatK1
import Derived.KernelRfl
set_option linter.all false
namespace Go.Gv
open Go.Av Go.Proofs
set_option maxRecDepth 100000
theorem szOf_mem {x:List T} {els:List (List T)} (h:x∈els):SizeOf.sizeOf x < SizeOf.sizeOf [T.sl els]:=by
 have:=List.sizeOf_lt_of_mem h;simp;omega
theorem str_of {ts:List T} (h:Shape Tryz.prog 9 ts):∃s,ts=strT s/\s.size<=maxLen:=by
 obtain ⟨s,rfl,hs⟩:=h.str_inv Tryz.underlying9;exact ⟨s,rfl,hs⟩
theorem ex_of:∀(ts:List T),Shape Tryz.prog 119 ts->∃e:Ex,ts=e.t/\e.Wf
 | ts,h=>by
  obtain ⟨hl,hf⟩:=h.struct_inv Tryz.underlying119;rw[show Tryz.prog.cellsOf 119=4 by kernel_rfl] at hl
  obtain ⟨a,b,c,d,hts⟩:∃a b c d,ts=[a,b,c,d]:=by
   match ts,hl with
   | [a,b,c,d],_=>exact ⟨a,b,c,d,rfl⟩
  have c3:Tryz.prog.cellsOf 3=1:=by kernel_rfl
  have c9:Tryz.prog.cellsOf 9=1:=by kernel_rfl
  have c117:Tryz.prog.cellsOf 117=1:=by kernel_rfl
  rw[hts] at hf;simp only[List.forall_mem_cons,c3,c9,c117,List.drop,List.take] at hf;obtain ⟨h1,h2,h3,h4,_⟩:=hf;obtain ⟨k,e1,w1⟩:=h1.int_inv Tryz.underlying3;obtain ⟨n,e2,w2⟩:=h2.int_inv Tryz.underlying3;obtain ⟨s,e3,w3⟩:=h3.str_inv Tryz.underlying9;obtain ⟨els,e4,w4,w5⟩:=h4.slice_inv Tryz.underlying117;simp only[List.cons.injEq,and_true] at e1 e2 e3 e4;subst e1 e2 e3 e4;obtain ⟨l,rfl,hl⟩:=list_of (f:=Ex.t) (W:=Ex.Wf) fun x hx=>by
   have:=szOf_mem hx;exact ex_of x (w5 x hx)
  refine ⟨.mk k n s l,by rw[hts,Ex.t_mk],.mk (i64r_of w1) (i64r_of w2) w3 (by simpa using w4) hl⟩
termination_by ts=>SizeOf.sizeOf ts
decreasing_by subst hts;simp at this |-;omega
theorem sm_of:∀(ts:List T),Shape Tryz.prog 248 ts->∃e:Sm,ts=e.t/\e.Wf
 | ts,h=>by
  obtain ⟨hl,hf⟩:=h.struct_inv Tryz.underlying248;rw[show Tryz.prog.cellsOf 248=6 by kernel_rfl] at hl
  obtain ⟨a,b,c,d,e,f,hts⟩:∃a b c d e f,ts=[a,b,c,d,e,f]:=by
   match ts,hl with
   | [a,b,c,d,e,f],_=>exact ⟨a,b,c,d,e,f,rfl⟩
  have c3:Tryz.prog.cellsOf 3=1:=by kernel_rfl
  have c9:Tryz.prog.cellsOf 9=1:=by kernel_rfl
  have c117:Tryz.prog.cellsOf 117=1:=by kernel_rfl
  have c120:Tryz.prog.cellsOf 120=1:=by kernel_rfl
  rw[hts] at hf;simp only[List.forall_mem_cons,c3,c9,c117,c120,List.drop,List.take] at hf;obtain ⟨h1,h2,h3,h4,h5,h6,_⟩:=hf;obtain ⟨k,e1,w1⟩:=h1.int_inv Tryz.underlying3;obtain ⟨s,e2,w2⟩:=h2.str_inv Tryz.underlying9;obtain ⟨t,e3,w3⟩:=h3.str_inv Tryz.underlying9;obtain ⟨els,e4,w4,w4'⟩:=h4.slice_inv Tryz.underlying117;obtain ⟨elsa,e5,w5,w5'⟩:=h5.slice_inv Tryz.underlying120;obtain ⟨elsb,e6,w6,w6'⟩:=h6.slice_inv Tryz.underlying120
  simp only[List.cons.injEq,and_true] at e1 e2 e3 e4 e5 e6;subst e1 e2 e3 e4 e5 e6;obtain ⟨x,rfl,hx⟩:=list_of (f:=Ex.t) (W:=Ex.Wf) fun x hx=>ex_of x (w4' x hx);obtain ⟨la,rfl,hla⟩:=list_of (f:=Sm.t) (W:=Sm.Wf) fun x hx=>by
   have:=szOf_mem hx;exact sm_of x (w5' x hx)
  obtain ⟨lb,rfl,hlb⟩:=list_of (f:=Sm.t) (W:=Sm.Wf) fun x hx=>by
   have:=szOf_mem hx;exact sm_of x (w6' x hx)
  refine ⟨.mk k s t x la lb,by rw[hts,Sm.t_mk],.mk (i64r_of w1) w2 w3 (by simpa using w4) hx (by simpa using w5) hla (by simpa using w6) hlb⟩
termination_by ts=>SizeOf.sizeOf ts
decreasing_by all_goals (subst hts;simp at this |-;omega)
theorem stmts_of {els:List (List T)} (h:∀x∈els,Shape Tryz.prog 248 x):∃l:List Sm,els=l.map Sm.t/\∀e∈l,e.Wf:=list_of fun x hx=>sm_of x (h x hx)
theorem ru_of (ts:List T) (h:Shape Tryz.prog 122 ts):∃e:Ru,ts=e.t/\e.Wf:=by
 obtain ⟨hl,hf⟩:=h.struct_inv Tryz.underlying122;rw[show Tryz.prog.cellsOf 122=6 by kernel_rfl] at hl
 obtain ⟨a,b,c,d,e,f,hts⟩:∃a b c d e f,ts=[a,b,c,d,e,f]:=by
  match ts,hl with
  | [a,b,c,d,e,f],_=>exact ⟨a,b,c,d,e,f,rfl⟩
 have c3:Tryz.prog.cellsOf 3=1:=by kernel_rfl
 have c119:Tryz.prog.cellsOf 119=4:=by kernel_rfl
 have c120:Tryz.prog.cellsOf 120=1:=by kernel_rfl
 rw[hts] at hf;simp only[List.forall_mem_cons,c3,c119,c120,List.drop,List.take] at hf;obtain ⟨h1,h2,h3,_⟩:=hf;obtain ⟨k,e1,w1⟩:=h1.int_inv Tryz.underlying3;obtain ⟨p,e2,w2⟩:=ex_of _ h2;obtain ⟨els,e3,w3,w3'⟩:=h3.slice_inv Tryz.underlying120;simp only[List.cons.injEq,and_true] at e1 e3;subst e1 e3;obtain ⟨l,rfl,hx⟩:=stmts_of w3';refine ⟨⟨k,p,l⟩,?_,i64r_of w1,w2,by simpa using w3,hx⟩
 rw[hts,Ru.t,<-e2];rfl
theorem fu_of (ts:List T) (h:Shape Tryz.prog 125 ts):∃e:Fu,ts=e.t/\e.Wf:=by
 obtain ⟨hl,hf⟩:=h.struct_inv Tryz.underlying125;rw[show Tryz.prog.cellsOf 125=3 by kernel_rfl] at hl
 obtain ⟨a,b,c,hts⟩:∃a b c,ts=[a,b,c]:=by
  match ts,hl with
  | [a,b,c],_=>exact ⟨a,b,c,rfl⟩
 have c9:Tryz.prog.cellsOf 9=1:=by kernel_rfl
 have c30:Tryz.prog.cellsOf 30=1:=by kernel_rfl
 have c120:Tryz.prog.cellsOf 120=1:=by kernel_rfl
 rw[hts] at hf;simp only[List.forall_mem_cons,c9,c30,c120,List.drop,List.take] at hf;obtain ⟨h1,h2,h3,_⟩:=hf;obtain ⟨s,e1,w1⟩:=h1.str_inv Tryz.underlying9;obtain ⟨elsp,e2,w2,w2'⟩:=h2.slice_inv Tryz.underlying30;obtain ⟨els,e3,w3,w3'⟩:=h3.slice_inv Tryz.underlying120;simp only[List.cons.injEq,and_true] at e1 e2 e3;subst e1 e2 e3;obtain ⟨l,rfl,hx⟩:=stmts_of w3';obtain ⟨lp,rfl,hp⟩:=list_of fun x hx=>str_of (w2' x hx)
 exact ⟨⟨s,lp,l⟩,hts,w1,by simpa using w2,hp,by simpa using w3,hx⟩
theorem pg_of (ts:List T) (h:Shape Tryz.prog 25 ts):∃e:Pg,ts=e.t/\e.Wf:=by
 obtain ⟨hl,hf⟩:=h.struct_inv Tryz.underlying25;rw[show Tryz.prog.cellsOf 25=2 by kernel_rfl] at hl
 obtain ⟨a,b,hts⟩:∃a b,ts=[a,b]:=by
  match ts,hl with
  | [a,b],_=>exact ⟨a,b,rfl⟩
 have c22:Tryz.prog.cellsOf 22=1:=by kernel_rfl
 have c23:Tryz.prog.cellsOf 23=1:=by kernel_rfl
 rw[hts] at hf;simp only[List.forall_mem_cons,c22,c23,List.drop,List.take] at hf;obtain ⟨h1,h2,_⟩:=hf;obtain ⟨elsr,e1,w1,w1'⟩:=h1.slice_inv Tryz.underlying22;obtain ⟨elsf,e2,w2,w2'⟩:=h2.slice_inv Tryz.underlying23;simp only[List.cons.injEq,and_true] at e1 e2;subst e1 e2;obtain ⟨lr,rfl,hr⟩:=list_of fun x hx=>ru_of x (w1' x hx);obtain ⟨lf,rfl,hf⟩:=list_of fun x hx=>fu_of x (w2' x hx);exact ⟨⟨lr,lf⟩,hts,by simpa using w1,hr,by simpa using w2,hf⟩
theorem int_of {ts:List T} (h:Shape Tryz.prog 3 ts):∃s,ts=intT s/\i64r s:=by
 obtain ⟨s,rfl,hs⟩:=h.int_inv Tryz.underlying3;exact ⟨s,rfl,i64r_of hs⟩
theorem byte_of {ts:List T} (h:Shape Tryz.prog 5 ts):∃s,ts=byteT s/\True:=by
 obtain ⟨s,rfl,hs⟩:=h.int_inv Tryz.underlying5;exact ⟨s,rfl,trivial⟩
set_option maxRecDepth 100000 in
theorem vl_of (ts:List T) (h:Shape Tryz.prog 201 ts):∃e:Vl,ts=e.t/\e.Wf:=by
 obtain ⟨hl,hf⟩:=h.struct_inv Tryz.underlying201;rw[show Tryz.prog.cellsOf 201=3 by kernel_rfl] at hl
 obtain ⟨c0,c1,c2,hts⟩:∃c0 c1 c2,ts=[c0,c1,c2]:=by
  match ts,hl with
  | [c0,c1,c2],_=>exact ⟨c0,c1,c2,rfl⟩
 have d3:Tryz.prog.cellsOf 3=1:=by kernel_rfl
 have d9:Tryz.prog.cellsOf 9=1:=by kernel_rfl
 rw[hts] at hf;simp only[List.forall_mem_cons,d3,d9,List.drop,List.take] at hf;obtain ⟨h0,h1,h2,_⟩:=hf;obtain ⟨v0,e0,w0⟩:=h0.int_inv Tryz.underlying3;obtain ⟨v1,e1,w1⟩:=h1.int_inv Tryz.underlying3;obtain ⟨v2,e2,w2⟩:=h2.str_inv Tryz.underlying9;simp only[List.cons.injEq,and_true] at e0 e1 e2;subst e0 e1 e2;refine ⟨⟨v0,v1,v2⟩,?_,⟨(i64r_of w0),(i64r_of w1),w2⟩⟩;rw[hts,Vl.t];try rfl
set_option maxRecDepth 100000 in
theorem rc_of (ts:List T) (h:Shape Tryz.prog 32 ts):∃e:Rc,ts=e.t/\e.Wf:=by
 obtain ⟨hl,hf⟩:=h.struct_inv Tryz.underlying32;rw[show Tryz.prog.cellsOf 32=2 by kernel_rfl] at hl
 obtain ⟨c0,c1,hts⟩:∃c0 c1,ts=[c0,c1]:=by
  match ts,hl with
  | [c0,c1],_=>exact ⟨c0,c1,rfl⟩
 have d9:Tryz.prog.cellsOf 9=1:=by kernel_rfl
 have d30:Tryz.prog.cellsOf 30=1:=by kernel_rfl
 rw[hts] at hf;simp only[List.forall_mem_cons,d9,d30,List.drop,List.take] at hf;obtain ⟨h0,h1,_⟩:=hf;obtain ⟨v0,e0,w0⟩:=h0.str_inv Tryz.underlying9;obtain ⟨s1,e1,w1,w1'⟩:=h1.slice_inv Tryz.underlying30;simp only[List.cons.injEq,and_true] at e0 e1;subst e0 e1;obtain ⟨l1,rfl,hl1⟩:=list_of fun x hx=>str_of (w1' x hx);refine ⟨⟨v0,l1⟩,?_,⟨w0,(by simpa using w1),hl1⟩⟩
 rw[hts,Rc.t];try rfl
set_option maxRecDepth 100000 in
theorem ce_of (ts:List T) (h:Shape Tryz.prog 210 ts):∃e:Ce,ts=e.t/\e.Wf:=by
 obtain ⟨hl,hf⟩:=h.struct_inv Tryz.underlying210;rw[show Tryz.prog.cellsOf 210=4 by kernel_rfl] at hl
 obtain ⟨c0,c1,c2,c3,hts⟩:∃c0 c1 c2 c3,ts=[c0,c1,c2,c3]:=by
  match ts,hl with
  | [c0,c1,c2,c3],_=>exact ⟨c0,c1,c2,c3,rfl⟩
 have d3:Tryz.prog.cellsOf 3=1:=by kernel_rfl
 have d201:Tryz.prog.cellsOf 201=3:=by kernel_rfl
 rw[hts] at hf;simp only[List.forall_mem_cons,d3,d201,List.drop,List.take] at hf;obtain ⟨h0,h1,_⟩:=hf;obtain ⟨v0,e0,w0⟩:=h0.int_inv Tryz.underlying3;obtain ⟨v1,e1,w1⟩:=vl_of _ h1;simp only[List.cons.injEq,and_true] at e0;subst e0;refine ⟨⟨v0,v1⟩,?_,⟨(i64r_of w0),w1⟩⟩;rw[hts,Ce.t,<-e1];try rfl
set_option maxRecDepth 100000 in
theorem he_of (ts:List T) (h:Shape Tryz.prog 38 ts):∃e:He,ts=e.t/\e.Wf:=by
 obtain ⟨hl,hf⟩:=h.struct_inv Tryz.underlying38;rw[show Tryz.prog.cellsOf 38=1 by kernel_rfl] at hl
 obtain ⟨c0,hts⟩:∃c0,ts=[c0]:=by
  match ts,hl with
  | [c0],_=>exact ⟨c0,rfl⟩
 have d36:Tryz.prog.cellsOf 36=1:=by kernel_rfl
 rw[hts] at hf;simp only[List.forall_mem_cons,d36,List.drop,List.take] at hf;obtain ⟨h0,_⟩:=hf;obtain ⟨s0,e0,w0,w0'⟩:=h0.slice_inv Tryz.underlying36;simp only[List.cons.injEq,and_true] at e0;subst e0;obtain ⟨l0,rfl,hl0⟩:=list_of fun x hx=>ce_of x (w0' x hx);refine ⟨⟨l0⟩,?_,⟨(by simpa using w0),hl0⟩⟩
 rw[hts,He.t];try rfl
set_option maxRecDepth 100000 in
theorem me_of (ts:List T) (h:Shape Tryz.prog 252 ts):∃e:Me,ts=e.t/\e.Wf:=by
 obtain ⟨hl,hf⟩:=h.struct_inv Tryz.underlying252;rw[show Tryz.prog.cellsOf 252=2 by kernel_rfl] at hl
 obtain ⟨c0,c1,hts⟩:∃c0 c1,ts=[c0,c1]:=by
  match ts,hl with
  | [c0,c1],_=>exact ⟨c0,c1,rfl⟩
 have d9:Tryz.prog.cellsOf 9=1:=by kernel_rfl
 have d3:Tryz.prog.cellsOf 3=1:=by kernel_rfl
 rw[hts] at hf;simp only[List.forall_mem_cons,d9,d3,List.drop,List.take] at hf;obtain ⟨h0,h1,_⟩:=hf;obtain ⟨v0,e0,w0⟩:=h0.str_inv Tryz.underlying9;obtain ⟨v1,e1,w1⟩:=h1.int_inv Tryz.underlying3;simp only[List.cons.injEq,and_true] at e0 e1;subst e0 e1;refine ⟨⟨v0,v1⟩,?_,⟨w0,(i64r_of w1)⟩⟩;rw[hts,Me.t];try rfl
set_option maxRecDepth 100000 in
theorem mt_of (ts:List T) (h:Shape Tryz.prog 133 ts):∃e:Mt,ts=e.t/\e.Wf:=by
 obtain ⟨hl,hf⟩:=h.struct_inv Tryz.underlying133;rw[show Tryz.prog.cellsOf 133=1 by kernel_rfl] at hl
 obtain ⟨c0,hts⟩:∃c0,ts=[c0]:=by
  match ts,hl with
  | [c0],_=>exact ⟨c0,rfl⟩
 have d131:Tryz.prog.cellsOf 131=1:=by kernel_rfl
 rw[hts] at hf;simp only[List.forall_mem_cons,d131,List.drop,List.take] at hf;obtain ⟨h0,_⟩:=hf;obtain ⟨s0,e0,w0,w0'⟩:=h0.slice_inv Tryz.underlying131;simp only[List.cons.injEq,and_true] at e0;subst e0;obtain ⟨l0,rfl,hl0⟩:=list_of fun x hx=>me_of x (w0' x hx);refine ⟨⟨l0⟩,?_,⟨(by simpa using w0),hl0⟩⟩
 rw[hts,Mt.t];try rfl
set_option maxRecDepth 100000 in
theorem sl_of (ts:List T) (h:Shape Tryz.prog 270 ts):∃e:Sl,ts=e.t/\e.Wf:=by
 obtain ⟨hl,hf⟩:=h.struct_inv Tryz.underlying270;rw[show Tryz.prog.cellsOf 270=2 by kernel_rfl] at hl
 obtain ⟨c0,c1,hts⟩:∃c0 c1,ts=[c0,c1]:=by
  match ts,hl with
  | [c0,c1],_=>exact ⟨c0,c1,rfl⟩
 have d4:Tryz.prog.cellsOf 4=1:=by kernel_rfl
 have d3:Tryz.prog.cellsOf 3=1:=by kernel_rfl
 rw[hts] at hf;simp only[List.forall_mem_cons,d4,d3,List.drop,List.take] at hf;obtain ⟨h0,h1,_⟩:=hf;obtain ⟨v0,e0⟩:=h0.bool_inv Tryz.underlying4;obtain ⟨v1,e1,w1⟩:=h1.int_inv Tryz.underlying3;simp only[List.cons.injEq,and_true] at e0 e1;subst e0 e1;refine ⟨⟨v0,v1⟩,?_,⟨(i64r_of w1)⟩⟩;rw[hts,Sl.t];try rfl
set_option maxRecDepth 100000 in
theorem la_of (ts:List T) (h:Shape Tryz.prog 274 ts):∃e:La,ts=e.t/\e.Wf:=by
 obtain ⟨hl,hf⟩:=h.struct_inv Tryz.underlying274;rw[show Tryz.prog.cellsOf 274=5 by kernel_rfl] at hl
 obtain ⟨c0,c1,c2,c3,c4,hts⟩:∃c0 c1 c2 c3 c4,ts=[c0,c1,c2,c3,c4]:=by
  match ts,hl with
  | [c0,c1,c2,c3,c4],_=>exact ⟨c0,c1,c2,c3,c4,rfl⟩
 have d4:Tryz.prog.cellsOf 4=1:=by kernel_rfl
 have d3:Tryz.prog.cellsOf 3=1:=by kernel_rfl
 rw[hts] at hf;simp only[List.forall_mem_cons,d4,d3,List.drop,List.take] at hf;obtain ⟨h0,h1,h2,h3,h4,_⟩:=hf;obtain ⟨v0,e0⟩:=h0.bool_inv Tryz.underlying4;obtain ⟨v1,e1,w1⟩:=h1.int_inv Tryz.underlying3;obtain ⟨v2,e2,w2⟩:=h2.int_inv Tryz.underlying3;obtain ⟨v3,e3,w3⟩:=h3.int_inv Tryz.underlying3;obtain ⟨v4,e4,w4⟩:=h4.int_inv Tryz.underlying3;simp only[List.cons.injEq,and_true] at e0 e1 e2 e3 e4;subst e0 e1 e2 e3 e4
 refine ⟨⟨v0,v1,v2,v3,v4⟩,?_,⟨(i64r_of w1),(i64r_of w2),(i64r_of w3),(i64r_of w4)⟩⟩;rw[hts,La.t];try rfl
set_option maxRecDepth 100000 in
theorem it_of (ts:List T) (h:Shape Tryz.prog 255 ts):∃e:It,ts=e.t/\e.Wf:=by
 obtain ⟨hl,hf⟩:=h.struct_inv Tryz.underlying255;rw[show Tryz.prog.cellsOf 255=2 by kernel_rfl] at hl
 obtain ⟨c0,c1,hts⟩:∃c0 c1,ts=[c0,c1]:=by
  match ts,hl with
  | [c0,c1],_=>exact ⟨c0,c1,rfl⟩
 have d39:Tryz.prog.cellsOf 39=1:=by kernel_rfl
 have d3:Tryz.prog.cellsOf 3=1:=by kernel_rfl
 rw[hts] at hf;simp only[List.forall_mem_cons,d39,d3,List.drop,List.take] at hf;obtain ⟨h0,h1,_⟩:=hf;obtain ⟨s0,e0,w0,w0'⟩:=h0.slice_inv Tryz.underlying39;obtain ⟨v1,e1,w1⟩:=h1.int_inv Tryz.underlying3;simp only[List.cons.injEq,and_true] at e0 e1;subst e0 e1;obtain ⟨l0,rfl,hl0⟩:=list_of fun x hx=>int_of (w0' x hx);refine ⟨⟨l0,v1⟩,?_,⟨(by simpa using w0),(i64r_of w1)⟩⟩
 rw[hts,It.t];try rfl
set_option maxRecDepth 100000 in
theorem fr_of (ts:List T) (h:Shape Tryz.prog 139 ts):∃e:Fr,ts=e.t/\e.Wf:=by
 obtain ⟨hl,hf⟩:=h.struct_inv Tryz.underlying139;rw[show Tryz.prog.cellsOf 139=6 by kernel_rfl] at hl
 obtain ⟨c0,c1,c2,c3,c4,c5,hts⟩:∃c0 c1 c2 c3 c4 c5,ts=[c0,c1,c2,c3,c4,c5]:=by
  match ts,hl with
  | [c0,c1,c2,c3,c4,c5],_=>exact ⟨c0,c1,c2,c3,c4,c5,rfl⟩
 have d3:Tryz.prog.cellsOf 3=1:=by kernel_rfl
 have d39:Tryz.prog.cellsOf 39=1:=by kernel_rfl
 have d135:Tryz.prog.cellsOf 135=1:=by kernel_rfl
 have d136:Tryz.prog.cellsOf 136=1:=by kernel_rfl
 have d137:Tryz.prog.cellsOf 137=1:=by kernel_rfl
 rw[hts] at hf;simp only[List.forall_mem_cons,d3,d39,d135,d136,d137,List.drop,List.take] at hf;obtain ⟨h0,h1,h2,h3,h4,h5,_⟩:=hf;obtain ⟨v0,e0,w0⟩:=h0.int_inv Tryz.underlying3;obtain ⟨v1,e1,w1⟩:=h1.int_inv Tryz.underlying3;obtain ⟨s2,e2,w2,w2'⟩:=h2.slice_inv Tryz.underlying39;obtain ⟨s3,e3,w3,w3'⟩:=h3.slice_inv Tryz.underlying135;obtain ⟨s4,e4,w4,w4'⟩:=h4.slice_inv Tryz.underlying136;obtain ⟨s5,e5,w5,w5'⟩:=h5.slice_inv Tryz.underlying137
 simp only[List.cons.injEq,and_true] at e0 e1 e2 e3 e4 e5;subst e0 e1 e2 e3 e4 e5;obtain ⟨l2,rfl,hl2⟩:=list_of fun x hx=>int_of (w2' x hx);obtain ⟨l3,rfl,hl3⟩:=list_of fun x hx=>sl_of x (w3' x hx);obtain ⟨l4,rfl,hl4⟩:=list_of fun x hx=>la_of x (w4' x hx);obtain ⟨l5,rfl,hl5⟩:=list_of fun x hx=>it_of x (w5' x hx);refine ⟨⟨v0,v1,l2,l3,l4,l5⟩,?_,⟨(i64r_of w0),(i64r_of w1),(by simpa using w2),(by simpa using w3),hl3,(by simpa using w4),hl4,(by simpa using w5),hl5⟩⟩
 rw[hts,Fr.t];try rfl
set_option maxRecDepth 100000 in
theorem mc_of (ts:List T) (h:Shape Tryz.prog 43 ts):∃e:Mc,ts=e.t/\e.Wf:=by
 obtain ⟨hl,hf⟩:=h.struct_inv Tryz.underlying43;rw[show Tryz.prog.cellsOf 43=13 by kernel_rfl] at hl
 obtain ⟨c0,c1,c2,c3,c4,c5,c6,c7,c8,c9,c10,c11,c12,hts⟩:∃c0 c1 c2 c3 c4 c5 c6 c7 c8 c9 c10 c11 c12,ts=[c0,c1,c2,c3,c4,c5,c6,c7,c8,c9,c10,c11,c12]:=by
  match ts,hl with
  | [c0,c1,c2,c3,c4,c5,c6,c7,c8,c9,c10,c11,c12],_=>exact ⟨c0,c1,c2,c3,c4,c5,c6,c7,c8,c9,c10,c11,c12,rfl⟩
 have d38:Tryz.prog.cellsOf 38=1:=by kernel_rfl
 have d39:Tryz.prog.cellsOf 39=1:=by kernel_rfl
 have d40:Tryz.prog.cellsOf 40=1:=by kernel_rfl
 have d41:Tryz.prog.cellsOf 41=1:=by kernel_rfl
 have d32:Tryz.prog.cellsOf 32=2:=by kernel_rfl
 have d3:Tryz.prog.cellsOf 3=1:=by kernel_rfl
 have d33:Tryz.prog.cellsOf 33=1:=by kernel_rfl
 have d4:Tryz.prog.cellsOf 4=1:=by kernel_rfl
 rw[hts] at hf;simp only[List.forall_mem_cons,d38,d39,d40,d41,d32,d3,d33,d4,List.drop,List.take] at hf;obtain ⟨h0,h1,h2,h3,h4,h5,h6,h7,h8,h9,h10,h11,_⟩:=hf;obtain ⟨v0,e0,w0⟩:=he_of _ h0;obtain ⟨s1,e1,w1,w1'⟩:=h1.slice_inv Tryz.underlying39;obtain ⟨s2,e2,w2,w2'⟩:=h2.slice_inv Tryz.underlying40;obtain ⟨s3,e3,w3,w3'⟩:=h3.slice_inv Tryz.underlying41;obtain ⟨v4,e4,w4⟩:=rc_of _ h4;obtain ⟨v5,e5,w5⟩:=h5.int_inv Tryz.underlying3
 obtain ⟨s6,e6,w6,w6'⟩:=h6.slice_inv Tryz.underlying33;obtain ⟨v7,e7,w7⟩:=h7.int_inv Tryz.underlying3;obtain ⟨v8,e8,w8⟩:=h8.int_inv Tryz.underlying3;obtain ⟨v9,e9,w9⟩:=h9.int_inv Tryz.underlying3;obtain ⟨v10,e10,w10⟩:=h10.int_inv Tryz.underlying3;obtain ⟨v11,e11⟩:=h11.bool_inv Tryz.underlying4;simp only[List.cons.injEq,and_true] at e1 e2 e3 e5 e6 e7 e8 e9 e10 e11;subst e1 e2 e3 e5 e6 e7 e8 e9 e10 e11
 obtain ⟨l1,rfl,hl1⟩:=list_of fun x hx=>int_of (w1' x hx);obtain ⟨l2,rfl,hl2⟩:=list_of fun x hx=>mt_of x (w2' x hx);obtain ⟨l3,rfl,hl3⟩:=list_of fun x hx=>fr_of x (w3' x hx);obtain ⟨l6,rfl,hl6⟩:=list_of fun x hx=>byte_of (w6' x hx);refine ⟨⟨v0,l1,l2,l3,v4,v5,l6,v7,v8,v9,v10,v11⟩,?_,⟨w0,(by simpa using w1),(by simpa using w2),hl2,(by simpa using w3),hl3,w4,(i64r_of w5),(by simpa using w6),(i64r_of w7),(i64r_of w8),(i64r_of w9),(i64r_of w10)⟩⟩
 rw[hts,Mc.t,<-e0,<-e4];try rfl
set_option maxRecDepth 100000 in
theorem nm_of (ts:List T) (h:Shape Tryz.prog 203 ts):∃e:Nm,ts=e.t/\e.Wf:=by
 obtain ⟨hl,hf⟩:=h.struct_inv Tryz.underlying203;rw[show Tryz.prog.cellsOf 203=4 by kernel_rfl] at hl
 obtain ⟨c0,c1,c2,c3,hts⟩:∃c0 c1 c2 c3,ts=[c0,c1,c2,c3]:=by
  match ts,hl with
  | [c0,c1,c2,c3],_=>exact ⟨c0,c1,c2,c3,rfl⟩
 have d9:Tryz.prog.cellsOf 9=1:=by kernel_rfl
 have d201:Tryz.prog.cellsOf 201=3:=by kernel_rfl
 rw[hts] at hf;simp only[List.forall_mem_cons,d9,d201,List.drop,List.take] at hf;obtain ⟨h0,h1,_⟩:=hf;obtain ⟨v0,e0,w0⟩:=h0.str_inv Tryz.underlying9;obtain ⟨v1,e1,w1⟩:=vl_of _ h1;simp only[List.cons.injEq,and_true] at e0;subst e0;refine ⟨⟨v0,v1⟩,?_,⟨w0,w1⟩⟩;rw[hts,Nm.t,<-e1];try rfl
set_option maxRecDepth 100000 in
theorem en_of (ts:List T) (h:Shape Tryz.prog 293 ts):∃e:En,ts=e.t/\e.Wf:=by
 obtain ⟨hl,hf⟩:=h.struct_inv Tryz.underlying293;rw[show Tryz.prog.cellsOf 293=4 by kernel_rfl] at hl
 obtain ⟨c0,c1,c2,c3,hts⟩:∃c0 c1 c2 c3,ts=[c0,c1,c2,c3]:=by
  match ts,hl with
  | [c0,c1,c2,c3],_=>exact ⟨c0,c1,c2,c3,rfl⟩
 have d9:Tryz.prog.cellsOf 9=1:=by kernel_rfl
 have d201:Tryz.prog.cellsOf 201=3:=by kernel_rfl
 rw[hts] at hf;simp only[List.forall_mem_cons,d9,d201,List.drop,List.take] at hf;obtain ⟨h0,h1,_⟩:=hf;obtain ⟨v0,e0,w0⟩:=h0.str_inv Tryz.underlying9;obtain ⟨v1,e1,w1⟩:=vl_of _ h1;simp only[List.cons.injEq,and_true] at e0;subst e0;refine ⟨⟨v0,v1⟩,?_,⟨w0,w1⟩⟩;rw[hts,En.t,<-e1];try rfl
set_option maxRecDepth 100000 in
theorem tb_of (ts:List T) (h:Shape Tryz.prog 207 ts):∃e:Tb,ts=e.t/\e.Wf:=by
 obtain ⟨hl,hf⟩:=h.struct_inv Tryz.underlying207;rw[show Tryz.prog.cellsOf 207=2 by kernel_rfl] at hl
 obtain ⟨c0,c1,hts⟩:∃c0 c1,ts=[c0,c1]:=by
  match ts,hl with
  | [c0,c1],_=>exact ⟨c0,c1,rfl⟩
 have d9:Tryz.prog.cellsOf 9=1:=by kernel_rfl
 have d205:Tryz.prog.cellsOf 205=1:=by kernel_rfl
 rw[hts] at hf;simp only[List.forall_mem_cons,d9,d205,List.drop,List.take] at hf;obtain ⟨h0,h1,_⟩:=hf;obtain ⟨v0,e0,w0⟩:=h0.str_inv Tryz.underlying9;obtain ⟨s1,e1,w1,w1'⟩:=h1.slice_inv Tryz.underlying205;simp only[List.cons.injEq,and_true] at e0 e1;subst e0 e1;obtain ⟨l1,rfl,hl1⟩:=list_of fun x hx=>en_of x (w1' x hx);refine ⟨⟨v0,l1⟩,?_,⟨w0,(by simpa using w1),hl1⟩⟩
 rw[hts,Tb.t];try rfl
set_option maxRecDepth 100000 in
theorem ev_of (ts:List T) (h:Shape Tryz.prog 29 ts):∃e:Ev,ts=e.t/\e.Wf:=by
 obtain ⟨hl,hf⟩:=h.struct_inv Tryz.underlying29;rw[show Tryz.prog.cellsOf 29=2 by kernel_rfl] at hl
 obtain ⟨c0,c1,hts⟩:∃c0 c1,ts=[c0,c1]:=by
  match ts,hl with
  | [c0,c1],_=>exact ⟨c0,c1,rfl⟩
 have d26:Tryz.prog.cellsOf 26=1:=by kernel_rfl
 have d27:Tryz.prog.cellsOf 27=1:=by kernel_rfl
 rw[hts] at hf;simp only[List.forall_mem_cons,d26,d27,List.drop,List.take] at hf;obtain ⟨h0,h1,_⟩:=hf;obtain ⟨s0,e0,w0,w0'⟩:=h0.slice_inv Tryz.underlying26;obtain ⟨s1,e1,w1,w1'⟩:=h1.slice_inv Tryz.underlying27;simp only[List.cons.injEq,and_true] at e0 e1;subst e0 e1;obtain ⟨l0,rfl,hl0⟩:=list_of fun x hx=>nm_of x (w0' x hx);obtain ⟨l1,rfl,hl1⟩:=list_of fun x hx=>tb_of x (w1' x hx);refine ⟨⟨l0,l1⟩,?_,⟨(by simpa using w0),hl0,(by simpa using w1),hl1⟩⟩
 rw[hts,Ev.t];try rfl
set_option maxRecDepth 100000 in
theorem sx_of (ts:List T) (h:Shape Tryz.prog 35 ts):∃e:Sx,ts=e.t/\e.Wf:=by
 obtain ⟨hl,hf⟩:=h.struct_inv Tryz.underlying35;rw[show Tryz.prog.cellsOf 35=11 by kernel_rfl] at hl
 obtain ⟨c0,c1,c2,c3,c4,c5,c6,c7,c8,c9,c10,hts⟩:∃c0 c1 c2 c3 c4 c5 c6 c7 c8 c9 c10,ts=[c0,c1,c2,c3,c4,c5,c6,c7,c8,c9,c10]:=by
  match ts,hl with
  | [c0,c1,c2,c3,c4,c5,c6,c7,c8,c9,c10],_=>exact ⟨c0,c1,c2,c3,c4,c5,c6,c7,c8,c9,c10,rfl⟩
 have d29:Tryz.prog.cellsOf 29=2:=by kernel_rfl
 have d32:Tryz.prog.cellsOf 32=2:=by kernel_rfl
 have d3:Tryz.prog.cellsOf 3=1:=by kernel_rfl
 have d33:Tryz.prog.cellsOf 33=1:=by kernel_rfl
 rw[hts] at hf;simp only[List.forall_mem_cons,d29,d32,d3,d33,List.drop,List.take] at hf;obtain ⟨h0,h1,h2,h3,h4,h5,h6,h7,h8,_⟩:=hf;obtain ⟨v0,e0,w0⟩:=ev_of _ h0;obtain ⟨v1,e1,w1⟩:=rc_of _ h1;obtain ⟨v2,e2,w2⟩:=h2.int_inv Tryz.underlying3;obtain ⟨s3,e3,w3,w3'⟩:=h3.slice_inv Tryz.underlying33;obtain ⟨v4,e4,w4⟩:=h4.int_inv Tryz.underlying3;obtain ⟨v5,e5,w5⟩:=h5.int_inv Tryz.underlying3;obtain ⟨v6,e6,w6⟩:=h6.int_inv Tryz.underlying3
 obtain ⟨v7,e7,w7⟩:=h7.int_inv Tryz.underlying3;obtain ⟨v8,e8,w8⟩:=h8.int_inv Tryz.underlying3;simp only[List.cons.injEq,and_true] at e2 e3 e4 e5 e6 e7 e8;subst e2 e3 e4 e5 e6 e7 e8;obtain ⟨l3,rfl,hl3⟩:=list_of fun x hx=>byte_of (w3' x hx);refine ⟨⟨v0,v1,v2,l3,v4,v5,v6,v7,v8⟩,?_,⟨w0,w1,(i64r_of w2),(by simpa using w3),(i64r_of w4),(i64r_of w5),(i64r_of w6),(i64r_of w7),(i64r_of w8)⟩⟩
 rw[hts,Sx.t,<-e0,<-e1];try rfl
theorem Pg.t_len (x:Pg):x.t.length=2:=rfl
end Go.Gv
