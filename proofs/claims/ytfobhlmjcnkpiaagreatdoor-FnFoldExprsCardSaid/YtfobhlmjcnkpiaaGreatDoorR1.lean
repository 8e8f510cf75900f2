/- Part R1 of the proof: contracts of functions of the program, each walked once. -/
import Derived.Test.YtfobhlmjcnkpiaaGreatDoorD8
import Derived.Test.YtfobhlmjcnkpiaaGreatDoorD9
import Derived.Test.YtfobhlmjcnkpiaaGreatDoorD7
import Derived.Test.YtfobhlmjcnkpiaaGreatDoorN3
import Derived.Test.YtfobhlmjcnkpiaaGreatDoorA1
import Derived.WalkKit
set_option linter.all false
namespace Go.Gv
open Go.Av Go.Proofs
set_option maxRecDepth 10000
set_option maxHeartbeats 8000000
variable {I:∀{α:Type},α->α}
def kkS (t k:Nat):Root->Nat->Option Nat:=fun r _=>match r with | .slot u=>if u=t then some k else none | _=>none
open Go.Av Go.Proofs Go.RowKit
set_option maxRecDepth 100000
set_option maxHeartbeats 4000000
mutual
def Ex.o:Ex->List T
 | .mk k n s l=>[.lit (.int .i64 k),.lit (.int .i64 n),.lit (.string s),.own (Ex.os l)]
def Ex.os:List Ex->List (List T)
 | []=>[]
 | e::l=>Ex.o e::Ex.os l
end
theorem Ex.os_map:∀l,Ex.os l=l.map Ex.o
 | []=>rfl
 | e::l=>by rw[Ex.os,Ex.os_map l];rfl
theorem Ex.o_eq (e:Ex):e.o=[.lit (.int .i64 e.k),.lit (.int .i64 e.n),.lit (.string e.s),.own (e.l.map Ex.o)]:=by cases e;rw[Ex.o,Ex.os_map];rfl
theorem uM1 {k n:Int} {s:ByteArray} {l:List Ex} (h:(Ex.mk k n s l).sz<=1048576):l.length<=1048576/\∀x∈l,x.sz<=1048576:=by
 rw[Ex.sz] at h;exact ⟨by omega,fun x hx=>by obtain ⟨p,q,rfl⟩:=List.append_of_mem hx;rw[Ex.szs_app,Ex.szs] at h;omega⟩
variable {I:∀{α:Type},α->α}
variable {I:∀{α:Type},α->α}
variable {I:∀{α:Type},α->α}
mutual
def Sm.o:Sm->List T
 | .mk k s t x a b=>[.lit (.int .i64 k),.lit (.string s),.lit (.string t),.own (x.map Ex.o),.own (Sm.os a),.own (Sm.os b)]
def Sm.os:List Sm->List (List T)
 | []=>[]
 | e::l=>Sm.o e::Sm.os l
end
theorem Sm.os_map:∀l,Sm.os l=l.map Sm.o
 | []=>rfl
 | e::l=>by rw[Sm.os,Sm.os_map l];rfl
theorem Sm.o_eq (e:Sm):e.o=[.lit (.int .i64 e.k),.lit (.string e.s),.lit (.string e.tt),.own (e.x.map Ex.o),.own (e.a.map Sm.o),.own (e.b.map Sm.o)]:=by cases e;rw[Sm.o,Sm.os_map,Sm.os_map];rfl
def Ru.o (e:Ru):List T:=[.lit (.int .i64 e.k),.lit (.int .i64 e.p.k),.lit (.int .i64 e.p.n),.lit (.string e.p.s),.own (e.p.l.map Ex.o),.own (e.a.map Sm.o)]
theorem Ru.o_eq (e:Ru):e.o=[.lit (.int .i64 e.k),.lit (.int .i64 e.p.k),.lit (.int .i64 e.p.n),.lit (.string e.p.s),.own (e.p.l.map Ex.o),.own (e.a.map Sm.o)]:=rfl
def Fu.o (e:Fu):List T:=[.lit (.string e.name),.own (e.params.map strT),.own (e.a.map Sm.o)]
theorem Fu.o_eq (e:Fu):e.o=[.lit (.string e.name),.own (e.params.map strT),.own (e.a.map Sm.o)]:=rfl
@[simp,reducible] def ruA (I:∀{α:Type},α->α) (r:Ru):AV:=⟨.agg,[.lit (.int .i64 (I r.k)),.lit (.int .i64 (I r.p.k)),.lit (.int .i64 (I r.p.n)),.lit (.string (I r.p.s)),.ro true (I (r.p.l.map Ex.t)),.ro true (I (r.a.map Sm.t))]⟩
@[simp,reducible] def fuA (I:∀{α:Type},α->α) (f:Fu):AV:=⟨.agg,[.lit (.string (I f.name)),.ro true (I (f.params.map strT)),.ro true (I (f.a.map Sm.t))]⟩
def cs {α:Type} (f:α->Nat) (l:List α):Nat:=(l.map f).sum
variable {I:∀{α:Type},α->α}
variable {I:∀{α:Type},α->α}
theorem Ex.sz_inv {e:Ex} (h:e.sz<=1048576):e.l.length<=1048576/\∀x∈e.l,x.sz<=1048576:=by cases e;exact uM1 h
theorem Sm.sz_inv {e:Sm} (h:e.sz<=1048576):(e.x.length<=1048576/\∀x∈e.x,x.sz<=1048576)/\(e.a.length<=1048576/\∀x∈e.a,x.sz<=1048576)/\(e.b.length<=1048576/\∀x∈e.b,x.sz<=1048576):=by
 cases e;rw[Sm.sz] at h;exact ⟨⟨by show _<=_;simp only[Sm.x];omega,fun x hx=>by have:=Ex.szs_mem hx;simp only[Sm.x] at this;omega⟩,⟨by simp only[Sm.a];omega,fun x hx=>by have:=Sm.szs_mem hx;simp only[Sm.a] at this;omega⟩,by simp only[Sm.b];omega,fun x hx=>by have:=Sm.szs_mem hx;simp only[Sm.b] at this;omega⟩
theorem Ru.sz_inv {r:Ru} (h:r.sz<=1048576):r.p.sz<=1048576/\r.a.length+Sm.szs r.a<=1048576:=by rw[Ru.sz] at h;exact ⟨by omega,by omega⟩
theorem Fu.sz_inv {f:Fu} (h:f.sz<=1048576):f.params.length<=1048576/\f.a.length+Sm.szs f.a<=1048576:=by rw[Fu.sz] at h;exact ⟨by omega,by omega⟩
theorem Pg.sz_inv {p:Pg} (h:p.sz<=1048576):(p.rules.length<=1048576/\∀r∈p.rules,r.sz<=1048576)/\(p.fns.length<=1048576/\∀f∈p.fns,f.sz<=1048576):=by
 rw[Pg.sz] at h;exact ⟨⟨by omega,fun r hr=>by have:=Ru.szs_mem hr;omega⟩,by omega,fun r hr=>by have:=Fu.szs_mem hr;omega⟩
variable {I:∀{α:Type},α->α}
inductive Sm.Bd:Sm->Prop where
 | mk {k:Int} {s t:ByteArray} {x:List Ex} {a b:List Sm} (hx:x.length<=1048576) (hx':∀e∈x,e.sz<=1048576) (ha:a.length<=1048576) (hb:b.length<=1048576) (h:∀y∈a++b,Sm.Bd y):Sm.Bd (.mk k s t x a b)
theorem Sm.Bd.inv {e:Sm} (h:e.Bd):(e.x.length<=1048576/\∀x∈e.x,x.sz<=1048576)/\(e.a.length<=1048576/\∀x∈e.a,x.Bd)/\(e.b.length<=1048576/\∀x∈e.b,x.Bd):=by
 cases h with
 | mk hx hx' ha hb h=>exact ⟨⟨hx,hx'⟩,⟨ha,fun x q=>h x (List.mem_append_left _ q)⟩,hb,fun x q=>h x (List.mem_append_right _ q)⟩
theorem Sm.bd_of:∀e:Sm,e.sz<=1048576->e.Bd:=by
 refine Sm.ind fun e ih hz=>?_;obtain ⟨h1,h2,h3⟩:=Sm.sz_inv hz;cases e with
 | mk k s t x a b=>exact .mk h1.1 h1.2 h2.1 h3.1 fun y hy=>ih y hy ((List.mem_append.1 hy).elim (h2.2 y) (h3.2 y))
structure Ru.Bd (r:Ru):Prop where
 p:r.p.sz<=1048576
 l:r.a.length<=1048576
 a:∀x∈r.a,x.Bd
structure Fu.Bd (f:Fu):Prop where
 p:f.params.length<=1048576
 l:f.a.length<=1048576
 a:∀x∈f.a,x.Bd
structure Pg.Bd (p:Pg):Prop where
 r:p.rules.length<=1048576
 r':∀x∈p.rules,x.Bd
 f:p.fns.length<=1048576
 f':∀x∈p.fns,x.Bd
theorem Pg.bd_of {p:Pg} (hz:p.sz<=1048576):p.Bd:=by
 obtain ⟨⟨h1,h2⟩,h3,h4⟩:=Pg.sz_inv hz;refine ⟨h1,fun r hr=>?_,h3,fun f hf=>?_⟩
 ·obtain ⟨q1,q2⟩:=Ru.sz_inv (h2 r hr)
  exact ⟨q1,by omega,fun x hx=>Sm.bd_of x (by have:=Sm.szs_mem hx;omega)⟩
 ·obtain ⟨q1,q2⟩:=Fu.sz_inv (h4 f hf)
  exact ⟨q1,by omega,fun x hx=>Sm.bd_of x (by have:=Sm.szs_mem hx;omega)⟩
def GdW (w:World):Prop:=∀x∈glb,x < w.heap.size/\glbP x w.heap[x]?

variable {I:∀{α:Type},α->α}
variable {I:∀{α:Type},α->α}
open Go.RowKit
section
variable {α:Type} (m:Nat->α->α) (c:α->Nat)
variable [Inhabited α] (o:α->List T)
end
end Go.Gv
