/- Part PR3 of the proof: contracts of functions of the program, each walked once. -/
import Derived.Test.YtnmkmfancgcaeaaGreatDoorPR2
set_option linter.all false
namespace Go.Gv
open Go.Av Go.Proofs
set_option maxRecDepth 10000
set_option maxHeartbeats 8000000
variable {I:∀{α:Type},α->α}
abbrev HeT (I:∀{α:Type},α->α) (l:List ByteArray):Prop:=∀k:Nat,k+cs str1 l<=1000000000->ACl Tryz.prog 79 [⟨.one,[.ro true (I ((mapK strq str1 k l).map strT))]⟩,litI (Int.ofNat (I k))] [] (fun res bx=>res=litI (Int.ofNat (I (k+cs str1 l)))/\bx=[])
theorem nG0 (hI:II @I) (l:List ByteArray) (hl:l.length<=1048576) :HeT @I l:=by
 intro k hk;have c1:∀n:Nat,n < 2 ^ 40->ACl Tryz.prog 57 [litI (Int.ofNat (I n))] [] (fun res bx=>res=litS (I (mt n))/\bx=[]):=fun n h=>by rw[hI.e n];exact xX0 hI n h
 refine qN hI tyK Tryz.func79 22 [.tmp 4] ?_;unhygienic intros
 refine qB 0 ?_;refine qLf 0 [0,1,5] kk0 (fun i:Nat=>⟨vag 22 [(0,⟨.one,[.ro true (I ((mapK strq str1 k l).map strT))]⟩),(1,litI (Int.ofNat (I (k+cs str1 (l.take i))))),(5,litI (Int.ofNat (I i)))],[],1⟩) (fun i=>i<=l.length) (fun i=>l.length - i) ?_ fun i hi=>?_
 ·cbv
  exact ⟨0,by simp only[hI.e];rfl,by omega⟩
 have hml:=wA0 strq str1 k l
 by_cases hh:i < l.length
 ·have hp:=hF0 str1 hh
  have hpe:str1 l[i]! = 1:=rfl;have hpt:=hE0 str1 l (i+1);have hx:=kM0 strq str1 k hh;generalize hm:(mapK strq str1 k l)[i]! = x at *;generalize l[i]! = y at *;generalize hpt0:k+cs str1 (l.take i)=pt at *;have x0:x=mt (pt):=by rw[hx];rfl
  have e1:=hm;refine qB 0 ?_
  repeat' first|refine qA 0 ?_|refine qJ (nN []) ?_|refine qp ?_ ?_|refine qk (fun h=>?_) fun h=>?_|fail
  ·exact absurd x0 h
  ·exact ⟨i+1,by rw[show pt+1=k+cs str1 (l.take (i+1)) by omega];(try simp only[A.reset,hI.e]);rfl,by omega,by omega⟩
  ·exact absurd (by omega) h
 ·refine qB 0 ?_
  repeat' first|refine qA 0 ?_|refine qJ (nN []) ?_|refine qp ?_ ?_|refine qk (fun h=>?_) fun h=>?_|fail
  ·exact absurd (by omega) hh
  ·have e:l.take i=l:=List.take_of_length_le (by omega)
   exact hR _ _ ⟨by rw[e],rfl⟩
abbrev HeS (I:∀{α:Type},α->α) (l:List Sm):Prop:=∀k:Nat,k+cs Sm.mk' l<=1000000000->ACl Tryz.prog 78 [⟨.one,[.ro true (I ((mapK Sm.mq Sm.mk' k l).map Sm.t))]⟩,litI (Int.ofNat (I k))] [] (fun res bx=>res=litI (Int.ofNat (I (k+cs Sm.mk' l)))/\bx=[])
theorem vB0 (hI:II @I) (l:List Sm) (hl:l.length<=1048576) (ih3:∀x∈l,HeE @I x.x) (ih4:∀x∈l,HeS @I x.a) (ih5:∀x∈l,HeS @I x.b):HeS @I l:=by
 intro k hk;have c1:∀n:Nat,n < 2 ^ 40->ACl Tryz.prog 57 [litI (Int.ofNat (I n))] [] (fun res bx=>res=litS (I (mt n))/\bx=[]):=fun n h=>by rw[hI.e n];exact xX0 hI n h
 refine qN hI tyK Tryz.func78 69 [.tmp 4] ?_;unhygienic intros
 refine qB 0 ?_;refine qLf 0 [0,1,5] kk0 (fun i:Nat=>⟨vag 69 [(0,⟨.one,[.ro true (I ((mapK Sm.mq Sm.mk' k l).map Sm.t))]⟩),(1,litI (Int.ofNat (I (k+cs Sm.mk' (l.take i))))),(5,litI (Int.ofNat (I i)))],[],1⟩) (fun i=>i<=l.length) (fun i=>l.length - i) ?_ fun i hi=>?_
 ·cbv
  exact ⟨0,by simp only[hI.e];rfl,by omega⟩
 have hml:=wA0 Sm.mq Sm.mk' k l
 by_cases hh:i < l.length
 ·have hp:=hF0 Sm.mk' hh
  have hpe:Sm.mk' l[i]! = 3+cs Ex.mk' l[i]!.x+cs Sm.mk' l[i]!.a+cs Sm.mk' l[i]!.b:=Sm.mk'_eq _;have hpt:=hE0 Sm.mk' l (i+1);have hx:=kM0 Sm.mq Sm.mk' k hh;have d3:=ih3 _ (zB0 hh);have d4:=ih4 _ (zB0 hh);have d5:=ih5 _ (zB0 hh);generalize hm:(mapK Sm.mq Sm.mk' k l)[i]! = x at *;generalize l[i]! = y at *;generalize hpt0:k+cs Sm.mk' (l.take i)=pt at *;rw[Sm.mq_eq] at hx;have x0:x.k=((pt:Nat):Int):=by rw[hx];rfl
  have x1:x.s=mt (pt+1):=by rw[hx];rfl
  have x2:x.tt=mt (pt+1+1):=by rw[hx];rfl
  have x3:x.x=mapK Ex.mq Ex.mk' (pt+1+1+1) y.x:=by rw[hx];rfl
  have c2:=d3 (pt+1+1+1) (by omega)
  rw[<-x3] at c2;have x4:x.a=mapK Sm.mq Sm.mk' (pt+1+1+1+cs Ex.mk' y.x) y.a:=by rw[hx];rfl
  have c3:=d4 (pt+1+1+1+cs Ex.mk' y.x) (by omega)
  rw[<-x4] at c3;have x5:x.b=mapK Sm.mq Sm.mk' (pt+1+1+1+cs Ex.mk' y.x+cs Sm.mk' y.a) y.b:=by rw[hx];rfl
  have c4:=d5 (pt+1+1+1+cs Ex.mk' y.x+cs Sm.mk' y.a) (by omega)
  rw[<-x5] at c4;have e1:=hm;refine qB 0 ?_
  repeat' first|refine qA 0 ?_|refine qJ (nN []) ?_|refine qp ?_ ?_|refine qk (fun h=>?_) fun h=>?_|fail
  ·exact absurd x0 h
  ·exact absurd x1 h
  ·exact absurd x2 h
  ·exact absurd h (by omega)
  ·exact absurd h (by omega)
  ·exact absurd h (by omega)
  ·exact ⟨i+1,by rw[show pt+1+1+1+cs Ex.mk' y.x+cs Sm.mk' y.a+cs Sm.mk' y.b=k+cs Sm.mk' (l.take (i+1)) by omega];(try simp only[A.reset,hI.e]);rfl,by omega,by omega⟩
  ·exact absurd (by omega) h
 ·refine qB 0 ?_
  repeat' first|refine qA 0 ?_|refine qJ (nN []) ?_|refine qp ?_ ?_|refine qk (fun h=>?_) fun h=>?_|fail
  ·exact absurd (by omega) hh
  ·have e:l.take i=l:=List.take_of_length_le (by omega)
   exact hR _ _ ⟨by rw[e],rfl⟩
abbrev HeR (I:∀{α:Type},α->α) (l:List Ru):Prop:=∀k:Nat,k+cs Ru.mk' l<=1000000000->ACl Tryz.prog 44 [⟨.one,[.ro true (I ((mapK Ru.mq Ru.mk' k l).map Ru.t))]⟩,litI (Int.ofNat (I k))] [] (fun res bx=>res=litI (Int.ofNat (I (k+cs Ru.mk' l)))/\bx=[])
theorem hK0 (hI:II @I) (l:List Ru) (hl:l.length<=1048576) (ih4:∀x∈l,HeE @I x.p.l) (ih5:∀x∈l,HeS @I x.a):HeR @I l:=by
 intro k hk;have c1:∀n:Nat,n < 2 ^ 40->ACl Tryz.prog 57 [litI (Int.ofNat (I n))] [] (fun res bx=>res=litS (I (mt n))/\bx=[]):=fun n h=>by rw[hI.e n];exact xX0 hI n h
 refine qN hI tyK Tryz.func44 72 [.tmp 4] ?_;unhygienic intros
 refine qB 0 ?_;refine qLf 0 [0,1,5] kk0 (fun i:Nat=>⟨vag 72 [(0,⟨.one,[.ro true (I ((mapK Ru.mq Ru.mk' k l).map Ru.t))]⟩),(1,litI (Int.ofNat (I (k+cs Ru.mk' (l.take i))))),(5,litI (Int.ofNat (I i)))],[],1⟩) (fun i=>i<=l.length) (fun i=>l.length - i) ?_ fun i hi=>?_
 ·cbv
  exact ⟨0,by simp only[hI.e];rfl,by omega⟩
 have hml:=wA0 Ru.mq Ru.mk' k l
 by_cases hh:i < l.length
 ·have hp:=hF0 Ru.mk' hh
  have hpe:Ru.mk' l[i]! = 4+cs Ex.mk' l[i]!.p.l+cs Sm.mk' l[i]!.a:=Ru.mk'_eq _;have hpt:=hE0 Ru.mk' l (i+1);have hx:=kM0 Ru.mq Ru.mk' k hh;have d4:=ih4 _ (zB0 hh);have d5:=ih5 _ (zB0 hh);generalize hm:(mapK Ru.mq Ru.mk' k l)[i]! = x at *;generalize l[i]! = y at *;generalize hpt0:k+cs Ru.mk' (l.take i)=pt at *;have x0:x.k=((pt:Nat):Int):=by rw[hx];rfl
  have x1:x.p.k=((pt+1:Nat):Int):=by rw[hx];rfl
  have x2:x.p.n=((pt+1+1:Nat):Int):=by rw[hx];rfl
  have x3:x.p.s=mt (pt+1+1+1):=by rw[hx];rfl
  have x4:x.p.l=mapK Ex.mq Ex.mk' (pt+1+1+1+1) y.p.l:=by rw[hx];rfl
  have c2:=d4 (pt+1+1+1+1) (by omega)
  rw[<-x4] at c2;have x5:x.a=mapK Sm.mq Sm.mk' (pt+1+1+1+1+cs Ex.mk' y.p.l) y.a:=by rw[hx];rfl
  have c3:=d5 (pt+1+1+1+1+cs Ex.mk' y.p.l) (by omega)
  rw[<-x5] at c3;have e1:=hm;refine qB 0 ?_
  repeat' first|refine qA 0 ?_|refine qJ (nN []) ?_|refine qp ?_ ?_|refine qk (fun h=>?_) fun h=>?_|fail
  ·exact absurd x0 h
  ·exact absurd x1 h
  ·exact absurd x2 h
  ·exact absurd x3 h
  ·exact absurd h (by omega)
  ·exact absurd h (by omega)
  ·exact ⟨i+1,by rw[show pt+1+1+1+1+cs Ex.mk' y.p.l+cs Sm.mk' y.a=k+cs Ru.mk' (l.take (i+1)) by omega];(try simp only[A.reset,hI.e]);rfl,by omega,by omega⟩
  ·exact absurd (by omega) h
 ·refine qB 0 ?_
  repeat' first|refine qA 0 ?_|refine qJ (nN []) ?_|refine qp ?_ ?_|refine qk (fun h=>?_) fun h=>?_|fail
  ·exact absurd (by omega) hh
  ·have e:l.take i=l:=List.take_of_length_le (by omega)
   exact hR _ _ ⟨by rw[e],rfl⟩
abbrev HeF (I:∀{α:Type},α->α) (l:List Fu):Prop:=∀k:Nat,k+cs Fu.mk' l<=1000000000->ACl Tryz.prog 45 [⟨.one,[.ro true (I ((mapK Fu.mq Fu.mk' k l).map Fu.t))]⟩,litI (Int.ofNat (I k))] [] (fun res bx=>res=litI (Int.ofNat (I (k+cs Fu.mk' l)))/\bx=[])
theorem YR0 (hI:II @I) (l:List Fu) (hl:l.length<=1048576) (ih1:∀x∈l,HeT @I x.params) (ih2:∀x∈l,HeS @I x.a):HeF @I l:=by
 intro k hk;have c1:∀n:Nat,n < 2 ^ 40->ACl Tryz.prog 57 [litI (Int.ofNat (I n))] [] (fun res bx=>res=litS (I (mt n))/\bx=[]):=fun n h=>by rw[hI.e n];exact xX0 hI n h
 refine qN hI tyK Tryz.func45 41 [.tmp 4] ?_;unhygienic intros
 refine qB 0 ?_;refine qLf 0 [0,1,5] kk0 (fun i:Nat=>⟨vag 41 [(0,⟨.one,[.ro true (I ((mapK Fu.mq Fu.mk' k l).map Fu.t))]⟩),(1,litI (Int.ofNat (I (k+cs Fu.mk' (l.take i))))),(5,litI (Int.ofNat (I i)))],[],1⟩) (fun i=>i<=l.length) (fun i=>l.length - i) ?_ fun i hi=>?_
 ·cbv
  exact ⟨0,by simp only[hI.e];rfl,by omega⟩
 have hml:=wA0 Fu.mq Fu.mk' k l
 by_cases hh:i < l.length
 ·have hp:=hF0 Fu.mk' hh
  have hpe:Fu.mk' l[i]! = 1+cs str1 l[i]!.params+cs Sm.mk' l[i]!.a:=Fu.mk'_eq _;have hpt:=hE0 Fu.mk' l (i+1);have hx:=kM0 Fu.mq Fu.mk' k hh;have d1:=ih1 _ (zB0 hh);have d2:=ih2 _ (zB0 hh);generalize hm:(mapK Fu.mq Fu.mk' k l)[i]! = x at *;generalize l[i]! = y at *;generalize hpt0:k+cs Fu.mk' (l.take i)=pt at *;have x0:x.name=mt (pt):=by rw[hx];rfl
  have x1:x.params=mapK strq str1 (pt+1) y.params:=by rw[hx];rfl
  have c2:=d1 (pt+1) (by omega)
  rw[<-x1] at c2;have x2:x.a=mapK Sm.mq Sm.mk' (pt+1+cs str1 y.params) y.a:=by rw[hx];rfl
  have c3:=d2 (pt+1+cs str1 y.params) (by omega)
  rw[<-x2] at c3;have e1:=hm;refine qB 0 ?_
  repeat' first|refine qA 0 ?_|refine qJ (nN []) ?_|refine qp ?_ ?_|refine qk (fun h=>?_) fun h=>?_|fail
  ·exact absurd x0 h
  ·exact absurd h (by omega)
  ·exact absurd h (by omega)
  ·exact ⟨i+1,by rw[show pt+1+cs str1 y.params+cs Sm.mk' y.a=k+cs Fu.mk' (l.take (i+1)) by omega];(try simp only[A.reset,hI.e]);rfl,by omega,by omega⟩
  ·exact absurd (by omega) h
 ·refine qB 0 ?_
  repeat' first|refine qA 0 ?_|refine qJ (nN []) ?_|refine qp ?_ ?_|refine qk (fun h=>?_) fun h=>?_|fail
  ·exact absurd (by omega) hh
  ·have e:l.take i=l:=List.take_of_length_le (by omega)
   exact hR _ _ ⟨by rw[e],rfl⟩
variable {I:∀{α:Type},α->α}
inductive Sm.Bd:Sm->Prop where
 | mk {k:Int} {s t:ByteArray} {x:List Ex} {a b:List Sm} (hx:x.length<=1048576) (hx':∀e∈x,e.sz<=1048576) (ha:a.length<=1048576) (hb:b.length<=1048576) (h:∀y∈a++b,Sm.Bd y):Sm.Bd (.mk k s t x a b)
theorem Sm.Bd.inv {e:Sm} (h:e.Bd):(e.x.length<=1048576/\∀x∈e.x,x.sz<=1048576)/\(e.a.length<=1048576/\∀x∈e.a,x.Bd)/\(e.b.length<=1048576/\∀x∈e.b,x.Bd):=by
 cases h with
 | mk hx hx' ha hb h=>exact ⟨⟨hx,hx'⟩,⟨ha,fun x q=>h x (List.mem_append_left _ q)⟩,hb,fun x q=>h x (List.mem_append_right _ q)⟩
theorem Sm.bd_of:∀e:Sm,e.sz<=1048576->e.Bd:=by
 refine Sm.ind fun e ih hz=>?_;obtain ⟨h1,h2,h3⟩:=Sm.sz_inv hz;cases e with
 | mk k s t x a b=>exact .mk h1.1 h1.2 h2.1 h3.1 fun y hy=>ih y hy ((List.mem_append.1 hy).elim (h2.2 y) (h3.2 y))
structure Ru.Bd (r:Ru):Prop where
 p:r.p.sz<=1048576
 l:r.a.length<=1048576
 a:∀x∈r.a,x.Bd
structure Fu.Bd (f:Fu):Prop where
 p:f.params.length<=1048576
 l:f.a.length<=1048576
 a:∀x∈f.a,x.Bd
structure Pg.Bd (p:Pg):Prop where
 r:p.rules.length<=1048576
 r':∀x∈p.rules,x.Bd
 f:p.fns.length<=1048576
 f':∀x∈p.fns,x.Bd
theorem Pg.bd_of {p:Pg} (hz:p.sz<=1048576):p.Bd:=by
 obtain ⟨⟨h1,h2⟩,h3,h4⟩:=Pg.sz_inv hz;refine ⟨h1,fun r hr=>?_,h3,fun f hf=>?_⟩
 ·obtain ⟨q1,q2⟩:=Ru.sz_inv (h2 r hr)
  exact ⟨q1,by omega,fun x hx=>Sm.bd_of x (by have:=Sm.szs_mem hx;omega)⟩
 ·obtain ⟨q1,q2⟩:=Fu.sz_inv (h4 f hf)
  exact ⟨q1,by omega,fun x hx=>Sm.bd_of x (by have:=Sm.szs_mem hx;omega)⟩
theorem NK0 (hI:II @I):∀e:Sm,e.Bd->EqOk 145 (sA @I e):=by
 refine Sm.ind fun e ih h=>?_;obtain ⟨h3,h4,h5⟩:=h.inv;exact VF0 hI e (zT1 hI e.x h3.1 h3.2) (wZ0 hI e.a h4.1 fun x hx=>ih x (List.mem_append_left _ hx) (h4.2 x hx)) (wZ0 hI e.b h5.1 fun x hx=>ih x (List.mem_append_right _ hx) (h5.2 x hx))
theorem fG0 (hI:II @I) (p:Pg) (h:p.Bd):EqOk 16 (pA @I p):=
 VH0 hI p (YV0 hI p.rules h.r fun r hr=>VG0 hI r (DQ0 hI r.p (h.r' r hr).p) (wZ0 hI r.a (h.r' r hr).l fun e he=>NK0 hI e ((h.r' r hr).a e he)))
  (QV0 hI p.fns h.f fun f hf=>JG0 hI f (hL0 hI f.params (h.f' f hf).p) (wZ0 hI f.a (h.f' f hf).l fun e he=>NK0 hI e ((h.f' f hf).a e he)))
theorem XQ0:∀l:List Sm,l.length<=1048576->(∀x∈l,x.Bd)->MkR 76 Sm.o Sm.mq Sm.mk' l:=by
 have key:∀e:Sm,e.Bd->MkR 28 Ex.o Ex.mq Ex.mk' e.x/\MkR 76 Sm.o Sm.mq Sm.mk' e.a/\MkR 76 Sm.o Sm.mq Sm.mk' e.b:=by
  refine Sm.ind fun e ih hz=>?_;obtain ⟨h1,h2,h3⟩:=hz.inv;have k1:=fun x hx=>ih x (List.mem_append_left _ hx) (h2.2 x hx);have k2:=fun x hx=>ih x (List.mem_append_right _ hx) (h3.2 x hx);exact ⟨RD0 e.x h1.1 h1.2,vV0 e.a (fun x hx=>(k1 x hx).1) (fun x hx=>(k1 x hx).2.1) (fun x hx=>(k1 x hx).2.2) h2.1,vV0 e.b (fun x hx=>(k2 x hx).1) (fun x hx=>(k2 x hx).2.1) (fun x hx=>(k2 x hx).2.2) h3.1⟩
 exact fun l hl hz=>vV0 l (fun x hx=>(key x (hz x hx)).1) (fun x hx=>(key x (hz x hx)).2.1) (fun x hx=>(key x (hz x hx)).2.2) hl
theorem HF0 (l:List Ru) (hl:l.length<=1048576) (hz:∀r∈l,r.Bd):MkR 42 Ru.o Ru.mq Ru.mk' l:=
 fM0 l (fun r hr=>RD0 r.p.l (Ex.sz_inv (hz r hr).p).1 (Ex.sz_inv (hz r hr).p).2) (fun r hr=>XQ0 r.a (hz r hr).l (hz r hr).a) hl
theorem xT1 (l:List Fu) (hl:l.length<=1048576) (hz:∀r∈l,r.Bd):MkR 43 Fu.o Fu.mq Fu.mk' l:=
 XZ0 l (fun r hr=>kH0 r.params (hz r hr).p) (fun r hr=>XQ0 r.a (hz r hr).l (hz r hr).a) hl
theorem uR1 (hI:II @I):∀l:List Ex,l.length<=1048576->(∀x∈l,x.sz<=1048576)->HeE @I l:=by
 have key:∀e:Ex,e.sz<=1048576->HeE @I e.l:=by
  refine Ex.ind fun e ih hz=>?_;have h:=Ex.sz_inv hz;exact tW0 hI e.l h.1 fun x hx=>ih x hx (h.2 x hx)
 exact fun l hl hz=>tW0 hI l hl fun x hx=>key x (hz x hx)
theorem uQ1 (hI:II @I):∀l:List Sm,l.length<=1048576->(∀x∈l,x.Bd)->HeS @I l:=by
 have key:∀e:Sm,e.Bd->HeE @I e.x/\HeS @I e.a/\HeS @I e.b:=by
  refine Sm.ind fun e ih hz=>?_;obtain ⟨h1,h2,h3⟩:=hz.inv;have k1:=fun x hx=>ih x (List.mem_append_left _ hx) (h2.2 x hx);have k2:=fun x hx=>ih x (List.mem_append_right _ hx) (h3.2 x hx);exact ⟨uR1 hI e.x h1.1 h1.2,vB0 hI e.a h2.1 (fun x hx=>(k1 x hx).1) (fun x hx=>(k1 x hx).2.1) (fun x hx=>(k1 x hx).2.2),vB0 hI e.b h3.1 (fun x hx=>(k2 x hx).1) (fun x hx=>(k2 x hx).2.1) (fun x hx=>(k2 x hx).2.2)⟩
 exact fun l hl hz=>vB0 hI l hl (fun x hx=>(key x (hz x hx)).1) (fun x hx=>(key x (hz x hx)).2.1) (fun x hx=>(key x (hz x hx)).2.2)
theorem He_Ru (hI:II @I) (l:List Ru) (hl:l.length<=1048576) (hz:∀r∈l,r.Bd):HeR @I l:=
 hK0 hI l hl (fun r hr=>uR1 hI r.p.l (Ex.sz_inv (hz r hr).p).1 (Ex.sz_inv (hz r hr).p).2) fun r hr=>uQ1 hI r.a (hz r hr).l (hz r hr).a
theorem He_Fu (hI:II @I) (l:List Fu) (hl:l.length<=1048576) (hz:∀r∈l,r.Bd):HeF @I l:=
 YR0 hI l hl (fun r hr=>nG0 hI r.params (hz r hr).p) fun r hr=>uQ1 hI r.a (hz r hr).l (hz r hr).a
end Go.Gv
