/- Part Q1 of the proof: contracts of functions of the program, each walked once. -/
import Derived.Test.YtfobhlmjcnkpiaaGreatDoorR1
import Derived.Test.YtfobhlmjcnkpiaaGreatDoorD8
import Derived.Test.YtfobhlmjcnkpiaaGreatDoorD9
set_option linter.all false
namespace Go.Gv
open Go.Av Go.Proofs
set_option maxRecDepth 10000
set_option maxHeartbeats 8000000
variable {I:∀{α:Type},α->α}
@[simp,reducible] def eO (I:∀{α:Type},α->α) (e:Ex):AV:=⟨.agg,[.lit (.int .i64 (I e.k)),.lit (.int .i64 (I e.n)),.lit (.string (I e.s)),.ow (0,0) true 4 (I (e.l.map Ex.o))]⟩
theorem ZP0 (hI:II @I) (e:Ex) (ih:ACl Tryz.prog 51 [⟨.one,[.ro true (I (e.l.map Ex.t))]⟩] [] (fun res bx=>res=⟨.one,[.ow (0,0) true 4 (I (e.l.map Ex.o))]⟩/\bx=[])):ACl Tryz.prog 21 [eA @I e] [] (fun res bx=>res=eO @I e/\bx=[]):=by
 have c1:=ih;refine qN hI tyK Tryz.func21 8 [.cell 2 26] ?_;unhygienic intros
 refine qB 0 ?_
 repeat' first|refine qA 0 ?_|refine qJ (nN []) ?_|refine qp ?_ ?_|refine qk (fun h=>?_) fun h=>?_|fail
 exact hR _ _ ⟨rfl,rfl⟩
theorem appO (l:List Ex) (e:Ex):l.map Ex.o++[[.lit (.int .i64 e.k),.lit (.int .i64 e.n),.lit (.string e.s),.own (e.l.map Ex.o)]]=(l++[e]).map Ex.o:=by rw[List.map_append,List.map_singleton,Ex.o_eq]
theorem rQ0 (hI:II @I) (l:List Ex) (hl:l.length<=1048576) (ih:∀e∈l,ACl Tryz.prog 21 [eA @I e] [] (fun res bx=>res=eO @I e/\bx=[])):ACl Tryz.prog 51 [⟨.one,[.ro true (I (l.map Ex.t))]⟩] [] (fun res bx=>res=⟨.one,[.ow (0,0) true 4 (I (l.map Ex.o))]⟩/\bx=[]):=by
 refine qN hI tyK Tryz.func51 19 [.tmp 2] ?_;unhygienic intros
 refine qB 0 ?_
 repeat' first|refine qA 0 ?_|refine qJ (nN []) ?_|refine qp ?_ ?_|refine qk (fun h=>?_) fun h=>?_|fail
 refine qLf 0 [0,3,6,7,8] (kkS 3 1004) (fun i:Nat=>⟨vag 19 [(0,⟨.one,[.ro true (I (l.map Ex.t))]⟩),(3,⟨.one,[.ow (0,0) true 4 (I ((l.take i).map Ex.o))]⟩),(6,⟨.one,[.ro true (I (l.map Ex.t))]⟩),(7,litI (Int.ofNat (I l.length))),(8,litI (Int.ofNat (I i)))],[],1⟩) (fun i=>i<=l.length) (fun i=>l.length - i) ?_ fun i hi=>?_
 ·cbv
  exact ⟨0,by simp only[hI.e];rfl,by omega⟩
 by_cases hh:i < l.length
 ·have c1:=ih _ (zD0 hh)
  have hlt:(l.take i).length<=1048576:=by rw[List.length_take];omega
  have e1:app (I ((l.take i).map Ex.o)) [[.lit (.int .i64 (I (l[i]!).k)),.lit (.int .i64 (I (l[i]!).n)),.lit (.string (I (l[i]!).s)),.own (I ((l[i]!).l.map Ex.o))]]=I ((l.take (i+1)).map Ex.o):=by
   simp only[hI.e];cases hO;rw[zZ0 hh];exact appO _ _
  refine qB 0 ?_
  repeat' first|refine qA 0 ?_|refine qJ (nN []) ?_|refine qp ?_ ?_|refine qk (fun h=>?_) fun h=>?_|fail
  ·exact ⟨i+1,by (try simp only[A.reset,hI.e]);rfl,by omega,by omega⟩
  ·exact absurd hh h
 ·refine qB 0 ?_
  repeat' first|refine qA 0 ?_|refine qJ (nN []) ?_|refine qp ?_ ?_|refine qk (fun h=>?_) fun h=>?_|fail
  ·exact absurd h hh
  ·have e:l.take i=l:=List.take_of_length_le (by omega)
   exact hR _ _ ⟨by rw[e],rfl⟩
theorem WT0 (hI:II @I) (e:Ex) (hl:e.l.length<=1048576) (ih:∀x∈e.l,ACl Tryz.prog 27 [eA @I x] [] (fun res bx=>res=eA @I x/\bx=[])):ACl Tryz.prog 27 [eA @I e] [] (fun res bx=>res=eA @I e/\bx=[]):=by
 refine yM0 ?_;refine qN hI tyK Tryz.func27 33 [.cell 2 26] ?_;unhygienic intros
 refine qB 0 ?_
 repeat' first|refine qA 0 ?_|refine qJ (nN []) ?_|refine qp ?_ ?_|refine qk (fun h=>?_) fun h=>?_|fail
 refine qLf 3 [1,2,3,4] (kkB 2 3 4) (fun i:Nat=>⟨vag 33 [(1,⟨.one,[.ptr 0 0]⟩),(2,⟨.one,[.ptr 1 0]⟩),(3,⟨.one,[.ptr 2 0]⟩),(4,litI (Int.ofNat (I i)))],[some (eA @I e).cs,some [.lit (.int .i64 0),.lit (.int .i64 0),.lit (.string ⟨⟨[]⟩⟩),.nil],some [.lit (.int .i64 (I e.k)),.lit (.int .i64 (I e.n)),.lit (.string (I e.s)),.ow (0,0) false 4 (I ((e.l.take i).map Ex.t))]],1⟩) (fun i=>i<=e.l.length) (fun i=>e.l.length - i) ?_ fun i hi=>?_
 ·cbv
  exact ⟨0,by simp only[hI.e];rfl,by omega⟩
 by_cases hh:i < e.l.length
 ·have c1:=ih _ (zD0 hh)
  have hlt:(e.l.take i).length<=1048576:=by rw[List.length_take];omega
  have e1:I ((e.l.take i++[e.l[i]!]).map Ex.t)=I ((e.l.take (i+1)).map Ex.t):=by rw[zZ0 hh]
  refine qB 0 ?_
  repeat' first|refine qA 0 ?_|refine qJ (nN []) ?_|refine qp ?_ ?_|refine qk (fun h=>?_) fun h=>?_|fail
  ·exact ⟨i+1,by (try simp only[A.reset,hI.e]);rfl,by omega,by omega⟩
  ·exact absurd hh h
 ·refine qB 0 ?_
  repeat' first|refine qA 0 ?_|refine qJ (nN []) ?_|refine qp ?_ ?_|refine qk (fun h=>?_) fun h=>?_|fail
  ·exact absurd h hh
  ·have e1:e.l.take i=e.l:=List.take_of_length_le (by omega)
   exact hR _ _ ⟨by rw[e1];rfl,rfl⟩
variable {I:∀{α:Type},α->α}
@[simp,reducible] def smI (I:∀{α:Type},α->α) (l:List Sm):AV:=⟨.one,[.ro true (I (l.map Sm.t))]⟩
@[simp,reducible] def smO (I:∀{α:Type},α->α) (l:List Sm):AV:=⟨.one,[.ow (0,0) true 6 (I (l.map Sm.o))]⟩
theorem appS (l:List Sm) (y:Sm):l.map Sm.o++[[.lit (.int .i64 y.k),.lit (.string y.s),.lit (.string y.tt),.own (y.x.map Ex.o),.own (y.a.map Sm.o),.own (y.b.map Sm.o)]]=(l++[y]).map Sm.o:=by rw[List.map_append,List.map_singleton,Sm.o_eq]
abbrev CpX (I:∀{α:Type},α->α) (l:List Ex):Prop:=ACl Tryz.prog 51 [⟨.one,[.ro true (I (l.map Ex.t))]⟩] [] (fun res bx=>res=⟨.one,[.ow (0,0) true 4 (I (l.map Ex.o))]⟩/\bx=[])
abbrev CpS (I:∀{α:Type},α->α) (l:List Sm):Prop:=ACl Tryz.prog 67 [smI @I l] [] (fun res bx=>res=smO @I l/\bx=[])
theorem vW0 (hI:II @I) (l:List Sm) (hl:l.length<=1048576) (ih1:∀y∈l,CpX @I y.x) (ih2:∀y∈l,CpS @I y.a) (ih3:∀y∈l,CpS @I y.b):CpS @I l:=by
 refine qN hI tyK Tryz.func67 30 [.tmp 2] ?_;unhygienic intros
 refine qB 0 ?_
 repeat' first|refine qA 0 ?_|refine qJ (nN []) ?_|refine qp ?_ ?_|refine qk (fun h=>?_) fun h=>?_|fail
 refine qLf 0 [0,3,6,7,8] (kkS 3 1006) (fun i:Nat=>⟨vag 30 [(0,smI @I l),(3,smO @I (l.take i)),(6,smI @I l),(7,litI (Int.ofNat (I l.length))),(8,litI (Int.ofNat (I i)))],[],1⟩) (fun i=>i<=l.length) (fun i=>l.length - i) ?_ fun i hi=>?_
 ·cbv
  exact ⟨0,by simp only[hI.e];rfl,by omega⟩
 by_cases hh:i < l.length
 ·have c1:=ih1 _ (zD0 hh)
  have c2:=ih2 _ (zD0 hh);have c3:=ih3 _ (zD0 hh);have hlt:(l.take i).length<=1048576:=by rw[List.length_take];omega
  have e1:app (I ((l.take i).map Sm.o)) [[.lit (.int .i64 (I (l[i]!).k)),.lit (.string (I (l[i]!).s)),.lit (.string (I (l[i]!).tt)),.own (I ((l[i]!).x.map Ex.o)),.own (I ((l[i]!).a.map Sm.o)),.own (I ((l[i]!).b.map Sm.o))]]=I ((l.take (i+1)).map Sm.o):=by
   simp only[hI.e];cases hO;rw[zZ0 hh];exact appS _ _
  refine qB 0 ?_
  repeat' first|refine qA 0 ?_|refine qJ (nN []) ?_|refine qp ?_ ?_|refine qk (fun h=>?_) fun h=>?_|fail
  ·exact ⟨i+1,by (try simp only[A.reset,hI.e]);rfl,by omega,by omega⟩
  ·exact absurd hh h
 ·refine qB 0 ?_
  repeat' first|refine qA 0 ?_|refine qJ (nN []) ?_|refine qp ?_ ?_|refine qk (fun h=>?_) fun h=>?_|fail
  ·exact absurd h hh
  ·have e:l.take i=l:=List.take_of_length_le (by omega)
   exact hR _ _ ⟨by rw[e],rfl⟩
@[simp,reducible] def pO (I:∀{α:Type},α->α) (p:Pg):AV:=⟨.agg,[.ow (0,0) true 6 (I (p.rules.map Ru.o)),.ow (0,0) true 3 (I (p.fns.map Fu.o))]⟩
theorem appR (l:List Ru) (r:Ru):l.map Ru.o++[[.lit (.int .i64 r.k),.lit (.int .i64 r.p.k),.lit (.int .i64 r.p.n),.lit (.string r.p.s),.own (r.p.l.map Ex.o),.own (r.a.map Sm.o)]]=(l++[r]).map Ru.o:=by rw[List.map_append,List.map_singleton];rfl
theorem appF (l:List Fu) (f:Fu):l.map Fu.o++[[.lit (.string f.name),.own (f.params.map strT),.own (f.a.map Sm.o)]]=(l++[f]).map Fu.o:=by rw[List.map_append,List.map_singleton];rfl
theorem ZN0 (hI:II @I) (p:Pg) (h1:p.rules.length<=1048576) (h2:p.fns.length<=1048576) (h3:∀f∈p.fns,f.params.length<=1048576) (ih1:∀r∈p.rules,ACl Tryz.prog 21 [eA @I r.p] [] (fun res bx=>res=eO @I r.p/\bx=[])) (ih2:∀r∈p.rules,CpS @I r.a) (ih3:∀f∈p.fns,CpS @I f.a):ACl Tryz.prog 34 [pA @I p] [] (fun res bx=>res=pO @I p/\bx=[]):=by
 refine qN hI tyK Tryz.func34 53 [.cell 2 32] ?_;unhygienic intros
 refine qB 0 ?_
 repeat' first|refine qA 0 ?_|refine qJ (nN []) ?_|refine qp ?_ ?_|refine qk (fun h=>?_) fun h=>?_|fail
 refine qLf 3 [1,2,3,9,10,11] (kkB 2 0 1006) (fun i:Nat=>⟨vag 53 [(1,⟨.one,[.ptr 0 0]⟩),(2,⟨.one,[.ptr 1 0]⟩),(3,⟨.one,[.ptr 2 0]⟩),(9,⟨.one,[.ro true (I (p.rules.map Ru.t))]⟩),(10,litI (Int.ofNat (I p.rules.length))),(11,litI (Int.ofNat (I i)))],[some (pA @I p).cs,some [.nil,.nil],some [.ow (0,0) true 6 (I ((p.rules.take i).map Ru.o)),.nil]],1⟩) (fun i=>i<=p.rules.length) (fun i=>p.rules.length - i) ?_ fun i hi=>?_
 ·cbv
  exact ⟨0,by simp only[hI.e];rfl,by omega⟩
 by_cases hh:i < p.rules.length
 ·have c1:=ih1 _ (zD0 hh)
  have c2:=ih2 _ (zD0 hh);have hlt:(p.rules.take i).length<=1048576:=by rw[List.length_take];omega
  generalize hr:p.rules[i]! = r at *;have e1:app (I ((p.rules.take i).map Ru.o)) [[.lit (.int .i64 (I r.k)),.lit (.int .i64 (I r.p.k)),.lit (.int .i64 (I r.p.n)),.lit (.string (I r.p.s)),.own (I (r.p.l.map Ex.o)),.own (I (r.a.map Sm.o))]]=I ((p.rules.take (i+1)).map Ru.o):=by
   simp only[hI.e];cases hO;rw[zZ0 hh,hr];exact appR _ _
  have e2:=hr;refine qB 0 ?_
  repeat' first|refine qA 0 ?_|refine qJ (nN []) ?_|refine qp ?_ ?_|refine qk (fun h=>?_) fun h=>?_|fail
  ·exact ⟨i+1,by (try simp only[A.reset,hI.e]);rfl,by omega,by omega⟩
  ·exact absurd hh h
 ·have e1:I ((p.rules.take i).map Ru.o)=I (p.rules.map Ru.o):=by rw[List.take_of_length_le (by omega)]
  refine qB 0 ?_
  repeat' first|refine qA 0 ?_|refine qJ (nN []) ?_|refine qp ?_ ?_|refine qk (fun h=>?_) fun h=>?_|fail
  ·exact absurd h hh
  clear e1;refine qLf 3 [1,2,3,31,32,33] (kkB 2 1 1003) (fun j:Nat=>⟨vag 53 [(1,⟨.one,[.ptr 0 0]⟩),(2,⟨.one,[.ptr 1 0]⟩),(3,⟨.one,[.ptr 2 0]⟩),(31,⟨.one,[.ro true (I (p.fns.map Fu.t))]⟩),(32,litI (Int.ofNat (I p.fns.length))),(33,litI (Int.ofNat (I j)))],[some (pA @I p).cs,some [.nil,.nil],some [.ow (0,0) true 6 (I (p.rules.map Ru.o)),.ow (0,0) true 3 (I ((p.fns.take j).map Fu.o))]],1⟩) (fun j=>j<=p.fns.length) (fun j=>p.fns.length - j) ?_ fun j hj=>?_
  ·cbv
   exact ⟨0,by simp only[hI.e];rfl,by omega⟩
  by_cases hh2:j < p.fns.length
  ·have c1:=ih3 _ (zD0 hh2)
   have hlt:(p.fns.take j).length<=1048576:=by rw[List.length_take];omega
   have hfp:=h3 _ (zD0 hh2);generalize hr:p.fns[j]! = r at *;have e1:app (I ((p.fns.take j).map Fu.o)) [[.lit (.string (I r.name)),.own (I (r.params.map strT)),.own (I (r.a.map Sm.o))]]=I ((p.fns.take (j+1)).map Fu.o):=by
    simp only[hI.e];cases hO;rw[zZ0 hh2,hr];exact appF _ _
   have e2:=hr;refine qB 0 ?_
   (repeat' first|refine qA 0 ?_|refine qJ (nN []) ?_|refine qp ?_ ?_|refine qk (fun h=>?_) fun h=>?_|fail)
   ·exact ⟨j+1,by (try simp only[A.reset,hI.e]);rfl,by omega,by omega⟩
   ·exact absurd hh2 (by assumption)
  ·have e1:I ((p.fns.take j).map Fu.o)=I (p.fns.map Fu.o):=by rw[List.take_of_length_le (by omega)]
   refine qB 0 ?_
   (repeat' first|refine qA 0 ?_|refine qJ (nN []) ?_|refine qp ?_ ?_|refine qk (fun h=>?_) fun h=>?_|fail)
   ·exact absurd (by assumption) hh2
   ·exact hR _ _ ⟨rfl,rfl⟩
variable {I:∀{α:Type},α->α}
mutual
noncomputable def Sm.mp (ff:Ex->Ex):Sm->Sm
 | .mk k s t x a b=>.mk k s t (x.map ff) (Sm.mps ff a) (Sm.mps ff b)
noncomputable def Sm.mps (ff:Ex->Ex):List Sm->List Sm
 | []=>[]
 | e::l=>Sm.mp ff e::Sm.mps ff l
end
theorem Sm.mps_map (ff:Ex->Ex):∀l,Sm.mps ff l=l.map (Sm.mp ff)
 | []=>by rw[Sm.mps];rfl
 | e::l=>by rw[Sm.mps,Sm.mps_map ff l];rfl
theorem Sm.mp_eq (ff:Ex->Ex) (y:Sm):Sm.mp ff y=.mk y.k y.s y.tt (y.x.map ff) (y.a.map (Sm.mp ff)) (y.b.map (Sm.mp ff)):=by cases y;rw[Sm.mp,Sm.mps_map,Sm.mps_map];rfl
theorem appM (ff:Ex->Ex) (l:List Sm) (y:Sm):(l.map (Sm.mp ff)).map Sm.o++[[.lit (.int .i64 y.k),.lit (.string y.s),.lit (.string y.tt),.own ((y.x.map ff).map Ex.o),.own ((y.a.map (Sm.mp ff)).map Sm.o),.own ((y.b.map (Sm.mp ff)).map Sm.o)]]=((l++[y]).map (Sm.mp ff)).map Sm.o:=by
 rw[List.map_append,List.map_append,List.map_singleton,List.map_singleton,Sm.mp_eq ff y,Sm.o_eq];rfl
abbrev FdE (I:∀{α:Type},α->α) (f:FuncId) (ff:Ex->Ex) (e:Ex):Prop:=ACl Tryz.prog f [eA @I e] [] (fun res bx=>res=eO @I (ff e)/\bx=[])
abbrev FdS (I:∀{α:Type},α->α) (ff:Ex->Ex) (l:List Sm):Prop:=ACl Tryz.prog 36 [smI @I l] [] (fun res bx=>res=smO @I (l.map (Sm.mp ff))/\bx=[])
theorem vV0 (hI:II @I) (ff:Ex->Ex) (l:List Sm) (hl:l.length<=1048576) (ih1:∀y∈l,∀e∈y.x,FdE @I 6 ff e) (hx:∀y∈l,y.x.length<=1048576) (ih2:∀y∈l,FdS @I ff y.a) (ih3:∀y∈l,FdS @I ff y.b):FdS @I ff l:=by
 refine qN hI tyK Tryz.func36 49 [.tmp 2] ?_;unhygienic intros
 refine qB 0 ?_
 repeat' first|refine qA 0 ?_|refine qJ (nN []) ?_|refine qp ?_ ?_|refine qk (fun h=>?_) fun h=>?_|fail
 refine qLf 0 [0,3,9,10,11] (kkS 3 1006) (fun i:Nat=>⟨vag 49 [(0,smI @I l),(3,smO @I ((l.take i).map (Sm.mp ff))),(9,smI @I l),(10,litI (Int.ofNat (I l.length))),(11,litI (Int.ofNat (I i)))],[],1⟩) (fun i=>i<=l.length) (fun i=>l.length - i) ?_ fun i hi=>?_
 ·cbv
  exact ⟨0,by simp only[hI.e];rfl,by omega⟩
 by_cases hh:i < l.length
 ·have c1:=ih2 _ (zD0 hh)
  have c2:=ih3 _ (zD0 hh);have cx:=ih1 _ (zD0 hh);have hxl:=hx _ (zD0 hh);have hlt:((l.take i).map (Sm.mp ff)).length<=1048576:=by rw[List.length_map,List.length_take];omega
  generalize hr:l[i]! = y at *;have e2:=hr;have e1:app (I (((l.take i).map (Sm.mp ff)).map Sm.o)) [[.lit (.int .i64 (I y.k)),.lit (.string (I y.s)),.lit (.string (I y.tt)),.own (I ((y.x.map ff).map Ex.o)),.own (I ((y.a.map (Sm.mp ff)).map Sm.o)),.own (I ((y.b.map (Sm.mp ff)).map Sm.o))]]=I (((l.take (i+1)).map (Sm.mp ff)).map Sm.o):=by
   simp only[hI.e];cases hO;rw[zZ0 hh,hr];exact appM _ _ _
  refine qB 0 ?_
  repeat' first|refine qA 0 ?_|refine qJ (nN []) ?_|refine qp ?_ ?_|refine qk (fun h=>?_) fun h=>?_|fail
  all_goals first | exact absurd hh (by assumption) | skip
  all_goals (
   refine qLf 2 [0,3,5,6,9,10,11,29,30,31] (kkB 1 3 1004) (fun j:Nat=>⟨vag 49 [(0,smI @I l),(3,smO @I ((l.take i).map (Sm.mp ff))),(5,⟨.one,[.ptr 0 0]⟩),(6,⟨.one,[.ptr 1 0]⟩),(9,smI @I l),(10,litI (Int.ofNat (I l.length))),(11,litI (Int.ofNat (I i))),(29,⟨.one,[.ro true (I (y.x.map Ex.t))]⟩),(30,litI (Int.ofNat (I y.x.length))),(31,litI (Int.ofNat (I j)))],[some (sA @I y).cs,some [.lit (.int .i64 (I y.k)),.lit (.string (I y.s)),.lit (.string (I y.tt)),.ow (0,0) true 4 (I (((y.x.take j).map ff).map Ex.o)),.ow (0,0) true 6 (I ((y.a.map (Sm.mp ff)).map Sm.o)),.ow (0,0) true 6 (I ((y.b.map (Sm.mp ff)).map Sm.o))]],1⟩) (fun j=>j<=y.x.length) (fun j=>y.x.length - j) ?_ fun j hj=>?_
   ·cbv
    exact ⟨0,by (try simp only[A.reset,hI.e]);rfl,by omega⟩
   clear c1 c2
   by_cases hh2:j < y.x.length
   ·have c1:=cx _ (zD0 hh2)
    have hlt2:((y.x.take j).map ff).length<=1048576:=by rw[List.length_map,List.length_take];omega
    have e3:app (I (((y.x.take j).map ff).map Ex.o)) [[.lit (.int .i64 (I (ff y.x[j]!).k)),.lit (.int .i64 (I (ff y.x[j]!).n)),.lit (.string (I (ff y.x[j]!).s)),.own (I ((ff y.x[j]!).l.map Ex.o))]]=I (((y.x.take (j+1)).map ff).map Ex.o):=by
     simp only[hI.e];cases hO;rw[zZ0 hh2,List.map_append,List.map_singleton];exact appO _ _
    generalize hz:y.x[j]! = z at *;have e2:=hz;have e1:=e3;refine qB 0 ?_
    (repeat' first|refine qA 0 ?_|refine qJ (nN []) ?_|refine qp ?_ ?_|refine qk (fun h=>?_) fun h=>?_|fail)
    all_goals first | exact absurd hh2 (by assumption) | exact ⟨j+1,by (try simp only[A.reset,hI.e]);rfl,by omega,by omega⟩
   ·have e3:I (((y.x.take j).map ff).map Ex.o)=I ((y.x.map ff).map Ex.o):=by rw[List.take_of_length_le (by omega)]
    refine qB 0 ?_
    (repeat' first|refine qA 0 ?_|refine qJ (nN []) ?_|refine qp ?_ ?_|refine qk (fun h=>?_) fun h=>?_|fail)
    all_goals first | exact absurd (by assumption) hh2 | exact ⟨i+1,by (try simp only[A.reset,hI.e]);rfl,by omega,by omega⟩)
 ·refine qB 0 ?_
  repeat' first|refine qA 0 ?_|refine qJ (nN []) ?_|refine qp ?_ ?_|refine qk (fun h=>?_) fun h=>?_|fail
  all_goals first | exact absurd (by assumption) hh | skip
  have e:l.take i=l:=List.take_of_length_le (by omega)
  exact hR _ _ ⟨by rw[e],rfl⟩
open Classical in
noncomputable def Ru.mp (ff:Ex->Ex) (r:Ru):Ru:=⟨r.k,if r.k=4 then ff r.p else r.p,r.a.map (Sm.mp ff)⟩
noncomputable def Fu.mp (ff:Ex->Ex) (f:Fu):Fu:=⟨f.name,f.params,f.a.map (Sm.mp ff)⟩
noncomputable def Pg.mp (ff:Ex->Ex) (p:Pg):Pg:=⟨p.rules.map (Ru.mp ff),p.fns.map (Fu.mp ff)⟩
variable {I:∀{α:Type},α->α}
theorem appMt (ff:Ex->Ex) (l:List Sm) (y:Sm):(l.map (Sm.mp ff)).map Sm.t++[[.lit (.int .i64 y.k),.lit (.string y.s),.lit (.string y.tt),.sl ((y.x.map ff).map Ex.t),.sl ((y.a.map (Sm.mp ff)).map Sm.t),.sl ((y.b.map (Sm.mp ff)).map Sm.t)]]=((l++[y]).map (Sm.mp ff)).map Sm.t:=by
 rw[List.map_append,List.map_append,List.map_singleton,List.map_singleton,Sm.mp_eq ff y,Sm.t_mk]
abbrev FbE (I:∀{α:Type},α->α) (f:FuncId) (ff:Ex->Ex) (e:Ex):Prop:=ACl Tryz.prog f [eA @I e] [] (fun res bx=>res=eA @I (ff e)/\bx=[])
abbrev FbS (I:∀{α:Type},α->α) (f:FuncId) (ff:Ex->Ex) (l:List Sm):Prop:=ACl Tryz.prog f [smI @I l] [] (fun res bx=>res=smI @I (l.map (Sm.mp ff))/\bx=[])
theorem uP0 (hI:II @I) (ff:Ex->Ex) (l:List Sm) (hl:l.length<=1048576) (ih1:∀y∈l,∀e∈y.x,FbE @I 28 ff e) (hx:∀y∈l,y.x.length<=1048576) (ih2:∀y∈l,FbS @I 39 ff y.a) (ih3:∀y∈l,FbS @I 39 ff y.b):FbS @I 39 ff l:=by
 refine yM0 ?_;refine qN hI tyK Tryz.func39 75 [.tmp 2] ?_;unhygienic intros
 refine qB 0 ?_
 repeat' first|refine qA 0 ?_|refine qJ (nN []) ?_|refine qp ?_ ?_|refine qk (fun h=>?_) fun h=>?_|fail
 refine qLf 0 [0,3,4] (kkS 3 6) (fun i:Nat=>⟨vag 75 [(0,smI @I l),(3,⟨.one,[.ow (0,0) false 6 (I (((l.take i).map (Sm.mp ff)).map Sm.t))]⟩),(4,litI (Int.ofNat (I i)))],[],1⟩) (fun i=>i<=l.length) (fun i=>l.length - i) ?_ fun i hi=>?_
 ·cbv
  exact ⟨0,by simp only[hI.e];rfl,by omega⟩
 by_cases hh:i < l.length
 ·have c1:=ih2 _ (zD0 hh)
  have c2:=ih3 _ (zD0 hh);have cx:=ih1 _ (zD0 hh);have hxl:=hx _ (zD0 hh);have hlt:((l.take i).map (Sm.mp ff)).length<=1048576:=by rw[List.length_map,List.length_take];omega
  generalize hr:l[i]! = y at *;have e2:=hr;have e1:app (I (((l.take i).map (Sm.mp ff)).map Sm.t)) [[.lit (.int .i64 (I y.k)),.lit (.string (I y.s)),.lit (.string (I y.tt)),.sl (I ((y.x.map ff).map Ex.t)),.sl (I ((y.a.map (Sm.mp ff)).map Sm.t)),.sl (I ((y.b.map (Sm.mp ff)).map Sm.t))]]=I (((l.take (i+1)).map (Sm.mp ff)).map Sm.t):=by
   simp only[hI.e];cases hO;rw[zZ0 hh,hr];exact appMt _ _ _
  refine qB 0 ?_
  repeat' first|refine qA 0 ?_|refine qJ (nN []) ?_|refine qp ?_ ?_|refine qk (fun h=>?_) fun h=>?_|fail
  all_goals first | exact absurd hh (by assumption) | skip
  all_goals (
   refine qLf 1 [0,3,4,5,6] (kkB 0 3 4) (fun j:Nat=>⟨vag 75 [(0,smI @I l),(3,⟨.one,[.ow (0,0) false 6 (I (((l.take i).map (Sm.mp ff)).map Sm.t))]⟩),(4,litI (Int.ofNat (I i))),(5,⟨.one,[.ptr 0 0]⟩),(6,litI (Int.ofNat (I j)))],[some [.lit (.int .i64 (I y.k)),.lit (.string (I y.s)),.lit (.string (I y.tt)),.ow (0,0) false 4 (I (((y.x.take j).map ff).map Ex.t)),.nil,.nil]],1⟩) (fun j=>j<=y.x.length) (fun j=>y.x.length - j) ?_ fun j hj=>?_
   ·cbv
    exact ⟨0,by (try simp only[A.reset,hI.e]);rfl,by omega⟩
   by_cases hh2:j < y.x.length
   ·have cj:=cx _ (zD0 hh2)
    have hlt2:((y.x.take j).map ff).length<=1048576:=by rw[List.length_map,List.length_take];omega
    have ea:I (((y.x.take j).map ff++[ff y.x[j]!]).map Ex.t)=I (((y.x.take (j+1)).map ff).map Ex.t):=by rw[zZ0 hh2,List.map_append (f:=ff),List.map_singleton]
    clear c1 c2 e1;have c1:=cj;generalize hz:y.x[j]! = z at *;have e3:=hz;have e1:=ea;refine qB 0 ?_
    (repeat' first|refine qA 0 ?_|refine qJ (nN []) ?_|refine qp ?_ ?_|refine qk (fun h=>?_) fun h=>?_|fail)
    all_goals first | exact absurd hh2 (by assumption) | exact ⟨j+1,by (try simp only[A.reset,hI.e]);rfl,by omega,by omega⟩
   ·have e3:I (((y.x.take j).map ff).map Ex.t)=I ((y.x.map ff).map Ex.t):=by rw[List.take_of_length_le (by omega)]
    refine qB 0 ?_
    (repeat' first|refine qA 0 ?_|refine qJ (nN []) ?_|refine qp ?_ ?_|refine qk (fun h=>?_) fun h=>?_|fail)
    all_goals first | exact absurd (by assumption) hh2 | exact ⟨i+1,by (try simp only[A.reset,hI.e]);rfl,by omega,by omega⟩)
 ·refine qB 0 ?_
  repeat' first|refine qA 0 ?_|refine qJ (nN []) ?_|refine qp ?_ ?_|refine qk (fun h=>?_) fun h=>?_|fail
  all_goals first | exact absurd (by assumption) hh | skip
  have e:l.take i=l:=List.take_of_length_le (by omega)
  exact hR _ _ ⟨by rw[e];rfl,rfl⟩
abbrev CbS (I:∀{α:Type},α->α) (l:List Sm):Prop:=ACl Tryz.prog 78 [smI @I l] [] (fun res bx=>res=smI @I l/\bx=[])
theorem wK0 (hI:II @I) (l:List Sm) (hl:l.length<=1048576) (ih1:∀y∈l,∀e∈y.x,FbE @I 27 (fun e=>e) e) (hx:∀y∈l,y.x.length<=1048576) (ih2:∀y∈l,CbS @I y.a) (ih3:∀y∈l,CbS @I y.b):CbS @I l:=by
 refine yM0 ?_;refine qN hI tyK Tryz.func78 65 [.tmp 2] ?_;unhygienic intros
 refine qB 0 ?_
 repeat' first|refine qA 0 ?_|refine qJ (nN []) ?_|refine qp ?_ ?_|refine qk (fun h=>?_) fun h=>?_|fail
 refine qLf 0 [0,3,4] (kkS 3 6) (fun i:Nat=>⟨vag 65 [(0,smI @I l),(3,⟨.one,[.ow (0,0) false 6 (I ((l.take i).map Sm.t))]⟩),(4,litI (Int.ofNat (I i)))],[],1⟩) (fun i=>i<=l.length) (fun i=>l.length - i) ?_ fun i hi=>?_
 ·cbv
  exact ⟨0,by simp only[hI.e];rfl,by omega⟩
 by_cases hh:i < l.length
 ·have c1:=ih2 _ (zD0 hh)
  have c2:=ih3 _ (zD0 hh);have cx:=ih1 _ (zD0 hh);have hxl:=hx _ (zD0 hh);have hlt:(l.take i).length<=1048576:=by rw[List.length_take];omega
  generalize hr:l[i]! = y at *;have e2:=hr;have e1:I ((l.take i++[y]).map Sm.t)=I ((l.take (i+1)).map Sm.t):=by rw[zZ0 hh,hr]
  refine qB 0 ?_
  repeat' first|refine qA 0 ?_|refine qJ (nN []) ?_|refine qp ?_ ?_|refine qk (fun h=>?_) fun h=>?_|fail
  all_goals first | exact absurd hh (by assumption) | skip
  all_goals (
   refine qLf 1 [0,3,4,5,6] (kkB 0 3 4) (fun j:Nat=>⟨vag 65 [(0,smI @I l),(3,⟨.one,[.ow (0,0) false 6 (I ((l.take i).map Sm.t))]⟩),(4,litI (Int.ofNat (I i))),(5,⟨.one,[.ptr 0 0]⟩),(6,litI (Int.ofNat (I j)))],[some [.lit (.int .i64 (I y.k)),.lit (.string (I y.s)),.lit (.string (I y.tt)),.ow (0,0) false 4 (I ((y.x.take j).map Ex.t)),.ro true (I (y.a.map Sm.t)),.ro true (I (y.b.map Sm.t))]],1⟩) (fun j=>j<=y.x.length) (fun j=>y.x.length - j) ?_ fun j hj=>?_
   ·cbv
    exact ⟨0,by (try simp only[A.reset,hI.e]);rfl,by omega⟩
   by_cases hh2:j < y.x.length
   ·have cj:=cx _ (zD0 hh2)
    have hlt2:(y.x.take j).length<=1048576:=by rw[List.length_take];omega
    have ea:I ((y.x.take j++[y.x[j]!]).map Ex.t)=I ((y.x.take (j+1)).map Ex.t):=by rw[zZ0 hh2]
    clear c1 c2 e1;have c1:=cj;generalize hz:y.x[j]! = z at *;have e3:=hz;have e1:=ea;refine qB 0 ?_
    (repeat' first|refine qA 0 ?_|refine qJ (nN []) ?_|refine qp ?_ ?_|refine qk (fun h=>?_) fun h=>?_|fail)
    all_goals first | exact absurd hh2 (by assumption) | exact ⟨j+1,by (try simp only[A.reset,hI.e]);rfl,by omega,by omega⟩
   ·have e3:y.x.take j=y.x:=List.take_of_length_le (by omega)
    refine qB 0 ?_
    (repeat' first|refine qA 0 ?_|refine qJ (nN []) ?_|refine qp ?_ ?_|refine qk (fun h=>?_) fun h=>?_|fail)
    all_goals first | exact absurd (by assumption) hh2 | exact ⟨i+1,by (try simp only[A.reset,hI.e]);rfl,by omega,by omega⟩)
 ·refine qB 0 ?_
  repeat' first|refine qA 0 ?_|refine qJ (nN []) ?_|refine qp ?_ ?_|refine qk (fun h=>?_) fun h=>?_|fail
  all_goals first | exact absurd (by assumption) hh | skip
  have e:l.take i=l:=List.take_of_length_le (by omega)
  exact hR _ _ ⟨by rw[e];rfl,rfl⟩
variable {I:∀{α:Type},α->α}
theorem and32 {O:Ops} (hO:O=Ops.std) (n:Int):O.bin .and .i64 n 4294967295=n % 4294967296:=by
 subst hO;have e:((BitVec.ofInt 64 n &&& BitVec.ofInt 64 4294967295).toNat:Int)=n % 4294967296:=by
  rw[BitVec.toNat_and];have h2:(BitVec.ofInt 64 4294967295).toNat=2 ^ 32 - 1:=by decide
  rw[h2,Nat.and_two_pow_sub_one_eq_mod,BitVec.toNat_ofInt];omega
 show IntKind.i64.wrap (((BitVec.ofInt 64 n &&& BitVec.ofInt 64 4294967295).toNat:Nat):Int)=_
 rw[e,zW0 (by omega)]
def wr (n:Int):Int:=if n % 4294967296<=2147483647 then n % 4294967296 else n % 4294967296 - 4294967296
theorem pH1 (n:Int):IntKind.i32.wrap n=wr n:=by
 simp only[IntKind.wrap,wr,IntKind.bits,IntKind.signed];simp
 split<;>split<;>omega
theorem pG1 (n:Int):-2147483648<=wr n/\wr n<=2147483647:=by unfold wr;split<;>omega
theorem uH1 {n:Int} (h:-2147483648<=n/\n<=2147483647):wr n=n:=by unfold wr;split<;>omega
theorem qC1 (hI:II @I) (n:Int):ACl Tryz.prog 137 [litI n] [] (fun res bx=>res=litI (I (wr n))/\bx=[]):=by
 refine qN hI tyK Tryz.func137 11 [.tmp 2] ?_;unhygienic intros
 have e1:bin .and .i64 n 4294967295=I (n % 4294967296):=by rw[hI.e];exact and32 hO n
 have e4:bin .sub .i64 (I (n % 4294967296)) 4294967296=n % 4294967296 - 4294967296:=by rw[hI.e];cases hO;exact zW0 (x:=n % 4294967296 - 4294967296) (by omega)
 refine qB 0 ?_
 repeat' first|refine qA 0 ?_|refine qp ?_ ?_|refine qk (fun h=>?_) fun h=>?_|fail
 ·exact hR _ _ ⟨liI hI (by rw[e4,wr,if_neg (by omega)]),rfl⟩
 ·exact hR _ _ ⟨liI hI (by rw[hI.e,wr,if_pos (by omega)]),rfl⟩
theorem qD1 (hI:II @I) (n:Int):ACl Tryz.prog 124 [litI n] [] (fun res bx=>res=litI (I (wr n))/\bx=[]):=by
 refine qN hI tyK Tryz.func124 6 [.tmp 2] ?_;unhygienic intros
 refine qB 0 ?_;exact hR _ _ ⟨liI hI (by cases hO;show IntKind.i64.wrap (IntKind.i32.wrap n)=wr n;rw[pH1,zW0 (by have:=pG1 n;omega)]),rfl⟩
@[simp,reducible] def vN (I:∀{α:Type},α->α) (n:Int):AV:=⟨.agg,[.lit (.int .i64 1),.lit (.int .i64 (I n)),.lit (.string ⟨⟨[]⟩⟩)]⟩
theorem pK0 (hI:II @I) (n:Int):ACl Tryz.prog 97 [litI n] [] (fun res bx=>res=vN @I (wr n)/\bx=[]):=by
 have c1:=qC1 hI n;refine qN hI tyK Tryz.func97 6 [.cell 2 78] ?_;unhygienic intros
 refine qB 0 ?_
 repeat' first|refine qA 0 ?_|refine qJ (nN []) ?_|refine qp ?_ ?_|refine qk (fun h=>?_) fun h=>?_|fail
 exact hR _ _ ⟨rfl,rfl⟩
theorem WN0 (hI:II @I) (s:ByteArray):ACl Tryz.prog 100 [litS s] [] (fun res bx=>res=⟨.agg,[.lit (.int .i64 2),.lit (.int .i64 0),.lit (.string s)]⟩/\bx=[]):=by
 refine qN hI tyK Tryz.func100 5 [.cell 2 78] ?_;unhygienic intros
 refine qB 0 ?_;exact hR _ _ ⟨rfl,rfl⟩
theorem hK0 (hI:II @I) (n:Int):ACl Tryz.prog 86 [litI n] [] (fun res bx=>res=⟨.agg,[.lit (.int .i64 1),.lit (.int .i64 n),.lit (.string ⟨⟨[]⟩⟩)]⟩/\bx=[]):=by
 refine qN hI tyK Tryz.func86 5 [.cell 2 78] ?_;unhygienic intros
 refine qB 0 ?_;exact hR _ _ ⟨rfl,rfl⟩
theorem rL1 (hI:II @I) (s:ByteArray):ACl Tryz.prog 126 [litS s] [] (fun res bx=>res=⟨.agg,[.lit (.int .i64 2),.lit (.int .i64 0),.lit (.string s)]⟩/\bx=[]):=by
 refine qN hI tyK Tryz.func126 5 [.cell 2 78] ?_;unhygienic intros
 refine qB 0 ?_;exact hR _ _ ⟨rfl,rfl⟩
end Go.Gv
