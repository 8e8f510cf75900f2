/- Part PQ7 of the proof: contracts of functions of the program, each walked once. -/
import Derived.Test.YtnmkmfancgcaeaaGreatDoorPQ6
set_option linter.all false
namespace Go.Gv
open Go.Av Go.Proofs
set_option maxRecDepth 10000
set_option maxHeartbeats 8000000
variable {I:∀{α:Type},α->α}
theorem appMt (ff:Ex->Ex) (l:List Sm) (y:Sm):(l.map (Sm.mp ff)).map Sm.t++[[.lit (.int .i64 y.k),.lit (.string y.s),.lit (.string y.tt),.sl ((y.x.map ff).map Ex.t),.sl ((y.a.map (Sm.mp ff)).map Sm.t),.sl ((y.b.map (Sm.mp ff)).map Sm.t)]]=((l++[y]).map (Sm.mp ff)).map Sm.t:=by
 rw[List.map_append,List.map_append,List.map_singleton,List.map_singleton,Sm.mp_eq ff y,Sm.t_mk]
abbrev FbE (I:∀{α:Type},α->α) (f:FuncId) (ff:Ex->Ex) (e:Ex):Prop:=ACl Tryz.prog f [eA @I e] [] (fun res bx=>res=eA @I (ff e)/\bx=[])
abbrev FbS (I:∀{α:Type},α->α) (f:FuncId) (ff:Ex->Ex) (l:List Sm):Prop:=ACl Tryz.prog f [smI @I l] [] (fun res bx=>res=smI @I (l.map (Sm.mp ff))/\bx=[])
theorem uA0 (hI:II @I) (ff:Ex->Ex) (l:List Sm) (hl:l.length<=1048576) (ih1:∀y∈l,∀e∈y.x,FbE @I 22 ff e) (hx:∀y∈l,y.x.length<=1048576) (ih2:∀y∈l,FbS @I 34 ff y.a) (ih3:∀y∈l,FbS @I 34 ff y.b):FbS @I 34 ff l:=by
 refine nB0 ?_;refine qN hI tyK Tryz.func34 75 [.tmp 2] ?_;unhygienic intros
 refine qB 0 ?_
 repeat' first|refine qA 0 ?_|refine qJ (nN []) ?_|refine qp ?_ ?_|refine qk (fun h=>?_) fun h=>?_|fail
 refine qLf 0 [0,3,4] (kkS 3 6) (fun i:Nat=>⟨vag 75 [(0,smI @I l),(3,⟨.one,[.ow (0,0) false 6 (I (((l.take i).map (Sm.mp ff)).map Sm.t))]⟩),(4,litI (Int.ofNat (I i)))],[],1⟩) (fun i=>i<=l.length) (fun i=>l.length - i) ?_ fun i hi=>?_
 ·cbv
  exact ⟨0,by simp only[hI.e];rfl,by omega⟩
 by_cases hh:i < l.length
 ·have c1:=ih2 _ (zB0 hh)
  have c2:=ih3 _ (zB0 hh);have cx:=ih1 _ (zB0 hh);have hxl:=hx _ (zB0 hh);have hlt:((l.take i).map (Sm.mp ff)).length<=1048576:=by rw[List.length_map,List.length_take];omega
  generalize hr:l[i]! = y at *;have e2:=hr;have e1:app (I (((l.take i).map (Sm.mp ff)).map Sm.t)) [[.lit (.int .i64 (I y.k)),.lit (.string (I y.s)),.lit (.string (I y.tt)),.sl (I ((y.x.map ff).map Ex.t)),.sl (I ((y.a.map (Sm.mp ff)).map Sm.t)),.sl (I ((y.b.map (Sm.mp ff)).map Sm.t))]]=I (((l.take (i+1)).map (Sm.mp ff)).map Sm.t):=by
   simp only[hI.e];cases hO;rw[zU0 hh,hr];exact appMt _ _ _
  refine qB 0 ?_
  repeat' first|refine qA 0 ?_|refine qJ (nN []) ?_|refine qp ?_ ?_|refine qk (fun h=>?_) fun h=>?_|fail
  all_goals first | exact absurd hh (by assumption) | skip
  all_goals (
   refine qLf 1 [0,3,4,5,6] (kkB 0 3 4) (fun j:Nat=>⟨vag 75 [(0,smI @I l),(3,⟨.one,[.ow (0,0) false 6 (I (((l.take i).map (Sm.mp ff)).map Sm.t))]⟩),(4,litI (Int.ofNat (I i))),(5,⟨.one,[.ptr 0 0]⟩),(6,litI (Int.ofNat (I j)))],[some [.lit (.int .i64 (I y.k)),.lit (.string (I y.s)),.lit (.string (I y.tt)),.ow (0,0) false 4 (I (((y.x.take j).map ff).map Ex.t)),.nil,.nil]],1⟩) (fun j=>j<=y.x.length) (fun j=>y.x.length - j) ?_ fun j hj=>?_
   ·cbv
    exact ⟨0,by (try simp only[A.reset,hI.e]);rfl,by omega⟩
   by_cases hh2:j < y.x.length
   ·have cj:=cx _ (zB0 hh2)
    have hlt2:((y.x.take j).map ff).length<=1048576:=by rw[List.length_map,List.length_take];omega
    have ea:I (((y.x.take j).map ff++[ff y.x[j]!]).map Ex.t)=I (((y.x.take (j+1)).map ff).map Ex.t):=by rw[zU0 hh2,List.map_append (f:=ff),List.map_singleton]
    clear c1 c2 e1;have c1:=cj;generalize hz:y.x[j]! = z at *;have e3:=hz;have e1:=ea;refine qB 0 ?_
    (repeat' first|refine qA 0 ?_|refine qJ (nN []) ?_|refine qp ?_ ?_|refine qk (fun h=>?_) fun h=>?_|fail)
    all_goals first | exact absurd hh2 (by assumption) | exact ⟨j+1,by (try simp only[A.reset,hI.e]);rfl,by omega,by omega⟩
   ·have e3:I (((y.x.take j).map ff).map Ex.t)=I ((y.x.map ff).map Ex.t):=by rw[List.take_of_length_le (by omega)]
    refine qB 0 ?_
    (repeat' first|refine qA 0 ?_|refine qJ (nN []) ?_|refine qp ?_ ?_|refine qk (fun h=>?_) fun h=>?_|fail)
    all_goals first | exact absurd (by assumption) hh2 | exact ⟨i+1,by (try simp only[A.reset,hI.e]);rfl,by omega,by omega⟩)
 ·refine qB 0 ?_
  repeat' first|refine qA 0 ?_|refine qJ (nN []) ?_|refine qp ?_ ?_|refine qk (fun h=>?_) fun h=>?_|fail
  all_goals first | exact absurd (by assumption) hh | skip
  have e:l.take i=l:=List.take_of_length_le (by omega)
  exact hR _ _ ⟨by rw[e];rfl,rfl⟩
abbrev CbS (I:∀{α:Type},α->α) (l:List Sm):Prop:=ACl Tryz.prog 65 [smI @I l] [] (fun res bx=>res=smI @I l/\bx=[])
theorem xY0 (hI:II @I) (l:List Sm) (hl:l.length<=1048576) (ih1:∀y∈l,∀e∈y.x,FbE @I 21 (fun e=>e) e) (hx:∀y∈l,y.x.length<=1048576) (ih2:∀y∈l,CbS @I y.a) (ih3:∀y∈l,CbS @I y.b):CbS @I l:=by
 refine nB0 ?_;refine qN hI tyK Tryz.func65 65 [.tmp 2] ?_;unhygienic intros
 refine qB 0 ?_
 repeat' first|refine qA 0 ?_|refine qJ (nN []) ?_|refine qp ?_ ?_|refine qk (fun h=>?_) fun h=>?_|fail
 refine qLf 0 [0,3,4] (kkS 3 6) (fun i:Nat=>⟨vag 65 [(0,smI @I l),(3,⟨.one,[.ow (0,0) false 6 (I ((l.take i).map Sm.t))]⟩),(4,litI (Int.ofNat (I i)))],[],1⟩) (fun i=>i<=l.length) (fun i=>l.length - i) ?_ fun i hi=>?_
 ·cbv
  exact ⟨0,by simp only[hI.e];rfl,by omega⟩
 by_cases hh:i < l.length
 ·have c1:=ih2 _ (zB0 hh)
  have c2:=ih3 _ (zB0 hh);have cx:=ih1 _ (zB0 hh);have hxl:=hx _ (zB0 hh);have hlt:(l.take i).length<=1048576:=by rw[List.length_take];omega
  generalize hr:l[i]! = y at *;have e2:=hr;have e1:I ((l.take i++[y]).map Sm.t)=I ((l.take (i+1)).map Sm.t):=by rw[zU0 hh,hr]
  refine qB 0 ?_
  repeat' first|refine qA 0 ?_|refine qJ (nN []) ?_|refine qp ?_ ?_|refine qk (fun h=>?_) fun h=>?_|fail
  all_goals first | exact absurd hh (by assumption) | skip
  all_goals (
   refine qLf 1 [0,3,4,5,6] (kkB 0 3 4) (fun j:Nat=>⟨vag 65 [(0,smI @I l),(3,⟨.one,[.ow (0,0) false 6 (I ((l.take i).map Sm.t))]⟩),(4,litI (Int.ofNat (I i))),(5,⟨.one,[.ptr 0 0]⟩),(6,litI (Int.ofNat (I j)))],[some [.lit (.int .i64 (I y.k)),.lit (.string (I y.s)),.lit (.string (I y.tt)),.ow (0,0) false 4 (I ((y.x.take j).map Ex.t)),.ro true (I (y.a.map Sm.t)),.ro true (I (y.b.map Sm.t))]],1⟩) (fun j=>j<=y.x.length) (fun j=>y.x.length - j) ?_ fun j hj=>?_
   ·cbv
    exact ⟨0,by (try simp only[A.reset,hI.e]);rfl,by omega⟩
   by_cases hh2:j < y.x.length
   ·have cj:=cx _ (zB0 hh2)
    have hlt2:(y.x.take j).length<=1048576:=by rw[List.length_take];omega
    have ea:I ((y.x.take j++[y.x[j]!]).map Ex.t)=I ((y.x.take (j+1)).map Ex.t):=by rw[zU0 hh2]
    clear c1 c2 e1;have c1:=cj;generalize hz:y.x[j]! = z at *;have e3:=hz;have e1:=ea;refine qB 0 ?_
    (repeat' first|refine qA 0 ?_|refine qJ (nN []) ?_|refine qp ?_ ?_|refine qk (fun h=>?_) fun h=>?_|fail)
    all_goals first | exact absurd hh2 (by assumption) | exact ⟨j+1,by (try simp only[A.reset,hI.e]);rfl,by omega,by omega⟩
   ·have e3:y.x.take j=y.x:=List.take_of_length_le (by omega)
    refine qB 0 ?_
    (repeat' first|refine qA 0 ?_|refine qJ (nN []) ?_|refine qp ?_ ?_|refine qk (fun h=>?_) fun h=>?_|fail)
    all_goals first | exact absurd (by assumption) hh2 | exact ⟨i+1,by (try simp only[A.reset,hI.e]);rfl,by omega,by omega⟩)
 ·refine qB 0 ?_
  repeat' first|refine qA 0 ?_|refine qJ (nN []) ?_|refine qp ?_ ?_|refine qk (fun h=>?_) fun h=>?_|fail
  all_goals first | exact absurd (by assumption) hh | skip
  have e:l.take i=l:=List.take_of_length_le (by omega)
  exact hR _ _ ⟨by rw[e];rfl,rfl⟩
variable {I:∀{α:Type},α->α}
theorem xQ1 (l:List Ru) (r:Ru):l.map Ru.t++[[.lit (.int .i64 r.k),.lit (.int .i64 r.p.k),.lit (.int .i64 r.p.n),.lit (.string r.p.s),.sl (r.p.l.map Ex.t),.sl (r.a.map Sm.t)]]=(l++[r]).map Ru.t:=by
 rw[List.map_append,List.map_singleton];obtain ⟨k,⟨pk,pn,ps,pl⟩,a⟩:=r;rw[Ru.t,Ex.t_mk];rfl
theorem uH1 (l:List Fu) (f:Fu):l.map Fu.t++[[.lit (.string f.name),.sl (f.params.map strT),.sl (f.a.map Sm.t)]]=(l++[f]).map Fu.t:=by rw[List.map_append,List.map_singleton];rfl
theorem VB0 (hI:II @I) (p:Pg) (h1:p.rules.length<=1048576) (h2:p.fns.length<=1048576) (h3:∀f∈p.fns,f.params.length<=1048576) (ih1:∀r∈p.rules,FbE @I 21 (fun e=>e) r.p) (ih2:∀r∈p.rules,CbS @I r.a) (ih3:∀f∈p.fns,CbS @I f.a):ACl Tryz.prog 33 [pA @I p] [] (fun res bx=>res=pA @I p/\bx=[]):=by
 refine nB0 ?_;refine qN hI tyK Tryz.func33 63 [.cell 2 42] ?_;unhygienic intros
 refine qB 0 ?_
 repeat' first|refine qA 0 ?_|refine qJ (nN []) ?_|refine qp ?_ ?_|refine qk (fun h=>?_) fun h=>?_|fail
 refine qLf 3 [1,2,3,4] (kkB 2 0 6) (fun i:Nat=>⟨vag 63 [(1,⟨.one,[.ptr 0 0]⟩),(2,⟨.one,[.ptr 1 0]⟩),(3,⟨.one,[.ptr 2 0]⟩),(4,litI (Int.ofNat (I i)))],[some (pA @I p).cs,some [.nil,.nil],some [.ow (0,0) false 6 (I ((p.rules.take i).map Ru.t)),.nil]],1⟩) (fun i=>i<=p.rules.length) (fun i=>p.rules.length - i) ?_ fun i hi=>?_
 ·cbv
  exact ⟨0,by simp only[hI.e];rfl,by omega⟩
 by_cases hh:i < p.rules.length
 ·have c1:=ih1 _ (zB0 hh)
  have c2:=ih2 _ (zB0 hh);have hlt:(p.rules.take i).length<=1048576:=by rw[List.length_take];omega
  generalize hr:p.rules[i]! = r at *;have e1:I ((p.rules.take i++[r]).map Ru.t)=I ((p.rules.take (i+1)).map Ru.t):=by rw[zU0 hh,hr]
  have e2:=hr;have e3:app (I ((p.rules.take i).map Ru.t)) [[.lit (.int .i64 (I r.k)),.lit (.int .i64 (I r.p.k)),.lit (.int .i64 (I r.p.n)),.lit (.string (I r.p.s)),.sl (I (r.p.l.map Ex.t)),.sl (I (r.a.map Sm.t))]]=I ((p.rules.take (i+1)).map Ru.t):=by
   simp only[hI.e];cases hO;rw[zU0 hh,hr];exact xQ1 _ _
  refine qB 0 ?_
  repeat' first|refine qA 0 ?_|refine qJ (nN []) ?_|refine qp ?_ ?_|refine qk (fun h=>?_) fun h=>?_|fail
  all_goals first | exact absurd hh (by assumption) | exact ⟨i+1,by (try simp only[A.reset,hI.e]);rfl,by omega,by omega⟩
 ·have e1:I ((p.rules.take i).map Ru.t)=I (p.rules.map Ru.t):=by rw[List.take_of_length_le (by omega)]
  refine qB 0 ?_
  repeat' first|refine qA 0 ?_|refine qJ (nN []) ?_|refine qp ?_ ?_|refine qk (fun h=>?_) fun h=>?_|fail
  ·exact absurd h hh
  clear e1;refine qLf 3 [1,2,3,6] (kkB 2 1 3) (fun j:Nat=>⟨vag 63 [(1,⟨.one,[.ptr 0 0]⟩),(2,⟨.one,[.ptr 1 0]⟩),(3,⟨.one,[.ptr 2 0]⟩),(6,litI (Int.ofNat (I j)))],[some (pA @I p).cs,some [.nil,.nil],some [.ow (0,0) false 6 (I (p.rules.map Ru.t)),.ow (0,0) false 3 (I ((p.fns.take j).map Fu.t))]],1⟩) (fun j=>j<=p.fns.length) (fun j=>p.fns.length - j) ?_ fun j hj=>?_
  ·cbv
   exact ⟨0,by simp only[hI.e];rfl,by omega⟩
  by_cases hh2:j < p.fns.length
  ·have c1:=ih3 _ (zB0 hh2)
   have hlt:(p.fns.take j).length<=1048576:=by rw[List.length_take];omega
   have hfp:=h3 _ (zB0 hh2);generalize hr:p.fns[j]! = r at *;have e1:I ((p.fns.take j++[r]).map Fu.t)=I ((p.fns.take (j+1)).map Fu.t):=by rw[zU0 hh2,hr]
   have e2:=hr;have e3:app (I ((p.fns.take j).map Fu.t)) [[.lit (.string (I r.name)),.sl (I (r.params.map strT)),.sl (I (r.a.map Sm.t))]]=I ((p.fns.take (j+1)).map Fu.t):=by
    simp only[hI.e];cases hO;rw[zU0 hh2,hr];exact uH1 _ _
   refine qB 0 ?_
   (repeat' first|refine qA 0 ?_|refine qJ (nN []) ?_|refine qp ?_ ?_|refine qk (fun h=>?_) fun h=>?_|fail)
   all_goals first | exact absurd hh2 (by assumption) | exact ⟨j+1,by (try simp only[A.reset,hI.e]);rfl,by omega,by omega⟩
  ·have e1:I ((p.fns.take j).map Fu.t)=I (p.fns.map Fu.t):=by rw[List.take_of_length_le (by omega)]
   refine qB 0 ?_
   (repeat' first|refine qA 0 ?_|refine qJ (nN []) ?_|refine qp ?_ ?_|refine qk (fun h=>?_) fun h=>?_|fail)
   ·exact absurd (by assumption) hh2
   ·exact hR _ _ ⟨rfl,rfl⟩
end Go.Gv
