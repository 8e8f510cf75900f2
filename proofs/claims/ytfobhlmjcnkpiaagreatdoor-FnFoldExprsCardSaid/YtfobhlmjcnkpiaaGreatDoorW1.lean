/- Part W1 of the proof: contracts of functions of the program, each walked once. -/
import Derived.Test.YtfobhlmjcnkpiaaGreatDoorR1
import Derived.Test.YtfobhlmjcnkpiaaGreatDoorQ6
set_option linter.all false
namespace Go.Gv
open Go.Av Go.Proofs
set_option maxRecDepth 10000
set_option maxHeartbeats 8000000
variable {I:∀{α:Type},α->α}
abbrev SmE (I:∀{α:Type},α->α) (f:FuncId) (a:AV):Prop:=ACl Tryz.prog f [a,a] [] (fun res bx=>res=litB true/\bx=[])
abbrev EqF (I:∀{α:Type},α->α) (g f:FuncId) (a:List (List T)):Prop:=ACl Tryz.prog g [⟨.one,[.ro true a]⟩,⟨.one,[.ro true a]⟩,⟨.one,[.fn f []]⟩] [] (fun res bx=>res=litB true/\bx=[])
theorem mM0 (hI:II @I) (l:List Ex) (hl:l.length<=1048576) (ih:∀e∈l,SmE @I 9 (eA @I e)):EqF @I 25 9 (I (l.map Ex.t)):=by
 have hen:zT0 Tryz.prog 9=true:=rfl;refine qN hI tyK Tryz.func25 32 [.tmp 6] ?_;unhygienic intros
 refine qB 0 ?_
 repeat' first|refine qA 0 ?_|refine qJ (nN []) ?_|refine qp ?_ ?_|refine qk (fun h=>?_) fun h=>?_|fail
 ·exact absurd rfl h
 refine qLf 0 [1,2,6,15,16,17] kk0 (fun i:Nat=>⟨vag 32 [(1,⟨.one,[.ro true (I (l.map Ex.t))]⟩),(2,⟨.one,[.fn 9 []]⟩),(6,litB false),(15,⟨.one,[.ro true (I (l.map Ex.t))]⟩),(16,litI (Int.ofNat (I l.length))),(17,litI (Int.ofNat (I i)))],[],1⟩) (fun i=>i<=l.length) (fun i=>l.length - i) ?_ fun i hi=>?_
 ·cbv
  exact ⟨0,by simp only[hI.e];rfl,by omega⟩
 by_cases hh:i < l.length
 ·have c1:=ih _ (zD0 hh)
  generalize hr:l[i]! = y at *;have e2:=hr;refine qB 0 ?_
  repeat' first|refine qA 0 ?_|refine qJ (nN []) ?_|refine qp ?_ ?_|refine qk (fun h=>?_) fun h=>?_|fail
  all_goals first | exact absurd (by assumption) hh | exact absurd hh (by assumption) | exact ⟨i+1,by (try simp only[A.reset,hI.e]);rfl,by omega,by omega⟩
 ·refine qB 0 ?_
  repeat' first|refine qA 0 ?_|refine qJ (nN []) ?_|refine qp ?_ ?_|refine qk (fun h=>?_) fun h=>?_|fail
  all_goals first | exact absurd (by assumption) hh | exact hR _ _ ⟨rfl,rfl⟩
theorem vQ0 (hI:II @I) (l:List Sm) (hl:l.length<=1048576) (ih:∀e∈l,SmE @I 65 (sA @I e)):EqF @I 64 65 (I (l.map Sm.t)):=by
 have hen:zT0 Tryz.prog 65=true:=rfl;refine qN hI tyK Tryz.func64 32 [.tmp 6] ?_;unhygienic intros
 refine qB 0 ?_
 repeat' first|refine qA 0 ?_|refine qJ (nN []) ?_|refine qp ?_ ?_|refine qk (fun h=>?_) fun h=>?_|fail
 ·exact absurd rfl h
 refine qLf 0 [1,2,6,15,16,17] kk0 (fun i:Nat=>⟨vag 32 [(1,⟨.one,[.ro true (I (l.map Sm.t))]⟩),(2,⟨.one,[.fn 65 []]⟩),(6,litB false),(15,⟨.one,[.ro true (I (l.map Sm.t))]⟩),(16,litI (Int.ofNat (I l.length))),(17,litI (Int.ofNat (I i)))],[],1⟩) (fun i=>i<=l.length) (fun i=>l.length - i) ?_ fun i hi=>?_
 ·cbv
  exact ⟨0,by simp only[hI.e];rfl,by omega⟩
 by_cases hh:i < l.length
 ·have c1:=ih _ (zD0 hh)
  generalize hr:l[i]! = y at *;have e2:=hr;refine qB 0 ?_
  repeat' first|refine qA 0 ?_|refine qJ (nN []) ?_|refine qp ?_ ?_|refine qk (fun h=>?_) fun h=>?_|fail
  all_goals first | exact absurd (by assumption) hh | exact absurd hh (by assumption) | exact ⟨i+1,by (try simp only[A.reset,hI.e]);rfl,by omega,by omega⟩
 ·refine qB 0 ?_
  repeat' first|refine qA 0 ?_|refine qJ (nN []) ?_|refine qp ?_ ?_|refine qk (fun h=>?_) fun h=>?_|fail
  all_goals first | exact absurd (by assumption) hh | exact hR _ _ ⟨rfl,rfl⟩
theorem WZ0 (hI:II @I) (l:List Ru) (hl:l.length<=1048576) (ih:∀e∈l,SmE @I 31 (ruA @I e)):EqF @I 30 31 (I (l.map Ru.t)):=by
 have hen:zT0 Tryz.prog 31=true:=rfl;refine qN hI tyK Tryz.func30 32 [.tmp 6] ?_;unhygienic intros
 refine qB 0 ?_
 repeat' first|refine qA 0 ?_|refine qJ (nN []) ?_|refine qp ?_ ?_|refine qk (fun h=>?_) fun h=>?_|fail
 ·exact absurd rfl h
 refine qLf 0 [1,2,6,15,16,17] kk0 (fun i:Nat=>⟨vag 32 [(1,⟨.one,[.ro true (I (l.map Ru.t))]⟩),(2,⟨.one,[.fn 31 []]⟩),(6,litB false),(15,⟨.one,[.ro true (I (l.map Ru.t))]⟩),(16,litI (Int.ofNat (I l.length))),(17,litI (Int.ofNat (I i)))],[],1⟩) (fun i=>i<=l.length) (fun i=>l.length - i) ?_ fun i hi=>?_
 ·cbv
  exact ⟨0,by simp only[hI.e];rfl,by omega⟩
 by_cases hh:i < l.length
 ·have c1:=ih _ (zD0 hh)
  generalize hr:l[i]! = y at *;have e2:=hr;refine qB 0 ?_
  repeat' first|refine qA 0 ?_|refine qJ (nN []) ?_|refine qp ?_ ?_|refine qk (fun h=>?_) fun h=>?_|fail
  all_goals first | exact absurd (by assumption) hh | exact absurd hh (by assumption) | exact ⟨i+1,by (try simp only[A.reset,hI.e]);rfl,by omega,by omega⟩
 ·refine qB 0 ?_
  repeat' first|refine qA 0 ?_|refine qJ (nN []) ?_|refine qp ?_ ?_|refine qk (fun h=>?_) fun h=>?_|fail
  all_goals first | exact absurd (by assumption) hh | exact hR _ _ ⟨rfl,rfl⟩
theorem MQ0 (hI:II @I) (l:List Fu) (hl:l.length<=1048576) (ih:∀e∈l,SmE @I 33 (fuA @I e)):EqF @I 32 33 (I (l.map Fu.t)):=by
 have hen:zT0 Tryz.prog 33=true:=rfl;refine qN hI tyK Tryz.func32 32 [.tmp 6] ?_;unhygienic intros
 refine qB 0 ?_
 repeat' first|refine qA 0 ?_|refine qJ (nN []) ?_|refine qp ?_ ?_|refine qk (fun h=>?_) fun h=>?_|fail
 ·exact absurd rfl h
 refine qLf 0 [1,2,6,15,16,17] kk0 (fun i:Nat=>⟨vag 32 [(1,⟨.one,[.ro true (I (l.map Fu.t))]⟩),(2,⟨.one,[.fn 33 []]⟩),(6,litB false),(15,⟨.one,[.ro true (I (l.map Fu.t))]⟩),(16,litI (Int.ofNat (I l.length))),(17,litI (Int.ofNat (I i)))],[],1⟩) (fun i=>i<=l.length) (fun i=>l.length - i) ?_ fun i hi=>?_
 ·cbv
  exact ⟨0,by simp only[hI.e];rfl,by omega⟩
 by_cases hh:i < l.length
 ·have c1:=ih _ (zD0 hh)
  generalize hr:l[i]! = y at *;have e2:=hr;refine qB 0 ?_
  repeat' first|refine qA 0 ?_|refine qJ (nN []) ?_|refine qp ?_ ?_|refine qk (fun h=>?_) fun h=>?_|fail
  all_goals first | exact absurd (by assumption) hh | exact absurd hh (by assumption) | exact ⟨i+1,by (try simp only[A.reset,hI.e]);rfl,by omega,by omega⟩
 ·refine qB 0 ?_
  repeat' first|refine qA 0 ?_|refine qJ (nN []) ?_|refine qp ?_ ?_|refine qk (fun h=>?_) fun h=>?_|fail
  all_goals first | exact absurd (by assumption) hh | exact hR _ _ ⟨rfl,rfl⟩
theorem KA0 (hI:II @I) (l:List ByteArray) (hl:l.length<=1048576):SmE @I 66 ⟨.one,[.ro true (I (l.map strT))]⟩:=by
 refine qN hI tyK Tryz.func66 26 [.tmp 4] ?_;unhygienic intros
 refine qB 0 ?_
 repeat' first|refine qA 0 ?_|refine qJ (nN []) ?_|refine qp ?_ ?_|refine qk (fun h=>?_) fun h=>?_|fail
 ·exact absurd rfl h
 refine qLf 0 [0,1,4,11,12,13] kk0 (fun i:Nat=>⟨vag 26 [(0,⟨.one,[.ro true (I (l.map strT))]⟩),(1,⟨.one,[.ro true (I (l.map strT))]⟩),(4,litB false),(11,⟨.one,[.ro true (I (l.map strT))]⟩),(12,litI (Int.ofNat (I l.length))),(13,litI (Int.ofNat (I i)))],[],1⟩) (fun i=>i<=l.length) (fun i=>l.length - i) ?_ fun i hi=>?_
 ·cbv
  exact ⟨0,by simp only[hI.e];rfl,by omega⟩
 by_cases hh:i < l.length
 ·generalize hr:l[i]! = y at *
  have e2:=hr;refine qB 0 ?_
  repeat' first|refine qA 0 ?_|refine qJ (nN []) ?_|refine qp ?_ ?_|refine qk (fun h=>?_) fun h=>?_|fail
  all_goals first | exact absurd (by assumption) hh | exact absurd hh (by assumption) | exact ⟨i+1,by (try simp only[A.reset,hI.e]);rfl,by omega,by omega⟩ | exact absurd rfl h | exact absurd trivial h
 ·refine qB 0 ?_
  repeat' first|refine qA 0 ?_|refine qJ (nN []) ?_|refine qp ?_ ?_|refine qk (fun h=>?_) fun h=>?_|fail
  all_goals first | exact absurd (by assumption) hh | exact hR _ _ ⟨rfl,rfl⟩
theorem ZV0 (hI:II @I) (e:Ex) (c1:EqF @I 25 9 (I (e.l.map Ex.t))):SmE @I 9 (eA @I e):=by
 refine qN hI tyK Tryz.func9 31 [.tmp 4] ?_;unhygienic intros
 refine qB 0 ?_
 repeat' first|refine qA 0 ?_|refine qJ (nN []) ?_|refine qp ?_ ?_|refine qk (fun h=>?_) fun h=>?_|fail
 all_goals first | exact hR _ _ ⟨rfl,rfl⟩ | exact absurd rfl h | exact absurd trivial h
theorem ZT0 (hI:II @I) (e:Sm) (c1:EqF @I 25 9 (I (e.x.map Ex.t))) (c2:EqF @I 64 65 (I (e.a.map Sm.t))) (c3:EqF @I 64 65 (I (e.b.map Sm.t))):SmE @I 65 (sA @I e):=by
 refine qN hI tyK Tryz.func65 45 [.tmp 4] ?_;unhygienic intros
 refine qB 0 ?_
 repeat' first|refine qA 0 ?_|refine qJ (nN []) ?_|refine qp ?_ ?_|refine qk (fun h=>?_) fun h=>?_|fail
 all_goals first | exact hR _ _ ⟨rfl,rfl⟩ | exact absurd rfl h | exact absurd trivial h
theorem ZB0 (hI:II @I) (r:Ru) (c1:SmE @I 9 (eA @I r.p)) (c2:EqF @I 64 65 (I (r.a.map Sm.t))):SmE @I 31 (ruA @I r):=by
 refine qN hI tyK Tryz.func31 24 [.tmp 4] ?_;unhygienic intros
 refine qB 0 ?_
 repeat' first|refine qA 0 ?_|refine qJ (nN []) ?_|refine qp ?_ ?_|refine qk (fun h=>?_) fun h=>?_|fail
 all_goals first | exact hR _ _ ⟨rfl,rfl⟩ | exact absurd rfl h | exact absurd trivial h
theorem UX0 (hI:II @I) (r:Fu) (c1:SmE @I 66 ⟨.one,[.ro true (I (r.params.map strT))]⟩) (c2:EqF @I 64 65 (I (r.a.map Sm.t))):SmE @I 33 (fuA @I r):=by
 refine qN hI tyK Tryz.func33 24 [.tmp 4] ?_;unhygienic intros
 refine qB 0 ?_
 repeat' first|refine qA 0 ?_|refine qJ (nN []) ?_|refine qp ?_ ?_|refine qk (fun h=>?_) fun h=>?_|fail
 all_goals first | exact hR _ _ ⟨rfl,rfl⟩ | exact absurd rfl h | exact absurd trivial h
theorem ZU0 (hI:II @I) (p:Pg) (c1:EqF @I 30 31 (I (p.rules.map Ru.t))) (c2:EqF @I 32 33 (I (p.fns.map Fu.t))):SmE @I 12 (pA @I p):=by
 refine qN hI tyK Tryz.func12 17 [.tmp 4] ?_;unhygienic intros
 refine qB 0 ?_
 repeat' first|refine qA 0 ?_|refine qJ (nN []) ?_|refine qp ?_ ?_|refine qk (fun h=>?_) fun h=>?_|fail
 all_goals first | exact hR _ _ ⟨rfl,rfl⟩ | exact absurd rfl h | exact absurd trivial h
theorem nH0 (hI:II @I):∀e:Ex,e.sz<=1048576->SmE @I 9 (eA @I e):=by
 refine Ex.ind fun e ih hz=>?_;have hs:=Ex.sz_inv hz;exact ZV0 hI e (mM0 hI e.l hs.1 fun x hx=>ih x hx (hs.2 x hx))
theorem fP0 (hI:II @I):∀e:Sm,e.Bd->SmE @I 65 (sA @I e):=by
 refine Sm.ind fun e ih h=>?_;obtain ⟨h3,h4,h5⟩:=h.inv;exact ZT0 hI e (mM0 hI e.x h3.1 fun x hx=>nH0 hI x (h3.2 x hx)) (vQ0 hI e.a h4.1 fun x hx=>ih x (List.mem_append_left _ hx) (h4.2 x hx)) (vQ0 hI e.b h5.1 fun x hx=>ih x (List.mem_append_right _ hx) (h5.2 x hx))
theorem NT0 (hI:II @I) (p:Pg) (h:p.Bd):SmE @I 12 (pA @I p):=
 ZU0 hI p (WZ0 hI p.rules h.r fun r hr=>ZB0 hI r (nH0 hI r.p (h.r' r hr).p) (vQ0 hI r.a (h.r' r hr).l fun e he=>fP0 hI e ((h.r' r hr).a e he)))
  (MQ0 hI p.fns h.f fun f hf=>UX0 hI f (KA0 hI f.params (h.f' f hf).p) (vQ0 hI f.a (h.f' f hf).l fun e he=>fP0 hI e ((h.f' f hf).a e he)))
variable {I:∀{α:Type},α->α}
@[simp,reducible] def smP (I:∀{α:Type},α->α) (l:List Sm):AV:=⟨.one,[.ro true (I (l.map Sm.t))]⟩
abbrev PtE (I:∀{α:Type},α->α) (e:Ex):Prop:=ACl Tryz.prog 42 [eA @I e] [] (fun res bx=>res=litI (Int.ofNat (I e.parts))/\bx=[])
abbrev PtS (I:∀{α:Type},α->α) (l:List Sm):Prop:=ACl Tryz.prog 43 [smP @I l] [] (fun res bx=>res=litI (Int.ofNat (I (Sm.partss l)))/\bx=[])
theorem jQ0 {l:List Ex} {i:Nat} (h:i < l.length):Ex.partss (l.take (i+1))=Ex.partss (l.take i)+l[i]!.parts:=by rw[zZ0 h,Ex.partss_app,Ex.partss_one]
theorem HD0 {l:List Sm} {i:Nat} (h:i < l.length):Sm.partss (l.take (i+1))=Sm.partss (l.take i)+l[i]!.parts:=by rw[zZ0 h,Sm.partss_app,Sm.partss_one]
theorem HB0 (l:List Ex) (i:Nat):Ex.partss (l.take i)<=Ex.partss l:=by
 have h:=Ex.partss_app (l.take i) (l.drop i);rw[List.take_append_drop] at h;omega
theorem pY1 (l:List Sm) (i:Nat):Sm.partss (l.take i)<=Sm.partss l:=by
 have h:=Sm.partss_app (l.take i) (l.drop i);rw[List.take_append_drop] at h;omega
theorem Sm.parts_eq (e:Sm):e.parts=Ex.partss e.x+Sm.partss e.a+Sm.partss e.b:=by cases e;rw[Sm.parts];rfl
theorem ZJ0 (hI:II @I) (e:Ex) (hl:e.l.length<=1048576) (hp:e.parts<=9000000) (ih:∀x∈e.l,PtE @I x):PtE @I e:=by
 have hpe:=Ex.parts_eq e;refine qN hI tyK Tryz.func42 21 [.tmp 2] ?_;unhygienic intros
 refine qB 0 ?_
 repeat' first|refine qA 0 ?_|refine qp ?_ ?_|refine qk (fun h=>?_) fun h=>?_|fail
 refine qLf 1 [1,3,4] kk0 (fun i:Nat=>⟨vag 21 [(1,⟨.one,[.ptr 0 0]⟩),(3,litI (Int.ofNat (I (1+Ex.partss (e.l.take i))))),(4,litI (Int.ofNat (I i)))],[some (eA @I e).cs],1⟩) (fun i=>i<=e.l.length) (fun i=>e.l.length - i) ?_ fun i hi=>?_
 ·cbv
  exact ⟨0,by simp only[hI.e];rfl,by omega⟩
 have hto:=HB0 e.l (i+1)
 by_cases hh:i < e.l.length
 ·have c1:=ih _ (zD0 hh)
  have hnx:=jQ0 hh;generalize hr:e.l[i]! = y at *;have e2:=hr;obtain ⟨pt,hpt⟩:∃pt,pt=1+Ex.partss (e.l.take i):=⟨_,rfl⟩;rw[<-hpt];refine qB 0 ?_
  repeat' first|refine qA 0 ?_|refine qJ (nN []) ?_|refine qp ?_ ?_|refine qk (fun h=>?_) fun h=>?_|fail
  all_goals first | exact absurd (by assumption) hh | exact absurd hh (by assumption) | exact ⟨i+1,by rw[show 1+Ex.partss (e.l.take (i+1))=pt+y.parts by omega];(try simp only[A.reset,hI.e]);rfl,by omega,by omega⟩
 ·have e1:e.l.take i=e.l:=List.take_of_length_le (by omega)
  refine qB 0 ?_
  repeat' first|refine qA 0 ?_|refine qp ?_ ?_|refine qk (fun h=>?_) fun h=>?_|fail
  all_goals first | exact absurd (by assumption) hh | skip
  exact hR _ _ ⟨by rw[hpe],rfl⟩
theorem pL0 (hI:II @I) (l:List Sm) (hl:l.length<=1048576) (hp:Sm.partss l<=9000000) (hx:∀y∈l,y.x.length<=1048576/\∀e∈y.x,PtE @I e) (ih:∀y∈l,PtS @I y.a/\PtS @I y.b):PtS @I l:=by
 refine qN hI tyK Tryz.func43 49 [.tmp 2] ?_;unhygienic intros
 refine qB 0 ?_
 repeat' first|refine qA 0 ?_|refine qp ?_ ?_|refine qk (fun h=>?_) fun h=>?_|fail
 refine qLf 0 [0,3,4] kk0 (fun i:Nat=>⟨vag 49 [(0,smP @I l),(3,litI (Int.ofNat (I (Sm.partss (l.take i))))),(4,litI (Int.ofNat (I i)))],[],1⟩) (fun i=>i<=l.length) (fun i=>l.length - i) ?_ fun i hi=>?_
 ·cbv
  exact ⟨0,by simp only[hI.e];rfl,by omega⟩
 have hto:=pY1 l (i+1)
 by_cases hh:i < l.length
 ·have c2:=(ih _ (zD0 hh)).1
  have c3:=(ih _ (zD0 hh)).2;have cx:=hx _ (zD0 hh);have hnx:=HD0 hh;have hpy:=Sm.parts_eq l[i]!;generalize hr:l[i]! = y at *;have e2:=hr;obtain ⟨pt,hpt⟩:∃pt,pt=Sm.partss (l.take i):=⟨_,rfl⟩;rw[<-hpt];refine qB 0 ?_
  repeat' first|refine qA 0 ?_|refine qp ?_ ?_|refine qk (fun h=>?_) fun h=>?_|fail
  all_goals first | exact absurd hh (by assumption) | skip
  refine qLf 0 [0,3,4,5] kk0 (fun j:Nat=>⟨vag 49 [(0,smP @I l),(3,litI (Int.ofNat (I (pt+Ex.partss (y.x.take j))))),(4,litI (Int.ofNat (I i))),(5,litI (Int.ofNat (I j)))],[],1⟩) (fun j=>j<=y.x.length) (fun j=>y.x.length - j) ?_ fun j hj=>?_
  ·cbv
   exact ⟨0,by (try simp only[A.reset,hI.e]);rfl,by omega⟩
  have hto2:=HB0 y.x (j+1)
  by_cases hh2:j < y.x.length
  ·have c1:=cx.2 _ (zD0 hh2)
   have hnx2:=jQ0 hh2;clear c2 c3;generalize hz:y.x[j]! = z at *;have e3:=hz;obtain ⟨pu,hpu⟩:∃pu,pu=pt+Ex.partss (y.x.take j):=⟨_,rfl⟩;rw[<-hpu];refine qB 0 ?_
   (repeat' first|refine qA 0 ?_|refine qJ (nN []) ?_|refine qp ?_ ?_|refine qk (fun h=>?_) fun h=>?_|fail)
   all_goals first | exact absurd hh2 (by assumption) | exact ⟨j+1,by rw[show pt+Ex.partss (y.x.take (j+1))=pu+z.parts by omega];(try simp only[A.reset,hI.e]);rfl,by omega,by omega⟩
  ·have e3:y.x.take j=y.x:=List.take_of_length_le (by omega)
   obtain ⟨pu,hpu⟩:∃pu,pu=pt+Ex.partss (y.x.take j):=⟨_,rfl⟩;rw[<-hpu];rw[e3] at hpu;clear e3;refine qB 0 ?_
   (repeat' first|refine qA 0 ?_|refine qJ (nN []) ?_|refine qp ?_ ?_|refine qk (fun h=>?_) fun h=>?_|fail)
   all_goals first | exact absurd (by assumption) hh2 | exact ⟨i+1,by rw[show Sm.partss (l.take (i+1))=pu+Sm.partss y.a+Sm.partss y.b by omega];(try simp only[A.reset,hI.e]);rfl,by omega,by omega⟩
 ·have e1:l.take i=l:=List.take_of_length_le (by omega)
  refine qB 0 ?_
  repeat' first|refine qA 0 ?_|refine qp ?_ ?_|refine qk (fun h=>?_) fun h=>?_|fail
  all_goals first | exact absurd (by assumption) hh | skip
  exact hR _ _ ⟨rfl,rfl⟩
variable {I:∀{α:Type},α->α}
theorem uV1 {l:List Ru} {i:Nat} (h:i < l.length):Ru.partss (l.take (i+1))=Ru.partss (l.take i)+l[i]!.parts:=by rw[zZ0 h,Ru.partss_app,Ru.partss_one]
theorem rH1 {l:List Fu} {i:Nat} (h:i < l.length):Fu.partss (l.take (i+1))=Fu.partss (l.take i)+Sm.partss l[i]!.a:=by rw[zZ0 h,Fu.partss_app,Fu.partss_one]
theorem ru_to (l:List Ru) (i:Nat):Ru.partss (l.take i)<=Ru.partss l:=by
 have h:=Ru.partss_app (l.take i) (l.drop i);rw[List.take_append_drop] at h;omega
theorem fu_to (l:List Fu) (i:Nat):Fu.partss (l.take i)<=Fu.partss l:=by
 have h:=Fu.partss_app (l.take i) (l.drop i);rw[List.take_append_drop] at h;omega
theorem Ru.mem_sz {l:List Ru} {r:Ru} (h:r∈l):r.sz<=Ru.szs l:=by
 induction l with
 | nil=>simp at h
 | cons a l ih=>
  have e:Ru.szs (a::l)=a.sz+Ru.szs l:=by simp[Ru.szs]
  rcases List.mem_cons.1 h with rfl | h
  ·omega
  ·have:=ih h;omega
theorem Fu.mem_sz {l:List Fu} {r:Fu} (h:r∈l):r.sz<=Fu.szs l:=by
 induction l with
 | nil=>simp at h
 | cons a l ih=>
  have e:Fu.szs (a::l)=a.sz+Fu.szs l:=by simp[Fu.szs]
  rcases List.mem_cons.1 h with rfl | h
  ·omega
  ·have:=ih h;omega
theorem nN0 (hI:II @I):∀e:Ex,e.sz<=1048576->PtE @I e:=by
 refine Ex.ind fun e ih hz=>?_;have hs:=Ex.sz_inv hz;have:=Ex.parts_le e;exact ZJ0 hI e hs.1 (by omega) fun x hx=>ih x hx (hs.2 x hx)
theorem fT0 (hI:II @I):∀l:List Sm,l.length+Sm.szs l<=1048576->PtS @I l:=by
 have key:∀e:Sm,e.sz<=1048576->PtS @I e.a/\PtS @I e.b:=by
  refine Sm.ind fun e ih hz=>?_;have hze:e.sz=e.s.size+e.tt.size+(e.x.length+Ex.szs e.x)+(e.a.length+Sm.szs e.a)+(e.b.length+Sm.szs e.b):=by cases e;simp only[Sm.sz];rfl
  have up:∀l:List Sm,(∀y∈l,y∈e.a++e.b)->l.length+Sm.szs l<=1048576->PtS @I l:=fun l hm hl=>
   pL0 hI l (by omega) (by have:=Sm.partss_le l;omega) (fun y hy=>by
    have h1:=Sm.szs_mem hy;have hzy:y.sz=y.s.size+y.tt.size+(y.x.length+Ex.szs y.x)+(y.a.length+Sm.szs y.a)+(y.b.length+Sm.szs y.b):=by cases y;simp only[Sm.sz];rfl
    exact ⟨by omega,fun x hx=>nN0 hI x (by have:=Ex.szs_mem hx;omega)⟩) fun y hy=>ih y (hm y hy) (by have:=Sm.szs_mem hy;omega)
  exact ⟨up e.a (fun y hy=>List.mem_append_left _ hy) (by omega),up e.b (fun y hy=>List.mem_append_right _ hy) (by omega)⟩
 exact fun l hl=>pL0 hI l (by omega) (by have:=Sm.partss_le l;omega) (fun y hy=>by
    have h1:=Sm.szs_mem hy;have hzy:y.sz=y.s.size+y.tt.size+(y.x.length+Ex.szs y.x)+(y.a.length+Sm.szs y.a)+(y.b.length+Sm.szs y.b):=by cases y;simp only[Sm.sz];rfl
    exact ⟨by omega,fun x hx=>nN0 hI x (by have:=Ex.szs_mem hx;omega)⟩) fun y hy=>key y (by have:=Sm.szs_mem hy;omega)
theorem MW0 (hI:II @I) (p:Pg) (hz:p.sz<=1048576):ACl Tryz.prog 16 [pA @I p] [] (fun res bx=>res=litI (Int.ofNat (I p.parts))/\bx=[]):=by
 have hpr:=Ru.partss_le p.rules;have hpf:=Fu.partss_le p.fns;have hz':=hz;rw[Pg.sz] at hz';have hpe:p.parts=Ru.partss p.rules+Fu.partss p.fns:=rfl;have hcr:∀r∈p.rules,PtE @I r.p/\PtS @I r.a:=fun r hr=>by
  have h1:=Ru.mem_sz hr;rw[Ru.sz] at h1;exact ⟨nN0 hI r.p (by omega),fT0 hI r.a (by omega)⟩
 have hcf:∀r∈p.fns,PtS @I r.a:=fun r hr=>by
  have h1:=Fu.mem_sz hr;rw[Fu.sz] at h1;exact fT0 hI r.a (by omega)
 refine qN hI tyK Tryz.func16 55 [.tmp 2] ?_;unhygienic intros
 refine qB 0 ?_
 repeat' first|refine qA 0 ?_|refine qp ?_ ?_|refine qk (fun h=>?_) fun h=>?_|fail
 refine qLf 1 [1,3,4] kk0 (fun i:Nat=>⟨vag 55 [(1,⟨.one,[.ptr 0 0]⟩),(3,litI (Int.ofNat (I (Ru.partss (p.rules.take i))))),(4,litI (Int.ofNat (I i)))],[some (pA @I p).cs],1⟩) (fun i=>i<=p.rules.length) (fun i=>p.rules.length - i) ?_ fun i hi=>?_
 ·cbv
  exact ⟨0,by simp only[hI.e];rfl,by omega⟩
 have hto:=ru_to p.rules (i+1)
 by_cases hh:i < p.rules.length
 ·have c1:=(hcr _ (zD0 hh)).1
  have c2:=(hcr _ (zD0 hh)).2;have hnx:=uV1 hh;have hre:p.rules[i]!.parts=(if p.rules[i]!.k=4 then p.rules[i]!.p.parts else 0)+Sm.partss p.rules[i]!.a:=rfl
  generalize hr:p.rules[i]! = y at *;have e2:=hr;obtain ⟨pt,hpt⟩:∃pt,pt=Ru.partss (p.rules.take i):=⟨_,rfl⟩;rw[<-hpt]
  by_cases hk:y.k=4
  ·rw[if_pos hk] at hre
   refine qB 0 ?_
   (repeat' first|refine qA 0 ?_|refine qJ (nN []) ?_|refine qp ?_ ?_|refine qk (fun h=>?_) fun h=>?_|fail)
   all_goals first | exact absurd hh (by assumption) | exact absurd hk (by assumption) | exact ⟨i+1,by rw[show Ru.partss (p.rules.take (i+1))=pt+y.p.parts+Sm.partss y.a by omega];(try simp only[A.reset,hI.e]);rfl,by omega,by omega⟩
  ·rw[if_neg hk] at hre
   refine qB 0 ?_
   (repeat' first|refine qA 0 ?_|refine qJ (nN []) ?_|refine qp ?_ ?_|refine qk (fun h=>?_) fun h=>?_|fail)
   all_goals first | exact absurd hh (by assumption) | exact absurd (by assumption) hk | exact ⟨i+1,by rw[show Ru.partss (p.rules.take (i+1))=pt+Sm.partss y.a by omega];(try simp only[A.reset,hI.e]);rfl,by omega,by omega⟩
 ·have e1:p.rules.take i=p.rules:=List.take_of_length_le (by omega)
  obtain ⟨pt,hpt⟩:∃pt,pt=Ru.partss (p.rules.take i):=⟨_,rfl⟩;rw[<-hpt];rw[e1] at hpt;clear e1;refine qB 0 ?_
  repeat' first|refine qA 0 ?_|refine qp ?_ ?_|refine qk (fun h=>?_) fun h=>?_|fail
  all_goals first | exact absurd (by assumption) hh | skip
  refine qLf 1 [1,3,5] kk0 (fun j:Nat=>⟨vag 55 [(1,⟨.one,[.ptr 0 0]⟩),(3,litI (Int.ofNat (I (pt+Fu.partss (p.fns.take j))))),(5,litI (Int.ofNat (I j)))],[some (pA @I p).cs],1⟩) (fun j=>j<=p.fns.length) (fun j=>p.fns.length - j) ?_ fun j hj=>?_
  ·cbv
   exact ⟨0,by (try simp only[A.reset,hI.e]);rfl,by omega⟩
  have hto2:=fu_to p.fns (j+1)
  by_cases hh2:j < p.fns.length
  ·have c1:=hcf _ (zD0 hh2)
   have hnx2:=rH1 hh2;generalize hz2:p.fns[j]! = z at *;have e3:=hz2;obtain ⟨pu,hpu⟩:∃pu,pu=pt+Fu.partss (p.fns.take j):=⟨_,rfl⟩;rw[<-hpu];refine qB 0 ?_
   (repeat' first|refine qA 0 ?_|refine qJ (nN []) ?_|refine qp ?_ ?_|refine qk (fun h=>?_) fun h=>?_|fail)
   all_goals first | exact absurd hh2 (by assumption) | exact ⟨j+1,by rw[show pt+Fu.partss (p.fns.take (j+1))=pu+Sm.partss z.a by omega];(try simp only[A.reset,hI.e]);rfl,by omega,by omega⟩
  ·have e3:p.fns.take j=p.fns:=List.take_of_length_le (by omega)
   refine qB 0 ?_
   (repeat' first|refine qA 0 ?_|refine qp ?_ ?_|refine qk (fun h=>?_) fun h=>?_|fail)
   all_goals first | exact absurd (by assumption) hh2 | skip
   exact hR _ _ ⟨by rw[hpt,hpe],rfl⟩
variable {I:∀{α:Type},α->α}
@[simp,reducible] def numB (I:∀{α:Type},α->α) (n:Nat):Option (List A):=some [.lit (.int .i64 (Int.ofNat (I n)))]
abbrev CnE (I:∀{α:Type},α->α) (f:FuncId) (args:List AV) (c:Nat):Prop:=∀n:Nat,n+c<=900000000->ACl Tryz.prog f args [numB @I n] (fun res bx=>res=⟨.tup [],[]⟩/\bx=[numB @I (n+c)])
abbrev CnS (I:∀{α:Type},α->α) (f:FuncId) (args:List AV) (c:Nat):Prop:=∀n:Nat,n+c<=900000000->ACl Tryz.prog f args [numB @I n,some [.fn 41 [(0,0)]]] (fun res bx=>res=⟨.tup [],[]⟩/\bx=[numB @I (n+c),some [.fn 41 [(0,0)]]])
theorem c_P1 (hI:II @I) (e:Ex):CnE @I 41 [eA @I e,⟨.one,[.ptr 0 0]⟩] 1:=by
 intro n hn;refine qN hI tyK Tryz.func41 5 [] ?_;unhygienic intros
 refine qB 1 ?_
 repeat' first|refine qA 1 ?_|refine qp ?_ ?_|refine qk (fun h=>?_) fun h=>?_|fail
 exact hR _ _ ⟨rfl,rfl⟩
theorem ZM0 (hI:II @I) (e:Ex) (hl:e.l.length<=1048576) (ih:∀x∈e.l,CnE @I 118 [eA @I x,⟨.one,[.fn 41 [(0,0)]]⟩] x.parts):CnE @I 118 [eA @I e,⟨.one,[.fn 41 [(0,0)]]⟩] e.parts:=by
 intro n hn;have hpe:=Ex.parts_eq e;have c1:=c_P1 hI e n (by omega)
 have hen:zT0 Tryz.prog 41=true:=rfl;refine qN hI tyK Tryz.func118 20 [] ?_;unhygienic intros
 refine qB 1 ?_
 repeat' first|refine qA 1 ?_|refine qJ (nN [0]) ?_|refine qp ?_ ?_|refine qk (fun h=>?_) fun h=>?_|fail
 refine qLf 2 [1,2,10,11,12] kk0 (fun i:Nat=>⟨vag 20 [(1,⟨.one,[.fn 41 [(0,0)]]⟩),(2,⟨.one,[.ptr 1 0]⟩),(10,⟨.one,[.ro true (I (e.l.map Ex.t))]⟩),(11,litI (Int.ofNat (I e.l.length))),(12,litI (Int.ofNat (I i)))],[numB @I (n+1+Ex.partss (e.l.take i)),some (eA @I e).cs],1⟩) (fun i=>i<=e.l.length) (fun i=>e.l.length - i) ?_ fun i hi=>?_
 ·cbv
  exact ⟨0,by simp only[hI.e];rfl,by omega⟩
 have hto:=HB0 e.l (i+1)
 by_cases hh:i < e.l.length
 ·have hnx:=jQ0 hh
  have c1:=ih _ (zD0 hh) (n+1+Ex.partss (e.l.take i)) (by omega)
  generalize hr:e.l[i]! = y at *;have e2:=hr;obtain ⟨pt,hpt⟩:∃pt,pt=n+1+Ex.partss (e.l.take i):=⟨_,rfl⟩;rw[<-hpt] at c1 |-;refine qB 1 ?_
  repeat' first|refine qA 1 ?_|refine qJ (nN [0]) ?_|refine qp ?_ ?_|refine qk (fun h=>?_) fun h=>?_|fail
  all_goals first | exact absurd (by assumption) hh | exact absurd hh (by assumption) | exact ⟨i+1,by rw[show n+1+Ex.partss (e.l.take (i+1))=pt+y.parts by omega];(try simp only[A.reset,hI.e]);rfl,by omega,by omega⟩
 ·have e1:e.l.take i=e.l:=List.take_of_length_le (by omega)
  refine qB 1 ?_
  repeat' first|refine qA 1 ?_|refine qp ?_ ?_|refine qk (fun h=>?_) fun h=>?_|fail
  all_goals first | exact absurd (by assumption) hh | skip
  exact hR _ _ ⟨rfl,by rw[hpe,Nat.add_assoc]⟩
theorem fV0 (hI:II @I):∀e:Ex,e.sz<=1048576->CnE @I 118 [eA @I e,⟨.one,[.fn 41 [(0,0)]]⟩] e.parts:=by
 refine Ex.ind fun e ih hz=>?_;have hs:=Ex.sz_inv hz;exact ZM0 hI e hs.1 fun x hx=>ih x hx (hs.2 x hx)
variable {I:∀{α:Type},α->α}
theorem wF1 (hI:II @I) (y:Sm) (hl:y.x.length<=1048576) (hx:∀e∈y.x,e.sz<=1048576):CnS @I 120 [sA @I y,⟨.one,[.ptr 1 0]⟩] (Ex.partss y.x):=by
 intro n hn;refine qN hI tyK Tryz.func120 16 [] ?_;unhygienic intros
 refine qB 2 ?_
 repeat' first|refine qA 2 ?_|refine qp ?_ ?_|refine qk (fun h=>?_) fun h=>?_|fail
 refine qLf 3 [1,2,6,7,8] kk0 (fun i:Nat=>⟨vag 16 [(1,⟨.one,[.ptr 1 0]⟩),(2,⟨.one,[.ptr 2 0]⟩),(6,⟨.one,[.ro true (I (y.x.map Ex.t))]⟩),(7,litI (Int.ofNat (I y.x.length))),(8,litI (Int.ofNat (I i)))],[numB @I (n+Ex.partss (y.x.take i)),some [.fn 41 [(0,0)]],some (sA @I y).cs],1⟩) (fun i=>i<=y.x.length) (fun i=>y.x.length - i) ?_ fun i hi=>?_
 ·cbv
  exact ⟨0,by simp only[hI.e];rfl,by omega⟩
 have hto:=HB0 y.x (i+1)
 by_cases hh:i < y.x.length
 ·have hnx:=jQ0 hh
  have c1:=fV0 hI _ (hx _ (zD0 hh)) (n+Ex.partss (y.x.take i)) (by omega)
  generalize hr:y.x[i]! = z at *;have e2:=hr;obtain ⟨pt,hpt⟩:∃pt,pt=n+Ex.partss (y.x.take i):=⟨_,rfl⟩;rw[<-hpt] at c1 |-;refine qB 2 ?_
  repeat' first|refine qA 2 ?_|refine qJ (nN [0]) ?_|refine qp ?_ ?_|refine qk (fun h=>?_) fun h=>?_|fail
  all_goals first | exact absurd (by assumption) hh | exact absurd hh (by assumption) | exact ⟨i+1,by rw[show n+Ex.partss (y.x.take (i+1))=pt+z.parts by omega];(try simp only[A.reset,hI.e]);rfl,by omega,by omega⟩
 ·have e1:y.x.take i=y.x:=List.take_of_length_le (by omega)
  refine qB 2 ?_
  repeat' first|refine qA 2 ?_|refine qp ?_ ?_|refine qk (fun h=>?_) fun h=>?_|fail
  all_goals first | exact absurd (by assumption) hh | skip
  exact hR _ _ ⟨rfl,rfl⟩
theorem pM0 (hI:II @I) (l:List Sm) (hl:l.length<=1048576) (hx:∀y∈l,y.x.length<=1048576/\∀e∈y.x,e.sz<=1048576) (ih:∀y∈l,CnS @I 119 [smP @I y.a,⟨.one,[.fn 120 [(1,0)]]⟩] (Sm.partss y.a)/\CnS @I 119 [smP @I y.b,⟨.one,[.fn 120 [(1,0)]]⟩] (Sm.partss y.b)):CnS @I 119 [smP @I l,⟨.one,[.fn 120 [(1,0)]]⟩] (Sm.partss l):=by
 intro n hn;have hen:zT0 Tryz.prog 120=true:=rfl;refine qN hI tyK Tryz.func119 24 [] ?_;unhygienic intros
 refine qB 2 ?_
 repeat' first|refine qA 2 ?_|refine qp ?_ ?_|refine qk (fun h=>?_) fun h=>?_|fail
 refine qLf 2 [1,6,7,8] kk0 (fun i:Nat=>⟨vag 24 [(1,⟨.one,[.fn 120 [(1,0)]]⟩),(6,smP @I l),(7,litI (Int.ofNat (I l.length))),(8,litI (Int.ofNat (I i)))],[numB @I (n+Sm.partss (l.take i)),some [.fn 41 [(0,0)]]],1⟩) (fun i=>i<=l.length) (fun i=>l.length - i) ?_ fun i hi=>?_
 ·cbv
  exact ⟨0,by simp only[hI.e];rfl,by omega⟩
 have hto:=pY1 l (i+1)
 by_cases hh:i < l.length
 ·have hnx:=HD0 hh
  have hpy:=Sm.parts_eq l[i]!;have cx:=hx _ (zD0 hh);have cy:=ih _ (zD0 hh);generalize hr:l[i]! = y at *;have e2:=hr;obtain ⟨pt,hpt⟩:∃pt,pt=n+Sm.partss (l.take i):=⟨_,rfl⟩;have c1:=wF1 hI y cx.1 cx.2 pt (by omega)
  have c2:=cy.1 (pt+Ex.partss y.x) (by omega)
  have c3:=cy.2 (pt+Ex.partss y.x+Sm.partss y.a) (by omega)
  rw[<-hpt];refine qB 2 ?_
  repeat' first|refine qA 2 ?_|refine qJ (nN [0,1]) ?_|refine qp ?_ ?_|refine qk (fun h=>?_) fun h=>?_|fail
  all_goals first | exact absurd (by assumption) hh | exact absurd hh (by assumption) | exact ⟨i+1,by rw[show n+Sm.partss (l.take (i+1))=pt+Ex.partss y.x+Sm.partss y.a+Sm.partss y.b by omega];(try simp only[A.reset,hI.e]);rfl,by omega,by omega⟩
 ·have e1:l.take i=l:=List.take_of_length_le (by omega)
  refine qB 2 ?_
  repeat' first|refine qA 2 ?_|refine qp ?_ ?_|refine qk (fun h=>?_) fun h=>?_|fail
  all_goals first | exact absurd (by assumption) hh | skip
  exact hR _ _ ⟨rfl,rfl⟩
theorem MB0 (hI:II @I):∀l:List Sm,l.length+Sm.szs l<=1048576->CnS @I 119 [smP @I l,⟨.one,[.fn 120 [(1,0)]]⟩] (Sm.partss l):=by
 have key:∀e:Sm,e.sz<=1048576->CnS @I 119 [smP @I e.a,⟨.one,[.fn 120 [(1,0)]]⟩] (Sm.partss e.a)/\CnS @I 119 [smP @I e.b,⟨.one,[.fn 120 [(1,0)]]⟩] (Sm.partss e.b):=by
  refine Sm.ind fun e ih hz=>?_;have hze:e.sz=e.s.size+e.tt.size+(e.x.length+Ex.szs e.x)+(e.a.length+Sm.szs e.a)+(e.b.length+Sm.szs e.b):=by cases e;simp only[Sm.sz];rfl
  have up:∀l:List Sm,(∀y∈l,y∈e.a++e.b)->l.length+Sm.szs l<=1048576->CnS @I 119 [smP @I l,⟨.one,[.fn 120 [(1,0)]]⟩] (Sm.partss l):=fun l hm hl=>
   pM0 hI l (by omega) (fun y hy=>by
    have h1:=Sm.szs_mem hy;have hzy:y.sz=y.s.size+y.tt.size+(y.x.length+Ex.szs y.x)+(y.a.length+Sm.szs y.a)+(y.b.length+Sm.szs y.b):=by cases y;simp only[Sm.sz];rfl
    exact ⟨by omega,fun x hx=>by have:=Ex.szs_mem hx;omega⟩) fun y hy=>ih y (hm y hy) (by have:=Sm.szs_mem hy;omega)
  exact ⟨up e.a (fun y hy=>List.mem_append_left _ hy) (by omega),up e.b (fun y hy=>List.mem_append_right _ hy) (by omega)⟩
 exact fun l hl=>pM0 hI l (by omega) (fun y hy=>by
    have h1:=Sm.szs_mem hy;have hzy:y.sz=y.s.size+y.tt.size+(y.x.length+Ex.szs y.x)+(y.a.length+Sm.szs y.a)+(y.b.length+Sm.szs y.b):=by cases y;simp only[Sm.sz];rfl
    exact ⟨by omega,fun x hx=>by have:=Ex.szs_mem hx;omega⟩) fun y hy=>key y (by have:=Sm.szs_mem hy;omega)
variable {I:∀{α:Type},α->α}
structure Pt where
 params:List ByteArray
 w:List Ex
 l:List Sm
 rule:Int
instance:Inhabited Pt:=⟨⟨[],[],[],0⟩⟩
def Pt.t (p:Pt):List T:=[.sl (p.params.map strT),.sl (p.w.map Ex.t),.sl (p.l.map Sm.t),.lit (.int .i64 p.rule)]
def Pt.parts (p:Pt):Nat:=Ex.partss p.w+Sm.partss p.l
def Pt.partss (l:List Pt):Nat:=(l.map Pt.parts).sum
theorem Pt.partss_app (a b:List Pt):Pt.partss (a++b)=Pt.partss a+Pt.partss b:=by simp[Pt.partss]
theorem Pt.partss_one (a:Pt):Pt.partss [a]=a.parts:=by simp[Pt.partss]
def ptF (f:Fu):Pt:=⟨f.params,[],f.a,0⟩
def ptR (r:Ru):Pt:=⟨[],if r.k=4 then [r.p] else [],r.a,r.k⟩
def Pg.pts (p:Pg):List Pt:=p.fns.map ptF++p.rules.map ptR
theorem HC0 (r:Ru):(ptR r).parts=r.parts:=by
 simp only[ptR,Pt.parts,Ru.parts]
 split<;>simp[Ex.partss]
theorem Pg.pts_parts (p:Pg):Pt.partss p.pts=p.parts:=by
 rw[Pg.pts,Pt.partss_app,Pg.parts,Nat.add_comm]
 congr 1
 ·simp only[Pt.partss,Ru.partss,List.map_map]
  congr 1
  exact List.map_congr_left fun r _=>HC0 r
 ·simp only[Pt.partss,Fu.partss,List.map_map]
  congr 1
  exact List.map_congr_left fun r _=>by simp[ptF,Pt.parts,Ex.partss]
@[simp,reducible] def ptA (I:∀{α:Type},α->α) (p:Pt):AV:=⟨.agg,[.ro true (I (p.params.map strT)),.ro true (I (p.w.map Ex.t)),.ro true (I (p.l.map Sm.t)),.lit (.int .i64 (I p.rule))]⟩
theorem qB1 (hI:II @I) (p:Pt) (h1:p.w.length+Ex.szs p.w<=1048576) (h2:p.l.length+Sm.szs p.l<=1048576):CnE @I 80 [ptA @I p,⟨.one,[.fn 41 [(0,0)]]⟩] p.parts:=by
 intro n hn;have hpp:p.parts=Ex.partss p.w+Sm.partss p.l:=rfl;have cS:=MB0 hI p.l h2 (n+Ex.partss p.w) (by omega)
 refine qN hI tyK Tryz.func80 21 [] ?_;unhygienic intros
 refine qB 1 ?_
 repeat' first|refine qA 1 ?_|refine qp ?_ ?_|refine qk (fun h=>?_) fun h=>?_|fail
 refine qLf 3 [2,3,7,8,9] kk0 (fun i:Nat=>⟨vag 21 [(2,⟨.one,[.ptr 1 0]⟩),(3,⟨.one,[.ptr 2 0]⟩),(7,⟨.one,[.ro true (I (p.w.map Ex.t))]⟩),(8,litI (Int.ofNat (I p.w.length))),(9,litI (Int.ofNat (I i)))],[numB @I (n+Ex.partss (p.w.take i)),some (ptA @I p).cs,some [.fn 41 [(0,0)]]],1⟩) (fun i=>i<=p.w.length) (fun i=>p.w.length - i) ?_ fun i hi=>?_
 ·cbv
  exact ⟨0,by simp only[hI.e];rfl,by omega⟩
 have hto:=HB0 p.w (i+1)
 by_cases hh:i < p.w.length
 ·have hnx:=jQ0 hh
  have c1:=fV0 hI p.w[i]! (by have:=Ex.szs_mem (zD0 hh);omega) (n+Ex.partss (p.w.take i)) (by omega)
  clear cS;generalize hr:p.w[i]! = z at *;have e2:=hr;obtain ⟨pt,hpt⟩:∃pt,pt=n+Ex.partss (p.w.take i):=⟨_,rfl⟩;rw[<-hpt] at c1 |-;refine qB 1 ?_
  repeat' first|refine qA 1 ?_|refine qJ (nN [0]) ?_|refine qp ?_ ?_|refine qk (fun h=>?_) fun h=>?_|fail
  all_goals first | exact absurd (by assumption) hh | exact absurd hh (by assumption) | exact ⟨i+1,by rw[show n+Ex.partss (p.w.take (i+1))=pt+z.parts by omega];(try simp only[A.reset,hI.e]);rfl,by omega,by omega⟩
 ·have e1:p.w.take i=p.w:=List.take_of_length_le (by omega)
  have c1:=cS;refine qB 1 ?_
  repeat' first|refine qA 1 ?_|refine qJ (nN [0,2]) ?_|refine qp ?_ ?_|refine qk (fun h=>?_) fun h=>?_|fail
  all_goals first | exact absurd (by assumption) hh | skip
  exact hR _ _ ⟨rfl,by rw[hpp,Nat.add_assoc]⟩
theorem FV0 (hI:II @I) (p:Pg) (hz:p.sz<=1048576):ACl Tryz.prog 79 [pA @I p] [] (fun res bx=>res=⟨.one,[.ro true (I (p.pts.map Pt.t))]⟩/\bx=[]):=by
 refine yM0 ?_;obtain ⟨rules,fns⟩:=p;simp only[Pg.sz] at hz;simp only[Pg.pts];refine qN hI tyK Tryz.func79 50 [.tmp 2] ?_;unhygienic intros
 refine qB 0 ?_
 repeat' first|refine qA 0 ?_|refine qp ?_ ?_|refine qk (fun h=>?_) fun h=>?_|fail
 refine qLf 1 [1,3,10,11,12] (kkS 3 4) (fun i:Nat=>⟨vag 50 [(1,⟨.one,[.ptr 0 0]⟩),(3,⟨.one,[.ow (0,0) false 4 (I (((fns.take i).map ptF).map Pt.t))]⟩),(10,⟨.one,[.ro true (I (fns.map Fu.t))]⟩),(11,litI (Int.ofNat (I fns.length))),(12,litI (Int.ofNat (I i)))],[some (pA @I ⟨rules,fns⟩).cs],1⟩) (fun i=>i<=fns.length) (fun i=>fns.length - i) ?_ fun i hi=>?_
 ·cbv
  exact ⟨0,by simp only[hI.e];rfl,by omega⟩
 by_cases hh:i < fns.length
 ·have hnx:=zZ0 hh
  have hl1:((fns.take i).map ptF).length<=1048576:=by simp only[List.length_map,List.length_take];omega
  generalize hr:fns[i]! = z at *;have e2:=hr;have e1:app (I (((fns.take i).map ptF).map Pt.t)) [[.sl (I (z.params.map strT)),.sl [],.sl (I (z.a.map Sm.t)),.lit (.int .i64 0)]]=I (((fns.take (i+1)).map ptF).map Pt.t):=by
   rw[hnx];simp only[hI.e,List.map_append,List.map_singleton];cases hO;rfl
  refine qB 0 ?_
  repeat' first|refine qA 0 ?_|refine qp ?_ ?_|refine qk (fun h=>?_) fun h=>?_|fail
  all_goals first | exact absurd (by assumption) hh | exact absurd hh (by assumption) | exact ⟨i+1,by (try simp only[A.reset,hI.e]);rfl,by omega,by omega⟩
 ·have e1:fns.take i=fns:=List.take_of_length_le (by omega)
  rw[e1];clear e1;refine qB 0 ?_
  repeat' first|refine qA 0 ?_|refine qp ?_ ?_|refine qk (fun h=>?_) fun h=>?_|fail
  all_goals first | exact absurd (by assumption) hh | skip
  refine qLf 1 [1,3,26,27,28] (kkS 3 4) (fun i:Nat=>⟨vag 50 [(1,⟨.one,[.ptr 0 0]⟩),(3,⟨.one,[.ow (0,0) false 4 (I ((fns.map ptF++(rules.take i).map ptR).map Pt.t))]⟩),(26,⟨.one,[.ro true (I (rules.map Ru.t))]⟩),(27,litI (Int.ofNat (I rules.length))),(28,litI (Int.ofNat (I i)))],[some (pA @I ⟨rules,fns⟩).cs],1⟩) (fun i=>i<=rules.length) (fun i=>rules.length - i) ?_ fun i hi=>?_
  ·cbv
   exact ⟨0,by simp only[hI.e,List.take_zero,List.map_nil,List.append_nil];rfl,by omega⟩
  by_cases hh:i < rules.length
  ·have hnx:=zZ0 hh
   have hl1:(fns.map ptF).length+((rules.take i).map ptR).length<=1048576:=by simp only[List.length_map,List.length_take];omega
   generalize hr:rules[i]! = z at *;have e2:=hr;have e1:∀x:List Ex,(if z.k=4 then [z.p] else [])=x->app (I ((fns.map ptF++(rules.take i).map ptR).map Pt.t)) [[.sl [],.sl (x.map Ex.t),.sl (I (z.a.map Sm.t)),.lit (.int .i64 (I z.k))]]=I ((fns.map ptF++(rules.take (i+1)).map ptR).map Pt.t):=by
    intro x hx;rw[hnx];simp only[hI.e,List.map_append,List.map_singleton,List.append_assoc];cases hO;simp only[Ops.std,Pt.t,ptR,hx,List.append_assoc];rfl
   refine qB 0 ?_
   (repeat' first|refine qA 0 ?_|refine qp ?_ ?_|refine qk (fun h=>?_) fun h=>?_|fail)
   all_goals first | exact absurd (by assumption) hh | exact absurd hh (by assumption) | exact ⟨i+1,by (try simp only[A.reset]);rw[<-e1 [z.p] (if_pos (by assumption))];simp only[hI.e,List.map,Ex.tI (I:=@id) rfl,id];rfl,by omega,by omega⟩ | exact ⟨i+1,by (try simp only[A.reset]);rw[<-e1 _ (if_neg (by assumption))];simp only[hI.e];rfl,by omega,by omega⟩
  ·have e1:rules.take i=rules:=List.take_of_length_le (by omega)
   rw[e1];clear e1;refine qB 0 ?_
   (repeat' first|refine qA 0 ?_|refine qp ?_ ?_|refine qk (fun h=>?_) fun h=>?_|fail)
   all_goals first | exact absurd (by assumption) hh | skip
   exact hR _ _ ⟨rfl,rfl⟩
variable {I:∀{α:Type},α->α}
theorem tF1 {l:List Pt} {i:Nat} (h:i < l.length):Pt.partss (l.take (i+1))=Pt.partss (l.take i)+l[i]!.parts:=by rw[zZ0 h,Pt.partss_app,Pt.partss_one]
theorem pl_to (l:List Pt) (i:Nat):Pt.partss (l.take i)<=Pt.partss l:=by
 have h:=Pt.partss_app (l.take i) (l.drop i);rw[List.take_append_drop] at h;omega
theorem pX1 {p:Pg} (hz:p.sz<=1048576) {x:Pt} (h:x∈p.pts):x.w.length+Ex.szs x.w<=1048576/\x.l.length+Sm.szs x.l<=1048576:=by
 obtain ⟨rules,fns⟩:=p;simp only[Pg.sz] at hz;simp only[Pg.pts,List.mem_append,List.mem_map] at h;rcases h with ⟨f,hf,rfl⟩ | ⟨r,hr,rfl⟩
 ·have:=Fu.mem_sz hf
  simp only[Fu.sz] at this;simp only[ptF,Ex.szs,List.length_nil];omega
 ·have h0:=List.length_pos_of_mem hr
  have:=Ru.mem_sz hr;simp only[Ru.sz] at this;simp only[ptR];refine ⟨?_,by omega⟩
  split<;>simp only[Ex.szs,List.length_cons,List.length_nil]<;>omega
theorem tE1 (p:Pg):p.pts.length=p.fns.length+p.rules.length:=by simp[Pg.pts]
theorem MR0 (hI:II @I) (p:Pg) (hz:p.sz<=1048576):CnE @I 40 [pA @I p,⟨.one,[.fn 41 [(0,0)]]⟩] p.parts:=by
 intro n hn;have hpp:=Pg.pts_parts p;rw[<-hpp] at hn |-;have c1:=FV0 hI p hz;have hpl:p.pts.length<=1048576:=by rw[tE1];simp only[Pg.sz] at hz;omega
 have hok:=fun x (h:x∈p.pts)=>pX1 hz h;obtain ⟨L,hL⟩:∃L,L=p.pts:=⟨_,rfl⟩;rw[<-hL] at hn hpl hok |-;obtain ⟨els,hE⟩:∃els,els=L.map Pt.t:=⟨_,rfl⟩;rw[<-hL,<-hE] at c1;clear hL hpp;refine qN hI tyK Tryz.func40 17 [] ?_;unhygienic intros
 have q1:all (I els) 4:=by rw[hE];exact F.n2 _ _ _ (fun x=>rfl)
 have e3:len (I els)=I L.length:=by rw[hE];simp only[hI.e];cases hO;exact List.length_map ..
 have hg:∀i,i < L.length->get (I els) (nat (Int.ofNat (I i)))=[.sl (I (L[i]!.params.map strT)),.sl (I (L[i]!.w.map Ex.t)),.sl (I (L[i]!.l.map Sm.t)),.lit (.int .i64 (I L[i]!.rule))]:=by
  intro i hh;rw[hE];simp only[hI.e];cases hO;simp[Ops.std,hh,Pt.t]
 clear hE;refine qB 1 ?_
 repeat' first|refine qA 1 ?_|refine qJ (nN []) ?_|refine qp ?_ ?_|refine qk (fun h=>?_) fun h=>?_|fail
 refine qLf 2 [1,2,7,8,9] kk0 (fun i:Nat=>⟨vag 17 [(1,⟨.one,[.fn 41 [(0,0)]]⟩),(2,⟨.one,[.ptr 1 0]⟩),(7,⟨.one,[.ro true (I els)]⟩),(8,litI (Int.ofNat (I L.length))),(9,litI (Int.ofNat (I i)))],[numB @I (n+Pt.partss (L.take i)),some (pA @I p).cs],1⟩) (fun i=>i<=L.length) (fun i=>L.length - i) ?_ fun i hi=>?_
 ·cbv
  exact ⟨0,by simp only[hI.e];rfl,by omega⟩
 have hto:=pl_to L (i+1)
 by_cases hh:i < L.length
 ·have hnx:=tF1 hh
  have hok:=hok _ (zD0 hh);have c1:=qB1 hI L[i]! hok.1 hok.2 (n+Pt.partss (L.take i)) (by omega)
  have e1:=hg i hh;clear hg;generalize hr:L[i]! = z at *;have e2:=hr;obtain ⟨pt,hpt⟩:∃pt,pt=n+Pt.partss (L.take i):=⟨_,rfl⟩;rw[<-hpt] at c1 |-;refine qB 1 ?_
  repeat' first|refine qA 1 ?_|refine qJ (nN [0]) ?_|refine qp ?_ ?_|refine qk (fun h=>?_) fun h=>?_|fail
  all_goals first | exact absurd (by assumption) hh | exact absurd hh (by assumption) | exact ⟨i+1,by rw[show n+Pt.partss (L.take (i+1))=pt+z.parts by omega];(try simp only[A.reset,hI.e]);rfl,by omega,by omega⟩
 ·have e1:L.take i=L:=List.take_of_length_le (by omega)
  refine qB 1 ?_
  repeat' first|refine qA 1 ?_|refine qp ?_ ?_|refine qk (fun h=>?_) fun h=>?_|fail
  all_goals first | exact absurd (by assumption) hh | skip
  exact hR _ _ ⟨rfl,rfl⟩
theorem MX0 (hI:II @I) (p:Pg) (hz:p.sz<=1048576):ACl Tryz.prog 15 [pA @I p] [] (fun res bx=>res=litI (Int.ofNat (I p.parts))/\bx=[]):=by
 have hp:p.parts<=2000000:=by
  have hpr:=Ru.partss_le p.rules;have hpf:=Fu.partss_le p.fns;rw[Pg.sz] at hz;have hpe:p.parts=Ru.partss p.rules+Fu.partss p.fns:=rfl;omega
 have c1:=MR0 hI p hz 0 (by omega)
 have e0:Int.ofNat (I 0)=0:=by rw[hI.e];rfl
 simp only[numB,e0] at c1;refine qN hI tyK Tryz.func15 8 [.tmp 2] ?_;unhygienic intros
 refine qB 0 ?_
 repeat' first|refine qA 0 ?_|refine qJ (nN [1]) ?_|refine qp ?_ ?_|refine qk (fun h=>?_) fun h=>?_|fail
 exact hR _ _ ⟨by simp only[hI.e,Nat.zero_add],rfl⟩
variable {I:∀{α:Type},α->α}
theorem QZ0:∀(m u:Nat),u < m->∀c∈toL (numT (u:Int)),48<=c.toNat/\c.toNat<=57:=by
 intro m
 induction m with
 | zero=>intro u h;omega
 | succ m ih=>
  intro u h c hc;have hd:∀v,v < 10->∀c∈toL (digT v),48<=c.toNat/\c.toNat<=57:=fun v hv c hc=>by
   have:c=UInt8.ofNat (48+v):=by simpa [toL,digT] using hc
   rw[this,UInt8.toNat_ofNat'];omega
  by_cases h1:u < 10
  ·rw[bH0 h1] at hc;exact hd u h1 c hc
  ·rw[jT0 h1] at hc
   have hc':c∈toL (numT ((u / 10:Nat):Int))\/c∈toL (digT (u % 10)):=by
    have:toL (numT ((u / 10:Nat):Int)++digT (u % 10))=toL (numT ((u / 10:Nat):Int))++toL (digT (u % 10)):=by simp[toL,numT,digT,DR0]
    rw[this] at hc;exact List.mem_append.1 hc
   rcases hc' with hc | hc
   ·exact ih (u / 10) (by omega) c hc
   ·exact hd _ (by omega) c hc
theorem HE0 {x y:Int} (hx:0<=x/\x<=2147483647) (hy:0<=y/\y<=2147483647):vM0 (numT x++numT y):=by
 have h1:=xE0 x (by omega)
 have h2:=xE0 y (by omega)
 have h3:(numT x++numT y).size=(numT x).size+(numT y).size:=ByteArray.size_append;refine ⟨fun p c _ hc=>?_,by omega⟩
 have hc:=List.mem_of_getElem? hc;have e:toL (numT x++numT y)=toL (numT x)++toL (numT y):=by simp[toL]
 rw[e] at hc;obtain ⟨u,rfl⟩:=Int.eq_ofNat_of_zero_le hx.1;obtain ⟨v,rfl⟩:=Int.eq_ofNat_of_zero_le hy.1;have hd:48<=c.toNat/\c.toNat<=57:=by
  rcases List.mem_append.1 hc with hc | hc
  ·exact QZ0 _ u (Nat.lt_succ_self u) c hc
  ·exact QZ0 _ v (Nat.lt_succ_self v) c hc
 exact ⟨by omega,by omega,fun he=>by rw[he] at hd;exact absurd hd.1 (by decide)⟩
theorem tK1 (s:ByteArray) {x y:Int} (hx:0<=x/\x<=2147483647) (hy:0<=y/\y<=2147483647):(opN s x y).k=2->vM0 (opN s x y).s:=by
 unfold opN
 repeat' split
 all_goals first|(intro h;exact HE0 hx hy)|(intro h;simp at h)
theorem zW1 (s:ByteArray) {x y:Int} (hx:0<=x/\x<=2147483647) (hy:0<=y/\y<=2147483647):(valN s x y).k=2->vM0 (valN s x y).s:=by
 unfold valN
 split
 ·intro h;simp at h
 ·split
  ·intro h;simp at h
  ·exact tK1 s hx hy
theorem FF0 {e:Ex} (h:FdIn e):fd1 e=e\/(∃n:Int,0<=n/\n<=2147483647/\fd1 e=.mk 1 n ⟨⟨[]⟩⟩ [])\/∃s:ByteArray,vM0 s/\fd1 e=.mk 2 0 s []:=by
 by_cases h6:e.k=6
 ·have h2:=h.l2 h6
  have hr0:=h.r _ (zD0 (l:=e.l) (i:=0) (by omega))
  have hr1:=h.r _ (zD0 (l:=e.l) (i:=1) (by omega))
  rw[xN1 h6,binF]
  split
  ·rename_i q
   have hv:=KT0 e.s (hr0 q.1) (hr1 q.2.1);have hv2:=zW1 e.s (hr0 q.1) (hr1 q.2.1);rw[nE]
   split
   ·rename_i q1;exact .inr (.inl ⟨_,q1.2,hv.1,rfl⟩)
   ·split
    ·rename_i q1;exact .inr (.inr ⟨_,hv2 q1,rfl⟩)
    ·exact .inl rfl
  ·exact .inl rfl
 by_cases hk:e.k=7\/e.k=12
 ·have h1:=h.l1 hk
  have hr:=h.r _ (zD0 (l:=e.l) (i:=0) (by omega))
  have hs:=h.z _ (zD0 (l:=e.l) (i:=0) (by omega))
  by_cases h7:e.k=7
  ·by_cases hx:e.l[0]!.k=1
   ·rw[xM1 h7 hx];exact .inr (.inl ⟨_,nY0 _,by generalize bB _=b;cases b<;>decide,rfl⟩)
   ·exact .inl (nU0 h6 (fun _=>hx) (fun q=>by omega))
  ·have h12:e.k=12:=by omega
   by_cases hx:e.l[0]!.k=1
   ·rw[xL1 h12 hx]
    have:=xE0 e.l[0]!.n (by have:=hr hx;omega)
    exact .inr (.inl ⟨_,Int.natCast_nonneg _,by (try simp only[Int.ofNat_eq_natCast]);omega,rfl⟩)
   by_cases hx2:e.l[0]!.k=2
   ·rw[xK1 h12 hx2]
    exact .inr (.inl ⟨_,Int.natCast_nonneg _,by (try simp only[Int.ofNat_eq_natCast]);omega,rfl⟩)
   ·exact .inl (nU0 h6 (fun q=>absurd q h7) (fun _ q=>q.elim hx hx2))
 ·exact .inl (nU0 h6 (fun q=>absurd (.inl q) hk) (fun q=>absurd (.inr q) hk))
theorem Ex.depth_eq (e:Ex):e.depth=1+Ex.depths e.l:=by cases e;rw[Ex.depth];rfl
theorem partss_le {f:Ex->Ex}:∀l:List Ex,(∀x∈l,(f x).parts<=x.parts)->Ex.partss (l.map f)<=Ex.partss l
 | [],_=>by simp[Ex.partss]
 | a::l,h=>by
  have h1:=h a (by simp)
  have h2:=partss_le l (fun x hx=>h x (by simp[hx]))
  rw[List.map_cons,Ex.partss,Ex.partss];omega
theorem dG0 {f:Ex->Ex}:∀l:List Ex,(∀x∈l,(f x).depth<=x.depth)->Ex.depths (l.map f)<=Ex.depths l
 | [],_=>by simp[Ex.depths]
 | a::l,h=>by
  have h1:=h a (by simp)
  have h2:=dG0 l (fun x hx=>h x (by simp[hx]))
  rw[List.map_cons,Ex.depths,Ex.depths];omega
theorem nC1 {n:Int} (h:0<=n/\n<=2147483647):(Ex.mk 1 n ⟨⟨[]⟩⟩ []).ok:=(Ex.ok_eq _).2 ⟨⟨fun q=>absurd rfl q,.inl ⟨rfl,h.1,h.2,rfl,rfl⟩⟩,fun x hx=>by simp[Ex.l] at hx⟩
theorem nB1 {s:ByteArray} (h:vM0 s):(Ex.mk 2 0 s []).ok:=(Ex.ok_eq _).2 ⟨⟨fun _=>rfl,.inr (.inl ⟨rfl,h,rfl⟩)⟩,fun x hx=>by simp[Ex.l] at hx⟩
theorem QT0:∀e:Ex,e.ok->e.fd.ok/\e.fd.parts<=e.parts/\e.fd.depth<=e.depth/\e.fd.fd=e.fd:=by
 refine Ex.indQ fun e ih hok=>?_;obtain ⟨hh,hc⟩:=(Ex.ok_eq e).1 hok;have hin:=fdIn hok;have ih':=fun x hx=>ih x hx (hc x hx);have hp:=Ex.parts_eq e;have hd:=Ex.depth_eq e;have hp1:=partss_le (f:=Ex.fd) e.l fun x hx=>(ih' x hx).2.1;have hd1:=dG0 (f:=Ex.fd) e.l fun x hx=>(ih' x hx).2.2.1;have hfd:=Ex.fd_eq e;rcases FF0 hin with q | ⟨n,h1,h2,q⟩ | ⟨s,h1,q⟩
 ·have hwl:(e.with (e.l.map Ex.fd)).l=e.l.map Ex.fd:=rfl
  rw[hfd,q];refine ⟨(Ex.ok_eq _).2 ⟨?_,fun x hx=>?_⟩,?_,?_,?_⟩
  ·show vR0 e.k e.n e.s (e.l.map Ex.fd).length
   rw[List.length_map];exact hh
  ·obtain ⟨y,hy,rfl⟩:=List.mem_map.1 (show x∈e.l.map Ex.fd from hx)
   exact (ih' y hy).1
  ·rw[Ex.parts_eq,hwl];omega
  ·rw[Ex.depth_eq,hwl];omega
  ·have e2:(e.l.map Ex.fd).map Ex.fd=e.l.map Ex.fd:=by
    rw[List.map_map];exact List.map_congr_left fun y hy=>(ih' y hy).2.2.2
   rw[Ex.fd_eq,hwl,e2];exact q
 ·rw[hfd,q]
  have hpp:=Ex.parts_eq (.mk 1 n ⟨⟨[]⟩⟩ []);have hdd:=Ex.depth_eq (.mk 1 n ⟨⟨[]⟩⟩ []);refine ⟨nC1 ⟨h1,h2⟩,?_,?_,?_⟩
  ·rw[hpp];simp only[Ex.l,Ex.partss];omega
  ·rw[hdd];simp only[Ex.l,Ex.depths];omega
  ·rw[Ex.fd_eq];exact nU0 (e:=.mk 1 n ⟨⟨[]⟩⟩ []) (fun q=>absurd (show (1:Int)=6 from q) (by decide)) (fun q=>absurd (show (1:Int)=7 from q) (by decide)) (fun q=>absurd (show (1:Int)=12 from q) (by decide))
 ·rw[hfd,q]
  have hpp:=Ex.parts_eq (.mk 2 0 s []);have hdd:=Ex.depth_eq (.mk 2 0 s []);refine ⟨nB1 h1,?_,?_,?_⟩
  ·rw[hpp];simp only[Ex.l,Ex.partss];omega
  ·rw[hdd];simp only[Ex.l,Ex.depths];omega
  ·rw[Ex.fd_eq];exact nU0 (e:=.mk 2 0 s []) (fun q=>absurd (show (2:Int)=6 from q) (by decide)) (fun q=>absurd (show (2:Int)=7 from q) (by decide)) (fun q=>absurd (show (2:Int)=12 from q) (by decide))
theorem pC0 (e:Ex):e.fold.good↔e.good:=by
 unfold Ex.fold
 split
 ·rename_i q
  obtain ⟨h1,h2,h3,_⟩:=QT0 e q.1;exact ⟨fun _=>q,fun _=>⟨h1,by have:=q.2.1;omega,by have:=q.2.2;omega⟩⟩
 ·exact Iff.rfl
theorem FA0 (e:Ex):e.fold.fold=e.fold:=by
 by_cases h:e.good
 ·have h':=(pC0 e).2 h
  rw[Ex.fold,if_pos h'];rw[Ex.fold,if_pos h];exact (QT0 e h.1).2.2.2
 ·have h1:e.fold=e:=by rw[Ex.fold,if_neg h]
  rw[h1,h1]
end Go.Gv
