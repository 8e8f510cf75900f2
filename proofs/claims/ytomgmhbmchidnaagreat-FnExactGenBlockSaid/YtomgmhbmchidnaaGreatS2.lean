/- Part S2 of the proof: contracts of functions of the program, each walked once. -/
import Derived.Test.YtomgmhbmchidnaaGreatS1
import Derived.Test.YtomgmhbmchidnaaGreatG4
set_option linter.all false
namespace Go.Gv
open Go.Av Go.Proofs
set_option maxRecDepth 10000
set_option maxHeartbeats 8000000
variable {I:∀{α:Type},α->α}
@[simp,reducible] def insA (I:∀{α:Type},α->α) (x:Ik):AV:=⟨.agg,[.lit (.int .i64 (I x.op)),.lit (.int .i64 (I x.n))]⟩
theorem TE0 (hI:II @I) (e:Ru) (ih0:SzI @I 133 (eA @I e.p) e.p.sz) (ih1:SzI @I 7 ⟨.one,[.ro true (I (e.a.map Sm.t))]⟩ (e.a.length+Sm.szs e.a)):SzI @I 67 (ruA @I e) e.sz:=by
 intro left hl;have hz:e.sz=e.p.sz+(e.a.length+Sm.szs e.a):=by rw[Ru.sz]
 have q:=zH0 e.sz left;have hl2:=hl;unfold qW0 at hl2;have q0:=zH0 e.p.sz (left);have q1:=zH0 (e.a.length+Sm.szs e.a) (szF e.p.sz (left));have c1:=ih0 left hl;have c2:=fun (h:¬szF e.p.sz (left) < 0)=>ih1 (szF e.p.sz (left)) ⟨by omega,omI⟩
 refine qN hI tyK Tryz.func67 18 [.tmp 4] ?_;unhygienic intros
 refine qB 0 ?_
 repeat' first|refine qA 0 ?_|refine qJ (nN []) ?_|refine qp ?_ ?_|refine qk (fun h=>?_) fun h=>?_|fail
 all_goals first
  | exact hR _ _ ⟨liI hI omI,rfl⟩
  | (exfalso;exact omI)
theorem TU0 (hI:II @I) (e:Ru) (c1:EqOk 166 (eA @I e.p)) (c2:EqOk 14 ⟨.one,[.ro true (I (e.a.map Sm.t))]⟩):EqOk 92 (ruA @I e):=by
 refine qN hI tyK Tryz.func92 22 [.tmp 4] ?_;unhygienic intros
 refine qB 0 ?_
 repeat' first|refine qA 0 ?_|refine qJ (nN []) ?_|refine qp ?_ ?_|refine qk (fun h=>?_) fun h=>?_|fail
 all_goals first
  | contradiction
  | exact absurd rfl ‹_›
  | exact hR _ _ ⟨rfl,rfl⟩
theorem UY0 (hI:II @I) (e:Ru) (c1:ACl Tryz.prog 142 [eA @I e.p] [] (fun res bx=>res=⟨.agg,[.lit (.int .i64 (I e.p.k)),.lit (.int .i64 (I e.p.n)),.lit (.string (I e.p.s)),.ow (0,0) true 4 (I (e.p.l.map Ex.o))]⟩/\bx=[])) (c2:ACl Tryz.prog 10 [⟨.one,[.ro true (I (e.a.map Sm.t))]⟩] [] (fun res bx=>res=⟨.one,[.ow (0,0) true 6 (I (e.a.map Sm.o))]⟩/\bx=[])):ACl Tryz.prog 73 [ruA @I e] [] (fun res bx=>res=⟨.agg,[.lit (.int .i64 (I e.k)),.lit (.int .i64 (I e.p.k)),.lit (.int .i64 (I e.p.n)),.lit (.string (I e.p.s)),.ow (0,0) true 4 (I (e.p.l.map Ex.o)),.ow (0,0) true 6 (I (e.a.map Sm.o))]⟩/\bx=[]):=by
 refine qN hI tyK Tryz.func73 16 [.cell 2 98] ?_;unhygienic intros
 refine qB 0 ?_
 repeat' first|refine qA 0 ?_|refine qJ (nN []) ?_|refine qp ?_ ?_|refine qk (fun h=>?_) fun h=>?_|fail
 exact hR _ _ ⟨rfl,rfl⟩
theorem WE0 (hI:II @I) (l:List Ru) (hl:l.length<=maxLen) (ih:∀e∈l,SzI @I 67 (ruA @I e) e.sz):SzI @I 27 ⟨.one,[.ro true (I (l.map Ru.t))]⟩ (l.length+Ru.szs l):=by
 intro left hlf;have q:=zH0 (l.length+Ru.szs l) left;refine qN hI tyK Tryz.func27 27 [.tmp 4] ?_;unhygienic intros
 have e1:=gL0 hI hO (n:=l.length) hlf hl
 dsimp only at e1
 have e2:=e1;simp only[hI.e] at e2;refine qB 0 ?_
 repeat' first|refine qA 0 ?_|refine qJ (nN []) ?_|refine qp ?_ ?_|refine qk (fun h=>?_) fun h=>?_|fail
 ·exact hR _ _ ⟨liI hI omI,rfl⟩
 try simp only[e2] at *
 clear e1 e2;refine qLf 0 [0,1,5] kk0 (fun i:Nat=>⟨vag 27 [(0,⟨.one,[.ro true (I (l.map Ru.t))]⟩),(1,litI (I (left - Int.ofNat l.length - Int.ofNat (Ru.szs (l.take i))))),(5,litI (Int.ofNat (I i)))],[],1⟩) (fun i=>i<=l.length/\0<=left - Int.ofNat l.length - Int.ofNat (Ru.szs (l.take i))) (fun i=>l.length - i) ?_ fun i hi=>?_
 ·cbv
  exact ⟨0,by simp[hI.e,Ru.szs];rfl,by omega,by simp only[Ru.szs,List.take_zero,List.map_nil,List.sum_nil] at *;exact omI⟩
 have c1:=fun (hh:i < l.length)=>ih _ (zB0 hh) (left - Int.ofNat l.length - Int.ofNat (Ru.szs (l.take i))) ⟨hi.2,by unfold qW0 at hlf;exact omI⟩
 have q1:=fun (hh:i < l.length)=>zH0 (l[i]!).sz (left - Int.ofNat l.length - Int.ofNat (Ru.szs (l.take i)));have q2:=fun (hh:i < l.length)=>show Ru.szs (l.take (i+1))=Ru.szs (l.take i)+(l[i]!).sz by rw[yP0 hh,Ru.szs_app,Ru.szs_one]
 have hmax:maxLen<=9223372036854775807:=by decide
 have q3:Ru.szs (l.take (i+1))<=Ru.szs l:=by
  have h1:=congrArg Ru.szs (List.take_append_drop (i+1) l);rw[Ru.szs_app] at h1;omega
 refine qB 0 ?_
 repeat' first|refine qA 0 ?_|refine qJ (nN []) ?_|refine qp ?_ ?_|refine qk (fun h=>?_) fun h=>?_|fail
 ·have a:=q1 ‹_›
  have b:=q2 ‹_›;exact hR _ _ ⟨liI hI omI,rfl⟩
 ·have hii:i < l.length:=‹_›
  have a:=q1 hii;have b:=q2 hii;have e:szF (l[i]!).sz (left - Int.ofNat l.length - Int.ofNat (Ru.szs (l.take i)))=left - Int.ofNat l.length - Int.ofNat (Ru.szs (l.take (i+1))):=omI;refine ⟨i+1,by rw[e];(try simp only[A.reset,hI.e]);rfl,⟨by omega,?_⟩,by omega⟩
  exact omI
 ·have ht:l.take i=l:=List.take_of_length_le (by omega)
  rw[ht] at hi |-;exact hR _ _ ⟨liI hI omI,rfl⟩
theorem WU0 (hI:II @I) (l:List Ru) (hl:l.length<=1048576) (ih:∀e∈l,EqOk 92 (ruA @I e)):EqOk 43 ⟨.one,[.ro true (I (l.map Ru.t))]⟩:=by
 refine qN hI tyK Tryz.func43 27 [.tmp 4] ?_;unhygienic intros
 refine qB 0 ?_
 repeat' first|refine qA 0 ?_|refine qJ (nN []) ?_|refine qp ?_ ?_|refine qk (fun h=>?_) fun h=>?_|fail
 ·exact absurd rfl ‹_›
 refine qLf 0 [0,1,5] kk0 (fun i:Nat=>⟨vag 27 [(0,⟨.one,[.ro true (I (l.map Ru.t))]⟩),(1,⟨.one,[.ro true (I (l.map Ru.t))]⟩),(5,litI (Int.ofNat (I i)))],[],1⟩) (fun i=>i<=l.length) (fun i=>l.length - i) ?_ fun i hi=>?_
 ·cbv
  exact ⟨0,by simp[hI.e];rfl,by omega⟩
 have c1:=fun (hh:i < l.length)=>ih _ (zB0 hh);refine qB 0 ?_
 repeat' first|refine qA 0 ?_|refine qJ (nN []) ?_|refine qp ?_ ?_|refine qk (fun h=>?_) fun h=>?_|fail
 ·exact ⟨i+1,by (try simp only[A.reset,zD0,hI.e,List.append_assoc,Bool.or_false,zC0]);rfl,by omega,by omega⟩
 ·exact hR _ _ ⟨rfl,rfl⟩
theorem WD0 (hI:II @I) (l:List Ru) (hl:l.length<=1048576) (ih:∀e∈l,ACl Tryz.prog 73 [ruA @I e] [] (fun res bx=>res=⟨.agg,[.lit (.int .i64 (I e.k)),.lit (.int .i64 (I e.p.k)),.lit (.int .i64 (I e.p.n)),.lit (.string (I e.p.s)),.ow (0,0) true 4 (I (e.p.l.map Ex.o)),.ow (0,0) true 6 (I (e.a.map Sm.o))]⟩/\bx=[])):ACl Tryz.prog 34 [⟨.one,[.ro true (I (l.map Ru.t))]⟩] [] (fun res bx=>res=⟨.one,[.ow (0,0) true 6 (I (l.map Ru.o))]⟩/\bx=[]):=by
 refine qN hI tyK Tryz.func34 23 [.tmp 2] ?_;unhygienic intros
 have hm:mOk 88 (Int.ofNat (I l.length)) (Int.ofNat (I l.length)):=by rw[hI.e];exact XC0 hO ⟨by simp,by simp,by simp;omega,by simp;omega⟩
 refine qB 0 ?_
 repeat' first|refine qA 0 ?_|refine qJ (nN []) ?_|refine qp ?_ ?_|refine qk (fun h=>?_) fun h=>?_|fail
 refine qLf 0 [0,3,4] (kkS 3 1006) (fun a:Nat×List (List T)=>⟨vag 23 [(0,⟨.one,[.ro true (I (l.map Ru.t))]⟩),(3,⟨.one,[.ow (0,0) true 6 (I a.2)]⟩),(4,litI (Int.ofNat (I a.1)))],[],1⟩) (fun a=>a.1<=l.length/\a.2.length=l.length/\(∀e∈a.2,e.length=6)/\a.2.take a.1=(l.map Ru.o).take a.1) (fun a=>l.length - a.1) ?_ fun a ha=>?_
 ·cbv
  refine ⟨(0,repl (nat (Int.ofNat (I l.length))) [.lit (.int .i64 0),.lit (.int .i64 0),.lit (.int .i64 0),.lit (.string ⟨⟨[]⟩⟩),.sl [],.sl []]),by simp only[hI.e];rfl,by omega,?_,?_,by simp⟩
  ·rw[hI.e];cases hO;simp[Ops.std]
  ·rw[hI.e];cases hO;simp[Ops.std]
 obtain ⟨i,outs⟩:=a;obtain ⟨hi,hlen,hk,ht⟩:=ha;simp only at hi hlen hk ht |-
 by_cases hh:i < l.length
 ·have c1:=ih _ (zB0 hh)
  have n1:idx (Int.ofNat (I i)) (len (I outs)):=by rw[hI.e,hI.e];cases hO;show (0:Int)<=_/\_ < _;simp[Ops.std];omega
  have n2:one (I outs) (nadd 0 (nat (Int.ofNat (I i)))) 6:=by rw[hI.e,hI.e];cases hO;exact jH0 hk (by simp[Ops.std];omega)
  refine qB 0 ?_
  repeat' first|refine qA 0 ?_|refine qJ (nN []) ?_|refine qp ?_ ?_|refine qk (fun h=>?_) fun h=>?_|fail
  ·refine ⟨(i+1,set (I outs) (nadd 0 (nat (Int.ofNat (I i)))) ((l[i]!).o)),?_,?_⟩
   ·rw[Ru.o_eq];simp only[A.reset,hI.e];rfl
   have hx:(l.map Ru.o)[i]?=some ((l[i]!).o):=by simp[hh]
   have hst:=qK0 (els:=l.map Ru.o) (outs:=outs) (x:=(l[i]!).o) (by simpa using hh) (by simpa using hlen) ht hx
   have e:set (I outs) (nadd 0 (nat (Int.ofNat (I i)))) ((l[i]!).o)=outs.set i ((l[i]!).o):=by rw[hI.e,hI.e];cases hO;simp[Ops.std]
   simp only[e];refine ⟨⟨by omega,by rw[hst.1];simp,fun y hy=>?_,hst.2⟩,by omega⟩
   rcases List.mem_or_eq_of_mem_set hy with hy | rfl
   ·exact hk y hy
   ·exact Ru.o_len _
  ·exact absurd hh ‹_›
 ·refine qB 0 ?_
  repeat' first|refine qA 0 ?_|refine qJ (nN []) ?_|refine qp ?_ ?_|refine qk (fun h=>?_) fun h=>?_|fail
  ·exact absurd ‹_› hh
  ·have hil:i=l.length:=by omega
   have ho:outs=l.map Ru.o:=by rw[hil] at ht;rw[List.take_of_length_le (by omega),List.take_of_length_le (by simp)] at ht;exact ht
   exact hR _ _ ⟨by rw[ho],rfl⟩
theorem FQ0 (hI:II @I) (e:Fu) (hs0:e.name.size<=maxLen) (ih1:SzI @I 134 ⟨.one,[.ro true (I (e.params.map strT))]⟩ (e.params.length+xM0 e.params)) (ih2:SzI @I 7 ⟨.one,[.ro true (I (e.a.map Sm.t))]⟩ (e.a.length+Sm.szs e.a)):SzI @I 68 (fuA @I e) e.sz:=by
 intro left hl;have hz:e.sz=e.name.size+(e.params.length+xM0 e.params)+(e.a.length+Sm.szs e.a):=by rw[Fu.sz]
 have q:=zH0 e.sz left;have hl2:=hl;unfold qW0 at hl2;have q1:=zH0 (e.params.length+xM0 e.params) (left - Int.ofNat e.name.size);have q2:=zH0 (e.a.length+Sm.szs e.a) (szF (e.params.length+xM0 e.params) (left - Int.ofNat e.name.size));have c2:=fun (h:¬left - Int.ofNat e.name.size < 0)=>ih1 (left - Int.ofNat e.name.size) ⟨by omega,omI⟩
 have c3:=fun (h:¬szF (e.params.length+xM0 e.params) (left - Int.ofNat e.name.size) < 0)=>ih2 (szF (e.params.length+xM0 e.params) (left - Int.ofNat e.name.size)) ⟨by omega,omI⟩
 refine qN hI tyK Tryz.func68 25 [.tmp 4] ?_;unhygienic intros
 have e1:=gL0 hI hO (m:=left) (n:=e.name.size) hl hs0
 dsimp only at e1
 have x1:=e1;simp only[hI.e] at x1;refine qB 0 ?_
 repeat' first|refine qA 0 ?_|refine qJ (nN []) ?_|refine qp ?_ ?_|refine qk (fun h=>?_) fun h=>?_|fail
 all_goals first
  | exact hR _ _ ⟨liI hI (by (try simp only[hI.e] at *);(try simp only[x1] at *);exact omI),rfl⟩
  | (exfalso;(try simp only[hI.e] at *);(try simp only[x1] at *);exact omI)
theorem DN0 (hI:II @I) (e:Fu) (c1:EqOk 167 ⟨.one,[.ro true (I (e.params.map strT))]⟩) (c2:EqOk 14 ⟨.one,[.ro true (I (e.a.map Sm.t))]⟩):EqOk 93 (fuA @I e):=by
 refine qN hI tyK Tryz.func93 22 [.tmp 4] ?_;unhygienic intros
 refine qB 0 ?_
 repeat' first|refine qA 0 ?_|refine qJ (nN []) ?_|refine qp ?_ ?_|refine qk (fun h=>?_) fun h=>?_|fail
 all_goals first
  | contradiction
  | exact absurd rfl ‹_›
  | exact hR _ _ ⟨rfl,rfl⟩
theorem FP0 (hI:II @I) (e:Fu) (c1:ACl Tryz.prog 143 [⟨.one,[.ro true (I (e.params.map strT))]⟩] [] (fun res bx=>res=⟨.one,[.ow (0,0) true 1 (I (e.params.map strT))]⟩/\bx=[])) (c2:ACl Tryz.prog 10 [⟨.one,[.ro true (I (e.a.map Sm.t))]⟩] [] (fun res bx=>res=⟨.one,[.ow (0,0) true 6 (I (e.a.map Sm.o))]⟩/\bx=[])):ACl Tryz.prog 74 [fuA @I e] [] (fun res bx=>res=⟨.agg,[.lit (.string (I e.name)),.ow (0,0) true 1 (I (e.params.map strT)),.ow (0,0) true 6 (I (e.a.map Sm.o))]⟩/\bx=[]):=by
 refine qN hI tyK Tryz.func74 16 [.cell 2 101] ?_;unhygienic intros
 refine qB 0 ?_
 repeat' first|refine qA 0 ?_|refine qJ (nN []) ?_|refine qp ?_ ?_|refine qk (fun h=>?_) fun h=>?_|fail
 exact hR _ _ ⟨rfl,rfl⟩
theorem MQ0 (hI:II @I) (l:List Fu) (hl:l.length<=maxLen) (ih:∀e∈l,SzI @I 68 (fuA @I e) e.sz):SzI @I 28 ⟨.one,[.ro true (I (l.map Fu.t))]⟩ (l.length+Fu.szs l):=by
 intro left hlf;have q:=zH0 (l.length+Fu.szs l) left;refine qN hI tyK Tryz.func28 27 [.tmp 4] ?_;unhygienic intros
 have e1:=gL0 hI hO (n:=l.length) hlf hl
 dsimp only at e1
 have e2:=e1;simp only[hI.e] at e2;refine qB 0 ?_
 repeat' first|refine qA 0 ?_|refine qJ (nN []) ?_|refine qp ?_ ?_|refine qk (fun h=>?_) fun h=>?_|fail
 ·exact hR _ _ ⟨liI hI omI,rfl⟩
 try simp only[e2] at *
 clear e1 e2;refine qLf 0 [0,1,5] kk0 (fun i:Nat=>⟨vag 27 [(0,⟨.one,[.ro true (I (l.map Fu.t))]⟩),(1,litI (I (left - Int.ofNat l.length - Int.ofNat (Fu.szs (l.take i))))),(5,litI (Int.ofNat (I i)))],[],1⟩) (fun i=>i<=l.length/\0<=left - Int.ofNat l.length - Int.ofNat (Fu.szs (l.take i))) (fun i=>l.length - i) ?_ fun i hi=>?_
 ·cbv
  exact ⟨0,by simp[hI.e,Fu.szs];rfl,by omega,by simp only[Fu.szs,List.take_zero,List.map_nil,List.sum_nil] at *;exact omI⟩
 have c1:=fun (hh:i < l.length)=>ih _ (zB0 hh) (left - Int.ofNat l.length - Int.ofNat (Fu.szs (l.take i))) ⟨hi.2,by unfold qW0 at hlf;exact omI⟩
 have q1:=fun (hh:i < l.length)=>zH0 (l[i]!).sz (left - Int.ofNat l.length - Int.ofNat (Fu.szs (l.take i)));have q2:=fun (hh:i < l.length)=>show Fu.szs (l.take (i+1))=Fu.szs (l.take i)+(l[i]!).sz by rw[yP0 hh,Fu.szs_app,Fu.szs_one]
 have hmax:maxLen<=9223372036854775807:=by decide
 have q3:Fu.szs (l.take (i+1))<=Fu.szs l:=by
  have h1:=congrArg Fu.szs (List.take_append_drop (i+1) l);rw[Fu.szs_app] at h1;omega
 refine qB 0 ?_
 repeat' first|refine qA 0 ?_|refine qJ (nN []) ?_|refine qp ?_ ?_|refine qk (fun h=>?_) fun h=>?_|fail
 ·have a:=q1 ‹_›
  have b:=q2 ‹_›;exact hR _ _ ⟨liI hI omI,rfl⟩
 ·have hii:i < l.length:=‹_›
  have a:=q1 hii;have b:=q2 hii;have e:szF (l[i]!).sz (left - Int.ofNat l.length - Int.ofNat (Fu.szs (l.take i)))=left - Int.ofNat l.length - Int.ofNat (Fu.szs (l.take (i+1))):=omI;refine ⟨i+1,by rw[e];(try simp only[A.reset,hI.e]);rfl,⟨by omega,?_⟩,by omega⟩
  exact omI
 ·have ht:l.take i=l:=List.take_of_length_le (by omega)
  rw[ht] at hi |-;exact hR _ _ ⟨liI hI omI,rfl⟩
theorem KE0 (hI:II @I) (l:List Fu) (hl:l.length<=1048576) (ih:∀e∈l,EqOk 93 (fuA @I e)):EqOk 44 ⟨.one,[.ro true (I (l.map Fu.t))]⟩:=by
 refine qN hI tyK Tryz.func44 27 [.tmp 4] ?_;unhygienic intros
 refine qB 0 ?_
 repeat' first|refine qA 0 ?_|refine qJ (nN []) ?_|refine qp ?_ ?_|refine qk (fun h=>?_) fun h=>?_|fail
 ·exact absurd rfl ‹_›
 refine qLf 0 [0,1,5] kk0 (fun i:Nat=>⟨vag 27 [(0,⟨.one,[.ro true (I (l.map Fu.t))]⟩),(1,⟨.one,[.ro true (I (l.map Fu.t))]⟩),(5,litI (Int.ofNat (I i)))],[],1⟩) (fun i=>i<=l.length) (fun i=>l.length - i) ?_ fun i hi=>?_
 ·cbv
  exact ⟨0,by simp[hI.e];rfl,by omega⟩
 have c1:=fun (hh:i < l.length)=>ih _ (zB0 hh);refine qB 0 ?_
 repeat' first|refine qA 0 ?_|refine qJ (nN []) ?_|refine qp ?_ ?_|refine qk (fun h=>?_) fun h=>?_|fail
 ·exact ⟨i+1,by (try simp only[A.reset,zD0,hI.e,List.append_assoc,Bool.or_false,zC0]);rfl,by omega,by omega⟩
 ·exact hR _ _ ⟨rfl,rfl⟩
theorem MP0 (hI:II @I) (l:List Fu) (hl:l.length<=1048576) (ih:∀e∈l,ACl Tryz.prog 74 [fuA @I e] [] (fun res bx=>res=⟨.agg,[.lit (.string (I e.name)),.ow (0,0) true 1 (I (e.params.map strT)),.ow (0,0) true 6 (I (e.a.map Sm.o))]⟩/\bx=[])):ACl Tryz.prog 35 [⟨.one,[.ro true (I (l.map Fu.t))]⟩] [] (fun res bx=>res=⟨.one,[.ow (0,0) true 3 (I (l.map Fu.o))]⟩/\bx=[]):=by
 refine qN hI tyK Tryz.func35 23 [.tmp 2] ?_;unhygienic intros
 have hm:mOk 64 (Int.ofNat (I l.length)) (Int.ofNat (I l.length)):=by rw[hI.e];exact XC0 hO ⟨by simp,by simp,by simp;omega,by simp;omega⟩
 refine qB 0 ?_
 repeat' first|refine qA 0 ?_|refine qJ (nN []) ?_|refine qp ?_ ?_|refine qk (fun h=>?_) fun h=>?_|fail
 refine qLf 0 [0,3,4] (kkS 3 1003) (fun a:Nat×List (List T)=>⟨vag 23 [(0,⟨.one,[.ro true (I (l.map Fu.t))]⟩),(3,⟨.one,[.ow (0,0) true 3 (I a.2)]⟩),(4,litI (Int.ofNat (I a.1)))],[],1⟩) (fun a=>a.1<=l.length/\a.2.length=l.length/\(∀e∈a.2,e.length=3)/\a.2.take a.1=(l.map Fu.o).take a.1) (fun a=>l.length - a.1) ?_ fun a ha=>?_
 ·cbv
  refine ⟨(0,repl (nat (Int.ofNat (I l.length))) [.lit (.string ⟨⟨[]⟩⟩),.sl [],.sl []]),by simp only[hI.e];rfl,by omega,?_,?_,by simp⟩
  ·rw[hI.e];cases hO;simp[Ops.std]
  ·rw[hI.e];cases hO;simp[Ops.std]
 obtain ⟨i,outs⟩:=a;obtain ⟨hi,hlen,hk,ht⟩:=ha;simp only at hi hlen hk ht |-
 by_cases hh:i < l.length
 ·have c1:=ih _ (zB0 hh)
  have n1:idx (Int.ofNat (I i)) (len (I outs)):=by rw[hI.e,hI.e];cases hO;show (0:Int)<=_/\_ < _;simp[Ops.std];omega
  have n2:one (I outs) (nadd 0 (nat (Int.ofNat (I i)))) 3:=by rw[hI.e,hI.e];cases hO;exact jH0 hk (by simp[Ops.std];omega)
  refine qB 0 ?_
  repeat' first|refine qA 0 ?_|refine qJ (nN []) ?_|refine qp ?_ ?_|refine qk (fun h=>?_) fun h=>?_|fail
  ·refine ⟨(i+1,set (I outs) (nadd 0 (nat (Int.ofNat (I i)))) ((l[i]!).o)),?_,?_⟩
   ·rw[Fu.o_eq];simp only[A.reset,hI.e];rfl
   have hx:(l.map Fu.o)[i]?=some ((l[i]!).o):=by simp[hh]
   have hst:=qK0 (els:=l.map Fu.o) (outs:=outs) (x:=(l[i]!).o) (by simpa using hh) (by simpa using hlen) ht hx
   have e:set (I outs) (nadd 0 (nat (Int.ofNat (I i)))) ((l[i]!).o)=outs.set i ((l[i]!).o):=by rw[hI.e,hI.e];cases hO;simp[Ops.std]
   simp only[e];refine ⟨⟨by omega,by rw[hst.1];simp,fun y hy=>?_,hst.2⟩,by omega⟩
   rcases List.mem_or_eq_of_mem_set hy with hy | rfl
   ·exact hk y hy
   ·exact Fu.o_len _
  ·exact absurd hh ‹_›
 ·refine qB 0 ?_
  repeat' first|refine qA 0 ?_|refine qJ (nN []) ?_|refine qp ?_ ?_|refine qk (fun h=>?_) fun h=>?_|fail
  ·exact absurd ‹_› hh
  ·have hil:i=l.length:=by omega
   have ho:outs=l.map Fu.o:=by rw[hil] at ht;rw[List.take_of_length_le (by omega),List.take_of_length_le (by simp)] at ht;exact ht
   exact hR _ _ ⟨by rw[ho],rfl⟩
theorem TF0 (hI:II @I) (e:Pg) (ih0:SzI @I 27 ⟨.one,[.ro true (I (e.rules.map Ru.t))]⟩ (e.rules.length+Ru.szs e.rules)) (ih1:SzI @I 28 ⟨.one,[.ro true (I (e.fns.map Fu.t))]⟩ (e.fns.length+Fu.szs e.fns)):SzI @I 6 (pA @I e) e.sz:=by
 intro left hl;have hz:e.sz=(e.rules.length+Ru.szs e.rules)+(e.fns.length+Fu.szs e.fns):=by rw[Pg.sz]
 have q:=zH0 e.sz left;have hl2:=hl;unfold qW0 at hl2;have q0:=zH0 (e.rules.length+Ru.szs e.rules) (left);have q1:=zH0 (e.fns.length+Fu.szs e.fns) (szF (e.rules.length+Ru.szs e.rules) (left));have c1:=ih0 left hl;have c2:=fun (h:¬szF (e.rules.length+Ru.szs e.rules) (left) < 0)=>ih1 (szF (e.rules.length+Ru.szs e.rules) (left)) ⟨by omega,omI⟩
 refine qN hI tyK Tryz.func6 18 [.tmp 4] ?_;unhygienic intros
 refine qB 0 ?_
 repeat' first|refine qA 0 ?_|refine qJ (nN []) ?_|refine qp ?_ ?_|refine qk (fun h=>?_) fun h=>?_|fail
 all_goals first
  | exact hR _ _ ⟨liI hI omI,rfl⟩
  | (exfalso;exact omI)
theorem TV0 (hI:II @I) (e:Pg) (c1:EqOk 43 ⟨.one,[.ro true (I (e.rules.map Ru.t))]⟩) (c2:EqOk 44 ⟨.one,[.ro true (I (e.fns.map Fu.t))]⟩):EqOk 13 (pA @I e):=by
 refine qN hI tyK Tryz.func13 17 [.tmp 4] ?_;unhygienic intros
 refine qB 0 ?_
 repeat' first|refine qA 0 ?_|refine qJ (nN []) ?_|refine qp ?_ ?_|refine qk (fun h=>?_) fun h=>?_|fail
 all_goals first
  | contradiction
  | exact absurd rfl ‹_›
  | exact hR _ _ ⟨rfl,rfl⟩
theorem UZ0 (hI:II @I) (e:Pg) (c1:ACl Tryz.prog 34 [⟨.one,[.ro true (I (e.rules.map Ru.t))]⟩] [] (fun res bx=>res=⟨.one,[.ow (0,0) true 6 (I (e.rules.map Ru.o))]⟩/\bx=[])) (c2:ACl Tryz.prog 35 [⟨.one,[.ro true (I (e.fns.map Fu.t))]⟩] [] (fun res bx=>res=⟨.one,[.ow (0,0) true 3 (I (e.fns.map Fu.o))]⟩/\bx=[])):ACl Tryz.prog 9 [pA @I e] [] (fun res bx=>res=⟨.agg,[.ow (0,0) true 6 (I (e.rules.map Ru.o)),.ow (0,0) true 3 (I (e.fns.map Fu.o))]⟩/\bx=[]):=by
 refine qN hI tyK Tryz.func9 13 [.cell 2 34] ?_;unhygienic intros
 refine qB 0 ?_
 repeat' first|refine qA 0 ?_|refine qJ (nN []) ?_|refine qp ?_ ?_|refine qk (fun h=>?_) fun h=>?_|fail
 exact hR _ _ ⟨rfl,rfl⟩
theorem KD0 (hI:II @I) (e:Ik) :EqOk 42 (insA @I e):=by
 refine qN hI tyK Tryz.func42 15 [.tmp 4] ?_;unhygienic intros
 refine qB 0 ?_
 repeat' first|refine qA 0 ?_|refine qJ (nN []) ?_|refine qp ?_ ?_|refine qk (fun h=>?_) fun h=>?_|fail
 all_goals first
  | contradiction
  | exact absurd rfl ‹_›
  | exact hR _ _ ⟨rfl,rfl⟩
theorem TW0 (hI:II @I) (l:List Ik) (hl:l.length<=274877906944) (ih:∀e∈l,EqOk 42 (insA @I e)):EqOk 12 ⟨.one,[.ro true (I (l.map Ik.t))]⟩:=by
 refine qN hI tyK Tryz.func12 27 [.tmp 4] ?_;unhygienic intros
 refine qB 0 ?_
 repeat' first|refine qA 0 ?_|refine qJ (nN []) ?_|refine qp ?_ ?_|refine qk (fun h=>?_) fun h=>?_|fail
 ·exact absurd rfl ‹_›
 refine qLf 0 [0,1,5] kk0 (fun i:Nat=>⟨vag 27 [(0,⟨.one,[.ro true (I (l.map Ik.t))]⟩),(1,⟨.one,[.ro true (I (l.map Ik.t))]⟩),(5,litI (Int.ofNat (I i)))],[],1⟩) (fun i=>i<=l.length) (fun i=>l.length - i) ?_ fun i hi=>?_
 ·cbv
  exact ⟨0,by simp[hI.e];rfl,by omega⟩
 have c1:=fun (hh:i < l.length)=>ih _ (zB0 hh);refine qB 0 ?_
 repeat' first|refine qA 0 ?_|refine qJ (nN []) ?_|refine qp ?_ ?_|refine qk (fun h=>?_) fun h=>?_|fail
 ·exact ⟨i+1,by (try simp only[A.reset,zD0,hI.e,List.append_assoc,Bool.or_false,zC0]);rfl,by omega,by omega⟩
 ·exact hR _ _ ⟨rfl,rfl⟩
variable {I:∀{α:Type},α->α}
theorem Ex.Wf.inv {e:Ex} (h:e.Wf):e.s.size<=maxLen/\e.l.length<=maxLen/\∀x∈e.l,x.Wf:=by cases h;exact ⟨by assumption,by assumption,by assumption⟩
theorem Sm.Wf.inv {e:Sm} (h:e.Wf):e.s.size<=maxLen/\e.tt.size<=maxLen/\(e.x.length<=maxLen/\∀x∈e.x,x.Wf)/\(e.a.length<=maxLen/\∀x∈e.a,x.Wf)/\(e.b.length<=maxLen/\∀x∈e.b,x.Wf):=by
 cases h;exact ⟨by assumption,by assumption,⟨by assumption,by assumption⟩,⟨by assumption,by assumption⟩,by assumption,by assumption⟩
theorem vQ1 (hI:II @I):∀e:Ex,e.Wf->SzI @I 133 (eA @I e) e.sz:=by
 refine Ex.ind fun e ih h=>?_;obtain ⟨h1,h2,h3⟩:=h.inv;exact TG0 hI e h1 (mA0 hI e.l h2 fun x hx=>ih x hx (h3 x hx))
theorem uN1 (hI:II @I) (l:List Ex) (hl:l.length<=maxLen) (h:∀e∈l,e.Wf):SzI @I 69 ⟨.one,[.ro true (I (l.map Ex.t))]⟩ (l.length+Ex.szs l):=mA0 hI l hl fun e he=>vQ1 hI e (h e he)
theorem pE1 (hI:II @I):∀e:Sm,e.Wf->SzI @I 29 (sA @I e) e.sz:=by
 refine Sm.ind fun e ih h=>?_;obtain ⟨h1,h2,h3,h4,h5⟩:=h.inv;exact TD0 hI e h1 h2 (uN1 hI e.x h3.1 h3.2) (tH0 hI e.a h4.1 fun x hx=>ih x (List.mem_append_left _ hx) (h4.2 x hx)) (tH0 hI e.b h5.1 fun x hx=>ih x (List.mem_append_right _ hx) (h5.2 x hx))
theorem VQ0 (hI:II @I) (l:List Sm) (hl:l.length<=maxLen) (h:∀e∈l,e.Wf):SzI @I 7 ⟨.one,[.ro true (I (l.map Sm.t))]⟩ (l.length+Sm.szs l):=tH0 hI l hl fun e he=>pE1 hI e (h e he)
theorem pF1 (hI:II @I) (p:Pg) (h:p.Wf):SzI @I 6 (pA @I p) p.sz:=
 TF0 hI p (WE0 hI p.rules h.rules fun r hr=>TE0 hI r (vQ1 hI r.p (h.rules' r hr).p) (VQ0 hI r.a (h.rules' r hr).a (h.rules' r hr).a'))
  (MQ0 hI p.fns h.fns fun f hf=>FQ0 hI f (h.fns' f hf).name (TC0 hI f.params (h.fns' f hf).params (h.fns' f hf).params') (VQ0 hI f.a (h.fns' f hf).a (h.fns' f hf).a'))
theorem Ex.sz_inv {e:Ex} (h:e.sz<=1048576):e.l.length<=1048576/\∀x∈e.l,x.sz<=1048576:=by cases e;exact uU1 h
theorem Sm.sz_inv {e:Sm} (h:e.sz<=1048576):(e.x.length<=1048576/\∀x∈e.x,x.sz<=1048576)/\(e.a.length<=1048576/\∀x∈e.a,x.sz<=1048576)/\(e.b.length<=1048576/\∀x∈e.b,x.sz<=1048576):=by
 cases e;rw[Sm.sz] at h;exact ⟨⟨by show _<=_;simp only[Sm.x];omega,fun x hx=>by have:=Ex.szs_mem hx;simp only[Sm.x] at this;omega⟩,⟨by simp only[Sm.a];omega,fun x hx=>by have:=Sm.szs_mem hx;simp only[Sm.a] at this;omega⟩,by simp only[Sm.b];omega,fun x hx=>by have:=Sm.szs_mem hx;simp only[Sm.b] at this;omega⟩
theorem vY1 (hI:II @I):∀e:Ex,e.sz<=1048576->EqOk 166 (eA @I e):=by
 refine Ex.ind fun e ih h=>?_;obtain ⟨h1,h2⟩:=Ex.sz_inv h;exact TX0 hI e (mC0 hI e.l h1 fun x hx=>ih x hx (h2 x hx))
theorem tL1 (hI:II @I) (l:List Ex) (hl:l.length<=1048576) (h:∀e∈l,e.sz<=1048576):EqOk 94 ⟨.one,[.ro true (I (l.map Ex.t))]⟩:=mC0 hI l hl fun e he=>vY1 hI e (h e he)
theorem nF1 (hI:II @I):∀e:Sm,e.sz<=1048576->EqOk 45 (sA @I e):=by
 refine Sm.ind fun e ih h=>?_;obtain ⟨h3,h4,h5⟩:=Sm.sz_inv h;exact TT0 hI e (tL1 hI e.x h3.1 h3.2) (tK0 hI e.a h4.1 fun x hx=>ih x (List.mem_append_left _ hx) (h4.2 x hx)) (tK0 hI e.b h5.1 fun x hx=>ih x (List.mem_append_right _ hx) (h5.2 x hx))
theorem UA0 (hI:II @I) (l:List Sm) (hz:l.length+Sm.szs l<=1048576):EqOk 14 ⟨.one,[.ro true (I (l.map Sm.t))]⟩:=tK0 hI l (by omega) fun e he=>nF1 hI e (by have:=Sm.szs_mem he;omega)
theorem Ru.sz_inv {r:Ru} (h:r.sz<=1048576):r.p.sz<=1048576/\r.a.length+Sm.szs r.a<=1048576:=by rw[Ru.sz] at h;exact ⟨by omega,by omega⟩
theorem Fu.sz_inv {f:Fu} (h:f.sz<=1048576):f.params.length<=1048576/\f.a.length+Sm.szs f.a<=1048576:=by rw[Fu.sz] at h;exact ⟨by omega,by omega⟩
theorem Pg.sz_inv {p:Pg} (h:p.sz<=1048576):(p.rules.length<=1048576/\∀r∈p.rules,r.sz<=1048576)/\(p.fns.length<=1048576/\∀f∈p.fns,f.sz<=1048576):=by
 rw[Pg.sz] at h;exact ⟨⟨by omega,fun r hr=>by have:=Ru.szs_mem hr;omega⟩,by omega,fun r hr=>by have:=Fu.szs_mem hr;omega⟩
theorem nG1 (hI:II @I) (p:Pg) (hz:p.sz<=1048576):EqOk 13 (pA @I p):=by
 obtain ⟨⟨h1,h2⟩,h3,h4⟩:=Pg.sz_inv hz;exact TV0 hI p (WU0 hI p.rules h1 fun r hr=>TU0 hI r (vY1 hI r.p (Ru.sz_inv (h2 r hr)).1) (UA0 hI r.a (Ru.sz_inv (h2 r hr)).2))
  (KE0 hI p.fns h3 fun f hf=>DN0 hI f (gX0 hI f.params (Fu.sz_inv (h4 f hf)).1) (UA0 hI f.a (Fu.sz_inv (h4 f hf)).2))
theorem HG0 (hI:II @I) (l:List Ik) (hl:l.length<=274877906944):EqOk 12 ⟨.one,[.ro true (I (l.map Ik.t))]⟩:=TW0 hI l hl fun e _=>KD0 hI e
abbrev ToXS (I:∀{α:Type},α->α) (l:List Ex):Prop:=ACl Tryz.prog 75 [⟨.one,[.ro true (I (l.map Ex.t))]⟩] [] (fun res bx=>res=⟨.one,[.ow (0,0) true 4 (I (l.map Ex.o))]⟩/\bx=[])
abbrev ToX (I:∀{α:Type},α->α) (e:Ex):Prop:=ACl Tryz.prog 142 [eA @I e] [] (fun res bx=>res=⟨.agg,[.lit (.int .i64 (I e.k)),.lit (.int .i64 (I e.n)),.lit (.string (I e.s)),.ow (0,0) true 4 (I (e.l.map Ex.o))]⟩/\bx=[])
theorem vT1 (hI:II @I):∀e:Ex,e.sz<=1048576->ToX @I e:=by
 refine Ex.ind fun e ih h=>?_;obtain ⟨h1,h2⟩:=Ex.sz_inv h;exact TA0 hI e (nZ0 hI e.l h1 fun x hx=>ih x hx (h2 x hx))
theorem uT1 (hI:II @I) (l:List Ex) (hl:l.length<=1048576) (h:∀e∈l,e.sz<=1048576):ToXS @I l:=nZ0 hI l hl fun e he=>vT1 hI e (h e he)
abbrev ToSS (I:∀{α:Type},α->α) (l:List Sm):Prop:=ACl Tryz.prog 10 [⟨.one,[.ro true (I (l.map Sm.t))]⟩] [] (fun res bx=>res=⟨.one,[.ow (0,0) true 6 (I (l.map Sm.o))]⟩/\bx=[])
abbrev ToS (I:∀{α:Type},α->α) (e:Sm):Prop:=ACl Tryz.prog 36 [sA @I e] [] (fun res bx=>res=⟨.agg,[.lit (.int .i64 (I e.k)),.lit (.string (I e.s)),.lit (.string (I e.tt)),.ow (0,0) true 4 (I (e.x.map Ex.o)),.ow (0,0) true 6 (I (e.a.map Sm.o)),.ow (0,0) true 6 (I (e.b.map Sm.o))]⟩/\bx=[])
theorem pL1 (hI:II @I):∀e:Sm,e.sz<=1048576->ToS @I e:=by
 refine Sm.ind fun e ih h=>?_;obtain ⟨h3,h4,h5⟩:=Sm.sz_inv h;exact UX0 hI e (uT1 hI e.x h3.1 h3.2) (tG0 hI e.a h4.1 fun x hx=>ih x (List.mem_append_left _ hx) (h4.2 x hx)) (tG0 hI e.b h5.1 fun x hx=>ih x (List.mem_append_right _ hx) (h5.2 x hx))
theorem VU0 (hI:II @I) (l:List Sm) (hz:l.length+Sm.szs l<=1048576):ToSS @I l:=tG0 hI l (by omega) fun e he=>pL1 hI e (by have:=Sm.szs_mem he;omega)
theorem pM1 (hI:II @I) (p:Pg) (hz:p.sz<=1048576):ACl Tryz.prog 9 [pA @I p] [] (fun res bx=>res=⟨.agg,[.ow (0,0) true 6 (I (p.rules.map Ru.o)),.ow (0,0) true 3 (I (p.fns.map Fu.o))]⟩/\bx=[]):=by
 obtain ⟨⟨h1,h2⟩,h3,h4⟩:=Pg.sz_inv hz;exact UZ0 hI p (WD0 hI p.rules h1 fun r hr=>UY0 hI r (vT1 hI r.p (Ru.sz_inv (h2 r hr)).1) (VU0 hI r.a (Ru.sz_inv (h2 r hr)).2))
  (MP0 hI p.fns h3 fun f hf=>FP0 hI f (gU0 hI f.params (Fu.sz_inv (h4 f hf)).1) (VU0 hI f.a (Fu.sz_inv (h4 f hf)).2))
end Go.Gv
