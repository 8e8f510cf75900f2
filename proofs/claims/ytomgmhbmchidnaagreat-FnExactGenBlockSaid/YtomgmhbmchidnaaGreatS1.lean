/- Part S1 of the proof: contracts of functions of the program, each walked once. -/
import Derived.Test.YtomgmhbmchidnaaGreatM1
import Derived.Test.YtomgmhbmchidnaaGreatG1
import Derived.Test.YtomgmhbmchidnaaGreatH1
import Derived.Test.YtomgmhbmchidnaaGreatG4
set_option linter.all false
namespace Go.Gv
open Go.Av Go.Proofs
set_option maxRecDepth 10000
set_option maxHeartbeats 8000000
variable {I:∀{α:Type},α->α}
theorem nN1 (n:Nat):(@NatCast.natCast Int instNatCastInt n)=Int.ofNat n:=rfl
theorem omI {Q:Prop} (t:Q:=by (try simp only[hI.e] at *);(try simp only[e2] at *);(try simp only[nN1] at *);(try simp only[Int.ofNat_eq_natCast] at *);omega):Q:=t
def szF (s:Nat) (left:Int):Int:=if left < s then -1 else left - s
theorem zH0 (s:Nat) (left:Int):((s:Int)<=left/\szF s left=left - s)\/(left < s/\szF s left=-1):=by unfold szF;split<;>omega
abbrev SzI (I:∀{α:Type},α->α) (f:FuncId) (a:AV) (s:Nat):Prop:=∀left:Int,qW0 left->ACl Tryz.prog f [a,litI (I left)] [] (fun res bx=>res=litI (I (szF s left))/\bx=[])
theorem gL0 (hI:II @I) {O:Ops} (hO:O=Ops.std) {m:Int} {n:Nat} (h:qW0 m) (hn:n<=maxLen):O.bin .sub .i64 (I m) (Int.ofNat (I n))=I (m - Int.ofNat n):=by rw[hI.e,hI.e,hI.e];exact pR1 hO h hn
theorem TG0 (hI:II @I) (e:Ex) (hs:e.s.size<=maxLen) (ih:SzI @I 69 ⟨.one,[.ro true (I (e.l.map Ex.t))]⟩ (e.l.length+Ex.szs e.l)):SzI @I 133 (eA @I e) e.sz:=by
 intro left hl;have hz:e.sz=e.s.size+(e.l.length+Ex.szs e.l):=by cases e;rw[Ex.sz,Nat.add_assoc];rfl
 have q:=zH0 e.sz left;have q1:=zH0 (e.l.length+Ex.szs e.l) (left - Int.ofNat e.s.size);have c1:=fun (h:¬left - Int.ofNat e.s.size < 0)=>ih (left - Int.ofNat e.s.size) ⟨by omega,by unfold qW0 at hl;exact omI⟩
 refine qN hI tyK Tryz.func133 19 [.tmp 4] ?_;unhygienic intros
 have e1:=gL0 hI hO (n:=e.s.size) hl hs
 dsimp only at e1
 have e2:=e1;simp only[hI.e] at e2;refine qB 0 ?_
 repeat' first|refine qA 0 ?_|refine qJ (nN []) ?_|refine qp ?_ ?_|refine qk (fun h=>?_) fun h=>?_|fail
 all_goals exact hR _ _ ⟨liI hI omI,rfl⟩
theorem pQ1 (l:List Ex) (i:Nat):Ex.szs (l.take i)<=Ex.szs l:=by
 have h1:=congrArg Ex.szs (List.take_append_drop i l);rw[Ex.szs_app] at h1;omega
theorem mA0 (hI:II @I) (l:List Ex) (hl:l.length<=maxLen) (ih:∀e∈l,SzI @I 133 (eA @I e) e.sz):SzI @I 69 ⟨.one,[.ro true (I (l.map Ex.t))]⟩ (l.length+Ex.szs l):=by
 intro left hlf;have q:=zH0 (l.length+Ex.szs l) left;refine qN hI tyK Tryz.func69 27 [.tmp 4] ?_;unhygienic intros
 have e1:=gL0 hI hO (n:=l.length) hlf hl
 dsimp only at e1
 have e2:=e1;simp only[hI.e] at e2;refine qB 0 ?_
 repeat' first|refine qA 0 ?_|refine qJ (nN []) ?_|refine qp ?_ ?_|refine qk (fun h=>?_) fun h=>?_|fail
 ·exact hR _ _ ⟨liI hI omI,rfl⟩
 try simp only[e2] at *
 clear e1 e2;refine qLf 0 [0,1,5] kk0 (fun i:Nat=>⟨vag 27 [(0,⟨.one,[.ro true (I (l.map Ex.t))]⟩),(1,litI (I (left - Int.ofNat l.length - Int.ofNat (Ex.szs (l.take i))))),(5,litI (Int.ofNat (I i)))],[],1⟩) (fun i=>i<=l.length/\0<=left - Int.ofNat l.length - Int.ofNat (Ex.szs (l.take i))) (fun i=>l.length - i) ?_ fun i hi=>?_
 ·cbv
  exact ⟨0,by simp[hI.e,Ex.szs];rfl,by omega,by simp only[Ex.szs,List.take_zero] at *;exact omI⟩
 have c1:=fun (hh:i < l.length)=>ih _ (zB0 hh) (left - Int.ofNat l.length - Int.ofNat (Ex.szs (l.take i))) ⟨hi.2,by unfold qW0 at hlf;exact omI⟩
 have q1:=fun (hh:i < l.length)=>zH0 (l[i]!).sz (left - Int.ofNat l.length - Int.ofNat (Ex.szs (l.take i)));have q2:=fun (hh:i < l.length)=>show Ex.szs (l.take (i+1))=Ex.szs (l.take i)+(l[i]!).sz by rw[yP0 hh,Ex.szs_app,Ex.szs_one]
 have hmax:maxLen<=9223372036854775807:=by decide
 have q3:=pQ1 l (i+1);refine qB 0 ?_
 repeat' first|refine qA 0 ?_|refine qJ (nN []) ?_|refine qp ?_ ?_|refine qk (fun h=>?_) fun h=>?_|fail
 ·have a:=q1 ‹_›
  have b:=q2 ‹_›;exact hR _ _ ⟨liI hI omI,rfl⟩
 ·have hii:i < l.length:=‹_›
  have a:=q1 hii;have b:=q2 hii;have e:szF (l[i]!).sz (left - Int.ofNat l.length - Int.ofNat (Ex.szs (l.take i)))=left - Int.ofNat l.length - Int.ofNat (Ex.szs (l.take (i+1))):=omI;refine ⟨i+1,by rw[e];(try simp only[A.reset,hI.e]);rfl,⟨by omega,?_⟩,by omega⟩
  exact omI
 ·have ht:l.take i=l:=List.take_of_length_le (by omega)
  rw[ht] at hi |-;exact hR _ _ ⟨liI hI omI,rfl⟩
variable {I:∀{α:Type},α->α}
theorem jH0 {els:List (List T)} {i k:Nat} (hk:∀e∈els,e.length=k) (h:i < els.length):Ops.std.one els i k:=by
 refine ⟨h,?_⟩;rw[List.getD_eq_getElem?_getD,List.getElem?_eq_getElem h];exact hk _ (List.getElem_mem h)
theorem TX0 (hI:II @I) (e:Ex) (ih:EqOk 94 ⟨.one,[.ro true (I (e.l.map Ex.t))]⟩):EqOk 166 (eA @I e):=by
 have c1:=ih;refine qN hI tyK Tryz.func166 26 [.tmp 4] ?_;unhygienic intros
 refine qB 0 ?_
 repeat' first|refine qA 0 ?_|refine qJ (nN []) ?_|refine qp ?_ ?_|refine qk (fun h=>?_) fun h=>?_|fail
 all_goals first
  | contradiction
  | exact absurd rfl ‹_›
  | exact hR _ _ ⟨rfl,rfl⟩
  | skip
theorem mC0 (hI:II @I) (l:List Ex) (hl:l.length<=1048576) (ih:∀e∈l,EqOk 166 (eA @I e)):EqOk 94 ⟨.one,[.ro true (I (l.map Ex.t))]⟩:=by
 refine qN hI tyK Tryz.func94 27 [.tmp 4] ?_;unhygienic intros
 refine qB 0 ?_
 repeat' first|refine qA 0 ?_|refine qJ (nN []) ?_|refine qp ?_ ?_|refine qk (fun h=>?_) fun h=>?_|fail
 ·exact absurd rfl ‹_›
 refine qLf 0 [0,1,5] kk0 (fun i:Nat=>⟨vag 27 [(0,⟨.one,[.ro true (I (l.map Ex.t))]⟩),(1,⟨.one,[.ro true (I (l.map Ex.t))]⟩),(5,litI (Int.ofNat (I i)))],[],1⟩) (fun i=>i<=l.length) (fun i=>l.length - i) ?_ fun i hi=>?_
 ·cbv
  exact ⟨0,by simp[hI.e];rfl,by omega⟩
 have c1:=fun (hh:i < l.length)=>ih _ (zB0 hh);refine qB 0 ?_
 repeat' first|refine qA 0 ?_|refine qJ (nN []) ?_|refine qp ?_ ?_|refine qk (fun h=>?_) fun h=>?_|fail
 ·exact ⟨i+1,by (try simp only[A.reset,zD0,hI.e,List.append_assoc,Bool.or_false,zC0]);rfl,by omega,by omega⟩
 ·exact hR _ _ ⟨rfl,rfl⟩
theorem TA0 (hI:II @I) (e:Ex) (ih:ACl Tryz.prog 75 [⟨.one,[.ro true (I (e.l.map Ex.t))]⟩] [] (fun res bx=>res=⟨.one,[.ow (0,0) true 4 (I (e.l.map Ex.o))]⟩/\bx=[])):ACl Tryz.prog 142 [eA @I e] [] (fun res bx=>res=⟨.agg,[.lit (.int .i64 (I e.k)),.lit (.int .i64 (I e.n)),.lit (.string (I e.s)),.ow (0,0) true 4 (I (e.l.map Ex.o))]⟩/\bx=[]):=by
 have c1:=ih;refine qN hI tyK Tryz.func142 18 [.cell 2 52] ?_;unhygienic intros
 refine qB 0 ?_
 repeat' first|refine qA 0 ?_|refine qJ (nN []) ?_|refine qp ?_ ?_|refine qk (fun h=>?_) fun h=>?_|fail
 exact hR _ _ ⟨rfl,rfl⟩
theorem nZ0 (hI:II @I) (l:List Ex) (hl:l.length<=1048576) (ih:∀e∈l,ACl Tryz.prog 142 [eA @I e] [] (fun res bx=>res=⟨.agg,[.lit (.int .i64 (I e.k)),.lit (.int .i64 (I e.n)),.lit (.string (I e.s)),.ow (0,0) true 4 (I (e.l.map Ex.o))]⟩/\bx=[])) :
  ACl Tryz.prog 75 [⟨.one,[.ro true (I (l.map Ex.t))]⟩] [] (fun res bx=>res=⟨.one,[.ow (0,0) true 4 (I (l.map Ex.o))]⟩/\bx=[]):=by
 refine qN hI tyK Tryz.func75 23 [.tmp 2] ?_;unhygienic intros
 have hm:mOk 56 (Int.ofNat (I l.length)) (Int.ofNat (I l.length)):=by rw[hI.e];exact XC0 hO ⟨by simp,by simp,by simp;omega,by simp;omega⟩
 refine qB 0 ?_
 repeat' first|refine qA 0 ?_|refine qJ (nN []) ?_|refine qp ?_ ?_|refine qk (fun h=>?_) fun h=>?_|fail
 refine qLf 0 [0,3,4] (kkS 3 1004) (fun a:Nat×List (List T)=>⟨vag 23 [(0,⟨.one,[.ro true (I (l.map Ex.t))]⟩),(3,⟨.one,[.ow (0,0) true 4 (I a.2)]⟩),(4,litI (Int.ofNat (I a.1)))],[],1⟩) (fun a=>a.1<=l.length/\a.2.length=l.length/\(∀e∈a.2,e.length=4)/\a.2.take a.1=(l.map Ex.o).take a.1) (fun a=>l.length - a.1) ?_ fun a ha=>?_
 ·cbv
  refine ⟨(0,repl (nat (Int.ofNat (I l.length))) [.lit (.int .i64 0),.lit (.int .i64 0),.lit (.string ⟨⟨[]⟩⟩),.sl []]),by simp only[hI.e];rfl,by omega,?_,?_,by simp⟩
  ·rw[hI.e];cases hO;simp[Ops.std]
  ·rw[hI.e];cases hO;simp[Ops.std]
 obtain ⟨i,outs⟩:=a;obtain ⟨hi,hlen,hk,ht⟩:=ha;simp only at hi hlen hk ht |-
 by_cases hh:i < l.length
 ·have c1:=ih _ (zB0 hh)
  have n1:idx (Int.ofNat (I i)) (len (I outs)):=by rw[hI.e,hI.e];cases hO;show (0:Int)<=_/\_ < _;simp[Ops.std];omega
  have n2:one (I outs) (nadd 0 (nat (Int.ofNat (I i)))) 4:=by rw[hI.e,hI.e];cases hO;exact jH0 hk (by simp[Ops.std];omega)
  refine qB 0 ?_
  repeat' first|refine qA 0 ?_|refine qJ (nN []) ?_|refine qp ?_ ?_|refine qk (fun h=>?_) fun h=>?_|fail
  ·refine ⟨(i+1,set (I outs) (nadd 0 (nat (Int.ofNat (I i)))) (l[i]!).o),?_,?_⟩
   ·rw[Ex.o_eq];simp only[A.reset,hI.e];rfl
   have hx:(l.map Ex.o)[i]?=some (l[i]!).o:=by simp[hh]
   have hst:=qK0 (els:=l.map Ex.o) (outs:=outs) (x:=(l[i]!).o) (by simpa using hh) (by simpa using hlen) ht hx
   have e:set (I outs) (nadd 0 (nat (Int.ofNat (I i)))) (l[i]!).o=outs.set i (l[i]!).o:=by rw[hI.e,hI.e];cases hO;simp[Ops.std]
   simp only[e];refine ⟨⟨by omega,by rw[hst.1];simp,fun y hy=>?_,hst.2⟩,by omega⟩
   rcases List.mem_or_eq_of_mem_set hy with hy | rfl
   ·exact hk y hy
   ·exact Ex.o_len _
  ·exact absurd hh ‹_›
 ·refine qB 0 ?_
  repeat' first|refine qA 0 ?_|refine qJ (nN []) ?_|refine qp ?_ ?_|refine qk (fun h=>?_) fun h=>?_|fail
  ·exact absurd ‹_› hh
  ·have hil:i=l.length:=by omega
   have ho:outs=l.map Ex.o:=by rw[hil] at ht;rw[List.take_of_length_le (by omega),List.take_of_length_le (by simp)] at ht;exact ht
   exact hR _ _ ⟨by rw[ho],rfl⟩
variable {I:∀{α:Type},α->α}
mutual
def Sm.o:Sm->List T
 | .mk k s t x a b=>[.lit (.int .i64 k),.lit (.string s),.lit (.string t),.own (x.map Ex.o),.own (Sm.os a),.own (Sm.os b)]
def Sm.os:List Sm->List (List T)
 | []=>[]
 | e::l=>Sm.o e::Sm.os l
end
theorem Sm.os_map:∀l,Sm.os l=l.map Sm.o
 | []=>rfl
 | e::l=>by rw[Sm.os,Sm.os_map l];rfl
theorem Sm.o_eq (e:Sm):e.o=[.lit (.int .i64 e.k),.lit (.string e.s),.lit (.string e.tt),.own (e.x.map Ex.o),.own (e.a.map Sm.o),.own (e.b.map Sm.o)]:=by cases e;rw[Sm.o,Sm.os_map,Sm.os_map];rfl
theorem Sm.o_len (e:Sm):e.o.length=6:=by rw[Sm.o_eq];rfl
def Ru.o (e:Ru):List T:=[.lit (.int .i64 e.k),.lit (.int .i64 e.p.k),.lit (.int .i64 e.p.n),.lit (.string e.p.s),.own (e.p.l.map Ex.o),.own (e.a.map Sm.o)]
theorem Ru.o_eq (e:Ru):e.o=[.lit (.int .i64 e.k),.lit (.int .i64 e.p.k),.lit (.int .i64 e.p.n),.lit (.string e.p.s),.own (e.p.l.map Ex.o),.own (e.a.map Sm.o)]:=rfl
theorem Ru.o_len (e:Ru):e.o.length=6:=rfl
def Fu.o (e:Fu):List T:=[.lit (.string e.name),.own (e.params.map strT),.own (e.a.map Sm.o)]
theorem Fu.o_eq (e:Fu):e.o=[.lit (.string e.name),.own (e.params.map strT),.own (e.a.map Sm.o)]:=rfl
theorem Fu.o_len (e:Fu):e.o.length=3:=rfl
@[simp,reducible] def ruA (I:∀{α:Type},α->α) (r:Ru):AV:=⟨.agg,[.lit (.int .i64 (I r.k)),.lit (.int .i64 (I r.p.k)),.lit (.int .i64 (I r.p.n)),.lit (.string (I r.p.s)),.ro true (I (r.p.l.map Ex.t)),.ro true (I (r.a.map Sm.t))]⟩
@[simp,reducible] def fuA (I:∀{α:Type},α->α) (f:Fu):AV:=⟨.agg,[.lit (.string (I f.name)),.ro true (I (f.params.map strT)),.ro true (I (f.a.map Sm.t))]⟩
theorem yT1 (l:List ByteArray) (i:Nat):xM0 (l.take i)<=xM0 l:=by
 have h1:=congrArg xM0 (List.take_append_drop i l);rw[YG0] at h1;omega
theorem TC0 (hI:II @I) (l:List ByteArray) (hl:l.length<=maxLen) (hs:∀s∈l,s.size<=maxLen):SzI @I 134 ⟨.one,[.ro true (I (l.map strT))]⟩ (l.length+xM0 l):=by
 intro left hlf;have q:=zH0 (l.length+xM0 l) left;have hl2:=hlf;unfold qW0 at hl2;refine qN hI tyK Tryz.func134 28 [.tmp 4] ?_;unhygienic intros
 have e1:=gL0 hI hO (n:=l.length) hlf hl
 dsimp only at e1
 have e2:=e1;simp only[hI.e] at e2;refine qB 0 ?_
 repeat' first|refine qA 0 ?_|refine qJ (nN []) ?_|refine qp ?_ ?_|refine qk (fun h=>?_) fun h=>?_|fail
 ·exact hR _ _ ⟨liI hI omI,rfl⟩
 try simp only[e2] at *
 clear e1 e2;refine qLf 0 [0,1,5] kk0 (fun i:Nat=>⟨vag 28 [(0,⟨.one,[.ro true (I (l.map strT))]⟩),(1,litI (I (left - Int.ofNat l.length - Int.ofNat (xM0 (l.take i))))),(5,litI (Int.ofNat (I i)))],[],1⟩) (fun i=>i<=l.length/\0<=left - Int.ofNat l.length - Int.ofNat (xM0 (l.take i))) (fun i=>l.length - i) ?_ fun i hi=>?_
 ·cbv
  exact ⟨0,by simp[hI.e,xM0];rfl,by omega,by simp only[xM0,List.take_zero,List.map_nil,List.sum_nil] at *;exact omI⟩
 have hmax:maxLen<=9223372036854775807:=by decide
 have q3:=yT1 l (i+1);have hi1:=hi.1;have hi2:=hi.2
 by_cases hii:i < l.length
 ·have b:xM0 (l.take (i+1))=xM0 (l.take i)+(l[i]!).size:=by rw[yP0 hii,YG0,JT0]
  have e1:=gL0 hI hO (m:=left - Int.ofNat l.length - Int.ofNat (xM0 (l.take i))) (n:=(l[i]!).size) ⟨hi.2,omI⟩ (hs _ (zB0 hii))
  dsimp only at e1
  have x1:=e1;simp only[hI.e] at x1;refine qB 0 ?_
  repeat' first|refine qA 0 ?_|refine qJ (nN []) ?_|refine qp ?_ ?_|refine qk (fun h=>?_) fun h=>?_|fail
  ·exact hR _ _ ⟨liI hI (by (try simp only[hI.e] at *);(try simp only[x1] at *);exact omI),rfl⟩
  ·have e:left - Int.ofNat l.length - Int.ofNat (xM0 (l.take i)) - Int.ofNat (l[i]!).size=left - Int.ofNat l.length - Int.ofNat (xM0 (l.take (i+1))):=by (try simp only[hI.e] at *);(try simp only[x1] at *);exact omI
   refine ⟨i+1,by (try simp only[A.reset,hI.e]);(try rw[x1]);rw[e];rfl,⟨by omega,?_⟩,by omega⟩
   (try simp only[hI.e] at *);(try simp only[x1] at *);exact omI
  ·exact absurd hii ‹_›
 ·have ht:l.take i=l:=List.take_of_length_le (by omega)
  refine qB 0 ?_
  repeat' first|refine qA 0 ?_|refine qJ (nN []) ?_|refine qp ?_ ?_|refine qk (fun h=>?_) fun h=>?_|fail
  all_goals first
   | exact absurd ‹_› hii
   | (rw[ht] at hi |-;have hi2:=hi.2;exact hR _ _ ⟨liI hI omI,rfl⟩)
theorem gX0 (hI:II @I) (l:List ByteArray) (hl:l.length<=1048576):EqOk 167 ⟨.one,[.ro true (I (l.map strT))]⟩:=by
 refine qN hI tyK Tryz.func167 26 [.tmp 4] ?_;unhygienic intros
 refine qB 0 ?_
 repeat' first|refine qA 0 ?_|refine qJ (nN []) ?_|refine qp ?_ ?_|refine qk (fun h=>?_) fun h=>?_|fail
 ·exact absurd rfl ‹_›
 refine qLf 0 [0,1,5] kk0 (fun i:Nat=>⟨vag 26 [(0,⟨.one,[.ro true (I (l.map strT))]⟩),(1,⟨.one,[.ro true (I (l.map strT))]⟩),(5,litI (Int.ofNat (I i)))],[],1⟩) (fun i=>i<=l.length) (fun i=>l.length - i) ?_ fun i hi=>?_
 ·cbv
  exact ⟨0,by simp[hI.e];rfl,by omega⟩
 refine qB 0 ?_
 repeat' first|refine qA 0 ?_|refine qJ (nN []) ?_|refine qp ?_ ?_|refine qk (fun h=>?_) fun h=>?_|fail
 ·exact absurd rfl ‹_›
 ·exact ⟨i+1,by (try simp only[A.reset,zD0,hI.e,List.append_assoc,Bool.or_false,zC0]);rfl,by omega,by omega⟩
 ·exact hR _ _ ⟨rfl,rfl⟩
theorem gU0 (hI:II @I) (l:List ByteArray) (hl:l.length<=1048576):ACl Tryz.prog 143 [⟨.one,[.ro true (I (l.map strT))]⟩] [] (fun res bx=>res=⟨.one,[.ow (0,0) true 1 (I (l.map strT))]⟩/\bx=[]):=by
 refine qN hI tyK Tryz.func143 22 [.tmp 2] ?_;unhygienic intros
 have hm:mOk 16 (Int.ofNat (I l.length)) (Int.ofNat (I l.length)):=by rw[hI.e];exact XC0 hO ⟨by simp,by simp,by simp;omega,by simp;omega⟩
 refine qB 0 ?_
 repeat' first|refine qA 0 ?_|refine qJ (nN []) ?_|refine qp ?_ ?_|refine qk (fun h=>?_) fun h=>?_|fail
 refine qLf 0 [0,3,4] (kkS 3 1001) (fun a:Nat×List (List T)=>⟨vag 22 [(0,⟨.one,[.ro true (I (l.map strT))]⟩),(3,⟨.one,[.ow (0,0) true 1 (I a.2)]⟩),(4,litI (Int.ofNat (I a.1)))],[],1⟩) (fun a=>a.1<=l.length/\a.2.length=l.length/\(∀e∈a.2,e.length=1)/\a.2.take a.1=(l.map strT).take a.1) (fun a=>l.length - a.1) ?_ fun a ha=>?_
 ·cbv
  refine ⟨(0,repl (nat (Int.ofNat (I l.length))) [.lit (.string ⟨⟨[]⟩⟩)]),by simp only[hI.e];rfl,by omega,?_,?_,by simp⟩
  ·rw[hI.e];cases hO;simp[Ops.std]
  ·rw[hI.e];cases hO;simp[Ops.std]
 obtain ⟨i,outs⟩:=a;obtain ⟨hi,hlen,hk,ht⟩:=ha;simp only at hi hlen hk ht |-
 by_cases hh:i < l.length
 ·have n1:idx (Int.ofNat (I i)) (len (I outs)):=by rw[hI.e,hI.e];cases hO;show (0:Int)<=_/\_ < _;simp[Ops.std];omega
  have n2:one (I outs) (nadd 0 (nat (Int.ofNat (I i)))) 1:=by rw[hI.e,hI.e];cases hO;exact jH0 hk (by simp[Ops.std];omega)
  refine qB 0 ?_
  repeat' first|refine qA 0 ?_|refine qJ (nN []) ?_|refine qp ?_ ?_|refine qk (fun h=>?_) fun h=>?_|fail
  ·refine ⟨(i+1,set (I outs) (nadd 0 (nat (Int.ofNat (I i)))) (strT l[i]!)),?_,?_⟩
   ·simp only[A.reset,hI.e];rfl
   have hx:(l.map strT)[i]?=some (strT l[i]!):=by simp[hh]
   have hst:=qK0 (els:=l.map strT) (outs:=outs) (x:=strT l[i]!) (by simpa using hh) (by simpa using hlen) ht hx
   have e:set (I outs) (nadd 0 (nat (Int.ofNat (I i)))) (strT l[i]!)=outs.set i (strT l[i]!):=by rw[hI.e,hI.e];cases hO;simp[Ops.std]
   simp only[e];refine ⟨⟨by omega,by rw[hst.1];simp,fun y hy=>?_,hst.2⟩,by omega⟩
   rcases List.mem_or_eq_of_mem_set hy with hy | rfl
   ·exact hk y hy
   ·exact rfl
  ·exact absurd hh ‹_›
 ·refine qB 0 ?_
  repeat' first|refine qA 0 ?_|refine qJ (nN []) ?_|refine qp ?_ ?_|refine qk (fun h=>?_) fun h=>?_|fail
  ·exact absurd ‹_› hh
  ·have hil:i=l.length:=by omega
   have ho:outs=l.map strT:=by rw[hil] at ht;rw[List.take_of_length_le (by omega),List.take_of_length_le (by simp)] at ht;exact ht
   exact hR _ _ ⟨by rw[ho],rfl⟩
theorem TD0 (hI:II @I) (e:Sm) (hs0:e.s.size<=maxLen) (hs1:e.tt.size<=maxLen) (ih2:SzI @I 69 ⟨.one,[.ro true (I (e.x.map Ex.t))]⟩ (e.x.length+Ex.szs e.x)) (ih3:SzI @I 7 ⟨.one,[.ro true (I (e.a.map Sm.t))]⟩ (e.a.length+Sm.szs e.a)) (ih4:SzI @I 7 ⟨.one,[.ro true (I (e.b.map Sm.t))]⟩ (e.b.length+Sm.szs e.b)):SzI @I 29 (sA @I e) e.sz:=by
 intro left hl;have hz:e.sz=e.s.size+e.tt.size+(e.x.length+Ex.szs e.x)+(e.a.length+Sm.szs e.a)+(e.b.length+Sm.szs e.b):=by cases e;rw[Sm.sz];simp only[Nat.add_assoc];rfl
 have q:=zH0 e.sz left;have hl2:=hl;unfold qW0 at hl2;have q2:=zH0 (e.x.length+Ex.szs e.x) (left - Int.ofNat e.s.size - Int.ofNat e.tt.size);have q3:=zH0 (e.a.length+Sm.szs e.a) (szF (e.x.length+Ex.szs e.x) (left - Int.ofNat e.s.size - Int.ofNat e.tt.size));have q4:=zH0 (e.b.length+Sm.szs e.b) (szF (e.a.length+Sm.szs e.a) (szF (e.x.length+Ex.szs e.x) (left - Int.ofNat e.s.size - Int.ofNat e.tt.size)))
 have c3:=fun (h:¬left - Int.ofNat e.s.size - Int.ofNat e.tt.size < 0)=>ih2 (left - Int.ofNat e.s.size - Int.ofNat e.tt.size) ⟨by omega,omI⟩
 have c4:=fun (h:¬szF (e.x.length+Ex.szs e.x) (left - Int.ofNat e.s.size - Int.ofNat e.tt.size) < 0)=>ih3 (szF (e.x.length+Ex.szs e.x) (left - Int.ofNat e.s.size - Int.ofNat e.tt.size)) ⟨by omega,omI⟩
 have c5:=fun (h:¬szF (e.a.length+Sm.szs e.a) (szF (e.x.length+Ex.szs e.x) (left - Int.ofNat e.s.size - Int.ofNat e.tt.size)) < 0)=>ih4 (szF (e.a.length+Sm.szs e.a) (szF (e.x.length+Ex.szs e.x) (left - Int.ofNat e.s.size - Int.ofNat e.tt.size))) ⟨by omega,omI⟩
 refine qN hI tyK Tryz.func29 38 [.tmp 4] ?_;unhygienic intros
 have e1:=gL0 hI hO (m:=left) (n:=e.s.size) hl hs0
 dsimp only at e1
 have x1:=e1;simp only[hI.e] at x1
 by_cases g1:left - Int.ofNat e.s.size < 0
 ·refine qB 0 ?_
  repeat' first|refine qA 0 ?_|refine qJ (nN []) ?_|refine qp ?_ ?_|refine qk (fun h=>?_) fun h=>?_|fail
  all_goals first
   | exact hR _ _ ⟨liI hI (by (try simp only[hI.e] at *);(try simp only[x1] at *);exact omI),rfl⟩
   | (exfalso;(try simp only[hI.e] at *);(try simp only[x1] at *);exact omI)
 have e2:=gL0 hI hO (m:=left - Int.ofNat e.s.size) (n:=e.tt.size) ⟨by omega,omI⟩ hs1
 dsimp only at e2
 have x2:=e2;simp only[hI.e] at x2;refine qB 0 ?_
 repeat' first|refine qA 0 ?_|refine qJ (nN []) ?_|refine qp ?_ ?_|refine qk (fun h=>?_) fun h=>?_|fail
 all_goals first
  | exact hR _ _ ⟨liI hI (by (try simp only[hI.e] at *);(try simp only[x1,x2] at *);exact omI),rfl⟩
  | (exfalso;(try simp only[hI.e] at *);(try simp only[x1,x2] at *);exact omI)
theorem TT0 (hI:II @I) (e:Sm) (c1:EqOk 94 ⟨.one,[.ro true (I (e.x.map Ex.t))]⟩) (c2:EqOk 14 ⟨.one,[.ro true (I (e.a.map Sm.t))]⟩) (c3:EqOk 14 ⟨.one,[.ro true (I (e.b.map Sm.t))]⟩):EqOk 45 (sA @I e):=by
 refine qN hI tyK Tryz.func45 38 [.tmp 4] ?_;unhygienic intros
 refine qB 0 ?_
 repeat' first|refine qA 0 ?_|refine qJ (nN []) ?_|refine qp ?_ ?_|refine qk (fun h=>?_) fun h=>?_|fail
 all_goals first
  | contradiction
  | exact absurd rfl ‹_›
  | exact hR _ _ ⟨rfl,rfl⟩
theorem UX0 (hI:II @I) (e:Sm) (c1:ACl Tryz.prog 75 [⟨.one,[.ro true (I (e.x.map Ex.t))]⟩] [] (fun res bx=>res=⟨.one,[.ow (0,0) true 4 (I (e.x.map Ex.o))]⟩/\bx=[])) (c2:ACl Tryz.prog 10 [⟨.one,[.ro true (I (e.a.map Sm.t))]⟩] [] (fun res bx=>res=⟨.one,[.ow (0,0) true 6 (I (e.a.map Sm.o))]⟩/\bx=[])) (c3:ACl Tryz.prog 10 [⟨.one,[.ro true (I (e.b.map Sm.t))]⟩] [] (fun res bx=>res=⟨.one,[.ow (0,0) true 6 (I (e.b.map Sm.o))]⟩/\bx=[])):ACl Tryz.prog 36 [sA @I e] [] (fun res bx=>res=⟨.agg,[.lit (.int .i64 (I e.k)),.lit (.string (I e.s)),.lit (.string (I e.tt)),.ow (0,0) true 4 (I (e.x.map Ex.o)),.ow (0,0) true 6 (I (e.a.map Sm.o)),.ow (0,0) true 6 (I (e.b.map Sm.o))]⟩/\bx=[]):=by
 refine qN hI tyK Tryz.func36 26 [.cell 2 77] ?_;unhygienic intros
 refine qB 0 ?_
 repeat' first|refine qA 0 ?_|refine qJ (nN []) ?_|refine qp ?_ ?_|refine qk (fun h=>?_) fun h=>?_|fail
 exact hR _ _ ⟨rfl,rfl⟩
theorem tH0 (hI:II @I) (l:List Sm) (hl:l.length<=maxLen) (ih:∀e∈l,SzI @I 29 (sA @I e) e.sz):SzI @I 7 ⟨.one,[.ro true (I (l.map Sm.t))]⟩ (l.length+Sm.szs l):=by
 intro left hlf;have q:=zH0 (l.length+Sm.szs l) left;refine qN hI tyK Tryz.func7 27 [.tmp 4] ?_;unhygienic intros
 have e1:=gL0 hI hO (n:=l.length) hlf hl
 dsimp only at e1
 have e2:=e1;simp only[hI.e] at e2;refine qB 0 ?_
 repeat' first|refine qA 0 ?_|refine qJ (nN []) ?_|refine qp ?_ ?_|refine qk (fun h=>?_) fun h=>?_|fail
 ·exact hR _ _ ⟨liI hI omI,rfl⟩
 try simp only[e2] at *
 clear e1 e2;refine qLf 0 [0,1,5] kk0 (fun i:Nat=>⟨vag 27 [(0,⟨.one,[.ro true (I (l.map Sm.t))]⟩),(1,litI (I (left - Int.ofNat l.length - Int.ofNat (Sm.szs (l.take i))))),(5,litI (Int.ofNat (I i)))],[],1⟩) (fun i=>i<=l.length/\0<=left - Int.ofNat l.length - Int.ofNat (Sm.szs (l.take i))) (fun i=>l.length - i) ?_ fun i hi=>?_
 ·cbv
  exact ⟨0,by simp[hI.e,Sm.szs];rfl,by omega,by simp only[Sm.szs,List.take_zero,List.map_nil,List.sum_nil] at *;exact omI⟩
 have c1:=fun (hh:i < l.length)=>ih _ (zB0 hh) (left - Int.ofNat l.length - Int.ofNat (Sm.szs (l.take i))) ⟨hi.2,by unfold qW0 at hlf;exact omI⟩
 have q1:=fun (hh:i < l.length)=>zH0 (l[i]!).sz (left - Int.ofNat l.length - Int.ofNat (Sm.szs (l.take i)));have q2:=fun (hh:i < l.length)=>show Sm.szs (l.take (i+1))=Sm.szs (l.take i)+(l[i]!).sz by rw[yP0 hh,Sm.szs_app,Sm.szs_one]
 have hmax:maxLen<=9223372036854775807:=by decide
 have q3:Sm.szs (l.take (i+1))<=Sm.szs l:=by
  have h1:=congrArg Sm.szs (List.take_append_drop (i+1) l);rw[Sm.szs_app] at h1;omega
 refine qB 0 ?_
 repeat' first|refine qA 0 ?_|refine qJ (nN []) ?_|refine qp ?_ ?_|refine qk (fun h=>?_) fun h=>?_|fail
 ·have a:=q1 ‹_›
  have b:=q2 ‹_›;exact hR _ _ ⟨liI hI omI,rfl⟩
 ·have hii:i < l.length:=‹_›
  have a:=q1 hii;have b:=q2 hii;have e:szF (l[i]!).sz (left - Int.ofNat l.length - Int.ofNat (Sm.szs (l.take i)))=left - Int.ofNat l.length - Int.ofNat (Sm.szs (l.take (i+1))):=omI;refine ⟨i+1,by rw[e];(try simp only[A.reset,hI.e]);rfl,⟨by omega,?_⟩,by omega⟩
  exact omI
 ·have ht:l.take i=l:=List.take_of_length_le (by omega)
  rw[ht] at hi |-;exact hR _ _ ⟨liI hI omI,rfl⟩
theorem tK0 (hI:II @I) (l:List Sm) (hl:l.length<=1048576) (ih:∀e∈l,EqOk 45 (sA @I e)):EqOk 14 ⟨.one,[.ro true (I (l.map Sm.t))]⟩:=by
 refine qN hI tyK Tryz.func14 27 [.tmp 4] ?_;unhygienic intros
 refine qB 0 ?_
 repeat' first|refine qA 0 ?_|refine qJ (nN []) ?_|refine qp ?_ ?_|refine qk (fun h=>?_) fun h=>?_|fail
 ·exact absurd rfl ‹_›
 refine qLf 0 [0,1,5] kk0 (fun i:Nat=>⟨vag 27 [(0,⟨.one,[.ro true (I (l.map Sm.t))]⟩),(1,⟨.one,[.ro true (I (l.map Sm.t))]⟩),(5,litI (Int.ofNat (I i)))],[],1⟩) (fun i=>i<=l.length) (fun i=>l.length - i) ?_ fun i hi=>?_
 ·cbv
  exact ⟨0,by simp[hI.e];rfl,by omega⟩
 have c1:=fun (hh:i < l.length)=>ih _ (zB0 hh);refine qB 0 ?_
 repeat' first|refine qA 0 ?_|refine qJ (nN []) ?_|refine qp ?_ ?_|refine qk (fun h=>?_) fun h=>?_|fail
 ·exact ⟨i+1,by (try simp only[A.reset,zD0,hI.e,List.append_assoc,Bool.or_false,zC0]);rfl,by omega,by omega⟩
 ·exact hR _ _ ⟨rfl,rfl⟩
theorem tG0 (hI:II @I) (l:List Sm) (hl:l.length<=1048576) (ih:∀e∈l,ACl Tryz.prog 36 [sA @I e] [] (fun res bx=>res=⟨.agg,[.lit (.int .i64 (I e.k)),.lit (.string (I e.s)),.lit (.string (I e.tt)),.ow (0,0) true 4 (I (e.x.map Ex.o)),.ow (0,0) true 6 (I (e.a.map Sm.o)),.ow (0,0) true 6 (I (e.b.map Sm.o))]⟩/\bx=[])):ACl Tryz.prog 10 [⟨.one,[.ro true (I (l.map Sm.t))]⟩] [] (fun res bx=>res=⟨.one,[.ow (0,0) true 6 (I (l.map Sm.o))]⟩/\bx=[]):=by
 refine qN hI tyK Tryz.func10 23 [.tmp 2] ?_;unhygienic intros
 have hm:mOk 112 (Int.ofNat (I l.length)) (Int.ofNat (I l.length)):=by rw[hI.e];exact XC0 hO ⟨by simp,by simp,by simp;omega,by simp;omega⟩
 refine qB 0 ?_
 repeat' first|refine qA 0 ?_|refine qJ (nN []) ?_|refine qp ?_ ?_|refine qk (fun h=>?_) fun h=>?_|fail
 refine qLf 0 [0,3,4] (kkS 3 1006) (fun a:Nat×List (List T)=>⟨vag 23 [(0,⟨.one,[.ro true (I (l.map Sm.t))]⟩),(3,⟨.one,[.ow (0,0) true 6 (I a.2)]⟩),(4,litI (Int.ofNat (I a.1)))],[],1⟩) (fun a=>a.1<=l.length/\a.2.length=l.length/\(∀e∈a.2,e.length=6)/\a.2.take a.1=(l.map Sm.o).take a.1) (fun a=>l.length - a.1) ?_ fun a ha=>?_
 ·cbv
  refine ⟨(0,repl (nat (Int.ofNat (I l.length))) [.lit (.int .i64 0),.lit (.string ⟨⟨[]⟩⟩),.lit (.string ⟨⟨[]⟩⟩),.sl [],.sl [],.sl []]),by simp only[hI.e];rfl,by omega,?_,?_,by simp⟩
  ·rw[hI.e];cases hO;simp[Ops.std]
  ·rw[hI.e];cases hO;simp[Ops.std]
 obtain ⟨i,outs⟩:=a;obtain ⟨hi,hlen,hk,ht⟩:=ha;simp only at hi hlen hk ht |-
 by_cases hh:i < l.length
 ·have c1:=ih _ (zB0 hh)
  have n1:idx (Int.ofNat (I i)) (len (I outs)):=by rw[hI.e,hI.e];cases hO;show (0:Int)<=_/\_ < _;simp[Ops.std];omega
  have n2:one (I outs) (nadd 0 (nat (Int.ofNat (I i)))) 6:=by rw[hI.e,hI.e];cases hO;exact jH0 hk (by simp[Ops.std];omega)
  refine qB 0 ?_
  repeat' first|refine qA 0 ?_|refine qJ (nN []) ?_|refine qp ?_ ?_|refine qk (fun h=>?_) fun h=>?_|fail
  ·refine ⟨(i+1,set (I outs) (nadd 0 (nat (Int.ofNat (I i)))) ((l[i]!).o)),?_,?_⟩
   ·rw[Sm.o_eq];simp only[A.reset,hI.e];rfl
   have hx:(l.map Sm.o)[i]?=some ((l[i]!).o):=by simp[hh]
   have hst:=qK0 (els:=l.map Sm.o) (outs:=outs) (x:=(l[i]!).o) (by simpa using hh) (by simpa using hlen) ht hx
   have e:set (I outs) (nadd 0 (nat (Int.ofNat (I i)))) ((l[i]!).o)=outs.set i ((l[i]!).o):=by rw[hI.e,hI.e];cases hO;simp[Ops.std]
   simp only[e];refine ⟨⟨by omega,by rw[hst.1];simp,fun y hy=>?_,hst.2⟩,by omega⟩
   rcases List.mem_or_eq_of_mem_set hy with hy | rfl
   ·exact hk y hy
   ·exact Sm.o_len _
  ·exact absurd hh ‹_›
 ·refine qB 0 ?_
  repeat' first|refine qA 0 ?_|refine qJ (nN []) ?_|refine qp ?_ ?_|refine qk (fun h=>?_) fun h=>?_|fail
  ·exact absurd ‹_› hh
  ·have hil:i=l.length:=by omega
   have ho:outs=l.map Sm.o:=by rw[hil] at ht;rw[List.take_of_length_le (by omega),List.take_of_length_le (by simp)] at ht;exact ht
   exact hR _ _ ⟨by rw[ho],rfl⟩
end Go.Gv
