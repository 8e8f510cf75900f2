/- Part PS1 of the proof: contracts of functions of the program, each walked once. -/
import Derived.Test.YtnmkmfancgcaeaaGreatDoorPR1
import Derived.Test.YtnmkmfancgcaeaaGreatDoorPN5
set_option linter.all false
namespace Go.Gv
open Go.Av Go.Proofs
set_option maxRecDepth 10000
set_option maxHeartbeats 8000000
variable {I:∀{α:Type},α->α}
theorem wY1 (n:Nat):(@NatCast.natCast Int instNatCastInt n)=Int.ofNat n:=rfl
theorem omI {Q:Prop} (t:Q:=by (try simp only[hI.e] at *);(try simp only[e2] at *);(try simp only[wY1] at *);(try simp only[Int.ofNat_eq_natCast] at *);omega):Q:=t
def szF (s:Nat) (left:Int):Int:=if left < s then -1 else left - s
theorem zJ0 (s:Nat) (left:Int):((s:Int)<=left/\szF s left=left - s)\/(left < s/\szF s left=-1):=by unfold szF;split<;>omega
abbrev SzI (I:∀{α:Type},α->α) (f:FuncId) (a:AV) (s:Nat):Prop:=∀left:Int,rZ0 left->ACl Tryz.prog f [a,litI (I left)] [] (fun res bx=>res=litI (I (szF s left))/\bx=[])
theorem jW0 (hI:II @I) {O:Ops} (hO:O=Ops.std) {m:Int} {n:Nat} (h:rZ0 m) (hn:n<=maxLen):O.bin .sub .i64 (I m) (Int.ofNat (I n))=I (m - Int.ofNat n):=by rw[hI.e,hI.e,hI.e];exact wJ1 hO h hn
theorem WX0 (hI:II @I) (e:Ex) (hs:e.s.size<=maxLen) (ih:SzI @I 19 ⟨.one,[.ro true (I (e.l.map Ex.t))]⟩ (e.l.length+Ex.szs e.l)):SzI @I 5 (eA @I e) e.sz:=by
 intro left hl;have hz:e.sz=e.s.size+(e.l.length+Ex.szs e.l):=by cases e;rw[Ex.sz,Nat.add_assoc];rfl
 have q:=zJ0 e.sz left;have q1:=zJ0 (e.l.length+Ex.szs e.l) (left - Int.ofNat e.s.size);have c1:=fun (h:¬left - Int.ofNat e.s.size < 0)=>ih (left - Int.ofNat e.s.size) ⟨by omega,by unfold rZ0 at hl;exact omI⟩
 refine qN hI tyK Tryz.func5 19 [.tmp 4] ?_;unhygienic intros
 have e1:=jW0 hI hO (n:=e.s.size) hl hs
 dsimp only at e1
 have e2:=e1;simp only[hI.e] at e2;refine qB 0 ?_
 repeat' first|refine qA 0 ?_|refine qJ (nN []) ?_|refine qp ?_ ?_|refine qk (fun h=>?_) fun h=>?_|fail
 all_goals exact hR _ _ ⟨liI hI omI,rfl⟩
theorem wH1 (l:List Ex) (i:Nat):Ex.szs (l.take i)<=Ex.szs l:=by
 have h1:=congrArg Ex.szs (List.take_append_drop i l);rw[Ex.szs_app] at h1;omega
theorem pV0 (hI:II @I) (l:List Ex) (hl:l.length<=maxLen) (ih:∀e∈l,SzI @I 5 (eA @I e) e.sz):SzI @I 19 ⟨.one,[.ro true (I (l.map Ex.t))]⟩ (l.length+Ex.szs l):=by
 intro left hlf;have q:=zJ0 (l.length+Ex.szs l) left;refine qN hI tyK Tryz.func19 27 [.tmp 4] ?_;unhygienic intros
 have e1:=jW0 hI hO (n:=l.length) hlf hl
 dsimp only at e1
 have e2:=e1;simp only[hI.e] at e2;refine qB 0 ?_
 repeat' first|refine qA 0 ?_|refine qJ (nN []) ?_|refine qp ?_ ?_|refine qk (fun h=>?_) fun h=>?_|fail
 ·exact hR _ _ ⟨liI hI omI,rfl⟩
 try simp only[e2] at *
 clear e1 e2;refine qLf 0 [0,1,5] kk0 (fun i:Nat=>⟨vag 27 [(0,⟨.one,[.ro true (I (l.map Ex.t))]⟩),(1,litI (I (left - Int.ofNat l.length - Int.ofNat (Ex.szs (l.take i))))),(5,litI (Int.ofNat (I i)))],[],1⟩) (fun i=>i<=l.length/\0<=left - Int.ofNat l.length - Int.ofNat (Ex.szs (l.take i))) (fun i=>l.length - i) ?_ fun i hi=>?_
 ·cbv
  exact ⟨0,by simp[hI.e,Ex.szs];rfl,by omega,by simp only[Ex.szs,List.take_zero] at *;exact omI⟩
 have c1:=fun (hh:i < l.length)=>ih _ (zB0 hh) (left - Int.ofNat l.length - Int.ofNat (Ex.szs (l.take i))) ⟨hi.2,by unfold rZ0 at hlf;exact omI⟩
 have q1:=fun (hh:i < l.length)=>zJ0 (l[i]!).sz (left - Int.ofNat l.length - Int.ofNat (Ex.szs (l.take i)));have q2:=fun (hh:i < l.length)=>show Ex.szs (l.take (i+1))=Ex.szs (l.take i)+(l[i]!).sz by rw[zU0 hh,Ex.szs_app,Ex.szs_one]
 have hmax:maxLen<=9223372036854775807:=by decide
 have q3:=wH1 l (i+1);refine qB 0 ?_
 repeat' first|refine qA 0 ?_|refine qJ (nN []) ?_|refine qp ?_ ?_|refine qk (fun h=>?_) fun h=>?_|fail
 ·have a:=q1 ‹_›
  have b:=q2 ‹_›;exact hR _ _ ⟨liI hI omI,rfl⟩
 ·have hii:i < l.length:=‹_›
  have a:=q1 hii;have b:=q2 hii;have e:szF (l[i]!).sz (left - Int.ofNat l.length - Int.ofNat (Ex.szs (l.take i)))=left - Int.ofNat l.length - Int.ofNat (Ex.szs (l.take (i+1))):=omI;refine ⟨i+1,by rw[e];(try simp only[A.reset,hI.e]);rfl,⟨by omega,?_⟩,by omega⟩
  exact omI
 ·have ht:l.take i=l:=List.take_of_length_le (by omega)
  rw[ht] at hi |-;exact hR _ _ ⟨liI hI omI,rfl⟩
variable {I:∀{α:Type},α->α}
theorem kC0 {els:List (List T)} {i k:Nat} (hk:∀e∈els,e.length=k) (h:i < els.length):Ops.std.one els i k:=by
 refine ⟨h,?_⟩;rw[List.getD_eq_getElem?_getD,List.getElem?_eq_getElem h];exact hk _ (List.getElem_mem h)
theorem VJ0 (hI:II @I) (e:Ex) (ih:EqOk 27 ⟨.one,[.ro true (I (e.l.map Ex.t))]⟩):EqOk 9 (eA @I e):=by
 have c1:=ih;refine qN hI tyK Tryz.func9 26 [.tmp 4] ?_;unhygienic intros
 refine qB 0 ?_
 repeat' first|refine qA 0 ?_|refine qJ (nN []) ?_|refine qp ?_ ?_|refine qk (fun h=>?_) fun h=>?_|fail
 all_goals first
  | contradiction
  | exact absurd rfl ‹_›
  | exact hR _ _ ⟨rfl,rfl⟩
  | skip
theorem pX0 (hI:II @I) (l:List Ex) (hl:l.length<=1048576) (ih:∀e∈l,EqOk 9 (eA @I e)):EqOk 27 ⟨.one,[.ro true (I (l.map Ex.t))]⟩:=by
 refine qN hI tyK Tryz.func27 27 [.tmp 4] ?_;unhygienic intros
 refine qB 0 ?_
 repeat' first|refine qA 0 ?_|refine qJ (nN []) ?_|refine qp ?_ ?_|refine qk (fun h=>?_) fun h=>?_|fail
 ·exact absurd rfl ‹_›
 refine qLf 0 [0,1,5] kk0 (fun i:Nat=>⟨vag 27 [(0,⟨.one,[.ro true (I (l.map Ex.t))]⟩),(1,⟨.one,[.ro true (I (l.map Ex.t))]⟩),(5,litI (Int.ofNat (I i)))],[],1⟩) (fun i=>i<=l.length) (fun i=>l.length - i) ?_ fun i hi=>?_
 ·cbv
  exact ⟨0,by simp[hI.e];rfl,by omega⟩
 have c1:=fun (hh:i < l.length)=>ih _ (zB0 hh);refine qB 0 ?_
 repeat' first|refine qA 0 ?_|refine qJ (nN []) ?_|refine qp ?_ ?_|refine qk (fun h=>?_) fun h=>?_|fail
 ·exact ⟨i+1,by (try simp only[A.reset,wE0,hI.e,List.append_assoc,Bool.or_false,wC0]);rfl,by omega,by omega⟩
 ·exact hR _ _ ⟨rfl,rfl⟩
theorem WR0 (hI:II @I) (e:Ex) (ih:ACl Tryz.prog 23 [⟨.one,[.ro true (I (e.l.map Ex.t))]⟩] [] (fun res bx=>res=⟨.one,[.ow (0,0) true 4 (I (e.l.map Ex.o))]⟩/\bx=[])):ACl Tryz.prog 7 [eA @I e] [] (fun res bx=>res=⟨.agg,[.lit (.int .i64 (I e.k)),.lit (.int .i64 (I e.n)),.lit (.string (I e.s)),.ow (0,0) true 4 (I (e.l.map Ex.o))]⟩/\bx=[]):=by
 have c1:=ih;refine qN hI tyK Tryz.func7 18 [.cell 2 28] ?_;unhygienic intros
 refine qB 0 ?_
 repeat' first|refine qA 0 ?_|refine qJ (nN []) ?_|refine qp ?_ ?_|refine qk (fun h=>?_) fun h=>?_|fail
 exact hR _ _ ⟨rfl,rfl⟩
theorem pU0 (hI:II @I) (l:List Ex) (hl:l.length<=1048576) (ih:∀e∈l,ACl Tryz.prog 7 [eA @I e] [] (fun res bx=>res=⟨.agg,[.lit (.int .i64 (I e.k)),.lit (.int .i64 (I e.n)),.lit (.string (I e.s)),.ow (0,0) true 4 (I (e.l.map Ex.o))]⟩/\bx=[])) :
  ACl Tryz.prog 23 [⟨.one,[.ro true (I (l.map Ex.t))]⟩] [] (fun res bx=>res=⟨.one,[.ow (0,0) true 4 (I (l.map Ex.o))]⟩/\bx=[]):=by
 refine qN hI tyK Tryz.func23 23 [.tmp 2] ?_;unhygienic intros
 have hm:mOk 56 (Int.ofNat (I l.length)) (Int.ofNat (I l.length)):=by rw[hI.e];exact bX0 hO ⟨by simp,by simp,by simp;omega,by simp;omega⟩
 refine qB 0 ?_
 repeat' first|refine qA 0 ?_|refine qJ (nN []) ?_|refine qp ?_ ?_|refine qk (fun h=>?_) fun h=>?_|fail
 refine qLf 0 [0,3,4] (kkS 3 1004) (fun a:Nat×List (List T)=>⟨vag 23 [(0,⟨.one,[.ro true (I (l.map Ex.t))]⟩),(3,⟨.one,[.ow (0,0) true 4 (I a.2)]⟩),(4,litI (Int.ofNat (I a.1)))],[],1⟩) (fun a=>a.1<=l.length/\a.2.length=l.length/\(∀e∈a.2,e.length=4)/\a.2.take a.1=(l.map Ex.o).take a.1) (fun a=>l.length - a.1) ?_ fun a ha=>?_
 ·cbv
  refine ⟨(0,repl (nat (Int.ofNat (I l.length))) [.lit (.int .i64 0),.lit (.int .i64 0),.lit (.string ⟨⟨[]⟩⟩),.sl []]),by simp only[hI.e];rfl,by omega,?_,?_,by simp⟩
  ·rw[hI.e];cases hO;simp[Ops.std]
  ·rw[hI.e];cases hO;simp[Ops.std]
 obtain ⟨i,outs⟩:=a;obtain ⟨hi,hlen,hk,ht⟩:=ha;simp only at hi hlen hk ht |-
 by_cases hh:i < l.length
 ·have c1:=ih _ (zB0 hh)
  have n1:idx (Int.ofNat (I i)) (len (I outs)):=by rw[hI.e,hI.e];cases hO;show (0:Int)<=_/\_ < _;simp[Ops.std];omega
  have n2:one (I outs) (nadd 0 (nat (Int.ofNat (I i)))) 4:=by rw[hI.e,hI.e];cases hO;exact kC0 hk (by simp[Ops.std];omega)
  refine qB 0 ?_
  repeat' first|refine qA 0 ?_|refine qJ (nN []) ?_|refine qp ?_ ?_|refine qk (fun h=>?_) fun h=>?_|fail
  ·refine ⟨(i+1,set (I outs) (nadd 0 (nat (Int.ofNat (I i)))) (l[i]!).o),?_,?_⟩
   ·rw[Ex.o_eq];simp only[A.reset,hI.e];rfl
   have hx:(l.map Ex.o)[i]?=some (l[i]!).o:=by simp[hh]
   have hst:=rM0 (els:=l.map Ex.o) (outs:=outs) (x:=(l[i]!).o) (by simpa using hh) (by simpa using hlen) ht hx
   have e:set (I outs) (nadd 0 (nat (Int.ofNat (I i)))) (l[i]!).o=outs.set i (l[i]!).o:=by rw[hI.e,hI.e];cases hO;simp[Ops.std]
   simp only[e];refine ⟨⟨by omega,by rw[hst.1];simp,fun y hy=>?_,hst.2⟩,by omega⟩
   rcases List.mem_or_eq_of_mem_set hy with hy | rfl
   ·exact hk y hy
   ·exact Ex.o_len _
  ·exact absurd hh ‹_›
 ·refine qB 0 ?_
  repeat' first|refine qA 0 ?_|refine qJ (nN []) ?_|refine qp ?_ ?_|refine qk (fun h=>?_) fun h=>?_|fail
  ·exact absurd ‹_› hh
  ·have hil:i=l.length:=by omega
   have ho:outs=l.map Ex.o:=by rw[hil] at ht;rw[List.take_of_length_le (by omega),List.take_of_length_le (by simp)] at ht;exact ht
   exact hR _ _ ⟨by rw[ho],rfl⟩
variable {I:∀{α:Type},α->α}
mutual
def Sm.o:Sm->List T
 | .mk k s t x a b=>[.lit (.int .i64 k),.lit (.string s),.lit (.string t),.own (x.map Ex.o),.own (Sm.os a),.own (Sm.os b)]
def Sm.os:List Sm->List (List T)
 | []=>[]
 | e::l=>Sm.o e::Sm.os l
end
theorem Sm.os_map:∀l,Sm.os l=l.map Sm.o
 | []=>rfl
 | e::l=>by rw[Sm.os,Sm.os_map l];rfl
theorem Sm.o_eq (e:Sm):e.o=[.lit (.int .i64 e.k),.lit (.string e.s),.lit (.string e.tt),.own (e.x.map Ex.o),.own (e.a.map Sm.o),.own (e.b.map Sm.o)]:=by cases e;rw[Sm.o,Sm.os_map,Sm.os_map];rfl
theorem Sm.o_len (e:Sm):e.o.length=6:=by rw[Sm.o_eq];rfl
def Ru.o (e:Ru):List T:=[.lit (.int .i64 e.k),.lit (.int .i64 e.p.k),.lit (.int .i64 e.p.n),.lit (.string e.p.s),.own (e.p.l.map Ex.o),.own (e.a.map Sm.o)]
theorem Ru.o_eq (e:Ru):e.o=[.lit (.int .i64 e.k),.lit (.int .i64 e.p.k),.lit (.int .i64 e.p.n),.lit (.string e.p.s),.own (e.p.l.map Ex.o),.own (e.a.map Sm.o)]:=rfl
theorem Ru.o_len (e:Ru):e.o.length=6:=rfl
def Fu.o (e:Fu):List T:=[.lit (.string e.name),.own (e.params.map strT),.own (e.a.map Sm.o)]
theorem Fu.o_eq (e:Fu):e.o=[.lit (.string e.name),.own (e.params.map strT),.own (e.a.map Sm.o)]:=rfl
theorem Fu.o_len (e:Fu):e.o.length=3:=rfl
@[simp,reducible] def ruA (I:∀{α:Type},α->α) (r:Ru):AV:=⟨.agg,[.lit (.int .i64 (I r.k)),.lit (.int .i64 (I r.p.k)),.lit (.int .i64 (I r.p.n)),.lit (.string (I r.p.s)),.ro true (I (r.p.l.map Ex.t)),.ro true (I (r.a.map Sm.t))]⟩
@[simp,reducible] def fuA (I:∀{α:Type},α->α) (f:Fu):AV:=⟨.agg,[.lit (.string (I f.name)),.ro true (I (f.params.map strT)),.ro true (I (f.a.map Sm.t))]⟩
theorem HQ0 (l:List ByteArray) (i:Nat):xF0 (l.take i)<=xF0 l:=by
 have h1:=congrArg xF0 (List.take_append_drop i l);rw[bF0] at h1;omega
theorem WT0 (hI:II @I) (l:List ByteArray) (hl:l.length<=maxLen) (hs:∀s∈l,s.size<=maxLen):SzI @I 95 ⟨.one,[.ro true (I (l.map strT))]⟩ (l.length+xF0 l):=by
 intro left hlf;have q:=zJ0 (l.length+xF0 l) left;have hl2:=hlf;unfold rZ0 at hl2;refine qN hI tyK Tryz.func95 28 [.tmp 4] ?_;unhygienic intros
 have e1:=jW0 hI hO (n:=l.length) hlf hl
 dsimp only at e1
 have e2:=e1;simp only[hI.e] at e2;refine qB 0 ?_
 repeat' first|refine qA 0 ?_|refine qJ (nN []) ?_|refine qp ?_ ?_|refine qk (fun h=>?_) fun h=>?_|fail
 ·exact hR _ _ ⟨liI hI omI,rfl⟩
 try simp only[e2] at *
 clear e1 e2;refine qLf 0 [0,1,5] kk0 (fun i:Nat=>⟨vag 28 [(0,⟨.one,[.ro true (I (l.map strT))]⟩),(1,litI (I (left - Int.ofNat l.length - Int.ofNat (xF0 (l.take i))))),(5,litI (Int.ofNat (I i)))],[],1⟩) (fun i=>i<=l.length/\0<=left - Int.ofNat l.length - Int.ofNat (xF0 (l.take i))) (fun i=>l.length - i) ?_ fun i hi=>?_
 ·cbv
  exact ⟨0,by simp[hI.e,xF0];rfl,by omega,by simp only[xF0,List.take_zero,List.map_nil,List.sum_nil] at *;exact omI⟩
 have hmax:maxLen<=9223372036854775807:=by decide
 have q3:=HQ0 l (i+1);have hi1:=hi.1;have hi2:=hi.2
 by_cases hii:i < l.length
 ·have b:xF0 (l.take (i+1))=xF0 (l.take i)+(l[i]!).size:=by rw[zU0 hii,bF0,PW0]
  have e1:=jW0 hI hO (m:=left - Int.ofNat l.length - Int.ofNat (xF0 (l.take i))) (n:=(l[i]!).size) ⟨hi.2,omI⟩ (hs _ (zB0 hii))
  dsimp only at e1
  have x1:=e1;simp only[hI.e] at x1;refine qB 0 ?_
  repeat' first|refine qA 0 ?_|refine qJ (nN []) ?_|refine qp ?_ ?_|refine qk (fun h=>?_) fun h=>?_|fail
  ·exact hR _ _ ⟨liI hI (by (try simp only[hI.e] at *);(try simp only[x1] at *);exact omI),rfl⟩
  ·have e:left - Int.ofNat l.length - Int.ofNat (xF0 (l.take i)) - Int.ofNat (l[i]!).size=left - Int.ofNat l.length - Int.ofNat (xF0 (l.take (i+1))):=by (try simp only[hI.e] at *);(try simp only[x1] at *);exact omI
   refine ⟨i+1,by (try simp only[A.reset,hI.e]);(try rw[x1]);rw[e];rfl,⟨by omega,?_⟩,by omega⟩
   (try simp only[hI.e] at *);(try simp only[x1] at *);exact omI
  ·exact absurd hii ‹_›
 ·have ht:l.take i=l:=List.take_of_length_le (by omega)
  refine qB 0 ?_
  repeat' first|refine qA 0 ?_|refine qJ (nN []) ?_|refine qp ?_ ?_|refine qk (fun h=>?_) fun h=>?_|fail
  all_goals first
   | exact absurd ‹_› hii
   | (rw[ht] at hi |-;have hi2:=hi.2;exact hR _ _ ⟨liI hI omI,rfl⟩)
theorem hL0 (hI:II @I) (l:List ByteArray) (hl:l.length<=1048576):EqOk 112 ⟨.one,[.ro true (I (l.map strT))]⟩:=by
 refine qN hI tyK Tryz.func112 26 [.tmp 4] ?_;unhygienic intros
 refine qB 0 ?_
 repeat' first|refine qA 0 ?_|refine qJ (nN []) ?_|refine qp ?_ ?_|refine qk (fun h=>?_) fun h=>?_|fail
 ·exact absurd rfl ‹_›
 refine qLf 0 [0,1,5] kk0 (fun i:Nat=>⟨vag 26 [(0,⟨.one,[.ro true (I (l.map strT))]⟩),(1,⟨.one,[.ro true (I (l.map strT))]⟩),(5,litI (Int.ofNat (I i)))],[],1⟩) (fun i=>i<=l.length) (fun i=>l.length - i) ?_ fun i hi=>?_
 ·cbv
  exact ⟨0,by simp[hI.e];rfl,by omega⟩
 refine qB 0 ?_
 repeat' first|refine qA 0 ?_|refine qJ (nN []) ?_|refine qp ?_ ?_|refine qk (fun h=>?_) fun h=>?_|fail
 ·exact absurd rfl ‹_›
 ·exact ⟨i+1,by (try simp only[A.reset,wE0,hI.e,List.append_assoc,Bool.or_false,wC0]);rfl,by omega,by omega⟩
 ·exact hR _ _ ⟨rfl,rfl⟩
theorem hG0 (hI:II @I) (l:List ByteArray) (hl:l.length<=1048576):ACl Tryz.prog 102 [⟨.one,[.ro true (I (l.map strT))]⟩] [] (fun res bx=>res=⟨.one,[.ow (0,0) true 1 (I (l.map strT))]⟩/\bx=[]):=by
 refine qN hI tyK Tryz.func102 22 [.tmp 2] ?_;unhygienic intros
 have hm:mOk 16 (Int.ofNat (I l.length)) (Int.ofNat (I l.length)):=by rw[hI.e];exact bX0 hO ⟨by simp,by simp,by simp;omega,by simp;omega⟩
 refine qB 0 ?_
 repeat' first|refine qA 0 ?_|refine qJ (nN []) ?_|refine qp ?_ ?_|refine qk (fun h=>?_) fun h=>?_|fail
 refine qLf 0 [0,3,4] (kkS 3 1001) (fun a:Nat×List (List T)=>⟨vag 22 [(0,⟨.one,[.ro true (I (l.map strT))]⟩),(3,⟨.one,[.ow (0,0) true 1 (I a.2)]⟩),(4,litI (Int.ofNat (I a.1)))],[],1⟩) (fun a=>a.1<=l.length/\a.2.length=l.length/\(∀e∈a.2,e.length=1)/\a.2.take a.1=(l.map strT).take a.1) (fun a=>l.length - a.1) ?_ fun a ha=>?_
 ·cbv
  refine ⟨(0,repl (nat (Int.ofNat (I l.length))) [.lit (.string ⟨⟨[]⟩⟩)]),by simp only[hI.e];rfl,by omega,?_,?_,by simp⟩
  ·rw[hI.e];cases hO;simp[Ops.std]
  ·rw[hI.e];cases hO;simp[Ops.std]
 obtain ⟨i,outs⟩:=a;obtain ⟨hi,hlen,hk,ht⟩:=ha;simp only at hi hlen hk ht |-
 by_cases hh:i < l.length
 ·have n1:idx (Int.ofNat (I i)) (len (I outs)):=by rw[hI.e,hI.e];cases hO;show (0:Int)<=_/\_ < _;simp[Ops.std];omega
  have n2:one (I outs) (nadd 0 (nat (Int.ofNat (I i)))) 1:=by rw[hI.e,hI.e];cases hO;exact kC0 hk (by simp[Ops.std];omega)
  refine qB 0 ?_
  repeat' first|refine qA 0 ?_|refine qJ (nN []) ?_|refine qp ?_ ?_|refine qk (fun h=>?_) fun h=>?_|fail
  ·refine ⟨(i+1,set (I outs) (nadd 0 (nat (Int.ofNat (I i)))) (strT l[i]!)),?_,?_⟩
   ·simp only[A.reset,hI.e];rfl
   have hx:(l.map strT)[i]?=some (strT l[i]!):=by simp[hh]
   have hst:=rM0 (els:=l.map strT) (outs:=outs) (x:=strT l[i]!) (by simpa using hh) (by simpa using hlen) ht hx
   have e:set (I outs) (nadd 0 (nat (Int.ofNat (I i)))) (strT l[i]!)=outs.set i (strT l[i]!):=by rw[hI.e,hI.e];cases hO;simp[Ops.std]
   simp only[e];refine ⟨⟨by omega,by rw[hst.1];simp,fun y hy=>?_,hst.2⟩,by omega⟩
   rcases List.mem_or_eq_of_mem_set hy with hy | rfl
   ·exact hk y hy
   ·exact rfl
  ·exact absurd hh ‹_›
 ·refine qB 0 ?_
  repeat' first|refine qA 0 ?_|refine qJ (nN []) ?_|refine qp ?_ ?_|refine qk (fun h=>?_) fun h=>?_|fail
  ·exact absurd ‹_› hh
  ·have hil:i=l.length:=by omega
   have ho:outs=l.map strT:=by rw[hil] at ht;rw[List.take_of_length_le (by omega),List.take_of_length_le (by simp)] at ht;exact ht
   exact hR _ _ ⟨by rw[ho],rfl⟩
theorem WU0 (hI:II @I) (e:Sm) (hs0:e.s.size<=maxLen) (hs1:e.tt.size<=maxLen) (ih2:SzI @I 19 ⟨.one,[.ro true (I (e.x.map Ex.t))]⟩ (e.x.length+Ex.szs e.x)) (ih3:SzI @I 94 ⟨.one,[.ro true (I (e.a.map Sm.t))]⟩ (e.a.length+Sm.szs e.a)) (ih4:SzI @I 94 ⟨.one,[.ro true (I (e.b.map Sm.t))]⟩ (e.b.length+Sm.szs e.b)):SzI @I 133 (sA @I e) e.sz:=by
 intro left hl;have hz:e.sz=e.s.size+e.tt.size+(e.x.length+Ex.szs e.x)+(e.a.length+Sm.szs e.a)+(e.b.length+Sm.szs e.b):=by cases e;rw[Sm.sz];simp only[Nat.add_assoc];rfl
 have q:=zJ0 e.sz left;have hl2:=hl;unfold rZ0 at hl2;have q2:=zJ0 (e.x.length+Ex.szs e.x) (left - Int.ofNat e.s.size - Int.ofNat e.tt.size);have q3:=zJ0 (e.a.length+Sm.szs e.a) (szF (e.x.length+Ex.szs e.x) (left - Int.ofNat e.s.size - Int.ofNat e.tt.size));have q4:=zJ0 (e.b.length+Sm.szs e.b) (szF (e.a.length+Sm.szs e.a) (szF (e.x.length+Ex.szs e.x) (left - Int.ofNat e.s.size - Int.ofNat e.tt.size)))
 have c3:=fun (h:¬left - Int.ofNat e.s.size - Int.ofNat e.tt.size < 0)=>ih2 (left - Int.ofNat e.s.size - Int.ofNat e.tt.size) ⟨by omega,omI⟩
 have c4:=fun (h:¬szF (e.x.length+Ex.szs e.x) (left - Int.ofNat e.s.size - Int.ofNat e.tt.size) < 0)=>ih3 (szF (e.x.length+Ex.szs e.x) (left - Int.ofNat e.s.size - Int.ofNat e.tt.size)) ⟨by omega,omI⟩
 have c5:=fun (h:¬szF (e.a.length+Sm.szs e.a) (szF (e.x.length+Ex.szs e.x) (left - Int.ofNat e.s.size - Int.ofNat e.tt.size)) < 0)=>ih4 (szF (e.a.length+Sm.szs e.a) (szF (e.x.length+Ex.szs e.x) (left - Int.ofNat e.s.size - Int.ofNat e.tt.size))) ⟨by omega,omI⟩
 refine qN hI tyK Tryz.func133 38 [.tmp 4] ?_;unhygienic intros
 have e1:=jW0 hI hO (m:=left) (n:=e.s.size) hl hs0
 dsimp only at e1
 have x1:=e1;simp only[hI.e] at x1
 by_cases g1:left - Int.ofNat e.s.size < 0
 ·refine qB 0 ?_
  repeat' first|refine qA 0 ?_|refine qJ (nN []) ?_|refine qp ?_ ?_|refine qk (fun h=>?_) fun h=>?_|fail
  all_goals first
   | exact hR _ _ ⟨liI hI (by (try simp only[hI.e] at *);(try simp only[x1] at *);exact omI),rfl⟩
   | (exfalso;(try simp only[hI.e] at *);(try simp only[x1] at *);exact omI)
 have e2:=jW0 hI hO (m:=left - Int.ofNat e.s.size) (n:=e.tt.size) ⟨by omega,omI⟩ hs1
 dsimp only at e2
 have x2:=e2;simp only[hI.e] at x2;refine qB 0 ?_
 repeat' first|refine qA 0 ?_|refine qJ (nN []) ?_|refine qp ?_ ?_|refine qk (fun h=>?_) fun h=>?_|fail
 all_goals first
  | exact hR _ _ ⟨liI hI (by (try simp only[hI.e] at *);(try simp only[x1,x2] at *);exact omI),rfl⟩
  | (exfalso;(try simp only[hI.e] at *);(try simp only[x1,x2] at *);exact omI)
theorem VF0 (hI:II @I) (e:Sm) (c1:EqOk 27 ⟨.one,[.ro true (I (e.x.map Ex.t))]⟩) (c2:EqOk 111 ⟨.one,[.ro true (I (e.a.map Sm.t))]⟩) (c3:EqOk 111 ⟨.one,[.ro true (I (e.b.map Sm.t))]⟩):EqOk 145 (sA @I e):=by
 refine qN hI tyK Tryz.func145 38 [.tmp 4] ?_;unhygienic intros
 refine qB 0 ?_
 repeat' first|refine qA 0 ?_|refine qJ (nN []) ?_|refine qp ?_ ?_|refine qk (fun h=>?_) fun h=>?_|fail
 all_goals first
  | contradiction
  | exact absurd rfl ‹_›
  | exact hR _ _ ⟨rfl,rfl⟩
theorem WN0 (hI:II @I) (e:Sm) (c1:ACl Tryz.prog 23 [⟨.one,[.ro true (I (e.x.map Ex.t))]⟩] [] (fun res bx=>res=⟨.one,[.ow (0,0) true 4 (I (e.x.map Ex.o))]⟩/\bx=[])) (c2:ACl Tryz.prog 101 [⟨.one,[.ro true (I (e.a.map Sm.t))]⟩] [] (fun res bx=>res=⟨.one,[.ow (0,0) true 6 (I (e.a.map Sm.o))]⟩/\bx=[])) (c3:ACl Tryz.prog 101 [⟨.one,[.ro true (I (e.b.map Sm.t))]⟩] [] (fun res bx=>res=⟨.one,[.ow (0,0) true 6 (I (e.b.map Sm.o))]⟩/\bx=[])):ACl Tryz.prog 138 [sA @I e] [] (fun res bx=>res=⟨.agg,[.lit (.int .i64 (I e.k)),.lit (.string (I e.s)),.lit (.string (I e.tt)),.ow (0,0) true 4 (I (e.x.map Ex.o)),.ow (0,0) true 6 (I (e.a.map Sm.o)),.ow (0,0) true 6 (I (e.b.map Sm.o))]⟩/\bx=[]):=by
 refine qN hI tyK Tryz.func138 26 [.cell 2 92] ?_;unhygienic intros
 refine qB 0 ?_
 repeat' first|refine qA 0 ?_|refine qJ (nN []) ?_|refine qp ?_ ?_|refine qk (fun h=>?_) fun h=>?_|fail
 exact hR _ _ ⟨rfl,rfl⟩
theorem tA0 (hI:II @I) (l:List Sm) (hl:l.length<=maxLen) (ih:∀e∈l,SzI @I 133 (sA @I e) e.sz):SzI @I 94 ⟨.one,[.ro true (I (l.map Sm.t))]⟩ (l.length+Sm.szs l):=by
 intro left hlf;have q:=zJ0 (l.length+Sm.szs l) left;refine qN hI tyK Tryz.func94 27 [.tmp 4] ?_;unhygienic intros
 have e1:=jW0 hI hO (n:=l.length) hlf hl
 dsimp only at e1
 have e2:=e1;simp only[hI.e] at e2;refine qB 0 ?_
 repeat' first|refine qA 0 ?_|refine qJ (nN []) ?_|refine qp ?_ ?_|refine qk (fun h=>?_) fun h=>?_|fail
 ·exact hR _ _ ⟨liI hI omI,rfl⟩
 try simp only[e2] at *
 clear e1 e2;refine qLf 0 [0,1,5] kk0 (fun i:Nat=>⟨vag 27 [(0,⟨.one,[.ro true (I (l.map Sm.t))]⟩),(1,litI (I (left - Int.ofNat l.length - Int.ofNat (Sm.szs (l.take i))))),(5,litI (Int.ofNat (I i)))],[],1⟩) (fun i=>i<=l.length/\0<=left - Int.ofNat l.length - Int.ofNat (Sm.szs (l.take i))) (fun i=>l.length - i) ?_ fun i hi=>?_
 ·cbv
  exact ⟨0,by simp[hI.e,Sm.szs];rfl,by omega,by simp only[Sm.szs,List.take_zero,List.map_nil,List.sum_nil] at *;exact omI⟩
 have c1:=fun (hh:i < l.length)=>ih _ (zB0 hh) (left - Int.ofNat l.length - Int.ofNat (Sm.szs (l.take i))) ⟨hi.2,by unfold rZ0 at hlf;exact omI⟩
 have q1:=fun (hh:i < l.length)=>zJ0 (l[i]!).sz (left - Int.ofNat l.length - Int.ofNat (Sm.szs (l.take i)));have q2:=fun (hh:i < l.length)=>show Sm.szs (l.take (i+1))=Sm.szs (l.take i)+(l[i]!).sz by rw[zU0 hh,Sm.szs_app,Sm.szs_one]
 have hmax:maxLen<=9223372036854775807:=by decide
 have q3:Sm.szs (l.take (i+1))<=Sm.szs l:=by
  have h1:=congrArg Sm.szs (List.take_append_drop (i+1) l);rw[Sm.szs_app] at h1;omega
 refine qB 0 ?_
 repeat' first|refine qA 0 ?_|refine qJ (nN []) ?_|refine qp ?_ ?_|refine qk (fun h=>?_) fun h=>?_|fail
 ·have a:=q1 ‹_›
  have b:=q2 ‹_›;exact hR _ _ ⟨liI hI omI,rfl⟩
 ·have hii:i < l.length:=‹_›
  have a:=q1 hii;have b:=q2 hii;have e:szF (l[i]!).sz (left - Int.ofNat l.length - Int.ofNat (Sm.szs (l.take i)))=left - Int.ofNat l.length - Int.ofNat (Sm.szs (l.take (i+1))):=omI;refine ⟨i+1,by rw[e];(try simp only[A.reset,hI.e]);rfl,⟨by omega,?_⟩,by omega⟩
  exact omI
 ·have ht:l.take i=l:=List.take_of_length_le (by omega)
  rw[ht] at hi |-;exact hR _ _ ⟨liI hI omI,rfl⟩
theorem wZ0 (hI:II @I) (l:List Sm) (hl:l.length<=1048576) (ih:∀e∈l,EqOk 145 (sA @I e)):EqOk 111 ⟨.one,[.ro true (I (l.map Sm.t))]⟩:=by
 refine qN hI tyK Tryz.func111 27 [.tmp 4] ?_;unhygienic intros
 refine qB 0 ?_
 repeat' first|refine qA 0 ?_|refine qJ (nN []) ?_|refine qp ?_ ?_|refine qk (fun h=>?_) fun h=>?_|fail
 ·exact absurd rfl ‹_›
 refine qLf 0 [0,1,5] kk0 (fun i:Nat=>⟨vag 27 [(0,⟨.one,[.ro true (I (l.map Sm.t))]⟩),(1,⟨.one,[.ro true (I (l.map Sm.t))]⟩),(5,litI (Int.ofNat (I i)))],[],1⟩) (fun i=>i<=l.length) (fun i=>l.length - i) ?_ fun i hi=>?_
 ·cbv
  exact ⟨0,by simp[hI.e];rfl,by omega⟩
 have c1:=fun (hh:i < l.length)=>ih _ (zB0 hh);refine qB 0 ?_
 repeat' first|refine qA 0 ?_|refine qJ (nN []) ?_|refine qp ?_ ?_|refine qk (fun h=>?_) fun h=>?_|fail
 ·exact ⟨i+1,by (try simp only[A.reset,wE0,hI.e,List.append_assoc,Bool.or_false,wC0]);rfl,by omega,by omega⟩
 ·exact hR _ _ ⟨rfl,rfl⟩
theorem uZ0 (hI:II @I) (l:List Sm) (hl:l.length<=1048576) (ih:∀e∈l,ACl Tryz.prog 138 [sA @I e] [] (fun res bx=>res=⟨.agg,[.lit (.int .i64 (I e.k)),.lit (.string (I e.s)),.lit (.string (I e.tt)),.ow (0,0) true 4 (I (e.x.map Ex.o)),.ow (0,0) true 6 (I (e.a.map Sm.o)),.ow (0,0) true 6 (I (e.b.map Sm.o))]⟩/\bx=[])):ACl Tryz.prog 101 [⟨.one,[.ro true (I (l.map Sm.t))]⟩] [] (fun res bx=>res=⟨.one,[.ow (0,0) true 6 (I (l.map Sm.o))]⟩/\bx=[]):=by
 refine qN hI tyK Tryz.func101 23 [.tmp 2] ?_;unhygienic intros
 have hm:mOk 112 (Int.ofNat (I l.length)) (Int.ofNat (I l.length)):=by rw[hI.e];exact bX0 hO ⟨by simp,by simp,by simp;omega,by simp;omega⟩
 refine qB 0 ?_
 repeat' first|refine qA 0 ?_|refine qJ (nN []) ?_|refine qp ?_ ?_|refine qk (fun h=>?_) fun h=>?_|fail
 refine qLf 0 [0,3,4] (kkS 3 1006) (fun a:Nat×List (List T)=>⟨vag 23 [(0,⟨.one,[.ro true (I (l.map Sm.t))]⟩),(3,⟨.one,[.ow (0,0) true 6 (I a.2)]⟩),(4,litI (Int.ofNat (I a.1)))],[],1⟩) (fun a=>a.1<=l.length/\a.2.length=l.length/\(∀e∈a.2,e.length=6)/\a.2.take a.1=(l.map Sm.o).take a.1) (fun a=>l.length - a.1) ?_ fun a ha=>?_
 ·cbv
  refine ⟨(0,repl (nat (Int.ofNat (I l.length))) [.lit (.int .i64 0),.lit (.string ⟨⟨[]⟩⟩),.lit (.string ⟨⟨[]⟩⟩),.sl [],.sl [],.sl []]),by simp only[hI.e];rfl,by omega,?_,?_,by simp⟩
  ·rw[hI.e];cases hO;simp[Ops.std]
  ·rw[hI.e];cases hO;simp[Ops.std]
 obtain ⟨i,outs⟩:=a;obtain ⟨hi,hlen,hk,ht⟩:=ha;simp only at hi hlen hk ht |-
 by_cases hh:i < l.length
 ·have c1:=ih _ (zB0 hh)
  have n1:idx (Int.ofNat (I i)) (len (I outs)):=by rw[hI.e,hI.e];cases hO;show (0:Int)<=_/\_ < _;simp[Ops.std];omega
  have n2:one (I outs) (nadd 0 (nat (Int.ofNat (I i)))) 6:=by rw[hI.e,hI.e];cases hO;exact kC0 hk (by simp[Ops.std];omega)
  refine qB 0 ?_
  repeat' first|refine qA 0 ?_|refine qJ (nN []) ?_|refine qp ?_ ?_|refine qk (fun h=>?_) fun h=>?_|fail
  ·refine ⟨(i+1,set (I outs) (nadd 0 (nat (Int.ofNat (I i)))) ((l[i]!).o)),?_,?_⟩
   ·rw[Sm.o_eq];simp only[A.reset,hI.e];rfl
   have hx:(l.map Sm.o)[i]?=some ((l[i]!).o):=by simp[hh]
   have hst:=rM0 (els:=l.map Sm.o) (outs:=outs) (x:=(l[i]!).o) (by simpa using hh) (by simpa using hlen) ht hx
   have e:set (I outs) (nadd 0 (nat (Int.ofNat (I i)))) ((l[i]!).o)=outs.set i ((l[i]!).o):=by rw[hI.e,hI.e];cases hO;simp[Ops.std]
   simp only[e];refine ⟨⟨by omega,by rw[hst.1];simp,fun y hy=>?_,hst.2⟩,by omega⟩
   rcases List.mem_or_eq_of_mem_set hy with hy | rfl
   ·exact hk y hy
   ·exact Sm.o_len _
  ·exact absurd hh ‹_›
 ·refine qB 0 ?_
  repeat' first|refine qA 0 ?_|refine qJ (nN []) ?_|refine qp ?_ ?_|refine qk (fun h=>?_) fun h=>?_|fail
  ·exact absurd ‹_› hh
  ·have hil:i=l.length:=by omega
   have ho:outs=l.map Sm.o:=by rw[hil] at ht;rw[List.take_of_length_le (by omega),List.take_of_length_le (by simp)] at ht;exact ht
   exact hR _ _ ⟨by rw[ho],rfl⟩
variable {I:∀{α:Type},α->α}
theorem WV0 (hI:II @I) (e:Ru) (ih0:SzI @I 5 (eA @I e.p) e.p.sz) (ih1:SzI @I 94 ⟨.one,[.ro true (I (e.a.map Sm.t))]⟩ (e.a.length+Sm.szs e.a)):SzI @I 58 (ruA @I e) e.sz:=by
 intro left hl;have hz:e.sz=e.p.sz+(e.a.length+Sm.szs e.a):=by rw[Ru.sz]
 have q:=zJ0 e.sz left;have hl2:=hl;unfold rZ0 at hl2;have q0:=zJ0 e.p.sz (left);have q1:=zJ0 (e.a.length+Sm.szs e.a) (szF e.p.sz (left));have c1:=ih0 left hl;have c2:=fun (h:¬szF e.p.sz (left) < 0)=>ih1 (szF e.p.sz (left)) ⟨by omega,omI⟩
 refine qN hI tyK Tryz.func58 18 [.tmp 4] ?_;unhygienic intros
 refine qB 0 ?_
 repeat' first|refine qA 0 ?_|refine qJ (nN []) ?_|refine qp ?_ ?_|refine qk (fun h=>?_) fun h=>?_|fail
 all_goals first
  | exact hR _ _ ⟨liI hI omI,rfl⟩
  | (exfalso;exact omI)
theorem VG0 (hI:II @I) (e:Ru) (c1:EqOk 9 (eA @I e.p)) (c2:EqOk 111 ⟨.one,[.ro true (I (e.a.map Sm.t))]⟩):EqOk 74 (ruA @I e):=by
 refine qN hI tyK Tryz.func74 22 [.tmp 4] ?_;unhygienic intros
 refine qB 0 ?_
 repeat' first|refine qA 0 ?_|refine qJ (nN []) ?_|refine qp ?_ ?_|refine qk (fun h=>?_) fun h=>?_|fail
 all_goals first
  | contradiction
  | exact absurd rfl ‹_›
  | exact hR _ _ ⟨rfl,rfl⟩
theorem WP0 (hI:II @I) (e:Ru) (c1:ACl Tryz.prog 7 [eA @I e.p] [] (fun res bx=>res=⟨.agg,[.lit (.int .i64 (I e.p.k)),.lit (.int .i64 (I e.p.n)),.lit (.string (I e.p.s)),.ow (0,0) true 4 (I (e.p.l.map Ex.o))]⟩/\bx=[])) (c2:ACl Tryz.prog 101 [⟨.one,[.ro true (I (e.a.map Sm.t))]⟩] [] (fun res bx=>res=⟨.one,[.ow (0,0) true 6 (I (e.a.map Sm.o))]⟩/\bx=[])):ACl Tryz.prog 66 [ruA @I e] [] (fun res bx=>res=⟨.agg,[.lit (.int .i64 (I e.k)),.lit (.int .i64 (I e.p.k)),.lit (.int .i64 (I e.p.n)),.lit (.string (I e.p.s)),.ow (0,0) true 4 (I (e.p.l.map Ex.o)),.ow (0,0) true 6 (I (e.a.map Sm.o))]⟩/\bx=[]):=by
 refine qN hI tyK Tryz.func66 16 [.cell 2 58] ?_;unhygienic intros
 refine qB 0 ?_
 repeat' first|refine qA 0 ?_|refine qJ (nN []) ?_|refine qp ?_ ?_|refine qk (fun h=>?_) fun h=>?_|fail
 exact hR _ _ ⟨rfl,rfl⟩
theorem YB0 (hI:II @I) (l:List Ru) (hl:l.length<=maxLen) (ih:∀e∈l,SzI @I 58 (ruA @I e) e.sz):SzI @I 30 ⟨.one,[.ro true (I (l.map Ru.t))]⟩ (l.length+Ru.szs l):=by
 intro left hlf;have q:=zJ0 (l.length+Ru.szs l) left;refine qN hI tyK Tryz.func30 27 [.tmp 4] ?_;unhygienic intros
 have e1:=jW0 hI hO (n:=l.length) hlf hl
 dsimp only at e1
 have e2:=e1;simp only[hI.e] at e2;refine qB 0 ?_
 repeat' first|refine qA 0 ?_|refine qJ (nN []) ?_|refine qp ?_ ?_|refine qk (fun h=>?_) fun h=>?_|fail
 ·exact hR _ _ ⟨liI hI omI,rfl⟩
 try simp only[e2] at *
 clear e1 e2;refine qLf 0 [0,1,5] kk0 (fun i:Nat=>⟨vag 27 [(0,⟨.one,[.ro true (I (l.map Ru.t))]⟩),(1,litI (I (left - Int.ofNat l.length - Int.ofNat (Ru.szs (l.take i))))),(5,litI (Int.ofNat (I i)))],[],1⟩) (fun i=>i<=l.length/\0<=left - Int.ofNat l.length - Int.ofNat (Ru.szs (l.take i))) (fun i=>l.length - i) ?_ fun i hi=>?_
 ·cbv
  exact ⟨0,by simp[hI.e,Ru.szs];rfl,by omega,by simp only[Ru.szs,List.take_zero,List.map_nil,List.sum_nil] at *;exact omI⟩
 have c1:=fun (hh:i < l.length)=>ih _ (zB0 hh) (left - Int.ofNat l.length - Int.ofNat (Ru.szs (l.take i))) ⟨hi.2,by unfold rZ0 at hlf;exact omI⟩
 have q1:=fun (hh:i < l.length)=>zJ0 (l[i]!).sz (left - Int.ofNat l.length - Int.ofNat (Ru.szs (l.take i)));have q2:=fun (hh:i < l.length)=>show Ru.szs (l.take (i+1))=Ru.szs (l.take i)+(l[i]!).sz by rw[zU0 hh,Ru.szs_app,Ru.szs_one]
 have hmax:maxLen<=9223372036854775807:=by decide
 have q3:Ru.szs (l.take (i+1))<=Ru.szs l:=by
  have h1:=congrArg Ru.szs (List.take_append_drop (i+1) l);rw[Ru.szs_app] at h1;omega
 refine qB 0 ?_
 repeat' first|refine qA 0 ?_|refine qJ (nN []) ?_|refine qp ?_ ?_|refine qk (fun h=>?_) fun h=>?_|fail
 ·have a:=q1 ‹_›
  have b:=q2 ‹_›;exact hR _ _ ⟨liI hI omI,rfl⟩
 ·have hii:i < l.length:=‹_›
  have a:=q1 hii;have b:=q2 hii;have e:szF (l[i]!).sz (left - Int.ofNat l.length - Int.ofNat (Ru.szs (l.take i)))=left - Int.ofNat l.length - Int.ofNat (Ru.szs (l.take (i+1))):=omI;refine ⟨i+1,by rw[e];(try simp only[A.reset,hI.e]);rfl,⟨by omega,?_⟩,by omega⟩
  exact omI
 ·have ht:l.take i=l:=List.take_of_length_le (by omega)
  rw[ht] at hi |-;exact hR _ _ ⟨liI hI omI,rfl⟩
theorem YV0 (hI:II @I) (l:List Ru) (hl:l.length<=1048576) (ih:∀e∈l,EqOk 74 (ruA @I e)):EqOk 40 ⟨.one,[.ro true (I (l.map Ru.t))]⟩:=by
 refine qN hI tyK Tryz.func40 27 [.tmp 4] ?_;unhygienic intros
 refine qB 0 ?_
 repeat' first|refine qA 0 ?_|refine qJ (nN []) ?_|refine qp ?_ ?_|refine qk (fun h=>?_) fun h=>?_|fail
 ·exact absurd rfl ‹_›
 refine qLf 0 [0,1,5] kk0 (fun i:Nat=>⟨vag 27 [(0,⟨.one,[.ro true (I (l.map Ru.t))]⟩),(1,⟨.one,[.ro true (I (l.map Ru.t))]⟩),(5,litI (Int.ofNat (I i)))],[],1⟩) (fun i=>i<=l.length) (fun i=>l.length - i) ?_ fun i hi=>?_
 ·cbv
  exact ⟨0,by simp[hI.e];rfl,by omega⟩
 have c1:=fun (hh:i < l.length)=>ih _ (zB0 hh);refine qB 0 ?_
 repeat' first|refine qA 0 ?_|refine qJ (nN []) ?_|refine qp ?_ ?_|refine qk (fun h=>?_) fun h=>?_|fail
 ·exact ⟨i+1,by (try simp only[A.reset,wE0,hI.e,List.append_assoc,Bool.or_false,wC0]);rfl,by omega,by omega⟩
 ·exact hR _ _ ⟨rfl,rfl⟩
theorem YA0 (hI:II @I) (l:List Ru) (hl:l.length<=1048576) (ih:∀e∈l,ACl Tryz.prog 66 [ruA @I e] [] (fun res bx=>res=⟨.agg,[.lit (.int .i64 (I e.k)),.lit (.int .i64 (I e.p.k)),.lit (.int .i64 (I e.p.n)),.lit (.string (I e.p.s)),.ow (0,0) true 4 (I (e.p.l.map Ex.o)),.ow (0,0) true 6 (I (e.a.map Sm.o))]⟩/\bx=[])):ACl Tryz.prog 35 [⟨.one,[.ro true (I (l.map Ru.t))]⟩] [] (fun res bx=>res=⟨.one,[.ow (0,0) true 6 (I (l.map Ru.o))]⟩/\bx=[]):=by
 refine qN hI tyK Tryz.func35 23 [.tmp 2] ?_;unhygienic intros
 have hm:mOk 88 (Int.ofNat (I l.length)) (Int.ofNat (I l.length)):=by rw[hI.e];exact bX0 hO ⟨by simp,by simp,by simp;omega,by simp;omega⟩
 refine qB 0 ?_
 repeat' first|refine qA 0 ?_|refine qJ (nN []) ?_|refine qp ?_ ?_|refine qk (fun h=>?_) fun h=>?_|fail
 refine qLf 0 [0,3,4] (kkS 3 1006) (fun a:Nat×List (List T)=>⟨vag 23 [(0,⟨.one,[.ro true (I (l.map Ru.t))]⟩),(3,⟨.one,[.ow (0,0) true 6 (I a.2)]⟩),(4,litI (Int.ofNat (I a.1)))],[],1⟩) (fun a=>a.1<=l.length/\a.2.length=l.length/\(∀e∈a.2,e.length=6)/\a.2.take a.1=(l.map Ru.o).take a.1) (fun a=>l.length - a.1) ?_ fun a ha=>?_
 ·cbv
  refine ⟨(0,repl (nat (Int.ofNat (I l.length))) [.lit (.int .i64 0),.lit (.int .i64 0),.lit (.int .i64 0),.lit (.string ⟨⟨[]⟩⟩),.sl [],.sl []]),by simp only[hI.e];rfl,by omega,?_,?_,by simp⟩
  ·rw[hI.e];cases hO;simp[Ops.std]
  ·rw[hI.e];cases hO;simp[Ops.std]
 obtain ⟨i,outs⟩:=a;obtain ⟨hi,hlen,hk,ht⟩:=ha;simp only at hi hlen hk ht |-
 by_cases hh:i < l.length
 ·have c1:=ih _ (zB0 hh)
  have n1:idx (Int.ofNat (I i)) (len (I outs)):=by rw[hI.e,hI.e];cases hO;show (0:Int)<=_/\_ < _;simp[Ops.std];omega
  have n2:one (I outs) (nadd 0 (nat (Int.ofNat (I i)))) 6:=by rw[hI.e,hI.e];cases hO;exact kC0 hk (by simp[Ops.std];omega)
  refine qB 0 ?_
  repeat' first|refine qA 0 ?_|refine qJ (nN []) ?_|refine qp ?_ ?_|refine qk (fun h=>?_) fun h=>?_|fail
  ·refine ⟨(i+1,set (I outs) (nadd 0 (nat (Int.ofNat (I i)))) ((l[i]!).o)),?_,?_⟩
   ·rw[Ru.o_eq];simp only[A.reset,hI.e];rfl
   have hx:(l.map Ru.o)[i]?=some ((l[i]!).o):=by simp[hh]
   have hst:=rM0 (els:=l.map Ru.o) (outs:=outs) (x:=(l[i]!).o) (by simpa using hh) (by simpa using hlen) ht hx
   have e:set (I outs) (nadd 0 (nat (Int.ofNat (I i)))) ((l[i]!).o)=outs.set i ((l[i]!).o):=by rw[hI.e,hI.e];cases hO;simp[Ops.std]
   simp only[e];refine ⟨⟨by omega,by rw[hst.1];simp,fun y hy=>?_,hst.2⟩,by omega⟩
   rcases List.mem_or_eq_of_mem_set hy with hy | rfl
   ·exact hk y hy
   ·exact Ru.o_len _
  ·exact absurd hh ‹_›
 ·refine qB 0 ?_
  repeat' first|refine qA 0 ?_|refine qJ (nN []) ?_|refine qp ?_ ?_|refine qk (fun h=>?_) fun h=>?_|fail
  ·exact absurd ‹_› hh
  ·have hil:i=l.length:=by omega
   have ho:outs=l.map Ru.o:=by rw[hil] at ht;rw[List.take_of_length_le (by omega),List.take_of_length_le (by simp)] at ht;exact ht
   exact hR _ _ ⟨by rw[ho],rfl⟩
theorem KT0 (hI:II @I) (e:Fu) (hs0:e.name.size<=maxLen) (ih1:SzI @I 95 ⟨.one,[.ro true (I (e.params.map strT))]⟩ (e.params.length+xF0 e.params)) (ih2:SzI @I 94 ⟨.one,[.ro true (I (e.a.map Sm.t))]⟩ (e.a.length+Sm.szs e.a)):SzI @I 59 (fuA @I e) e.sz:=by
 intro left hl;have hz:e.sz=e.name.size+(e.params.length+xF0 e.params)+(e.a.length+Sm.szs e.a):=by rw[Fu.sz]
 have q:=zJ0 e.sz left;have hl2:=hl;unfold rZ0 at hl2;have q1:=zJ0 (e.params.length+xF0 e.params) (left - Int.ofNat e.name.size);have q2:=zJ0 (e.a.length+Sm.szs e.a) (szF (e.params.length+xF0 e.params) (left - Int.ofNat e.name.size));have c2:=fun (h:¬left - Int.ofNat e.name.size < 0)=>ih1 (left - Int.ofNat e.name.size) ⟨by omega,omI⟩
 have c3:=fun (h:¬szF (e.params.length+xF0 e.params) (left - Int.ofNat e.name.size) < 0)=>ih2 (szF (e.params.length+xF0 e.params) (left - Int.ofNat e.name.size)) ⟨by omega,omI⟩
 refine qN hI tyK Tryz.func59 25 [.tmp 4] ?_;unhygienic intros
 have e1:=jW0 hI hO (m:=left) (n:=e.name.size) hl hs0
 dsimp only at e1
 have x1:=e1;simp only[hI.e] at x1;refine qB 0 ?_
 repeat' first|refine qA 0 ?_|refine qJ (nN []) ?_|refine qp ?_ ?_|refine qk (fun h=>?_) fun h=>?_|fail
 all_goals first
  | exact hR _ _ ⟨liI hI (by (try simp only[hI.e] at *);(try simp only[x1] at *);exact omI),rfl⟩
  | (exfalso;(try simp only[hI.e] at *);(try simp only[x1] at *);exact omI)
theorem JG0 (hI:II @I) (e:Fu) (c1:EqOk 112 ⟨.one,[.ro true (I (e.params.map strT))]⟩) (c2:EqOk 111 ⟨.one,[.ro true (I (e.a.map Sm.t))]⟩):EqOk 75 (fuA @I e):=by
 refine qN hI tyK Tryz.func75 22 [.tmp 4] ?_;unhygienic intros
 refine qB 0 ?_
 repeat' first|refine qA 0 ?_|refine qJ (nN []) ?_|refine qp ?_ ?_|refine qk (fun h=>?_) fun h=>?_|fail
 all_goals first
  | contradiction
  | exact absurd rfl ‹_›
  | exact hR _ _ ⟨rfl,rfl⟩
theorem KR0 (hI:II @I) (e:Fu) (c1:ACl Tryz.prog 102 [⟨.one,[.ro true (I (e.params.map strT))]⟩] [] (fun res bx=>res=⟨.one,[.ow (0,0) true 1 (I (e.params.map strT))]⟩/\bx=[])) (c2:ACl Tryz.prog 101 [⟨.one,[.ro true (I (e.a.map Sm.t))]⟩] [] (fun res bx=>res=⟨.one,[.ow (0,0) true 6 (I (e.a.map Sm.o))]⟩/\bx=[])):ACl Tryz.prog 67 [fuA @I e] [] (fun res bx=>res=⟨.agg,[.lit (.string (I e.name)),.ow (0,0) true 1 (I (e.params.map strT)),.ow (0,0) true 6 (I (e.a.map Sm.o))]⟩/\bx=[]):=by
 refine qN hI tyK Tryz.func67 16 [.cell 2 62] ?_;unhygienic intros
 refine qB 0 ?_
 repeat' first|refine qA 0 ?_|refine qJ (nN []) ?_|refine qp ?_ ?_|refine qk (fun h=>?_) fun h=>?_|fail
 exact hR _ _ ⟨rfl,rfl⟩
theorem QN0 (hI:II @I) (l:List Fu) (hl:l.length<=maxLen) (ih:∀e∈l,SzI @I 59 (fuA @I e) e.sz):SzI @I 31 ⟨.one,[.ro true (I (l.map Fu.t))]⟩ (l.length+Fu.szs l):=by
 intro left hlf;have q:=zJ0 (l.length+Fu.szs l) left;refine qN hI tyK Tryz.func31 27 [.tmp 4] ?_;unhygienic intros
 have e1:=jW0 hI hO (n:=l.length) hlf hl
 dsimp only at e1
 have e2:=e1;simp only[hI.e] at e2;refine qB 0 ?_
 repeat' first|refine qA 0 ?_|refine qJ (nN []) ?_|refine qp ?_ ?_|refine qk (fun h=>?_) fun h=>?_|fail
 ·exact hR _ _ ⟨liI hI omI,rfl⟩
 try simp only[e2] at *
 clear e1 e2;refine qLf 0 [0,1,5] kk0 (fun i:Nat=>⟨vag 27 [(0,⟨.one,[.ro true (I (l.map Fu.t))]⟩),(1,litI (I (left - Int.ofNat l.length - Int.ofNat (Fu.szs (l.take i))))),(5,litI (Int.ofNat (I i)))],[],1⟩) (fun i=>i<=l.length/\0<=left - Int.ofNat l.length - Int.ofNat (Fu.szs (l.take i))) (fun i=>l.length - i) ?_ fun i hi=>?_
 ·cbv
  exact ⟨0,by simp[hI.e,Fu.szs];rfl,by omega,by simp only[Fu.szs,List.take_zero,List.map_nil,List.sum_nil] at *;exact omI⟩
 have c1:=fun (hh:i < l.length)=>ih _ (zB0 hh) (left - Int.ofNat l.length - Int.ofNat (Fu.szs (l.take i))) ⟨hi.2,by unfold rZ0 at hlf;exact omI⟩
 have q1:=fun (hh:i < l.length)=>zJ0 (l[i]!).sz (left - Int.ofNat l.length - Int.ofNat (Fu.szs (l.take i)));have q2:=fun (hh:i < l.length)=>show Fu.szs (l.take (i+1))=Fu.szs (l.take i)+(l[i]!).sz by rw[zU0 hh,Fu.szs_app,Fu.szs_one]
 have hmax:maxLen<=9223372036854775807:=by decide
 have q3:Fu.szs (l.take (i+1))<=Fu.szs l:=by
  have h1:=congrArg Fu.szs (List.take_append_drop (i+1) l);rw[Fu.szs_app] at h1;omega
 refine qB 0 ?_
 repeat' first|refine qA 0 ?_|refine qJ (nN []) ?_|refine qp ?_ ?_|refine qk (fun h=>?_) fun h=>?_|fail
 ·have a:=q1 ‹_›
  have b:=q2 ‹_›;exact hR _ _ ⟨liI hI omI,rfl⟩
 ·have hii:i < l.length:=‹_›
  have a:=q1 hii;have b:=q2 hii;have e:szF (l[i]!).sz (left - Int.ofNat l.length - Int.ofNat (Fu.szs (l.take i)))=left - Int.ofNat l.length - Int.ofNat (Fu.szs (l.take (i+1))):=omI;refine ⟨i+1,by rw[e];(try simp only[A.reset,hI.e]);rfl,⟨by omega,?_⟩,by omega⟩
  exact omI
 ·have ht:l.take i=l:=List.take_of_length_le (by omega)
  rw[ht] at hi |-;exact hR _ _ ⟨liI hI omI,rfl⟩
theorem QV0 (hI:II @I) (l:List Fu) (hl:l.length<=1048576) (ih:∀e∈l,EqOk 75 (fuA @I e)):EqOk 41 ⟨.one,[.ro true (I (l.map Fu.t))]⟩:=by
 refine qN hI tyK Tryz.func41 27 [.tmp 4] ?_;unhygienic intros
 refine qB 0 ?_
 repeat' first|refine qA 0 ?_|refine qJ (nN []) ?_|refine qp ?_ ?_|refine qk (fun h=>?_) fun h=>?_|fail
 ·exact absurd rfl ‹_›
 refine qLf 0 [0,1,5] kk0 (fun i:Nat=>⟨vag 27 [(0,⟨.one,[.ro true (I (l.map Fu.t))]⟩),(1,⟨.one,[.ro true (I (l.map Fu.t))]⟩),(5,litI (Int.ofNat (I i)))],[],1⟩) (fun i=>i<=l.length) (fun i=>l.length - i) ?_ fun i hi=>?_
 ·cbv
  exact ⟨0,by simp[hI.e];rfl,by omega⟩
 have c1:=fun (hh:i < l.length)=>ih _ (zB0 hh);refine qB 0 ?_
 repeat' first|refine qA 0 ?_|refine qJ (nN []) ?_|refine qp ?_ ?_|refine qk (fun h=>?_) fun h=>?_|fail
 ·exact ⟨i+1,by (try simp only[A.reset,wE0,hI.e,List.append_assoc,Bool.or_false,wC0]);rfl,by omega,by omega⟩
 ·exact hR _ _ ⟨rfl,rfl⟩
theorem QM0 (hI:II @I) (l:List Fu) (hl:l.length<=1048576) (ih:∀e∈l,ACl Tryz.prog 67 [fuA @I e] [] (fun res bx=>res=⟨.agg,[.lit (.string (I e.name)),.ow (0,0) true 1 (I (e.params.map strT)),.ow (0,0) true 6 (I (e.a.map Sm.o))]⟩/\bx=[])):ACl Tryz.prog 36 [⟨.one,[.ro true (I (l.map Fu.t))]⟩] [] (fun res bx=>res=⟨.one,[.ow (0,0) true 3 (I (l.map Fu.o))]⟩/\bx=[]):=by
 refine qN hI tyK Tryz.func36 23 [.tmp 2] ?_;unhygienic intros
 have hm:mOk 64 (Int.ofNat (I l.length)) (Int.ofNat (I l.length)):=by rw[hI.e];exact bX0 hO ⟨by simp,by simp,by simp;omega,by simp;omega⟩
 refine qB 0 ?_
 repeat' first|refine qA 0 ?_|refine qJ (nN []) ?_|refine qp ?_ ?_|refine qk (fun h=>?_) fun h=>?_|fail
 refine qLf 0 [0,3,4] (kkS 3 1003) (fun a:Nat×List (List T)=>⟨vag 23 [(0,⟨.one,[.ro true (I (l.map Fu.t))]⟩),(3,⟨.one,[.ow (0,0) true 3 (I a.2)]⟩),(4,litI (Int.ofNat (I a.1)))],[],1⟩) (fun a=>a.1<=l.length/\a.2.length=l.length/\(∀e∈a.2,e.length=3)/\a.2.take a.1=(l.map Fu.o).take a.1) (fun a=>l.length - a.1) ?_ fun a ha=>?_
 ·cbv
  refine ⟨(0,repl (nat (Int.ofNat (I l.length))) [.lit (.string ⟨⟨[]⟩⟩),.sl [],.sl []]),by simp only[hI.e];rfl,by omega,?_,?_,by simp⟩
  ·rw[hI.e];cases hO;simp[Ops.std]
  ·rw[hI.e];cases hO;simp[Ops.std]
 obtain ⟨i,outs⟩:=a;obtain ⟨hi,hlen,hk,ht⟩:=ha;simp only at hi hlen hk ht |-
 by_cases hh:i < l.length
 ·have c1:=ih _ (zB0 hh)
  have n1:idx (Int.ofNat (I i)) (len (I outs)):=by rw[hI.e,hI.e];cases hO;show (0:Int)<=_/\_ < _;simp[Ops.std];omega
  have n2:one (I outs) (nadd 0 (nat (Int.ofNat (I i)))) 3:=by rw[hI.e,hI.e];cases hO;exact kC0 hk (by simp[Ops.std];omega)
  refine qB 0 ?_
  repeat' first|refine qA 0 ?_|refine qJ (nN []) ?_|refine qp ?_ ?_|refine qk (fun h=>?_) fun h=>?_|fail
  ·refine ⟨(i+1,set (I outs) (nadd 0 (nat (Int.ofNat (I i)))) ((l[i]!).o)),?_,?_⟩
   ·rw[Fu.o_eq];simp only[A.reset,hI.e];rfl
   have hx:(l.map Fu.o)[i]?=some ((l[i]!).o):=by simp[hh]
   have hst:=rM0 (els:=l.map Fu.o) (outs:=outs) (x:=(l[i]!).o) (by simpa using hh) (by simpa using hlen) ht hx
   have e:set (I outs) (nadd 0 (nat (Int.ofNat (I i)))) ((l[i]!).o)=outs.set i ((l[i]!).o):=by rw[hI.e,hI.e];cases hO;simp[Ops.std]
   simp only[e];refine ⟨⟨by omega,by rw[hst.1];simp,fun y hy=>?_,hst.2⟩,by omega⟩
   rcases List.mem_or_eq_of_mem_set hy with hy | rfl
   ·exact hk y hy
   ·exact Fu.o_len _
  ·exact absurd hh ‹_›
 ·refine qB 0 ?_
  repeat' first|refine qA 0 ?_|refine qJ (nN []) ?_|refine qp ?_ ?_|refine qk (fun h=>?_) fun h=>?_|fail
  ·exact absurd ‹_› hh
  ·have hil:i=l.length:=by omega
   have ho:outs=l.map Fu.o:=by rw[hil] at ht;rw[List.take_of_length_le (by omega),List.take_of_length_le (by simp)] at ht;exact ht
   exact hR _ _ ⟨by rw[ho],rfl⟩
theorem WW0 (hI:II @I) (e:Pg) (ih0:SzI @I 30 ⟨.one,[.ro true (I (e.rules.map Ru.t))]⟩ (e.rules.length+Ru.szs e.rules)) (ih1:SzI @I 31 ⟨.one,[.ro true (I (e.fns.map Fu.t))]⟩ (e.fns.length+Fu.szs e.fns)):SzI @I 12 (pA @I e) e.sz:=by
 intro left hl;have hz:e.sz=(e.rules.length+Ru.szs e.rules)+(e.fns.length+Fu.szs e.fns):=by rw[Pg.sz]
 have q:=zJ0 e.sz left;have hl2:=hl;unfold rZ0 at hl2;have q0:=zJ0 (e.rules.length+Ru.szs e.rules) (left);have q1:=zJ0 (e.fns.length+Fu.szs e.fns) (szF (e.rules.length+Ru.szs e.rules) (left));have c1:=ih0 left hl;have c2:=fun (h:¬szF (e.rules.length+Ru.szs e.rules) (left) < 0)=>ih1 (szF (e.rules.length+Ru.szs e.rules) (left)) ⟨by omega,omI⟩
 refine qN hI tyK Tryz.func12 18 [.tmp 4] ?_;unhygienic intros
 refine qB 0 ?_
 repeat' first|refine qA 0 ?_|refine qJ (nN []) ?_|refine qp ?_ ?_|refine qk (fun h=>?_) fun h=>?_|fail
 all_goals first
  | exact hR _ _ ⟨liI hI omI,rfl⟩
  | (exfalso;exact omI)
theorem VH0 (hI:II @I) (e:Pg) (c1:EqOk 40 ⟨.one,[.ro true (I (e.rules.map Ru.t))]⟩) (c2:EqOk 41 ⟨.one,[.ro true (I (e.fns.map Fu.t))]⟩):EqOk 16 (pA @I e):=by
 refine qN hI tyK Tryz.func16 17 [.tmp 4] ?_;unhygienic intros
 refine qB 0 ?_
 repeat' first|refine qA 0 ?_|refine qJ (nN []) ?_|refine qp ?_ ?_|refine qk (fun h=>?_) fun h=>?_|fail
 all_goals first
  | contradiction
  | exact absurd rfl ‹_›
  | exact hR _ _ ⟨rfl,rfl⟩
theorem WQ0 (hI:II @I) (e:Pg) (c1:ACl Tryz.prog 35 [⟨.one,[.ro true (I (e.rules.map Ru.t))]⟩] [] (fun res bx=>res=⟨.one,[.ow (0,0) true 6 (I (e.rules.map Ru.o))]⟩/\bx=[])) (c2:ACl Tryz.prog 36 [⟨.one,[.ro true (I (e.fns.map Fu.t))]⟩] [] (fun res bx=>res=⟨.one,[.ow (0,0) true 3 (I (e.fns.map Fu.o))]⟩/\bx=[])):ACl Tryz.prog 14 [pA @I e] [] (fun res bx=>res=⟨.agg,[.ow (0,0) true 6 (I (e.rules.map Ru.o)),.ow (0,0) true 3 (I (e.fns.map Fu.o))]⟩/\bx=[]):=by
 refine qN hI tyK Tryz.func14 13 [.cell 2 42] ?_;unhygienic intros
 refine qB 0 ?_
 repeat' first|refine qA 0 ?_|refine qJ (nN []) ?_|refine qp ?_ ?_|refine qk (fun h=>?_) fun h=>?_|fail
 exact hR _ _ ⟨rfl,rfl⟩
variable {I:∀{α:Type},α->α}
theorem Ex.Wf.inv {e:Ex} (h:e.Wf):e.s.size<=maxLen/\e.l.length<=maxLen/\∀x∈e.l,x.Wf:=by cases h;exact ⟨by assumption,by assumption,by assumption⟩
theorem Sm.Wf.inv {e:Sm} (h:e.Wf):e.s.size<=maxLen/\e.tt.size<=maxLen/\(e.x.length<=maxLen/\∀x∈e.x,x.Wf)/\(e.a.length<=maxLen/\∀x∈e.a,x.Wf)/\(e.b.length<=maxLen/\∀x∈e.b,x.Wf):=by
 cases h;exact ⟨by assumption,by assumption,⟨by assumption,by assumption⟩,⟨by assumption,by assumption⟩,by assumption,by assumption⟩
theorem DG0 (hI:II @I):∀e:Ex,e.Wf->SzI @I 5 (eA @I e) e.sz:=by
 refine Ex.ind fun e ih h=>?_;obtain ⟨h1,h2,h3⟩:=h.inv;exact WX0 hI e h1 (pV0 hI e.l h2 fun x hx=>ih x hx (h3 x hx))
theorem zC1 (hI:II @I) (l:List Ex) (hl:l.length<=maxLen) (h:∀e∈l,e.Wf):SzI @I 19 ⟨.one,[.ro true (I (l.map Ex.t))]⟩ (l.length+Ex.szs l):=pV0 hI l hl fun e he=>DG0 hI e (h e he)
theorem xZ1 (hI:II @I):∀e:Sm,e.Wf->SzI @I 133 (sA @I e) e.sz:=by
 refine Sm.ind fun e ih h=>?_;obtain ⟨h1,h2,h3,h4,h5⟩:=h.inv;exact WU0 hI e h1 h2 (zC1 hI e.x h3.1 h3.2) (tA0 hI e.a h4.1 fun x hx=>ih x (List.mem_append_left _ hx) (h4.2 x hx)) (tA0 hI e.b h5.1 fun x hx=>ih x (List.mem_append_right _ hx) (h5.2 x hx))
theorem PK0 (hI:II @I) (l:List Sm) (hl:l.length<=maxLen) (h:∀e∈l,e.Wf):SzI @I 94 ⟨.one,[.ro true (I (l.map Sm.t))]⟩ (l.length+Sm.szs l):=tA0 hI l hl fun e he=>xZ1 hI e (h e he)
theorem wA1 (hI:II @I) (p:Pg) (h:p.Wf):SzI @I 12 (pA @I p) p.sz:=
 WW0 hI p (YB0 hI p.rules h.rules fun r hr=>WV0 hI r (DG0 hI r.p (h.rules' r hr).p) (PK0 hI r.a (h.rules' r hr).a (h.rules' r hr).a'))
  (QN0 hI p.fns h.fns fun f hf=>KT0 hI f (h.fns' f hf).name (WT0 hI f.params (h.fns' f hf).params (h.fns' f hf).params') (PK0 hI f.a (h.fns' f hf).a (h.fns' f hf).a'))
theorem Ex.sz_inv {e:Ex} (h:e.sz<=1048576):e.l.length<=1048576/\∀x∈e.l,x.sz<=1048576:=by cases e;exact zK1 h
theorem Sm.sz_inv {e:Sm} (h:e.sz<=1048576):(e.x.length<=1048576/\∀x∈e.x,x.sz<=1048576)/\(e.a.length<=1048576/\∀x∈e.a,x.sz<=1048576)/\(e.b.length<=1048576/\∀x∈e.b,x.sz<=1048576):=by
 cases e;rw[Sm.sz] at h;exact ⟨⟨by show _<=_;simp only[Sm.x];omega,fun x hx=>by have:=Ex.szs_mem hx;simp only[Sm.x] at this;omega⟩,⟨by simp only[Sm.a];omega,fun x hx=>by have:=Sm.szs_mem hx;simp only[Sm.a] at this;omega⟩,by simp only[Sm.b];omega,fun x hx=>by have:=Sm.szs_mem hx;simp only[Sm.b] at this;omega⟩
theorem DQ0 (hI:II @I):∀e:Ex,e.sz<=1048576->EqOk 9 (eA @I e):=by
 refine Ex.ind fun e ih h=>?_;obtain ⟨h1,h2⟩:=Ex.sz_inv h;exact VJ0 hI e (pX0 hI e.l h1 fun x hx=>ih x hx (h2 x hx))
theorem zT1 (hI:II @I) (l:List Ex) (hl:l.length<=1048576) (h:∀e∈l,e.sz<=1048576):EqOk 27 ⟨.one,[.ro true (I (l.map Ex.t))]⟩:=pX0 hI l hl fun e he=>DQ0 hI e (h e he)
theorem Ru.sz_inv {r:Ru} (h:r.sz<=1048576):r.p.sz<=1048576/\r.a.length+Sm.szs r.a<=1048576:=by rw[Ru.sz] at h;exact ⟨by omega,by omega⟩
theorem Fu.sz_inv {f:Fu} (h:f.sz<=1048576):f.params.length<=1048576/\f.a.length+Sm.szs f.a<=1048576:=by rw[Fu.sz] at h;exact ⟨by omega,by omega⟩
theorem Pg.sz_inv {p:Pg} (h:p.sz<=1048576):(p.rules.length<=1048576/\∀r∈p.rules,r.sz<=1048576)/\(p.fns.length<=1048576/\∀f∈p.fns,f.sz<=1048576):=by
 rw[Pg.sz] at h;exact ⟨⟨by omega,fun r hr=>by have:=Ru.szs_mem hr;omega⟩,by omega,fun r hr=>by have:=Fu.szs_mem hr;omega⟩
abbrev ToXS (I:∀{α:Type},α->α) (l:List Ex):Prop:=ACl Tryz.prog 23 [⟨.one,[.ro true (I (l.map Ex.t))]⟩] [] (fun res bx=>res=⟨.one,[.ow (0,0) true 4 (I (l.map Ex.o))]⟩/\bx=[])
abbrev ToX (I:∀{α:Type},α->α) (e:Ex):Prop:=ACl Tryz.prog 7 [eA @I e] [] (fun res bx=>res=⟨.agg,[.lit (.int .i64 (I e.k)),.lit (.int .i64 (I e.n)),.lit (.string (I e.s)),.ow (0,0) true 4 (I (e.l.map Ex.o))]⟩/\bx=[])
theorem DJ0 (hI:II @I):∀e:Ex,e.sz<=1048576->ToX @I e:=by
 refine Ex.ind fun e ih h=>?_;obtain ⟨h1,h2⟩:=Ex.sz_inv h;exact WR0 hI e (pU0 hI e.l h1 fun x hx=>ih x hx (h2 x hx))
theorem zJ1 (hI:II @I) (l:List Ex) (hl:l.length<=1048576) (h:∀e∈l,e.sz<=1048576):ToXS @I l:=pU0 hI l hl fun e he=>DJ0 hI e (h e he)
abbrev ToSS (I:∀{α:Type},α->α) (l:List Sm):Prop:=ACl Tryz.prog 101 [⟨.one,[.ro true (I (l.map Sm.t))]⟩] [] (fun res bx=>res=⟨.one,[.ow (0,0) true 6 (I (l.map Sm.o))]⟩/\bx=[])
abbrev ToS (I:∀{α:Type},α->α) (e:Sm):Prop:=ACl Tryz.prog 138 [sA @I e] [] (fun res bx=>res=⟨.agg,[.lit (.int .i64 (I e.k)),.lit (.string (I e.s)),.lit (.string (I e.tt)),.ow (0,0) true 4 (I (e.x.map Ex.o)),.ow (0,0) true 6 (I (e.a.map Sm.o)),.ow (0,0) true 6 (I (e.b.map Sm.o))]⟩/\bx=[])
theorem wF1 (hI:II @I):∀e:Sm,e.sz<=1048576->ToS @I e:=by
 refine Sm.ind fun e ih h=>?_;obtain ⟨h3,h4,h5⟩:=Sm.sz_inv h;exact WN0 hI e (zJ1 hI e.x h3.1 h3.2) (uZ0 hI e.a h4.1 fun x hx=>ih x (List.mem_append_left _ hx) (h4.2 x hx)) (uZ0 hI e.b h5.1 fun x hx=>ih x (List.mem_append_right _ hx) (h5.2 x hx))
theorem PU0 (hI:II @I) (l:List Sm) (hz:l.length+Sm.szs l<=1048576):ToSS @I l:=uZ0 hI l (by omega) fun e he=>wF1 hI e (by have:=Sm.szs_mem he;omega)
theorem wG1 (hI:II @I) (p:Pg) (hz:p.sz<=1048576):ACl Tryz.prog 14 [pA @I p] [] (fun res bx=>res=⟨.agg,[.ow (0,0) true 6 (I (p.rules.map Ru.o)),.ow (0,0) true 3 (I (p.fns.map Fu.o))]⟩/\bx=[]):=by
 obtain ⟨⟨h1,h2⟩,h3,h4⟩:=Pg.sz_inv hz;exact WQ0 hI p (YA0 hI p.rules h1 fun r hr=>WP0 hI r (DJ0 hI r.p (Ru.sz_inv (h2 r hr)).1) (PU0 hI r.a (Ru.sz_inv (h2 r hr)).2))
  (QM0 hI p.fns h3 fun f hf=>KR0 hI f (hG0 hI f.params (Fu.sz_inv (h4 f hf)).1) (PU0 hI f.a (Fu.sz_inv (h4 f hf)).2))
end Go.Gv
