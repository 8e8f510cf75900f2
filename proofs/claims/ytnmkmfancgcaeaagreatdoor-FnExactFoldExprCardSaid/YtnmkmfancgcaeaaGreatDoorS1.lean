/- Part S1 of the proof: contracts of functions of the program, each walked once. -/
import Derived.Test.YtnmkmfancgcaeaaGreatDoorR1
import Derived.Test.YtnmkmfancgcaeaaGreatDoorN5
set_option linter.all false
namespace Go.Gv
open Go.Av Go.Proofs
set_option maxRecDepth 10000
set_option maxHeartbeats 8000000
variable {I:∀{α:Type},α->α}
theorem HZ0 (n:Nat):(@NatCast.natCast Int instNatCastInt n)=Int.ofNat n:=rfl
theorem omI {Q:Prop} (t:Q:=by (try simp only[hI.e] at *);(try simp only[e2] at *);(try simp only[HZ0] at *);(try simp only[Int.ofNat_eq_natCast] at *);omega):Q:=t
def szF (s:Nat) (left:Int):Int:=if left < s then -1 else left - s
theorem uW0 (s:Nat) (left:Int):((s:Int)<=left/\szF s left=left - s)\/(left < s/\szF s left=-1):=by unfold szF;split<;>omega
abbrev SzI (I:∀{α:Type},α->α) (f:FuncId) (a:AV) (s:Nat):Prop:=∀left:Int,WB0 left->ACl Tryz.prog f [a,litI (I left)] [] (fun res bx=>res=litI (I (szF s left))/\bx=[])
theorem HP0 (hI:II @I) {O:Ops} (hO:O=Ops.std) {m:Int} {n:Nat} (h:WB0 m) (hn:n<=maxLen):O.bin .sub .i64 (I m) (Int.ofNat (I n))=I (m - Int.ofNat n):=by rw[hI.e,hI.e,hI.e];exact HN0 hO h hn
theorem bK0 (hI:II @I) (e:Ex) (hs:e.s.size<=maxLen) (ih:SzI @I 19 ⟨.one,[.ro true (I (e.l.map Ex.t))]⟩ (e.l.length+Ex.szs e.l)):SzI @I 5 (eA @I e) e.sz:=by
 intro left hl;have hz:e.sz=e.s.size+(e.l.length+Ex.szs e.l):=by cases e;rw[Ex.sz,Nat.add_assoc];rfl
 have q:=uW0 e.sz left;have q1:=uW0 (e.l.length+Ex.szs e.l) (left - Int.ofNat e.s.size);have c1:=fun (h:¬left - Int.ofNat e.s.size < 0)=>ih (left - Int.ofNat e.s.size) ⟨by omega,by unfold WB0 at hl;exact omI⟩
 refine qN hI tyK Tryz.func5 19 [.tmp 4] ?_;unhygienic intros
 have e1:=HP0 hI hO (n:=e.s.size) hl hs
 dsimp only at e1
 have e2:=e1;simp only[hI.e] at e2;refine qB 0 ?_
 repeat' first|refine qA 0 ?_|refine qJ (nN []) ?_|refine qp ?_ ?_|refine qk (fun h=>?_) fun h=>?_|fail
 all_goals exact hR _ _ ⟨liI hI omI,rfl⟩
theorem HM0 (l:List Ex) (i:Nat):Ex.szs (l.take i)<=Ex.szs l:=by
 have h1:=congrArg Ex.szs (List.take_append_drop i l);rw[Ex.szs_app] at h1;omega
theorem fH0 (hI:II @I) (l:List Ex) (hl:l.length<=maxLen) (ih:∀e∈l,SzI @I 5 (eA @I e) e.sz):SzI @I 19 ⟨.one,[.ro true (I (l.map Ex.t))]⟩ (l.length+Ex.szs l):=by
 intro left hlf;have q:=uW0 (l.length+Ex.szs l) left;refine qN hI tyK Tryz.func19 27 [.tmp 4] ?_;unhygienic intros
 have e1:=HP0 hI hO (n:=l.length) hlf hl
 dsimp only at e1
 have e2:=e1;simp only[hI.e] at e2;refine qB 0 ?_
 repeat' first|refine qA 0 ?_|refine qJ (nN []) ?_|refine qp ?_ ?_|refine qk (fun h=>?_) fun h=>?_|fail
 ·exact hR _ _ ⟨liI hI omI,rfl⟩
 try simp only[e2] at *
 clear e1 e2;refine qLf 0 [0,1,5] kk0 (fun i:Nat=>⟨vag 27 [(0,⟨.one,[.ro true (I (l.map Ex.t))]⟩),(1,litI (I (left - Int.ofNat l.length - Int.ofNat (Ex.szs (l.take i))))),(5,litI (Int.ofNat (I i)))],[],1⟩) (fun i=>i<=l.length/\0<=left - Int.ofNat l.length - Int.ofNat (Ex.szs (l.take i))) (fun i=>l.length - i) ?_ fun i hi=>?_
 ·cbv
  exact ⟨0,by simp[hI.e,Ex.szs];rfl,by omega,by simp only[Ex.szs,List.take_zero] at *;exact omI⟩
 have c1:=fun (hh:i < l.length)=>ih _ (xC0 hh) (left - Int.ofNat l.length - Int.ofNat (Ex.szs (l.take i))) ⟨hi.2,by unfold WB0 at hlf;exact omI⟩
 have q1:=fun (hh:i < l.length)=>uW0 (l[i]!).sz (left - Int.ofNat l.length - Int.ofNat (Ex.szs (l.take i)));have q2:=fun (hh:i < l.length)=>show Ex.szs (l.take (i+1))=Ex.szs (l.take i)+(l[i]!).sz by rw[vU0 hh,Ex.szs_app,Ex.szs_one]
 have hmax:maxLen<=9223372036854775807:=by decide
 have q3:=HM0 l (i+1);refine qB 0 ?_
 repeat' first|refine qA 0 ?_|refine qJ (nN []) ?_|refine qp ?_ ?_|refine qk (fun h=>?_) fun h=>?_|fail
 ·have a:=q1 ‹_›
  have b:=q2 ‹_›;exact hR _ _ ⟨liI hI omI,rfl⟩
 ·have hii:i < l.length:=‹_›
  have a:=q1 hii;have b:=q2 hii;have e:szF (l[i]!).sz (left - Int.ofNat l.length - Int.ofNat (Ex.szs (l.take i)))=left - Int.ofNat l.length - Int.ofNat (Ex.szs (l.take (i+1))):=omI;refine ⟨i+1,by rw[e];(try simp only[A.reset,hI.e]);rfl,⟨by omega,?_⟩,by omega⟩
  exact omI
 ·have ht:l.take i=l:=List.take_of_length_le (by omega)
  rw[ht] at hi |-;exact hR _ _ ⟨liI hI omI,rfl⟩
variable {I:∀{α:Type},α->α}
theorem KC0 {els:List (List T)} {i k:Nat} (hk:∀e∈els,e.length=k) (h:i < els.length):Ops.std.one els i k:=by
 refine ⟨h,?_⟩;rw[List.getD_eq_getElem?_getD,List.getElem?_eq_getElem h];exact hk _ (List.getElem_mem h)
theorem bQ0 (hI:II @I) (e:Ex) (ih:EqOk 27 ⟨.one,[.ro true (I (e.l.map Ex.t))]⟩):EqOk 9 (eA @I e):=by
 have c1:=ih;refine qN hI tyK Tryz.func9 26 [.tmp 4] ?_;unhygienic intros
 refine qB 0 ?_
 repeat' first|refine qA 0 ?_|refine qJ (nN []) ?_|refine qp ?_ ?_|refine qk (fun h=>?_) fun h=>?_|fail
 all_goals first
  | contradiction
  | exact absurd rfl ‹_›
  | exact hR _ _ ⟨rfl,rfl⟩
  | skip
theorem fY0 (hI:II @I) (l:List Ex) (hl:l.length<=1048576) (ih:∀e∈l,EqOk 9 (eA @I e)):EqOk 27 ⟨.one,[.ro true (I (l.map Ex.t))]⟩:=by
 refine qN hI tyK Tryz.func27 27 [.tmp 4] ?_;unhygienic intros
 refine qB 0 ?_
 repeat' first|refine qA 0 ?_|refine qJ (nN []) ?_|refine qp ?_ ?_|refine qk (fun h=>?_) fun h=>?_|fail
 ·exact absurd rfl ‹_›
 refine qLf 0 [0,1,5] kk0 (fun i:Nat=>⟨vag 27 [(0,⟨.one,[.ro true (I (l.map Ex.t))]⟩),(1,⟨.one,[.ro true (I (l.map Ex.t))]⟩),(5,litI (Int.ofNat (I i)))],[],1⟩) (fun i=>i<=l.length) (fun i=>l.length - i) ?_ fun i hi=>?_
 ·cbv
  exact ⟨0,by simp[hI.e];rfl,by omega⟩
 have c1:=fun (hh:i < l.length)=>ih _ (xC0 hh);refine qB 0 ?_
 repeat' first|refine qA 0 ?_|refine qJ (nN []) ?_|refine qp ?_ ?_|refine qk (fun h=>?_) fun h=>?_|fail
 ·exact ⟨i+1,by (try simp only[A.reset,uU0,hI.e,List.append_assoc,Bool.or_false,jV0]);rfl,by omega,by omega⟩
 ·exact hR _ _ ⟨rfl,rfl⟩
theorem bJ0 (hI:II @I) (e:Ex) (ih:ACl Tryz.prog 23 [⟨.one,[.ro true (I (e.l.map Ex.t))]⟩] [] (fun res bx=>res=⟨.one,[.ow (0,0) true 4 (I (e.l.map Ex.o))]⟩/\bx=[])):ACl Tryz.prog 7 [eA @I e] [] (fun res bx=>res=⟨.agg,[.lit (.int .i64 (I e.k)),.lit (.int .i64 (I e.n)),.lit (.string (I e.s)),.ow (0,0) true 4 (I (e.l.map Ex.o))]⟩/\bx=[]):=by
 have c1:=ih;refine qN hI tyK Tryz.func7 18 [.cell 2 28] ?_;unhygienic intros
 refine qB 0 ?_
 repeat' first|refine qA 0 ?_|refine qJ (nN []) ?_|refine qp ?_ ?_|refine qk (fun h=>?_) fun h=>?_|fail
 exact hR _ _ ⟨rfl,rfl⟩
theorem fG0 (hI:II @I) (l:List Ex) (hl:l.length<=1048576) (ih:∀e∈l,ACl Tryz.prog 7 [eA @I e] [] (fun res bx=>res=⟨.agg,[.lit (.int .i64 (I e.k)),.lit (.int .i64 (I e.n)),.lit (.string (I e.s)),.ow (0,0) true 4 (I (e.l.map Ex.o))]⟩/\bx=[])) :
  ACl Tryz.prog 23 [⟨.one,[.ro true (I (l.map Ex.t))]⟩] [] (fun res bx=>res=⟨.one,[.ow (0,0) true 4 (I (l.map Ex.o))]⟩/\bx=[]):=by
 refine qN hI tyK Tryz.func23 23 [.tmp 2] ?_;unhygienic intros
 have hm:mOk 56 (Int.ofNat (I l.length)) (Int.ofNat (I l.length)):=by rw[hI.e];exact GB0 hO ⟨by simp,by simp,by simp;omega,by simp;omega⟩
 refine qB 0 ?_
 repeat' first|refine qA 0 ?_|refine qJ (nN []) ?_|refine qp ?_ ?_|refine qk (fun h=>?_) fun h=>?_|fail
 refine qLf 0 [0,3,4] (kkS 3 1004) (fun a:Nat×List (List T)=>⟨vag 23 [(0,⟨.one,[.ro true (I (l.map Ex.t))]⟩),(3,⟨.one,[.ow (0,0) true 4 (I a.2)]⟩),(4,litI (Int.ofNat (I a.1)))],[],1⟩) (fun a=>a.1<=l.length/\a.2.length=l.length/\(∀e∈a.2,e.length=4)/\a.2.take a.1=(l.map Ex.o).take a.1) (fun a=>l.length - a.1) ?_ fun a ha=>?_
 ·cbv
  refine ⟨(0,repl (nat (Int.ofNat (I l.length))) [.lit (.int .i64 0),.lit (.int .i64 0),.lit (.string ⟨⟨[]⟩⟩),.sl []]),by simp only[hI.e];rfl,by omega,?_,?_,by simp⟩
  ·rw[hI.e];cases hO;simp[Ops.std]
  ·rw[hI.e];cases hO;simp[Ops.std]
 obtain ⟨i,outs⟩:=a;obtain ⟨hi,hlen,hk,ht⟩:=ha;simp only at hi hlen hk ht |-
 by_cases hh:i < l.length
 ·have c1:=ih _ (xC0 hh)
  have n1:idx (Int.ofNat (I i)) (len (I outs)):=by rw[hI.e,hI.e];cases hO;show (0:Int)<=_/\_ < _;simp[Ops.std];omega
  have n2:one (I outs) (nadd 0 (nat (Int.ofNat (I i)))) 4:=by rw[hI.e,hI.e];cases hO;exact KC0 hk (by simp[Ops.std];omega)
  refine qB 0 ?_
  repeat' first|refine qA 0 ?_|refine qJ (nN []) ?_|refine qp ?_ ?_|refine qk (fun h=>?_) fun h=>?_|fail
  ·refine ⟨(i+1,set (I outs) (nadd 0 (nat (Int.ofNat (I i)))) (l[i]!).o),?_,?_⟩
   ·rw[Ex.o_eq];simp only[A.reset,hI.e];rfl
   have hx:(l.map Ex.o)[i]?=some (l[i]!).o:=by simp[hh]
   have hst:=QR0 (els:=l.map Ex.o) (outs:=outs) (x:=(l[i]!).o) (by simpa using hh) (by simpa using hlen) ht hx
   have e:set (I outs) (nadd 0 (nat (Int.ofNat (I i)))) (l[i]!).o=outs.set i (l[i]!).o:=by rw[hI.e,hI.e];cases hO;simp[Ops.std]
   simp only[e];refine ⟨⟨by omega,by rw[hst.1];simp,fun y hy=>?_,hst.2⟩,by omega⟩
   rcases List.mem_or_eq_of_mem_set hy with hy | rfl
   ·exact hk y hy
   ·exact Ex.o_len _
  ·exact absurd hh ‹_›
 ·refine qB 0 ?_
  repeat' first|refine qA 0 ?_|refine qJ (nN []) ?_|refine qp ?_ ?_|refine qk (fun h=>?_) fun h=>?_|fail
  ·exact absurd ‹_› hh
  ·have hil:i=l.length:=by omega
   have ho:outs=l.map Ex.o:=by rw[hil] at ht;rw[List.take_of_length_le (by omega),List.take_of_length_le (by simp)] at ht;exact ht
   exact hR _ _ ⟨by rw[ho],rfl⟩
variable {I:∀{α:Type},α->α}
mutual
def Sm.o:Sm->List T
 | .mk k s t x a b=>[.lit (.int .i64 k),.lit (.string s),.lit (.string t),.own (x.map Ex.o),.own (Sm.os a),.own (Sm.os b)]
def Sm.os:List Sm->List (List T)
 | []=>[]
 | e::l=>Sm.o e::Sm.os l
end
def Ru.o (e:Ru):List T:=[.lit (.int .i64 e.k),.lit (.int .i64 e.p.k),.lit (.int .i64 e.p.n),.lit (.string e.p.s),.own (e.p.l.map Ex.o),.own (e.a.map Sm.o)]
def Fu.o (e:Fu):List T:=[.lit (.string e.name),.own (e.params.map strT),.own (e.a.map Sm.o)]
variable {I:∀{α:Type},α->α}
variable {I:∀{α:Type},α->α}
theorem Ex.Wf.inv {e:Ex} (h:e.Wf):e.s.size<=maxLen/\e.l.length<=maxLen/\∀x∈e.l,x.Wf:=by cases h;exact ⟨by assumption,by assumption,by assumption⟩
theorem HF0 (hI:II @I):∀e:Ex,e.Wf->SzI @I 5 (eA @I e) e.sz:=by
 refine Ex.ind fun e ih h=>?_;obtain ⟨h1,h2,h3⟩:=h.inv;exact bK0 hI e h1 (fH0 hI e.l h2 fun x hx=>ih x hx (h3 x hx))
theorem Ex.sz_inv {e:Ex} (h:e.sz<=1048576):e.l.length<=1048576/\∀x∈e.l,x.sz<=1048576:=by cases e;exact MT0 h
theorem ZT0 (hI:II @I):∀e:Ex,e.sz<=1048576->EqOk 9 (eA @I e):=by
 refine Ex.ind fun e ih h=>?_;obtain ⟨h1,h2⟩:=Ex.sz_inv h;exact bQ0 hI e (fY0 hI e.l h1 fun x hx=>ih x hx (h2 x hx))
abbrev ToX (I:∀{α:Type},α->α) (e:Ex):Prop:=ACl Tryz.prog 7 [eA @I e] [] (fun res bx=>res=⟨.agg,[.lit (.int .i64 (I e.k)),.lit (.int .i64 (I e.n)),.lit (.string (I e.s)),.ow (0,0) true 4 (I (e.l.map Ex.o))]⟩/\bx=[])
theorem HL0 (hI:II @I):∀e:Ex,e.sz<=1048576->ToX @I e:=by
 refine Ex.ind fun e ih h=>?_;obtain ⟨h1,h2⟩:=Ex.sz_inv h;exact bJ0 hI e (fG0 hI e.l h1 fun x hx=>ih x hx (h2 x hx))
end Go.Gv
