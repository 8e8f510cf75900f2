/- Part N2 of the proof: contracts of functions of the program, each walked once. -/
import Derived.Test.YtfobhlmjcnkpiaaGreatDoorN1
set_option linter.all false
namespace Go.Gv
open Go.Av Go.Proofs
set_option maxRecDepth 10000
set_option maxHeartbeats 8000000
variable {I:∀{α:Type},α->α}
def XR0 (x:List Ex):Int:=match x with
 | []=>0
 | .mk k _ _ _::_=>k
def uD0 (k:Int) (s t:ByteArray) (NX NA NB:Nat) (k0:Int):Prop:=(k≠7->t=ofL [])/\(k≠5->NB=0)/\(k≠5->k≠6->k≠7->NA=0)/\((k=1/\s=ofL []/\1<=NX/\NX<=5)\/(k=2/\xU0 s/\NX=1)\/(k=3/\xU0 s/\NX=2)\/(k=4/\s=ofL []/\NX=2)\/(k=5/\s=ofL []/\NX=1)\/(k=6/\s=ofL []/\NX=1)\/(k=7/\xU0 s/\xU0 t/\NX=0)\/(k=8/\s=ofL []/\NX=0)\/(k=9/\s=ofL []/\NX=1)\/(k=10/\s=ofL []/\NX=1)\/(k=11/\xU0 s/\NX=1)\/(k=12/\s=ofL []/\NX=1/\k0=11))
theorem tM1 {s:ByteArray} (h:xU0 s):s≠ofL []:=fun he=>by
 have:=h.1.2.1;rw[he] at this;exact absurd this (by decide)
theorem RG0 (k:Int) (s t:ByteArray) (x:List Ex) (a b:List Sm):agT (Sm.mk k s t x a b).t=⟨.agg,[.lit (.int .i64 k),.lit (.string s),.lit (.string t),.ro true (x.map Ex.t),.ro true (a.map Sm.t),.ro true (b.map Sm.t)]⟩:=by rw[Sm.t_mk];rfl
section
variable (hI:II @I) (y:Sm)
include hI
theorem QM0 (h:0 < y.x.length):XR0 y.x=(y.x[0]!).k:=by
 obtain ⟨k,s,t,x,a,b⟩:=y;cases x with
 | nil=>simp[Sm.x] at h
 | cons e x=>cases e;rfl
theorem MK0 (n:Int) (a b:Bool):ACl Tryz.prog 184 [sA @I y,litI n,litB a,litB b] [] (fun res bx=>res=litB (I (bB (Int.ofNat y.x.length=n/\(a=true\/y.a.length=0)/\(b=true\/y.b.length=0))))/\bx=[]):=by
 refine qN hI tyK Tryz.func184 32 [.tmp 8] ?_;unhygienic intros
 refine qB 0 ?_
 repeat' first|refine qA 0 ?_|refine qp ?_ ?_|refine qk (fun h=>?_) fun h=>?_|fail
 all_goals (refine hR _ _ ⟨liP hI ?_,rfl⟩;(try simp only[F.k1,F.k2,F.k3,F.k4,F.k5,F.k6,F.k7,F.k8,F.k9,F.k10,F.k11,F.k12,F.k13,xT0,hI.e,Int.ofNat_eq_natCast])<;>(clear F hR;(try clear c1);(try clear c2);(try clear c3);(try clear c4);(try clear c5);(try clear c6);(try clear c7);(try clear c8);(try clear c9);first|(simp_all [-List.length_eq_zero_iff,IffW];done)|(simp_all [-List.length_eq_zero_iff,IffW];omega)|(simp_all [-List.length_eq_zero_iff,IffW];grind)))
variable (hs:y.s.size<=1048576) (ht:y.tt.size<=1048576)
include hs ht
theorem FX0:ACl Tryz.prog 168 [sA @I y] [] (fun res bx=>res=litB (I (bB (uD0 y.k y.s y.tt y.x.length y.a.length y.b.length (XR0 y.x))))/\bx=[]):=by
 have hs:(I y.s).size<=1048576:=by rw[hI.e];exact hs
 have ht:(I y.tt).size<=1048576:=by rw[hI.e];exact ht
 have c1:=fun a b c=>QB.of hI (uZ0 a b c);have c2:=QB.of hI (xR0 (I y.s) (by omega))
 have c3:=QB.of hI (xR0 (I y.tt) (by omega))
 have c4:=MK0 hI y;refine qN hI tyK Tryz.func168 132 [.tmp 2] ?_;unhygienic intros
 refine qB 0 ?_
 repeat' first|refine qA 0 ?_|refine qJ (nN []) ?_|refine qp ?_ ?_|refine qk (fun h=>?_) fun h=>?_<;>try(exfalso;omega)|fail
 all_goals have hk:=QM0 hI y
 all_goals (refine hR _ _ ⟨liP hI ?_,rfl⟩;(try simp only[F.k1,F.k2,F.k3,F.k4,F.k5,F.k6,F.k7,F.k8,F.k9,F.k10,F.k11,F.k12,F.k13,xT0,hI.e,Int.ofNat_eq_natCast])<;>(clear F hR;(try clear c1);(try clear c2);(try clear c3);(try clear c4);(try clear c5);(try clear c6);(try clear c7);(try clear c8);(try clear c9);first|(simp_all [-List.length_eq_zero_iff,IffW,uD0,ofL];done)|(simp_all [-List.length_eq_zero_iff,IffW,uD0,ofL];omega)|(simp_all [-List.length_eq_zero_iff,IffW,uD0,ofL];grind)))
theorem ZA0 (hx:y.x.length<=1048576) (hxs:∀e∈y.x,e.sz<=1048576):ACl Tryz.prog 183 [sA @I y] [] (fun res bx=>res=litB (I (bB ((∀e∈y.x,e.good)/\uD0 y.k y.s y.tt y.x.length y.a.length y.b.length (XR0 y.x))))/\bx=[]):=by
 have hs:(I y.s).size<=1048576:=by rw[hI.e];exact hs
 have ht:(I y.tt).size<=1048576:=by rw[hI.e];exact ht
 have c1:=fun a b c=>QB.of hI (uN0 a b c);have c2:=QB.of hI (wD0 (I y.s) (by omega))
 have c3:=QB.of hI (wD0 (I y.tt) (by omega))
 have c4:=fun i (h:i < y.x.length)=>QB.of hI (pP0 (y.x[i]!) (hxs _ (zD0 h)));simp only[eA_I hI] at c4;refine qN hI tyK Tryz.func183 138 [.tmp 2] ?_;unhygienic intros
 refine qB 0 ?_;refine qLf 1 [1,8,9,10] kk0 (fun i=>⟨vag 138 [(1,⟨.one,[.ptr 0 0]⟩),(8,⟨.one,[.ro true (I (y.x.map Ex.t))]⟩),(9,litI (Int.ofNat (I y.x.length))),(10,litI (Int.ofNat (I i)))],[some (sA @I y).cs],1⟩) (fun i=>i<=y.x.length/\∀e∈y.x.take i,e.good) (fun i=>y.x.length - i) ?_ fun i hi=>?_
 ·cbv
  exact ⟨0,by simp only[hI.e];rfl,by simp,by simp⟩
 refine qB 0 ?_;refine qk (fun h=>?_) fun h=>?_
 ·have c5:=c4 i h
  repeat' first|refine qA 1 ?_|refine qJ (nN []) ?_|refine qp ?_ ?_|refine qk (fun h=>?_) fun h=>?_<;>try(exfalso;omega)|fail
  ·exact hR _ _ ⟨liP hI ⟨fun q=>by simp at q,fun q=>absurd (q.1 _ (zD0 ‹_›)) h⟩,rfl⟩
  ·exact ⟨i+1,by (try simp only[A.reset,xV0,hI.e,List.append_assoc,Bool.or_false,pE0]);rfl,⟨by omega,gD0 ‹_› hi.2 (Classical.not_not.1 h)⟩,by omega⟩
 ·have hx:=hi.2
  rw[List.take_of_length_le (by omega)] at hx
  clear hi c4 hxs
  repeat' first|refine qA 1 ?_|refine qJ (nN []) ?_|refine qp ?_ ?_|refine qk (fun h=>?_) fun h=>?_<;>try(exfalso;omega)|fail
  all_goals have hk:=QM0 hI y
  all_goals have hn:xU0 y.s->y.s≠⟨⟨[]⟩⟩:=tM1
  all_goals (refine hR _ _ ⟨liP hI ?_,rfl⟩;(try simp only[F.k1,F.k2,F.k3,F.k4,F.k5,F.k6,F.k7,F.k8,F.k9,F.k10,F.k11,F.k12,F.k13,xT0,hI.e,Int.ofNat_eq_natCast])<;>(clear F hR;(try clear c1);(try clear c2);(try clear c3);(try clear c4);(try clear c5);(try clear c6);(try clear c7);(try clear c8);(try clear c9);first|(simp_all [-List.length_eq_zero_iff,IffW,uD0,ofL];done)|(simp_all [-List.length_eq_zero_iff,IffW,uD0,ofL];omega)|(simp_all [-List.length_eq_zero_iff,IffW,uD0,ofL];grind)))
end
theorem WG0:∀(k:Int) (s t:ByteArray) (x:List Ex) (a b:List Sm),s.size<=1048576->t.size<=1048576->x.length<=1048576->(∀e∈x,e.sz<=1048576)->ACl Tryz.prog 183 [agT (Sm.mk k s t x a b).t] [] (fun res bx=>∃r:Bool,(r=true↔(∀e∈x,e.good)/\uD0 k s t x.length a.length b.length (XR0 x))/\res=litB r/\bx=[]):=
 fun k s t x a b h1 h2 h3 h4=>by rw[RG0];exact QB.to (ZA0 (I:=@id) rfl (.mk k s t x a b) h1 h2 h3 h4)
end Go.Gv
