/- Part PN2 of the proof: contracts of functions of the program, each walked once. -/
import Derived.Test.YtnmkmfancgcaeaaGreatDoorPD12
import Derived.Test.YtnmkmfancgcaeaaGreatDoorPN1
set_option linter.all false
namespace Go.Gv
open Go.Av Go.Proofs
set_option maxRecDepth 10000
set_option maxHeartbeats 8000000
variable {I:∀{α:Type},α->α}
def vL0 (k n:Int) (s:ByteArray) (N:Nat):Prop:=(k≠1->n=0)/\((k=1/\0<=n/\n<=2147483647/\s=ofL []/\N=0)\/(k=2/\tY0 s/\N=0)\/(k=3/\xE0 s/\N=0)\/(k=4/\xE0 s/\N=1)\/(k=5/\s=ofL []/\N=1)\/(k=6/\s∈operS/\N=2)\/(k=7/\s=ofL []/\N=1)\/(k=8/\s=ofL []/\N=1)\/(k=9/\xE0 s/\N=1)\/(k=10/\RexP s/\N=1)\/(k=11/\xE0 s/\N<=4)\/(k=12/\s=ofL []/\N=1)\/(k=13/\s=ofL []/\N=3)\/(k=14/\s=ofL []/\N=0)\/(k=15/\s=ofL []/\N=0)\/(k=16/\s=ofL []/\N=2)\/(k=17/\s=ofL []/\N=1)\/(k=18/\RexP s/\N=2))
theorem OpsI (hI:II @I) {f:FuncId} {l:List ByteArray} (h:WordsOk f l):ACl Tryz.prog f [] [] (fun res bx=>res=⟨.one,[.ro true (I (l.map strT))]⟩/\bx=[]):=acI h fun _ _ ⟨els,h1,h2,h3⟩=>⟨by rw[h2,h1,hI.e];rfl,h3⟩
section
variable (hI:II @I) (e:Ex) (hs:e.s.size<=1048576)
include hI hs
theorem KY0:ACl Tryz.prog 80 [eA @I e] [] (fun res bx=>res=litB (I (bB (vL0 e.k e.n e.s e.l.length)))/\bx=[]):=by
 have hs:(I e.s).size<=1048576:=by rw[hI.e];exact hs
 have c1:=fun a b c=>QB.of hI (qG0 a b c);have c2:=QB.of hI (JA0 (I e.s) 39 39 rfl (by omega))
 have c3:=QB.of hI (xN0 (I e.s) (by omega))
 have c4:=OpsI hI yZ1;have c5:=QB.of hI (WY0 operS (I (operS.map strT)) (I e.s) (by rw[hI.e];rfl) (by decide))
 have c6:=QB.of hI (yY1 (I e.s) (by omega))
 refine qN hI tyK Tryz.func80 137 [.tmp 2] ?_;unhygienic intros
 refine qB 0 ?_
 repeat' first|refine qA 0 ?_|refine qJ (nN []) ?_|refine qp ?_ ?_|refine qk (fun h=>?_) fun h=>?_<;>try(exfalso;omega)|fail
 all_goals (refine hR _ _ ⟨liP hI ?_,rfl⟩;(try simp only[F.k1,F.k2,F.k3,F.k4,F.k5,F.k6,F.k7,F.k8,F.k9,F.k10,F.k11,F.k12,F.k13,xJ0,hI.e,Int.ofNat_eq_natCast])<;>(clear F hR;(try clear c1);(try clear c2);(try clear c3);(try clear c4);(try clear c5);(try clear c6);(try clear c7);(try clear c8);(try clear c9);first|(simp_all [-List.length_eq_zero_iff,IffW,vL0,ofL,tY0];done)|(simp_all [-List.length_eq_zero_iff,IffW,vL0,ofL,tY0];omega)|(simp_all [-List.length_eq_zero_iff,IffW,vL0,ofL,tY0];grind)))
theorem yW1 (m:Int):ACl Tryz.prog 121 [litI m,⟨.one,[.ptr 0 0]⟩] [some (eA @I e).cs] (fun res bx=>res=litB (I (bB (Int.ofNat e.l.length=m)))/\bx=[some (eA @I e).cs]):=by
 refine qN hI tyK Tryz.func121 9 [.tmp 3] ?_;unhygienic intros
 refine qB 1 ?_
 repeat' first|refine qA 1 ?_|refine qJ (nN []) ?_|refine qp ?_ ?_|refine qk (fun h=>?_) fun h=>?_|fail
 all_goals (refine hR _ _ ⟨liP hI ?_,rfl⟩;(try simp only[F.k1,F.k2,F.k3,F.k4,F.k5,F.k6,F.k7,F.k8,F.k9,F.k10,F.k11,F.k12,F.k13,xJ0,hI.e,Int.ofNat_eq_natCast])<;>(clear F hR;(try clear c1);(try clear c2);(try clear c3);(try clear c4);(try clear c5);(try clear c6);(try clear c7);(try clear c8);(try clear c9);first|(simp_all [-List.length_eq_zero_iff,IffW];done)|(simp_all [-List.length_eq_zero_iff,IffW];omega)|(simp_all [-List.length_eq_zero_iff,IffW];grind)))
theorem dH0:ACl Tryz.prog 86 [eA @I e] [] (fun res bx=>res=litB (I (bB (vL0 e.k e.n e.s e.l.length)))/\bx=[]):=by
 have hs:(I e.s).size<=1048576:=by rw[hI.e];exact hs
 have c1:=fun a b c=>QB.of hI (vZ0 a b c);have c2:=QB.of hI (FC0 (I e.s) (by omega))
 have c3:=QB.of hI (xP0 (I e.s) (by omega))
 have c4:=OpsI hI FN0;have c5:=QB.of hI (uC0 operS (I (operS.map strT)) (I e.s) (by rw[hI.e];rfl) (by decide))
 have c6:=QB.of hI (QP0 (I e.s) (by omega))
 have c7:=yW1 hI e (by rwa[hI.e] at hs)
 refine qN hI tyK Tryz.func86 137 [.tmp 2] ?_;unhygienic intros
 refine qB 0 ?_
 repeat' first|refine qA 0 ?_|refine qJ (nN []) ?_|refine qJ (nN [0]) ?_|refine qp ?_ ?_|refine qk (fun h=>?_) fun h=>?_<;>try(exfalso;omega)|fail
 all_goals (refine hR _ _ ⟨liP hI ?_,rfl⟩;(try simp only[F.k1,F.k2,F.k3,F.k4,F.k5,F.k6,F.k7,F.k8,F.k9,F.k10,F.k11,F.k12,F.k13,xJ0,hI.e,Int.ofNat_eq_natCast])<;>(clear F hR;(try clear c1);(try clear c2);(try clear c3);(try clear c4);(try clear c5);(try clear c6);(try clear c7);(try clear c8);(try clear c9);first|(simp_all [-List.length_eq_zero_iff,IffW,vL0,ofL,tY0];done)|(simp_all [-List.length_eq_zero_iff,IffW,vL0,ofL,tY0];omega)|(simp_all [-List.length_eq_zero_iff,IffW,vL0,ofL,tY0];grind)))
end
theorem eA_I (hI:II @I) (e:Ex):agT e.t=eA @I e:=by rw[Ex.tI hI];rfl
theorem sA_I (hI:II @I) (y:Sm):agT y.t=sA @I y:=by rw[Sm.tI hI];rfl
theorem vW1 (e:Ex):agT e.t=eA @id e:=eA_I rfl e
end Go.Gv
