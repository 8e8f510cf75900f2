/- Part Q3 of the proof: contracts of functions of the program, each walked once. -/
import Derived.Test.YtfobhlmjcnkpiaaGreatDoorQ2
set_option linter.all false
namespace Go.Gv
open Go.Av Go.Proofs
set_option maxRecDepth 10000
set_option maxHeartbeats 8000000
variable {I:∀{α:Type},α->α}
@[simp,reducible] def aN (n:Int):AV:=⟨.agg,[.lit (.int .i64 1),.lit (.int .i64 n),.lit (.string ⟨⟨[]⟩⟩)]⟩
def b2i (b:Bool):Int:=if b then 1 else 0
theorem pZ0 (z:Int):wr (IntKind.i64.wrap z)=wr z:=by
 simp only[IntKind.wrap,wr,IntKind.bits,IntKind.signed];simp
 split<;>omega
theorem wL1 (hI:II @I) (n:Int):ACl Tryz.prog 138 [aN n] [] (fun res bx=>res=litI n/\bx=[]):=by
 refine qN hI tyK Tryz.func138 51 [.tmp 2] ?_;unhygienic intros
 refine qB 0 ?_
 repeat' first|refine qA 0 ?_|refine qp ?_ ?_|refine qk (fun h=>?_) fun h=>?_<;>try(exfalso;omega)|fail
 exact hR _ _ ⟨rfl,rfl⟩
theorem ZX0 (hI:II @I) (n:Int):ACl Tryz.prog 123 [aN n] [] (fun res bx=>res=litI n/\bx=[]):=by
 refine qN hI tyK Tryz.func123 49 [.tmp 2] ?_;unhygienic intros
 refine qB 0 ?_
 repeat' first|refine qA 0 ?_|refine qp ?_ ?_|refine qk (fun h=>?_) fun h=>?_<;>try(exfalso;omega)|fail
 exact hR _ _ ⟨rfl,rfl⟩
theorem VB0 (hI:II @I) (n:Int) (hn:-9223372036854775808<=n/\n<=9223372036854775807):ACl Tryz.prog 62 [aN n] [] (fun res bx=>res=litS (I (numT n))/\bx=[]):=by
 have c1:=TD0 hI _ n (Nat.lt_succ_self _) hn;refine qN hI tyK Tryz.func62 11 [.tmp 2] ?_;unhygienic intros
 refine qB 0 ?_
 repeat' first|refine qA 0 ?_|refine qJ (nN []) ?_|refine qp ?_ ?_|refine qk (fun h=>?_) fun h=>?_<;>try(exfalso;omega)|fail
 ·exact hR _ _ ⟨rfl,rfl⟩
 ·exact absurd trivial h
theorem VC0 (hI:II @I) (n:Int) (hn:-9223372036854775808<=n/\n<=9223372036854775807):ACl Tryz.prog 125 [aN n] [] (fun res bx=>res=litS (I (numT n))/\bx=[]):=by
 have c1:=PL0 hI n hn;refine qN hI tyK Tryz.func125 11 [.tmp 2] ?_;unhygienic intros
 refine qB 0 ?_
 repeat' first|refine qA 0 ?_|refine qJ (nN []) ?_|refine qp ?_ ?_|refine qk (fun h=>?_) fun h=>?_<;>try(exfalso;omega)|fail
 ·exact hR _ _ ⟨rfl,rfl⟩
 ·exact absurd trivial h
theorem wJ1 (hI:II @I) (n:Int):ACl Tryz.prog 98 [aN n] [] (fun res bx=>res=litB (I (bB (n≠0)))/\bx=[]):=by
 refine qN hI tyK Tryz.func98 12 [.tmp 2] ?_;unhygienic intros
 refine qB 0 ?_
 repeat' first|refine qA 0 ?_|refine qp ?_ ?_|refine qk (fun h=>?_) fun h=>?_<;>try(exfalso;omega)|fail
 all_goals (refine hR _ _ ⟨liP hI ?_,rfl⟩;(try simp only[F.k1,F.k2,F.k3,F.k4,F.k5,F.k6,F.k7,F.k8,F.k9,F.k10,F.k11,F.k12,F.k13,xT0,hI.e,Int.ofNat_eq_natCast])<;>(clear F hR;(try clear c1);(try clear c2);(try clear c3);(try clear c4);(try clear c5);(try clear c6);(try clear c7);(try clear c8);(try clear c9);first|(simp_all [-List.length_eq_zero_iff,IffW];done)|(simp_all [-List.length_eq_zero_iff,IffW];omega)|(simp_all [-List.length_eq_zero_iff,IffW];grind)))
theorem wK1 (hI:II @I) (n:Int):ACl Tryz.prog 88 [aN n] [] (fun res bx=>res=litB (I (bB (n≠0)))/\bx=[]):=by
 refine qN hI tyK Tryz.func88 12 [.tmp 2] ?_;unhygienic intros
 refine qB 0 ?_
 repeat' first|refine qA 0 ?_|refine qp ?_ ?_|refine qk (fun h=>?_) fun h=>?_<;>try(exfalso;omega)|fail
 all_goals (refine hR _ _ ⟨liP hI ?_,rfl⟩;(try simp only[F.k1,F.k2,F.k3,F.k4,F.k5,F.k6,F.k7,F.k8,F.k9,F.k10,F.k11,F.k12,F.k13,xT0,hI.e,Int.ofNat_eq_natCast])<;>(clear F hR;(try clear c1);(try clear c2);(try clear c3);(try clear c4);(try clear c5);(try clear c6);(try clear c7);(try clear c8);(try clear c9);first|(simp_all [-List.length_eq_zero_iff,IffW];done)|(simp_all [-List.length_eq_zero_iff,IffW];omega)|(simp_all [-List.length_eq_zero_iff,IffW];grind)))
theorem hU0 (hI:II @I) (b:Bool):ACl Tryz.prog 60 [litB b] [] (fun res bx=>res=vN @I (b2i b)/\bx=[]):=by
 have c1:=fun n=>pK0 hI n;refine qN hI tyK Tryz.func60 6 [.cell 2 78] ?_;unhygienic intros
 cases b
 all_goals
  refine qB 0 ?_
  repeat' first|refine qA 0 ?_|refine qJ (nN []) ?_|refine qp ?_ ?_|refine qk (fun h=>?_) fun h=>?_|fail
  exact hR _ _ ⟨rfl,rfl⟩
theorem TK0 (hI:II @I) (b:Bool):ACl Tryz.prog 87 [litB b] [] (fun res bx=>res=vN @I (b2i b)/\bx=[]):=by
 have c1:=fun n=>hK0 hI n;refine qN hI tyK Tryz.func87 6 [.cell 2 78] ?_;unhygienic intros
 cases b
 all_goals
  refine qB 0 ?_
  repeat' first|refine qA 0 ?_|refine qJ (nN []) ?_|refine qp ?_ ?_|refine qk (fun h=>?_) fun h=>?_|fail
  exact hR _ _ ⟨by simp only[vN,hI.e];rfl,rfl⟩
theorem qE1 (hI:II @I) (n m:Int):ACl Tryz.prog 140 [aN n,aN m] [] (fun res bx=>res=litB (I (bB (n=m)))/\bx=[]):=by
 refine qN hI tyK Tryz.func140 23 [.tmp 4] ?_;unhygienic intros
 refine qB 0 ?_
 repeat' first|refine qA 0 ?_|refine qp ?_ ?_|refine qk (fun h=>?_) fun h=>?_<;>try(exfalso;omega)|fail
 all_goals (refine hR _ _ ⟨liP hI ?_,rfl⟩;(try simp only[F.k1,F.k2,F.k3,F.k4,F.k5,F.k6,F.k7,F.k8,F.k9,F.k10,F.k11,F.k12,F.k13,xT0,hI.e,Int.ofNat_eq_natCast])<;>(clear F hR;(try clear c1);(try clear c2);(try clear c3);(try clear c4);(try clear c5);(try clear c6);(try clear c7);(try clear c8);(try clear c9);first|(simp_all [-List.length_eq_zero_iff,IffW];done)|(simp_all [-List.length_eq_zero_iff,IffW];omega)|(simp_all [-List.length_eq_zero_iff,IffW];grind)))
theorem qF1 (hI:II @I) (n m:Int):ACl Tryz.prog 128 [aN n,aN m] [] (fun res bx=>res=litB (I (bB (n=m)))/\bx=[]):=by
 have c1:=ZX0 hI;refine qN hI tyK Tryz.func128 23 [.tmp 4] ?_;unhygienic intros
 refine qB 0 ?_
 repeat' first|refine qA 0 ?_|refine qJ (nN []) ?_|refine qp ?_ ?_|refine qk (fun h=>?_) fun h=>?_<;>try(exfalso;omega)|fail
 all_goals (refine hR _ _ ⟨liP hI ?_,rfl⟩;(try simp only[F.k1,F.k2,F.k3,F.k4,F.k5,F.k6,F.k7,F.k8,F.k9,F.k10,F.k11,F.k12,F.k13,xT0,hI.e,Int.ofNat_eq_natCast])<;>(clear F hR;(try clear c1);(try clear c2);(try clear c3);(try clear c4);(try clear c5);(try clear c6);(try clear c7);(try clear c8);(try clear c9);first|(simp_all [-List.length_eq_zero_iff,IffW];done)|(simp_all [-List.length_eq_zero_iff,IffW];omega)|(simp_all [-List.length_eq_zero_iff,IffW];grind)))
theorem qG1 (hI:II @I) (n m:Int):ACl Tryz.prog 139 [aN n,aN m] [] (fun res bx=>res=litB (I (bB (n < m)))/\bx=[]):=by
 refine qN hI tyK Tryz.func139 23 [.tmp 4] ?_;unhygienic intros
 refine qB 0 ?_
 repeat' first|refine qA 0 ?_|refine qp ?_ ?_|refine qk (fun h=>?_) fun h=>?_<;>try(exfalso;omega)|fail
 all_goals (refine hR _ _ ⟨liP hI ?_,rfl⟩;(try simp only[F.k1,F.k2,F.k3,F.k4,F.k5,F.k6,F.k7,F.k8,F.k9,F.k10,F.k11,F.k12,F.k13,xT0,hI.e,Int.ofNat_eq_natCast])<;>(clear F hR;(try clear c1);(try clear c2);(try clear c3);(try clear c4);(try clear c5);(try clear c6);(try clear c7);(try clear c8);(try clear c9);first|(simp_all [-List.length_eq_zero_iff,IffW];done)|(simp_all [-List.length_eq_zero_iff,IffW];omega)|(simp_all [-List.length_eq_zero_iff,IffW];grind)))
theorem qH1 (hI:II @I) (n m:Int):ACl Tryz.prog 127 [aN n,aN m] [] (fun res bx=>res=litB (I (bB (n < m)))/\bx=[]):=by
 have c1:=ZX0 hI;refine qN hI tyK Tryz.func127 23 [.tmp 4] ?_;unhygienic intros
 refine qB 0 ?_
 repeat' first|refine qA 0 ?_|refine qJ (nN []) ?_|refine qp ?_ ?_|refine qk (fun h=>?_) fun h=>?_<;>try(exfalso;omega)|fail
 all_goals (refine hR _ _ ⟨liP hI ?_,rfl⟩;(try simp only[F.k1,F.k2,F.k3,F.k4,F.k5,F.k6,F.k7,F.k8,F.k9,F.k10,F.k11,F.k12,F.k13,xT0,hI.e,Int.ofNat_eq_natCast])<;>(clear F hR;(try clear c1);(try clear c2);(try clear c3);(try clear c4);(try clear c5);(try clear c6);(try clear c7);(try clear c8);(try clear c9);first|(simp_all [-List.length_eq_zero_iff,IffW];done)|(simp_all [-List.length_eq_zero_iff,IffW];omega)|(simp_all [-List.length_eq_zero_iff,IffW];grind)))
noncomputable def opN (s:ByteArray) (x y:Int):Vl:=
 if s=⟨⟨[43]⟩⟩ then ⟨1,wr (x+y),⟨⟨[]⟩⟩⟩ else if s=⟨⟨[45]⟩⟩ then ⟨1,wr (x - y),⟨⟨[]⟩⟩⟩ else if s=⟨⟨[42]⟩⟩ then ⟨1,wr (x * y),⟨⟨[]⟩⟩⟩
 else if s=⟨⟨[46]⟩⟩ then ⟨2,0,numT x++numT y⟩ else if s=⟨⟨[60]⟩⟩ then ⟨1,b2i (bB (x < y)),⟨⟨[]⟩⟩⟩ else if s=⟨⟨[60,61]⟩⟩ then ⟨1,b2i (bB (x<=y)),⟨⟨[]⟩⟩⟩
 else if s=⟨⟨[61,61]⟩⟩ then ⟨1,b2i (bB (x=y)),⟨⟨[]⟩⟩⟩ else if s=⟨⟨[33,61]⟩⟩ then ⟨1,b2i (bB (x≠y)),⟨⟨[]⟩⟩⟩ else if s=⟨⟨[62]⟩⟩ then ⟨1,b2i (bB (y < x)),⟨⟨[]⟩⟩⟩ else ⟨1,b2i (bB (y<=x)),⟨⟨[]⟩⟩⟩
@[simp,reducible] def v2N (I:∀{α:Type},α->α) (v:Vl):AV:=⟨.tup [(true,3),(false,1)],[.lit (.int .i64 (I v.k)),.lit (.int .i64 (I v.n)),.lit (.string (I v.s)),.lit (.int .i64 0)]⟩
section
variable (hI:II @I) (s:ByteArray) (x y:Int) (hx:0<=x/\x<=2147483647) (hy:0<=y/\y<=2147483647) (h1:s≠⟨⟨[47]⟩⟩) (h2:s≠⟨⟨[37]⟩⟩)
include hI hx hy h1 h2
theorem wB1:ACl Tryz.prog 99 [litS s,aN x,aN y] [] (fun res bx=>res=v2N @I (opN s x y)/\bx=[]):=by
 have c1:=wL1 hI;have c2:=fun n=>pK0 hI n;have c3:=VB0 hI x (by omega)
 have c4:=VB0 hI y (by omega)
 have c5:=hU0 hI;have c6:=qG1 hI;have c7:=qE1 hI;have c8:=WN0 hI;refine qN hI tyK Tryz.func99 100 [.cell 6 78,.tmp 7] ?_;unhygienic intros
 have z1:=xE0 x (by omega)
 have z2:=xE0 y (by omega)
 have z3:(numT x++numT y).size=(numT x).size+(numT y).size:=ByteArray.size_append;have e1:sadd (I (numT x)) (I (numT y))=I (numT x++numT y):=by simp only[hI.e];cases hO;rfl
 have w1:wr (bin .add .i64 x y)=wr (x+y):=by cases hO;exact pZ0 _
 have w2:wr (bin .sub .i64 x y)=wr (x - y):=by cases hO;exact pZ0 _
 have w3:wr (bin .mul .i64 x y)=wr (x * y):=by cases hO;exact pZ0 _
 have nb:∀p q:Prop,(q↔¬p)->bnot (bB p)=bB q:=fun p q h=>by cases hO;rw[Bool.eq_iff_iff,xT0];show (!bB p)=true↔_;rw[Bool.not_eq_true',<-Bool.not_eq_true,xT0,h]
 have n1:=nb (y < x) (x<=y) (by omega)
 have n2:=nb (x=y) (x≠y) (by omega)
 have n3:=nb (x < y) (y<=x) (by omega)
 refine qB 0 ?_
 repeat' first|refine qA 0 ?_|refine qJ (nN []) ?_|refine qp ?_ ?_|refine qk (fun h=>?_) fun h=>?_<;>try(exfalso;omega)|fail
 all_goals first
  | exact absurd (by assumption) h1
  | exact absurd (by assumption) h2
  | (exfalso;omega)
  | (clear F;refine hR _ _ ⟨?_,rfl⟩;clear hR c1 c2 c3 c4 c5 c6 c7 c8;(try subst s);simp[v2N,opN,hI.e,w1,w2,w3,n1,n2,n3];done)
  | (clear F;refine hR _ _ ⟨?_,rfl⟩;clear hR c1 c2 c3 c4 c5 c6 c7 c8;simp[v2N,opN,hI.e,w1,w2,w3,n1,n2,n3, *];done)
theorem wG1:ACl Tryz.prog 89 [litS s,aN x,aN y] [] (fun res bx=>res=v2N @I (opN s x y)/\bx=[]):=by
 have c1:=ZX0 hI;have c2:=fun n=>qD1 hI n;have c3:=VC0 hI x (by omega)
 have c4:=VC0 hI y (by omega)
 have c5:=TK0 hI;have c6:=qH1 hI;have c7:=qF1 hI;have c8:=rL1 hI;have c9:=hK0 hI;refine qN hI tyK Tryz.func89 113 [.cell 6 78,.tmp 7] ?_;unhygienic intros
 have z1:=xE0 x (by omega)
 have z2:=xE0 y (by omega)
 have z3:(numT x++numT y).size=(numT x).size+(numT y).size:=ByteArray.size_append;have e1:sadd (I (numT x)) (I (numT y))=I (numT x++numT y):=by simp only[hI.e];cases hO;rfl
 have w1:wr (bin .add .i64 x y)=wr (x+y):=by cases hO;exact pZ0 _
 have w2:wr (bin .sub .i64 x y)=wr (x - y):=by cases hO;exact pZ0 _
 have w3:wr (bin .mul .i64 x y)=wr (x * y):=by cases hO;exact pZ0 _
 have nb:∀p q:Prop,(q↔¬p)->bnot (bB p)=bB q:=fun p q h=>by cases hO;rw[Bool.eq_iff_iff,xT0];show (!bB p)=true↔_;rw[Bool.not_eq_true',<-Bool.not_eq_true,xT0,h]
 have n2:=nb (x=y) (x≠y) (by omega)
 have tb:∀p:Prop,p->bB p=true:=fun p h=>by rw[xT0];exact h
 have fb:∀p q:Prop,(p↔q)->bB p=bB q:=fun p q h=>by rw[propext h]
 have t1:=fun h:x < y=>tb (x<=y) (by omega)
 have t2:=fun h:y < x=>tb (y<=x) (by omega)
 have t3:=fun h:¬x < y=>fb (x=y) (x<=y) (by omega)
 have t4:=fun h:¬y < x=>fb (x=y) (y<=x) (by omega)
 refine qB 0 ?_
 repeat' first|refine qA 0 ?_|refine qJ (nN []) ?_|refine qp ?_ ?_|refine qk (fun h=>?_) fun h=>?_<;>try(exfalso;omega)|fail
 all_goals first
  | exact absurd (by assumption) h1
  | exact absurd (by assumption) h2
  | (exfalso;omega)
  | (clear F;refine hR _ _ ⟨?_,rfl⟩;clear hR c1 c2 c3 c4 c5 c6 c7 c8;(try subst s);(try have t1:=t1 ‹_›);(try have t2:=t2 ‹_›);(try have t3:=t3 ‹_›);(try have t4:=t4 ‹_›);simp[v2N,opN,hI.e,w1,w2,w3,n2,t1,t2,t3,t4];done)
  | (clear F;refine hR _ _ ⟨?_,rfl⟩;clear hR c1 c2 c3 c4 c5 c6 c7 c8;(try have t1:=t1 ‹_›);(try have t2:=t2 ‹_›);(try have t3:=t3 ‹_›);(try have t4:=t4 ‹_›);simp[v2N,opN,hI.e,w1,w2,w3,n2, *];done)
end
end Go.Gv
