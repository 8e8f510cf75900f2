/- Part Q4 of the proof: contracts of functions of the program, each walked once. -/
import Derived.Test.YtfobhlmjcnkpiaaGreatDoorQ3
import Derived.Test.YtfobhlmjcnkpiaaGreatDoorQ1
import Derived.Test.YtfobhlmjcnkpiaaGreatDoorR1
import Derived.Test.YtfobhlmjcnkpiaaGreatDoorD9
set_option linter.all false
namespace Go.Gv
open Go.Av Go.Proofs
set_option maxRecDepth 10000
set_option maxHeartbeats 8000000
variable {I:∀{α:Type},α->α}
noncomputable def valN (s:ByteArray) (x y:Int):Vl:=if s=⟨⟨[38,38]⟩⟩ then ⟨1,b2i (bB (x≠0/\y≠0)),⟨⟨[]⟩⟩⟩ else if s=⟨⟨[124,124]⟩⟩ then ⟨1,b2i (bB (x≠0\/y≠0)),⟨⟨[]⟩⟩⟩ else opN s x y
def nE (v:Vl) (e:Ex):Ex:=if v.k=1/\0<=v.n then .mk 1 v.n ⟨⟨[]⟩⟩ [] else if v.k=2 then .mk 2 0 v.s [] else e
noncomputable def binF (e:Ex):Ex:=if e.l[0]!.k=1/\e.l[1]!.k=1/\e.s≠⟨⟨[47]⟩⟩/\e.s≠⟨⟨[37]⟩⟩ then nE (valN e.s e.l[0]!.n e.l[1]!.n) e else e
noncomputable def fd1 (e:Ex):Ex:=
 if e.k=6 then binF e else if e.k=7/\e.l[0]!.k=1 then .mk 1 (b2i (bB (e.l[0]!.n=0))) ⟨⟨[]⟩⟩ []
 else if e.k=12/\e.l[0]!.k=1 then .mk 1 (Int.ofNat (numT e.l[0]!.n).size) ⟨⟨[]⟩⟩ [] else if e.k=12/\e.l[0]!.k=2 then .mk 1 (Int.ofNat e.l[0]!.s.size) ⟨⟨[]⟩⟩ [] else e
theorem PE0 (hI:II @I) (n:Int):ACl Tryz.prog 49 [litI n] [] (fun res bx=>res=eA @I (.mk 1 n ⟨⟨[]⟩⟩ [])/\bx=[]):=by
 refine yM0 ?_;refine qN hI tyK Tryz.func49 5 [.cell 2 26] ?_;unhygienic intros
 refine qB 0 ?_;exact hR _ _ ⟨by simp only[eA,hI.e];rfl,rfl⟩
theorem PH0 (hI:II @I) (k n:Int) (s:ByteArray) (e:Ex):ACl Tryz.prog 59 [⟨.agg,[.lit (.int .i64 k),.lit (.int .i64 n),.lit (.string s)]⟩,eA @I e] [] (fun res bx=>res=eA @I (nE ⟨k,n,s⟩ e)/\bx=[]):=by
 have c1:=PE0 hI;refine yM0 ?_;refine qN hI tyK Tryz.func59 25 [.cell 4 26] ?_;unhygienic intros
 refine qB 0 ?_
 repeat' first|refine qA 0 ?_|refine qJ (nN []) ?_|refine qp ?_ ?_|refine qk (fun h=>?_) fun h=>?_<;>try(exfalso;omega)|fail
 ·exact hR _ _ ⟨by rw[nE,if_pos ⟨(by assumption),h⟩];simp only[eA,hI.e];rfl,rfl⟩
 ·exact hR _ _ ⟨by rw[nE,if_neg (fun q=>absurd q.2 (by assumption)),if_neg h];rfl,rfl⟩
 ·exact hR _ _ ⟨by rw[nE,if_neg (fun q=>absurd q.1 (by assumption)),if_pos h];simp only[eA,hI.e];rfl,rfl⟩
 ·exact hR _ _ ⟨by rw[nE,if_neg (fun q=>absurd q.1 (by assumption)),if_neg h];rfl,rfl⟩
theorem dK0 (hI:II @I) (e:Ex) (h:e.k=1->0<=e.n/\e.n<=2147483647):ACl Tryz.prog 61 [eA @I e] [] (fun res bx=>res=⟨.tup [(true,3),(false,1)],[.lit (.int .i64 (I (if e.k=1 then 1 else if e.k=2 then 2 else 0))),.lit (.int .i64 (I (if e.k=1 then e.n else 0))),.lit (.string (I (if e.k=2 then e.s else ⟨⟨[]⟩⟩))),.lit (.bool (I (bB (e.k=1\/e.k=2))))]⟩/\bx=[]):=by
 have c1:=pK0 hI;have c2:=WN0 hI;have hb:∀p:Prop,p->bB p=true:=fun p h=>by rw[xT0];exact h
 have hb':∀p:Prop,¬p->bB p=false:=fun p h=>by rw[<-Bool.not_eq_true,xT0];exact h
 refine qN hI tyK Tryz.func61 17 [.cell 2 78,.tmp 3] ?_;unhygienic intros
 refine qB 0 ?_
 repeat' first|refine qA 0 ?_|refine qJ (nN []) ?_|refine qp ?_ ?_|refine qk (fun h=>?_) fun h=>?_<;>try(exfalso;omega)|fail
 ·have w:=(show e.k=1->0<=e.n/\e.n<=2147483647 by assumption) h
  have q:¬e.k=2:=by omega
  exact hR _ _ ⟨by simp only[hI.e,if_pos h,if_neg q,uH1 (n:=e.n) (by omega),hb (e.k=1\/e.k=2) (.inl h)],rfl⟩
 ·have q:¬e.k=1:=by assumption
  exact hR _ _ ⟨by simp only[hI.e,if_pos h,if_neg q,hb (e.k=1\/e.k=2) (.inr h)],rfl⟩
 ·have q:¬e.k=1:=by assumption
  exact hR _ _ ⟨by simp only[hI.e,if_neg h,if_neg q,hb' (e.k=1\/e.k=2) (fun r=>r.elim q h)],rfl⟩
@[simp,reducible] def eS (I:∀{α:Type},α->α) (st:Bool) (e:Ex):AV:=⟨.agg,[.lit (.int .i64 (I e.k)),.lit (.int .i64 (I e.n)),.lit (.string (I e.s)),.ro st (I (e.l.map Ex.t))]⟩
theorem xY1 (hI:II @I) (st:Bool) (e:Ex):ACl Tryz.prog 85 [eS @I st e] [] (fun res bx=>res=litB (I (bB (e.k≠1)))/\bx=[]):=by
 refine qN hI tyK Tryz.func85 6 [.tmp 2] ?_;unhygienic intros
 refine qB 0 ?_
 repeat' first|refine qA 0 ?_|refine qp ?_ ?_|refine qk (fun h=>?_) fun h=>?_|fail
 all_goals (refine hR _ _ ⟨liP hI ?_,rfl⟩;(try simp only[F.k1,F.k2,F.k3,F.k4,F.k5,F.k6,F.k7,F.k8,F.k9,F.k10,F.k11,F.k12,F.k13,xT0,hI.e,Int.ofNat_eq_natCast])<;>(clear F hR;(try clear c1);(try clear c2);(try clear c3);(try clear c4);(try clear c5);(try clear c6);(try clear c7);(try clear c8);(try clear c9);first|(simp_all [-List.length_eq_zero_iff,IffW];done)|(simp_all [-List.length_eq_zero_iff,IffW];omega)|(simp_all [-List.length_eq_zero_iff,IffW];grind)))
theorem HP0 {α:Type} [Inhabited α] {p:α->Prop} {l:List α} {i:Nat} (h:i < l.length) (h1:∀x∈l.take i,¬p x) (h2:¬p l[i]!):∀x∈l.take (i+1),¬p x:=by
 rw[zZ0 h];exact fun x hx=>(List.mem_append.1 hx).elim (h1 x) fun q=>List.mem_singleton.1 q ▸ h2
theorem rZ1 (hI:II @I) (l:List Ex) (hl:l.length<=1048576):ACl Tryz.prog 122 [⟨.one,[.ro false (I (l.map Ex.t))]⟩,⟨.one,[.fn 85 []]⟩] [] (fun res bx=>∃r:Int,(0<=r↔∃x∈l,x.k≠1)/\res=litI (I r)/\bx=[]):=by
 have hen:zT0 Tryz.prog 85=true:=rfl;have c1:=xY1 hI false;refine qN hI tyK Tryz.func122 19 [.tmp 4] ?_;unhygienic intros
 refine qB 0 ?_;refine qLf 0 [0,1,6,7,8] kk0 (fun i:Nat=>⟨vag 19 [(0,⟨.one,[.ro false (I (l.map Ex.t))]⟩),(1,⟨.one,[.fn 85 []]⟩),(6,⟨.one,[.ro false (I (l.map Ex.t))]⟩),(7,litI (Int.ofNat (I l.length))),(8,litI (Int.ofNat (I i)))],[],1⟩) (fun i=>i<=l.length/\∀x∈l.take i,¬x.k≠1) (fun i=>l.length - i) ?_ fun i hi=>?_
 ·cbv
  exact ⟨0,by simp only[hI.e];rfl,by simp,by simp⟩
 refine qB 0 ?_
 repeat' first|refine qA 0 ?_|refine qJ (nN []) ?_|refine qp ?_ ?_|refine qk (fun h=>?_) fun h=>?_|fail
 ·exact hR _ _ ⟨Int.ofNat i,⟨fun _=>⟨_,zD0 ‹_›,h⟩,fun _=>Int.natCast_nonneg i⟩,by simp only[hI.e],rfl⟩
 ·exact ⟨i+1,by (try simp only[A.reset,xV0,hI.e,List.append_assoc,Bool.or_false,pE0]);rfl,⟨by omega,HP0 ‹_› hi.2 h⟩,by omega⟩
 ·rw[List.take_of_length_le (by omega)] at hi
  exact hR _ _ ⟨-1,⟨fun h=>by omega,fun ⟨s,h1,h2⟩=>absurd h2 (hi.2 s h1)⟩,by simp only[hI.e],rfl⟩
theorem ZK0 (hI:II @I) (l:List Ex) (hl:l.length<=1048576):ACl Tryz.prog 84 [⟨.one,[.ro false (I (l.map Ex.t))]⟩,⟨.one,[.fn 85 []]⟩] [] (fun res bx=>res=litB (I (bB (∃x∈l,x.k≠1)))/\bx=[]):=by
 have c1:=rZ1 hI l hl;refine qN hI tyK Tryz.func84 9 [.tmp 4] ?_;unhygienic intros
 refine qB 0 ?_
 repeat' first|refine qA 0 ?_|refine qJe (nN []) fun x hx=>?_|refine qp ?_ ?_|refine qk (fun h=>?_) fun h=>?_|fail
 exact hR _ _ ⟨liP hI (by rw[F.k6,hI.e,hx]),rfl⟩
theorem bT:bB True=true:=by rw[xT0];trivial
theorem bF:bB False=false:=by rw[<-Bool.not_eq_true,xT0];exact id
def InR (e:Ex):Prop:=e.k=1->0<=e.n/\e.n<=2147483647
theorem xZ1 (hI:II @I) (e:Ex) (hl:e.l.length=2) (hr0:InR e.l[0]!) (hr1:InR e.l[1]!):ACl Tryz.prog 58 [eA @I e] [] (fun res bx=>res=eA @I (binF e)/\bx=[]):=by
 have c1:=PH0 hI;have c2:=hU0 hI;have c3:=wJ1 hI;have c4:e.l[0]!.k=1->ACl Tryz.prog 97 [litI (I e.l[0]!.n)] [] (fun res bx=>res=vN @I e.l[0]!.n/\bx=[]):=fun h=>by
  have:=pK0 hI (I e.l[0]!.n);rw[hI.e e.l[0]!.n,uH1 (by have:=hr0 h;omega)] at this
  rw[hI.e e.l[0]!.n];exact this
 have c5:e.l[1]!.k=1->ACl Tryz.prog 97 [litI (I e.l[1]!.n)] [] (fun res bx=>res=vN @I e.l[1]!.n/\bx=[]):=fun h=>by
  have:=pK0 hI (I e.l[1]!.n);rw[hI.e e.l[1]!.n,uH1 (by have:=hr1 h;omega)] at this
  rw[hI.e e.l[1]!.n];exact this
 have c6:e.l[0]!.k=1->e.l[1]!.k=1->e.s≠⟨⟨[47]⟩⟩->e.s≠⟨⟨[37]⟩⟩->ACl Tryz.prog 99 [litS (I e.s),aN (I e.l[0]!.n),aN (I e.l[1]!.n)] [] (fun res bx=>res=v2N @I (opN e.s e.l[0]!.n e.l[1]!.n)/\bx=[]):=fun h0 h1 h2 h3=>by
  have:=wB1 hI e.s e.l[0]!.n e.l[1]!.n (by have:=hr0 h0;omega) (by have:=hr1 h1;omega) h2 h3
  rw[hI.e e.s,hI.e e.l[0]!.n,hI.e e.l[1]!.n];exact this
 refine qN hI tyK Tryz.func58 79 [.cell 2 26] ?_;unhygienic intros
 generalize hx:e.l[0]! = x at *;generalize hy:e.l[1]! = y at *;have e1:=hx;have e2:=hy;have hb:(x.k=1/\y.k=1/\e.s≠⟨⟨[47]⟩⟩/\e.s≠⟨⟨[37]⟩⟩)->binF e=nE (valN e.s x.n y.n) e:=fun q=>by rw[binF,hx,hy,if_pos q]
 have hb':¬(x.k=1/\y.k=1/\e.s≠⟨⟨[47]⟩⟩/\e.s≠⟨⟨[37]⟩⟩)->binF e=e:=fun q=>by rw[binF,hx,hy,if_neg q]
 refine qB 0 ?_
 repeat' first|refine qA 0 ?_|refine qJ (nN []) ?_|refine qp ?_ ?_|refine qk (fun h=>?_) fun h=>?_<;>try(exfalso;omega)|fail
 all_goals (refine hR _ _ ⟨?_,rfl⟩;clear hR F hseg c1 c2 c3 c4 c5 c6)
 ·rw[hb' (by simp_all)]
 ·rw[hb' (by simp_all)]
 ·rw[hb' (by simp_all)]
 ·rw[hb' (by simp_all)]
 all_goals (rw[hb (by simp_all)];simp only[eA,hI.e];simp[valN,bT,bF, *];done)
variable {I:∀{α:Type},α->α}
mutual
noncomputable def Ex.fd:Ex->Ex
 | .mk k n s l=>fd1 (.mk k n s (Ex.fds l))
noncomputable def Ex.fds:List Ex->List Ex
 | []=>[]
 | e::l=>Ex.fd e::Ex.fds l
end
theorem Ex.fds_eq:∀l,Ex.fds l=l.map Ex.fd
 | []=>rfl
 | e::l=>by rw[Ex.fds,Ex.fds_eq l,List.map_cons]
def Ex.with (e:Ex) (l:List Ex):Ex:=.mk e.k e.n e.s l
theorem Ex.fd_eq (e:Ex):e.fd=fd1 (e.with (e.l.map Ex.fd)):=by cases e;rw[Ex.fd,Ex.fds_eq];rfl
theorem xN1 {e:Ex} (h:e.k=6):fd1 e=binF e:=by rw[fd1,if_pos h]
theorem xM1 {e:Ex} (h:e.k=7) (h1:e.l[0]!.k=1):fd1 e=.mk 1 (b2i (bB (e.l[0]!.n=0))) ⟨⟨[]⟩⟩ []:=by rw[fd1,if_neg (by omega),if_pos ⟨h,h1⟩]
theorem xL1 {e:Ex} (h:e.k=12) (h1:e.l[0]!.k=1):fd1 e=.mk 1 (Int.ofNat (numT e.l[0]!.n).size) ⟨⟨[]⟩⟩ []:=by rw[fd1,if_neg (by omega),if_neg (by omega),if_pos ⟨h,h1⟩]
theorem xK1 {e:Ex} (h:e.k=12) (h1:e.l[0]!.k=2):fd1 e=.mk 1 (Int.ofNat e.l[0]!.s.size) ⟨⟨[]⟩⟩ []:=by rw[fd1,if_neg (by omega),if_neg (by omega),if_neg (by omega),if_pos ⟨h,h1⟩]
theorem nU0 {e:Ex} (h6:¬e.k=6) (h7:e.k=7->¬e.l[0]!.k=1) (h12:e.k=12->¬(e.l[0]!.k=1\/e.l[0]!.k=2)):fd1 e=e:=by
 rw[fd1,if_neg h6,if_neg fun q=>h7 q.1 q.2,if_neg fun q=>h12 q.1 (.inl q.2),if_neg fun q=>h12 q.1 (.inr q.2)]
theorem nY0 (b:Bool):0<=b2i b:=by cases b<;>decide
theorem nE_1 (n:Int) (h:0<=n) (e:Ex):nE ⟨1,n,⟨⟨[]⟩⟩⟩ e=.mk 1 n ⟨⟨[]⟩⟩ []:=by rw[nE,if_pos ⟨rfl,h⟩]
theorem vZ1 (p:Prop) [Decidable p]:decide p=bB p:=by rw[Bool.eq_iff_iff,xT0,decide_eq_true_eq]
theorem dM0 (hI:II @I) (k n:Int) (s:ByteArray) (hn:-9223372036854775808<=n/\n<=9223372036854775807):ACl Tryz.prog 62 [⟨.agg,[.lit (.int .i64 k),.lit (.int .i64 n),.lit (.string s)]⟩] [] (fun res bx=>res=litS (I (if k=1 then numT n else s))/\bx=[]):=by
 have c1:=TD0 hI _ n (Nat.lt_succ_self _) hn;refine qN hI tyK Tryz.func62 11 [.tmp 2] ?_;unhygienic intros
 refine qB 0 ?_
 repeat' first|refine qA 0 ?_|refine qJ (nN []) ?_|refine qp ?_ ?_|refine qk (fun h=>?_) fun h=>?_<;>try(exfalso;omega)|fail
 ·exact hR _ _ ⟨by rw[if_pos h],rfl⟩
 ·exact hR _ _ ⟨by rw[if_neg h];simp only[litS,hI.e],rfl⟩
structure FdIn (e:Ex):Prop where
 l2:e.k=6->e.l.length=2
 l1:e.k=7\/e.k=12->e.l.length=1
 r:∀x∈e.l,InR x
 z:∀x∈e.l,x.s.size<=1048576
theorem WR0 (hI:II @I) (e:Ex) (hl:e.l.length<=1048576) (hf:FdIn (e.with (e.l.map Ex.fd))) (ih:∀x∈e.l,ACl Tryz.prog 28 [eA @I x] [] (fun res bx=>res=eA @I x.fd/\bx=[])):ACl Tryz.prog 28 [eA @I e] [] (fun res bx=>res=eA @I e.fd/\bx=[]):=by
 refine yM0 ?_;generalize hg:e.l.map Ex.fd=g at *;have hgl:g.length=e.l.length:=by rw[<-hg,List.length_map]
 refine qN hI tyK Tryz.func28 73 [.cell 2 26] ?_;unhygienic intros
 refine qB 0 ?_
 repeat' first|refine qA 0 ?_|refine qJ (nN []) ?_|refine qp ?_ ?_|refine qk (fun h=>?_) fun h=>?_|fail
 refine qLf 3 [1,2,3,4] (kkB 2 3 4) (fun i:Nat=>⟨vag 73 [(1,⟨.one,[.ptr 0 0]⟩),(2,⟨.one,[.ptr 1 0]⟩),(3,⟨.one,[.ptr 2 0]⟩),(4,litI (Int.ofNat (I i)))],[some (eA @I e).cs,some [.lit (.int .i64 0),.lit (.int .i64 0),.lit (.string ⟨⟨[]⟩⟩),.nil],some [.lit (.int .i64 (I e.k)),.lit (.int .i64 (I e.n)),.lit (.string (I e.s)),.ow (0,0) false 4 (I ((g.take i).map Ex.t))]],1⟩) (fun i=>i<=e.l.length) (fun i=>e.l.length - i) ?_ fun i hi=>?_
 ·cbv
  exact ⟨0,by simp only[hI.e];rfl,by omega⟩
 by_cases hh:i < e.l.length
 ·have c1:=ih _ (zD0 hh)
  have hgi:g[i]! = (e.l[i]!).fd:=by rw[<-hg];simp[hh]
  rw[<-hgi] at c1;have hlt:(g.take i).length<=1048576:=by rw[List.length_take];omega
  have e1:I ((g.take i++[g[i]!]).map Ex.t)=I ((g.take (i+1)).map Ex.t):=by rw[zZ0 (by omega:i < g.length)]
  refine qB 0 ?_
  repeat' first|refine qA 0 ?_|refine qJ (nN []) ?_|refine qp ?_ ?_|refine qk (fun h=>?_) fun h=>?_|fail
  ·exact ⟨i+1,by (try simp only[A.reset,hI.e]);rfl,by omega,by omega⟩
  all_goals exact absurd hh (by assumption)
 ·have e1:I ((g.take i).map Ex.t)=I (g.map Ex.t):=by rw[List.take_of_length_le (by omega)]
  have hm:e.fd=fd1 (e.with g):=by rw[Ex.fd_eq,hg]
  have hl2:=hf.l2;have hl1:=hf.l1;have hr:=hf.r;have hz:=hf.z;have c1:e.k=6->ACl Tryz.prog 58 [⟨.agg,[.lit (.int .i64 (I e.k)),.lit (.int .i64 (I e.n)),.lit (.string (I e.s)),.ro true (I (g.map Ex.t))]⟩] [] (fun res bx=>res=eA @I (binF (e.with g))/\bx=[]):=fun h6=>xZ1 hI (e.with g) (hl2 h6) (hr _ (zD0 (by have:=hl2 h6;show 0 < (e.with g).l.length;omega))) (hr _ (zD0 (by have:=hl2 h6;show 1 < (e.with g).l.length;omega)))
  have c2:=hU0 hI;have c3:=PE0 hI;have c4:∀(k n:Int) (s:ByteArray),ACl Tryz.prog 59 [⟨.agg,[.lit (.int .i64 k),.lit (.int .i64 n),.lit (.string s)]⟩,⟨.agg,[.lit (.int .i64 (I e.k)),.lit (.int .i64 (I e.n)),.lit (.string (I e.s)),.ro true (I (g.map Ex.t))]⟩] [] (fun res bx=>res=eA @I (nE ⟨k,n,s⟩ (e.with g))/\bx=[]):=fun k n s=>PH0 hI k n s (e.with g);have c5:=dK0 hI;have c6:=dM0 hI
  have hlk:(e.with g).l.length=g.length:=rfl
  by_cases hk:e.k=7\/e.k=12
  ·have h1:=hl1 hk
   have hg1:0 < g.length:=by omega
   have hx:=hr _ (zD0 (l:=g) hg1);have hxz:=hz _ (zD0 (l:=g) hg1);have hm:e.fd=fd1 (e.with g):=hm;have hx0:(e.with g).l[0]! = g[0]!:=rfl;have e2:get (I (g.map Ex.t)) (nadd 0 (nat 0))=[.lit (.int .i64 (I g[0]!.k)),.lit (.int .i64 (I g[0]!.n)),.lit (.string (I g[0]!.s)),.sl (I (g[0]!.l.map Ex.t))]:=by
    rw[<-Ex.tI hI];simp only[hI.e];cases hO;show (g.map Ex.t).getD 0 []=_;simp[hg1]
   have hix:idx (Int.ofNat (nadd 0 (nat 0))) (I g.length):=by rw[hI.e];cases hO;exact ⟨by decide,by show (0:Int) < _;omega⟩
   generalize g[0]! = x at *;have c5:=dK0 hI x hx;obtain ⟨ka,qq1⟩:∃ka,ka=(if x.k=1 then (1:Int) else if x.k=2 then 2 else 0):=⟨_,rfl⟩
   obtain ⟨na,qq2⟩:∃na,na=(if x.k=1 then x.n else 0):=⟨_,rfl⟩
   obtain ⟨sa,qq3⟩:∃sa,sa=(if x.k=2 then x.s else ⟨⟨[]⟩⟩):=⟨_,rfl⟩
   rw[<-qq1,<-qq2,<-qq3] at c5;obtain ⟨ta,qq4⟩:∃ta,ta=(if ka=1 then numT na else sa):=⟨_,rfl⟩
   have c6:ACl Tryz.prog 62 [⟨.agg,[.lit (.int .i64 (I ka)),.lit (.int .i64 (I na)),.lit (.string (I sa))]⟩] [] (fun res bx=>res=litS (I ta)/\bx=[]):=by
    rw[qq4,hI.e ka,hI.e na,hI.e sa];exact dM0 hI ka na sa (by rw[qq2];split;(have:=hx (by assumption);omega);omega)
   have htk:(e.with g).k=e.k:=rfl;refine qB 0 ?_
   (repeat' first|refine qA 0 ?_|refine qJ (nN []) ?_|refine qJ (nS []) ?_|refine qp ?_ ?_|refine qk (fun h=>?_) fun h=>?_<;>try(exfalso;omega)|fail)
   all_goals (refine hR _ _ ⟨?_,rfl⟩;rw[hm];have d1:=F.d1;clear hR F hseg c1 c2 c3 c4 c5 c6;simp only[AV.roC,A.roC,List.map,hI.e,erD])
   ·rw[xM1 (by assumption) (by rw[hx0];assumption),hx0,nE_1 _ (nY0 _),d1,vZ1];simp only[eA,hI.e];try rfl
   ·rw[nU0 (by assumption) (fun _=>by rw[hx0];assumption) (fun q=>by rw[htk] at q;omega)];simp only[eA,hI.e];try rfl
   ·rcases (show x.k=1\/x.k=2 by assumption) with h1 | h2
    ·rw[xL1 (by assumption) (by rw[hx0];exact h1),hx0,qq4,qq1,if_pos h1,if_pos rfl,qq2,if_pos h1];simp only[eA,hI.e];try rfl
    ·have qq5:ta=x.s:=by rw[qq4,qq1,qq3];simp[h2]
     rw[xK1 (by assumption) (by rw[hx0];exact h2),hx0,qq5];simp only[eA,hI.e];try rfl
   ·rw[nU0 (by assumption) (fun q=>by rw[htk] at q;omega) (fun _=>by rw[hx0];assumption)];simp only[eA,hI.e];try rfl
  ·have htk:(e.with g).k=e.k:=rfl
   refine qB 0 ?_
   (repeat' first|refine qA 0 ?_|refine qJ (nN []) ?_|refine qJ (nS []) ?_|refine qp ?_ ?_|refine qk (fun h=>?_) fun h=>?_<;>try(exfalso;omega)|fail)
   all_goals (refine hR _ _ ⟨?_,rfl⟩;rw[hm];clear hR F hseg c1 c2 c3 c4 c5 c6;simp only[AV.roC,A.roC,List.map,hI.e,erD])
   ·rw[xN1 (by assumption)];simp only[eA,hI.e]
   ·rw[nU0 (by assumption) (fun q=>by rw[htk] at q;omega) (fun q=>by rw[htk] at q;omega)];simp only[eA,hI.e];try rfl
variable {I:∀{α:Type},α->α}
def A.owD (k:Nat):A->A
 | .nil=>.ow (0,0) true k []
 | c=>c
def AV.owD (k:Nat) (av:AV):AV:=⟨av.sh,av.cs.map (A.owD k)⟩
theorem RepA.owD {E:Env} {k:Nat} {c:A} {u:Value} {own:List Nat} (h:RepA E c u own):RepA E (A.owD k c) u own:=by
 cases c<;>try exact h
 obtain ⟨⟨ad,rfl⟩,rfl⟩:=h;exact ⟨ad,0,rfl,Nat.le_refl _,by simp,.inl ⟨rfl,rfl,rfl⟩⟩
theorem RpA.owD {E:Env} {k:Nat}:∀{cs:List A} {us:List Value} {own:List Nat},RpA E cs us own->RpA E (cs.map (A.owD k)) us own
 | [],us,own,h=>h
 | c::cs,us,own,h=>by
  obtain ⟨u,us',o1,o2,rfl,rfl,h3,h4⟩:=h;exact ⟨u,us',o1,o2,rfl,rfl,RepA.owD h3,RpA.owD h4⟩
theorem TX0 {P:Program} {f:FuncId} {args:List AV} {bx:List (Option (List A))} {r:AV} {x:List (Option (List A))} (k:Nat) (h:ACl P f args bx (fun res bx=>AV.owD k res=r/\bx=x)):ACl P f args bx (fun res bx=>res=r/\bx=x):=by
 intro w vals S L bl O1 O2 h1 h2 h3 h4 h5 h6;refine (h w vals S L bl O1 O2 h1 h2 h3 h4 h5 h6).mono ?_;rintro e w' ⟨v,rfl,res,bx',S',bl',o1,o2,⟨hR,hb⟩,hv,hr⟩;refine ⟨v,rfl,AV.owD k res,bx',S',bl',o1,o2,⟨hR,hb⟩,?_,hr⟩;obtain ⟨sh,cs⟩:=res;cases sh with
 | any=>
  have hc:cs=[]:=hv.1;subst hc;exact hv
 | one=>exact ⟨hv.1,RpA.owD hv.2⟩
 | agg=>exact ⟨hv.1,RpA.owD hv.2⟩
 | tup ns=>exact ⟨hv.1,RpA.owD hv.2⟩
theorem WX0 (hI:II @I) (e:Ex) (hl:e.l.length<=1048576) (hf:ACl Tryz.prog 52 [eO @I (e.with (e.l.map Ex.fd))] [] (fun res bx=>res=eO @I (fd1 (e.with (e.l.map Ex.fd)))/\bx=[])) (ih:∀x∈e.l,ACl Tryz.prog 22 [eA @I x] [] (fun res bx=>res=eO @I x.fd/\bx=[])):ACl Tryz.prog 22 [eA @I e] [] (fun res bx=>res=eO @I e.fd/\bx=[]):=by
 generalize hg:e.l.map Ex.fd=g at *;have hgl:g.length=e.l.length:=by rw[<-hg,List.length_map]
 have hm:e.fd=fd1 (e.with g):=by rw[Ex.fd_eq,hg]
 rw[<-hm] at hf;refine qN hI tyK Tryz.func22 25 [.cell 2 26] ?_;unhygienic intros
 refine qB 0 ?_
 repeat' first|refine qA 0 ?_|refine qJ (nN []) ?_|refine qp ?_ ?_|refine qk (fun h=>?_) fun h=>?_|fail
 refine qLf 3 [1,2,3,9,10,11] (kkB 2 3 1004) (fun i:Nat=>⟨vag 25 [(1,⟨.one,[.ptr 0 0]⟩),(2,⟨.one,[.ptr 1 0]⟩),(3,⟨.one,[.ptr 2 0]⟩),(9,⟨.one,[.ro true (I (e.l.map Ex.t))]⟩),(10,litI (Int.ofNat (I e.l.length))),(11,litI (Int.ofNat (I i)))],[some (eA @I e).cs,some [.lit (.int .i64 0),.lit (.int .i64 0),.lit (.string ⟨⟨[]⟩⟩),.nil],some [.lit (.int .i64 (I e.k)),.lit (.int .i64 (I e.n)),.lit (.string (I e.s)),.ow (0,0) true 4 (I ((g.take i).map Ex.o))]],1⟩) (fun i=>i<=e.l.length) (fun i=>e.l.length - i) ?_ fun i hi=>?_
 ·cbv
  exact ⟨0,by simp only[hI.e];rfl,by omega⟩
 by_cases hh:i < e.l.length
 ·have c1:=ih _ (zD0 hh)
  have hgi:g[i]! = (e.l[i]!).fd:=by rw[<-hg];simp[hh]
  rw[<-hgi] at c1;have hlt:(g.take i).length<=1048576:=by rw[List.length_take];omega
  have e1:app (I ((g.take i).map Ex.o)) [[.lit (.int .i64 (I (g[i]!).k)),.lit (.int .i64 (I (g[i]!).n)),.lit (.string (I (g[i]!).s)),.own (I ((g[i]!).l.map Ex.o))]]=I ((g.take (i+1)).map Ex.o):=by
   simp only[hI.e];cases hO;rw[zZ0 (by omega:i < g.length)];exact appO _ _
  refine qB 0 ?_
  repeat' first|refine qA 0 ?_|refine qJ (nN []) ?_|refine qp ?_ ?_|refine qk (fun h=>?_) fun h=>?_|fail
  ·exact ⟨i+1,by (try simp only[A.reset,hI.e]);rfl,by omega,by omega⟩
  ·exact absurd hh h
 ·have e1:I ((g.take i).map Ex.o)=I (g.map Ex.o):=by rw[List.take_of_length_le (by omega)]
  have c1:ACl Tryz.prog 52 [⟨.agg,[.lit (.int .i64 (I e.k)),.lit (.int .i64 (I e.n)),.lit (.string (I e.s)),.ow (0,0) true 4 (I (g.map Ex.o))]⟩] [] (fun res bx=>res=eO @I e.fd/\bx=[]):=hf;refine qB 0 ?_
  repeat' first|refine qA 0 ?_|refine qJ (nM []) ?_|refine qp ?_ ?_|refine qk (fun h=>?_) fun h=>?_|fail
  ·exact absurd h hh
  ·exact hR _ _ ⟨rfl,rfl⟩
variable {I:∀{α:Type},α->α}
mutual
theorem Ex.o_erR:∀e:Ex,erC e.o=e.t
 | .mk k n s l=>by rw[Ex.o.eq_1,Ex.t.eq_1];simp only[erC,T.er];rw[Ex.os_erR l]
theorem Ex.os_erR:∀l:List Ex,erE (Ex.os l)=Ex.ts l
 | []=>rfl
 | e::l=>by rw[Ex.os.eq_2,Ex.ts.eq_2,erE,Ex.o_erR e,Ex.os_erR l]
end
theorem Ex.map_erR (l:List Ex):erE (l.map Ex.o)=l.map Ex.t:=by rw[<-Ex.os_map,Ex.os_erR,Ex.ts_map]
section
variable (hI:II @I) (e:Ex) (hl:e.l.length<=1048576) (hf:FdIn e)
include hI hl hf
theorem DK0 (h6:¬e.k=6) (h7:¬e.k=7) (h12:¬e.k=12):ACl Tryz.prog 52 [eO @I e] [] (fun res bx=>res=eO @I (fd1 e)/\bx=[]):=by
 refine TX0 4 ?_;have hen:zT0 Tryz.prog 85=true:=rfl;have c1:=ZK0 hI e.l hl;have hm:fd1 e=e:=nU0 h6 (fun h=>absurd h h7) (fun h=>absurd h h12);rw[hm];refine qN hI tyK Tryz.func52 132 [.cell 2 26] ?_;unhygienic intros
 have e1:er (I (e.l.map Ex.o))=I (e.l.map Ex.t):=by simp only[hI.e];cases hO;exact Ex.map_erR _
 rw[<-e1] at c1;refine qB 0 ?_
 repeat' first|refine qA 0 ?_|refine qJ (nN []) ?_|refine qp ?_ ?_|refine qk (fun h=>?_) fun h=>?_<;>try(exfalso;omega)|fail
 all_goals exact hR _ _ ⟨rfl,rfl⟩
theorem DH0 (h7:e.k=7\/e.k=12):ACl Tryz.prog 52 [eO @I e] [] (fun res bx=>res=eO @I (fd1 e)/\bx=[]):=by
 refine TX0 4 ?_;have hen:zT0 Tryz.prog 85=true:=rfl;have c1:=ZK0 hI e.l hl;have c4:=TK0 hI;have h2:=hf.l1 h7;have hr0:=hf.r _ (zD0 (i:=0) (by omega))
 have hz0:=hf.z _ (zD0 (i:=0) (by omega))
 have hex:IffW (∃x∈e.l,x.k≠1) (¬e.l[0]!.k=1):=by
  show _↔_
  cases e with
  | mk k n s l=>
   match l,h2 with
   | [p],_=>simp[Ex.l]
 have c5o:e.l[0]!.k=1->ACl Tryz.prog 90 [litI (I e.l[0]!.n)] [] (fun res bx=>res=litS (I (numT e.l[0]!.n))/\bx=[]):=fun h0=>by
  have:=PL0 hI e.l[0]!.n (by have:=hr0 h0;omega)
  rw[hI.e e.l[0]!.n];exact this
 have m7:=fun h h1=>xM1 (e:=e) h h1;have ma:=fun h h1=>xL1 (e:=e) h h1;have mb:=fun h h1=>xK1 (e:=e) h h1;have m0:=fun h6 h7 h12=>nU0 (e:=e) h6 h7 h12;refine qN hI tyK Tryz.func52 132 [.cell 2 26] ?_;unhygienic intros
 have e1:er (I (e.l.map Ex.o))=I (e.l.map Ex.t):=by simp only[hI.e];cases hO;exact Ex.map_erR _
 rw[<-e1] at c1;have e2:get (I (e.l.map Ex.o)) (nadd 0 (nat 0))=[.lit (.int .i64 (I e.l[0]!.k)),.lit (.int .i64 (I e.l[0]!.n)),.lit (.string (I e.l[0]!.s)),.own (I (e.l[0]!.l.map Ex.o))]:=by
  simp only[hI.e];cases hO;show (e.l.map Ex.o).getD 0 []=_
  have:0 < e.l.length:=by omega
  rw[<-Ex.o_eq];simp[this]
 have i1:idx (Int.ofNat (nadd 0 (nat 0))) (I e.l.length):=by rw[hI.e];cases hO;exact ⟨by decide,by show (0:Int) < _;omega⟩
 generalize e.l[0]! = x at *;have c5:(¬∃x,x∈e.l/\¬x.k=1)->ACl Tryz.prog 90 [litI (I x.n)] [] (fun res bx=>res=litS (I (numT x.n))/\bx=[]):=fun h=>c5o (Classical.not_not.1 fun q=>h ((show _↔_ from hex).2 q))
 clear c5o;have d1:=F.d1;refine qB 0 ?_
 repeat' first|refine qA 0 ?_|refine qJ (nN []) ?_|refine qp ?_ ?_|refine qk (fun h=>?_) fun h=>?_<;>try(exfalso;omega)|fail
 all_goals (try clear c1);(try clear c4 c5);(try clear e1 e2 i1 hseg F)
 ·refine hR _ _ ⟨?_,rfl⟩
  rw[m7 (by assumption) (Classical.not_not.1 fun q=>absurd ((show _↔_ from hex).2 q) (by assumption))]
  simp only[AV.owD,A.owD,List.map,eO,hI.e,d1,vZ1];rfl
 ·refine hR _ _ ⟨?_,rfl⟩
  have q:¬x.k=1:=(show _↔_ from hex).1 (Classical.not_not.1 (by assumption))
  rw[m0 (by assumption) (fun _=>q) (fun h=>absurd h (by assumption))];rfl
 ·refine hR _ _ ⟨?_,rfl⟩
  rw[mb (by assumption) (by assumption)]
  simp only[AV.owD,A.owD,List.map,eO,hI.e];rfl
 ·refine hR _ _ ⟨?_,rfl⟩
  rw[ma (by assumption) (Classical.not_not.1 fun q=>absurd ((show _↔_ from hex).2 q) (by assumption))]
  simp only[AV.owD,A.owD,List.map,eO,hI.e];rfl
 ·refine hR _ _ ⟨?_,rfl⟩
  have q:¬x.k=1:=(show _↔_ from hex).1 (Classical.not_not.1 (by assumption))
  have q2:¬x.k=2:=by assumption
  rw[m0 (by assumption) (fun _=>q) (fun _ r=>r.elim q q2)];rfl
 ·exfalso;omega
end
end Go.Gv
