/- Part Q5 of the proof: contracts of functions of the program, each walked once. -/
import Derived.Test.YtfobhlmjcnkpiaaGreatDoorQ4
set_option linter.all false
namespace Go.Gv
open Go.Av Go.Proofs
set_option maxRecDepth 10000
set_option maxHeartbeats 8000000
variable {I:∀{α:Type},α->α}
theorem mk_k (k n:Int) (s:ByteArray) (l:List Ex):(Ex.mk k n s l).k=k:=rfl
theorem mk_n (k n:Int) (s:ByteArray) (l:List Ex):(Ex.mk k n s l).n=n:=rfl
theorem mk_s (k n:Int) (s:ByteArray) (l:List Ex):(Ex.mk k n s l).s=s:=rfl
theorem mk_l (k n:Int) (s:ByteArray) (l:List Ex):(Ex.mk k n s l).l=l:=rfl
theorem opN_k (s:ByteArray) (x y:Int):(opN s x y).k=1\/(opN s x y).k=2:=by
 unfold opN
 repeat' split
 all_goals first | exact .inl rfl | exact .inr rfl
section
variable (hI:II @I) (e:Ex) (hl:e.l.length<=1048576) (hf:FdIn e)
include hI hl hf
theorem DJ0 (h6:e.k=6):ACl Tryz.prog 52 [eO @I e] [] (fun res bx=>res=eO @I (fd1 e)/\bx=[]):=by
 refine TX0 4 ?_;have hen:zT0 Tryz.prog 85=true:=rfl;have c1:=ZK0 hI e.l hl;have c2:=hK0 hI;have c3:=wK1 hI;have c4:=TK0 hI;have h2:=hf.l2 h6;have hr0:=hf.r _ (zD0 (i:=0) (by omega))
 have hr1:=hf.r _ (zD0 (i:=1) (by omega))
 have hex:IffW (¬∃x∈e.l,x.k≠1) (e.l[0]!.k=1/\e.l[1]!.k=1):=by
  show _↔_
  cases e with
  | mk k n s l=>
   match l,h2 with
   | [p,q],_=>simp[Ex.l]
 have hm:fd1 e=binF e:=xN1 h6;have c5o:e.l[0]!.k=1->e.l[1]!.k=1->e.s≠⟨⟨[47]⟩⟩->e.s≠⟨⟨[37]⟩⟩->ACl Tryz.prog 89 [litS (I e.s),aN (I e.l[0]!.n),aN (I e.l[1]!.n)] [] (fun res bx=>res=v2N @I (opN e.s e.l[0]!.n e.l[1]!.n)/\bx=[]):=fun h0 h1 h2 h3=>by
  have:=wG1 hI e.s e.l[0]!.n e.l[1]!.n (by have:=hr0 h0;omega) (by have:=hr1 h1;omega) h2 h3
  rw[hI.e e.s,hI.e e.l[0]!.n,hI.e e.l[1]!.n];exact this
 have hok:=opN_k e.s e.l[0]!.n e.l[1]!.n;have hbp:=nY0;have hb:(e.l[0]!.k=1/\e.l[1]!.k=1/\e.s≠⟨⟨[47]⟩⟩/\e.s≠⟨⟨[37]⟩⟩)->binF e=nE (valN e.s e.l[0]!.n e.l[1]!.n) e:=fun q=>by rw[binF,if_pos q]
 have hb':¬(e.l[0]!.k=1/\e.l[1]!.k=1/\e.s≠⟨⟨[47]⟩⟩/\e.s≠⟨⟨[37]⟩⟩)->binF e=e:=fun q=>by rw[binF,if_neg q]
 rw[hm];refine qN hI tyK Tryz.func52 132 [.cell 2 26] ?_;unhygienic intros
 have e1:er (I (e.l.map Ex.o))=I (e.l.map Ex.t):=by simp only[hI.e];cases hO;exact Ex.map_erR _
 rw[<-e1] at c1;have gt:∀i,i < 2->(e.l.map Ex.o).getD i []=[.lit (.int .i64 e.l[i]!.k),.lit (.int .i64 e.l[i]!.n),.lit (.string e.l[i]!.s),.own (e.l[i]!.l.map Ex.o)]:=fun i hi=>by
  have:i < e.l.length:=by omega
  rw[<-Ex.o_eq];simp[this]
 have e2:get (I (e.l.map Ex.o)) (nadd 0 (nat 0))=[.lit (.int .i64 (I e.l[0]!.k)),.lit (.int .i64 (I e.l[0]!.n)),.lit (.string (I e.l[0]!.s)),.own (I (e.l[0]!.l.map Ex.o))]:=by
  simp only[hI.e];cases hO;exact gt 0 (by omega)
 have e3:get (I (e.l.map Ex.o)) (nadd 0 (nat 1))=[.lit (.int .i64 (I e.l[1]!.k)),.lit (.int .i64 (I e.l[1]!.n)),.lit (.string (I e.l[1]!.s)),.own (I (e.l[1]!.l.map Ex.o))]:=by
  simp only[hI.e];cases hO;exact gt 1 (by omega)
 have i1:idx (Int.ofNat (nadd 0 (nat 0))) (I e.l.length):=by rw[hI.e];cases hO;exact ⟨by decide,by show (0:Int) < _;omega⟩
 have i2:idx (Int.ofNat (nadd 0 (nat 1))) (I e.l.length):=by rw[hI.e];cases hO;exact ⟨by decide,by show (1:Int) < _;omega⟩
 generalize e.l[0]! = x at *;generalize e.l[1]! = y at *;have c5:(¬∃x,x∈e.l/\¬x.k=1)->¬e.s=⟨⟨[47]⟩⟩->¬e.s=⟨⟨[37]⟩⟩->ACl Tryz.prog 89 [litS (I e.s),aN (I x.n),aN (I y.n)] [] (fun res bx=>res=v2N @I (opN e.s x.n y.n)/\bx=[]):=fun h h1 h2=>c5o ((show _↔_ from hex).1 h).1 ((show _↔_ from hex).1 h).2 h1 h2
 clear c5o;refine qB 0 ?_
 repeat' first|refine qA 0 ?_|refine qJ (nN []) ?_|refine qp ?_ ?_|refine qk (fun h=>?_) fun h=>?_<;>try(exfalso;omega)|fail
 all_goals ((try clear c1);(try clear c2 c3 c4 c5);(try clear e1 e2 e3 i1 i2 gt hseg F))
 all_goals first
  | exact absurd (nY0 _) (by assumption)
  | (have q:x.k=1/\y.k=1:=(show _↔_ from hex).1 (by assumption);(have q3:¬e.s=⟨⟨[47]⟩⟩:=by assumption);(have q4:¬e.s=⟨⟨[37]⟩⟩:=by assumption);refine hR _ _ ⟨?_,rfl⟩;rw[hb ⟨q.1,q.2,q3,q4⟩];clear hR hb hb' hex;simp only[AV.owD,A.owD,List.map,eO,hI.e];first|(simp[valN,nE,nY0,bT,bF,mk_k,mk_n,mk_s,mk_l, *];done)|(rcases hok with hok | hok<;>first | exact absurd hok (by assumption)|(simp[valN,nE,mk_k,mk_n,mk_s,mk_l, *];done)))
  | (refine hR _ _ ⟨?_,rfl⟩;rw[hb' (fun q=>by first | exact absurd ((show _↔_ from hex).2 ⟨q.1,q.2.1⟩) (by assumption) | exact absurd q.2.2.1 (by assumption) | exact absurd q.2.2.2 (by assumption))];clear hR hb hb' hex;simp only[AV.owD,A.owD,List.map,eO,hI.e];done)
end
end Go.Gv
