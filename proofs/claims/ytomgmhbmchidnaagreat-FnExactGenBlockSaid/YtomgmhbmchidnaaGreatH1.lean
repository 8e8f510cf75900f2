/- Part H1 of the proof: contracts of functions of the program, each walked once. -/
import Derived.Test.YtomgmhbmchidnaaGreatG1
import Derived.Test.YtomgmhbmchidnaaGreatD14
import Derived.Test.YtomgmhbmchidnaaGreatG2
import Derived.Test.YtomgmhbmchidnaaGreatG4
set_option linter.all false
namespace Go.Gv
open Go.Av Go.Proofs
set_option maxRecDepth 10000
set_option maxHeartbeats 8000000
variable {I:∀{α:Type},α->α}
@[simp,reducible] def mkI (I:∀{α:Type},α->α) (E:Gx) (bad:Bool):Option (List A):=some [.ro true (I (E.p.rules.map Ru.t)),.ro true (I (E.p.fns.map Fu.t)),.lit (.int .i64 (I E.fn)),.ro true (I (E.cs.map Vl.t)),.ro true (I (E.rs.map strT)),.ro true (I (E.vs.map strT)),.ro true (I (E.ts.map strT)),.lit (.bool bad)]
abbrev Mq (I:∀{α:Type},α->α) (E:Gx) (f:FuncId) (args:List AV) (r:AV) (b:Bool):Prop:=∀bad:Bool,ACl Tryz.prog f (⟨.one,[.ptr 0 0]⟩::args) [mkI @I E bad] (fun res bx=>res=r/\bx=[mkI @I E (I (bad || b))])
theorem mY0 (hI:II @I) (n:Int):ACl Tryz.prog 115 [litI n] [] (fun res bx=>res=⟨.agg,[.lit (.int .i64 1),.lit (.int .i64 n),.lit (.string ⟨⟨[]⟩⟩)]⟩/\bx=[]):=by
 refine qN hI tyK Tryz.func115 5 [.cell 2 169] ?_;unhygienic intros
 refine qB 0 ?_;exact hR _ _ ⟨rfl,rfl⟩
theorem uK1 (hI:II @I) (s:ByteArray):ACl Tryz.prog 116 [litS s] [] (fun res bx=>res=⟨.agg,[.lit (.int .i64 2),.lit (.int .i64 0),.lit (.string s)]⟩/\bx=[]):=by
 refine qN hI tyK Tryz.func116 5 [.cell 2 169] ?_;unhygienic intros
 refine qB 0 ?_;exact hR _ _ ⟨rfl,rfl⟩
theorem ZC0 (hI:II @I) (E:Gx) (op n:Int):Mq @I E 121 [litI op,litI n] ⟨.agg,[.lit (.int .i64 (I op)),.lit (.int .i64 (I n))]⟩ (decide (n < 0)):=by
 intro bad;refine qN hI tyK Tryz.func121 15 [.cell 6 58] ?_;unhygienic intros
 refine qB 1 ?_
 repeat' first|refine qA 1 ?_|refine qp ?_ ?_|refine qk (fun h=>?_) fun h=>?_|fail
 all_goals (refine hR _ _ ⟨?_,?_⟩<;>(simp[-List.getElem!_eq_getElem?_getD,hI.e,F.d1,F.d2,F.d3,F.d4,F.d5,F.d6,F.d7,F.d8,litI,litS,litB,h];done))
theorem rC0 (hI:II @I) (st:Bool) (l:List ByteArray) (s:ByteArray) (hl:l.length<=1099511627776) :
  ACl Tryz.prog 119 [⟨.one,[.ro st (I (l.map strT))]⟩,litS s] [] (fun res bx=>res=litI (I (ixOf l s))/\bx=[]):=by
 refine qN hI tyK Tryz.func119 19 [.tmp 4] ?_;unhygienic intros
 refine qB 0 ?_;refine qLf 0 [0,1,7,8] kk0 (fun i=>⟨vag 19 [(0,⟨.one,[.ro st (I (l.map strT))]⟩),(1,litS s),(7,litI (Int.ofNat (I l.length))),(8,litI (Int.ofNat (I i)))],[],1⟩) (fun i=>i<=l.length/\s∉l.take i) (fun i=>l.length - i) ?_ fun i hi=>?_
 ·cbv
  exact ⟨0,by simp only[hI.e];rfl,by simp,by simp⟩
 refine qB 0 ?_
 repeat' first|refine qA 0 ?_|refine qp ?_ ?_|refine qk (fun h=>?_) fun h=>?_|fail
 ·exact hR _ _ ⟨liN hI (qX0 ‹_› (h.symm) hi.2),rfl⟩
 ·exact ⟨_,rfl,⟨by omega,jL0 ‹_› (fun q=>h q.symm) hi.2⟩,by omega⟩
 ·exact hR _ _ ⟨liI hI (tB0 (by rw[List.take_of_length_le (by omega)] at hi;exact hi.2)),rfl⟩
theorem PP0 (hI:II @I) (st:Bool) (l:List Vl) (k n:Int) (s:ByteArray) (hl:l.length<=1099511627776) :
  ACl Tryz.prog 186 [⟨.one,[.ro st (I (l.map Vl.t))]⟩,⟨.agg,[.lit (.int .i64 k),.lit (.int .i64 n),.lit (.string s)]⟩] [] (fun res bx=>res=litI (I (ixOf l (⟨k,n,s⟩:Vl)))/\bx=[]):=by
 refine qN hI tyK Tryz.func186 19 [.tmp 4] ?_;unhygienic intros
 refine qB 0 ?_;refine qLf 1 [0,3,7,8] kk0 (fun i=>⟨vag 19 [(0,⟨.one,[.ro st (I (l.map Vl.t))]⟩),(3,⟨.one,[.ptr 0 0]⟩),(7,litI (Int.ofNat (I l.length))),(8,litI (Int.ofNat (I i)))],[some [.lit (.int .i64 k),.lit (.int .i64 n),.lit (.string s)]],1⟩) (fun i=>i<=l.length/\(⟨k,n,s⟩:Vl)∉l.take i) (fun i=>l.length - i) ?_ fun i hi=>?_
 ·cbv
  exact ⟨0,by simp only[hI.e];rfl,by simp,by simp⟩
 refine qB 0 ?_
 repeat' first|refine qA 0 ?_|refine qp ?_ ?_|refine qk (fun h=>?_) fun h=>?_|fail
 ·exact hR _ _ ⟨liN hI (qX0 ‹_› (vl_eq.2 ⟨h.1.symm,h.2.1.symm,h.2.2.symm⟩) hi.2),rfl⟩
 ·exact ⟨_,rfl,⟨by omega,jL0 ‹_› (fun q=>h (by obtain ⟨a,b,c⟩:=vl_eq.1 q;exact ⟨a.symm,b.symm,c.symm⟩)) hi.2⟩,by omega⟩
 ·exact hR _ _ ⟨liI hI (tB0 (by rw[List.take_of_length_le (by omega)] at hi;exact hi.2)),rfl⟩
theorem wX1 (hI:II @I) (st:Bool) (l:List Int) (s:Int) (hl:l.length<=1099511627776) :
  ACl Tryz.prog 123 [⟨.one,[.ro st (I (l.map intT))]⟩,litI s] [] (fun res bx=>res=litI (I (ixOf l s))/\bx=[]):=by
 refine qN hI tyK Tryz.func123 19 [.tmp 4] ?_;unhygienic intros
 refine qB 0 ?_;refine qLf 0 [0,1,7,8] kk0 (fun i=>⟨vag 19 [(0,⟨.one,[.ro st (I (l.map intT))]⟩),(1,litI s),(7,litI (Int.ofNat (I l.length))),(8,litI (Int.ofNat (I i)))],[],1⟩) (fun i=>i<=l.length/\s∉l.take i) (fun i=>l.length - i) ?_ fun i hi=>?_
 ·cbv
  exact ⟨0,by simp only[hI.e];rfl,by simp,by simp⟩
 refine qB 0 ?_
 repeat' first|refine qA 0 ?_|refine qp ?_ ?_|refine qk (fun h=>?_) fun h=>?_|fail
 ·exact hR _ _ ⟨liN hI (qX0 ‹_› (h.symm) hi.2),rfl⟩
 ·exact ⟨_,rfl,⟨by omega,jL0 ‹_› (fun q=>h q.symm) hi.2⟩,by omega⟩
 ·exact hR _ _ ⟨liI hI (tB0 (by rw[List.take_of_length_le (by omega)] at hi;exact hi.2)),rfl⟩
theorem rB0 (hI:II @I) (E:Gx) (hE:E.Ok) (k n:Int) (s:ByteArray):Mq @I E 114 [⟨.agg,[.lit (.int .i64 k),.lit (.int .i64 n),.lit (.string s)]⟩] ⟨.agg,[.lit (.int .i64 (I 2)),.lit (.int .i64 (I (ixOf E.cs ⟨k,n,s⟩)))]⟩ (decide (ixOf E.cs ⟨k,n,s⟩ < 0)):=by
 intro bad;have c1:=PP0 hI true E.cs k n s (by have:=hE.cs;omega)
 have c2:=ZC0 hI E;refine qN hI tyK Tryz.func114 13 [.cell 4 58] ?_;unhygienic intros
 refine qB 1 ?_
 repeat' first|refine qA 1 ?_|refine qJ (nN []) ?_|refine qJ (nN [0]) ?_|refine qp ?_ ?_|refine qk (fun h=>?_) fun h=>?_|fail
 all_goals (refine hR _ _ ⟨?_,?_⟩<;>(simp[-List.getElem!_eq_getElem?_getD,hI.e,F.d1,F.d2,F.d3,F.d4,F.d5,F.d6,F.d7,F.d8,litI,litS,litB,hI.e];done))
theorem TB0 (hI:II @I) (E:Gx) (hE:E.Ok) (op:Int) (s:ByteArray):Mq @I E 118 [litI op,litS s] ⟨.agg,[.lit (.int .i64 (I op)),.lit (.int .i64 (I (ixOf E.ts s)))]⟩ (decide (ixOf E.ts s < 0)):=by
 intro bad;have c1:=rC0 hI true E.ts s (by have:=hE.ts;omega)
 have c2:=ZC0 hI E;refine qN hI tyK Tryz.func118 16 [.cell 6 58] ?_;unhygienic intros
 refine qB 1 ?_
 repeat' first|refine qA 1 ?_|refine qJ (nN []) ?_|refine qJ (nN [0]) ?_|refine qp ?_ ?_|refine qk (fun h=>?_) fun h=>?_|fail
 all_goals (refine hR _ _ ⟨?_,?_⟩<;>(simp[-List.getElem!_eq_getElem?_getD,hI.e,F.d1,F.d2,F.d3,F.d4,F.d5,F.d6,F.d7,F.d8,litI,litS,litB,hI.e];done))
def Gx.nmI (E:Gx) (s:ByteArray) (a b:Int):Ik:=if 0<=ixOf E.ps s then ⟨a,ixOf E.ps s⟩ else ⟨b,ixOf E.vs s⟩
theorem nH0 (hI:II @I) (E:Gx) (hE:E.Ok) (a b:Int) (s:ByteArray):Mq @I E 117 [litI a,litI b,litS s] ⟨.agg,[.lit (.int .i64 (I (E.nmI s a b).op)),.lit (.int .i64 (I (E.nmI s a b).n))]⟩ (E.nmB s):=by
 intro bad;have h0:=hE.hi;have c1:=fun (hf:¬E.fn < 0)=>rC0 hI true (E.p.fns[E.fn.toNat]!).params s (by have:=hE.ps;rw[Gx.ps,if_neg hf] at this;omega)
 have c2:=rC0 hI true E.vs s (by have:=hE.vs;omega)
 have c3:=ZC0 hI E;refine qN hI tyK Tryz.func117 43 [.cell 8 58] ?_;unhygienic intros
 refine qB 1 ?_
 repeat' first|refine qA 1 ?_|refine qJ (nN []) ?_|refine qJ (nN [0]) ?_|refine qp ?_ ?_|refine qk (fun h=>?_) fun h=>?_|fail
 ·have e:E.ps=(E.p.fns[E.fn.toNat]!).params:=by rw[Gx.ps,if_neg (by omega)]
  have hn:¬ixOf (E.p.fns[E.fn.toNat]!).params s < 0:=by omega
  (refine hR _ _ ⟨?_,?_⟩<;>(simp[-List.getElem!_eq_getElem?_getD,hI.e,F.d1,F.d2,F.d3,F.d4,F.d5,F.d6,F.d7,F.d8,litI,litS,litB,Gx.nmI,Gx.nmB,e,h,hn];done))
 ·have e:E.ps=(E.p.fns[E.fn.toNat]!).params:=by rw[Gx.ps,if_neg (by omega)]
  have hn:ixOf (E.p.fns[E.fn.toNat]!).params s < 0:=by omega
  (refine hR _ _ ⟨?_,?_⟩<;>(simp[-List.getElem!_eq_getElem?_getD,hI.e,F.d1,F.d2,F.d3,F.d4,F.d5,F.d6,F.d7,F.d8,litI,litS,litB,Gx.nmI,Gx.nmB,e,h,hn];done))
 ·have e:E.ps=[]:=by rw[Gx.ps,if_pos (by omega)]
  have hn:ixOf ([]:List ByteArray) s=-1:=by rw[ixOf,if_neg (by simp)]
  (refine hR _ _ ⟨?_,?_⟩<;>(simp[-List.getElem!_eq_getElem?_getD,hI.e,F.d1,F.d2,F.d3,F.d4,F.d5,F.d6,F.d7,F.d8,litI,litS,litB,Gx.nmI,Gx.nmB,e,h,hn];done))
variable {I:∀{α:Type},α->α}
structure Gx.C0 (E:Gx):Prop where
 c0:ixOf E.cs ⟨0,0,⟨⟨[]⟩⟩⟩=0
 c1:ixOf E.cs ⟨1,0,⟨⟨[]⟩⟩⟩=1
 c2:ixOf E.cs ⟨1,1,⟨⟨[]⟩⟩⟩=2
abbrev CodeOf (c:List Ik) (b:Bool) (n:Nat) (x:List Ik):Prop:=(b=false->x=c)/\x.length<=n
abbrev Mx (I:∀{α:Type},α->α) (E:Gx) (f:FuncId) (args:List AV) (c:List Ik) (b:Bool) (n:Nat):Prop:=∀bad:Bool,ACl Tryz.prog f (⟨.one,[.ptr 0 0]⟩::args) [mkI @I E bad]
 (fun res bx=>∃x:List Ik,CodeOf c b n x/\res=⟨.one,[.ow (0,0) false 2 (I (x.map Ik.t))]⟩/\bx=[mkI @I E (I (bad || b))])
theorem wU1 (hI:II @I) (O:List ByteArray) (E:Gx) (hE:E.Ok) (hC0:E.C0) (e:Ex) (h2:e.l.length=2) (hn:∀x∈e.l,x.parts<=1000) (ih:∀x∈e.l,Mx @I E 63 [eA @I x] (E.c O x) (E.b O x) (16 * x.parts)) :
  Mx @I E 112 [eA @I e] (bP0 (decide (e.s=orB)) (E.c O e.l[0]!) (E.c O e.l[1]!)) (E.b O e.l[0]! || E.b O e.l[1]!) (16 * (e.l[0]!).parts+16 * (e.l[1]!).parts+13):=by
 intro bad;have c1:=ih _ (zB0 (i:=0) (by omega))
 have c2:=ih _ (zB0 (i:=1) (by omega))
 have n1:=hn _ (zB0 (i:=0) (by omega))
 have n2:=hn _ (zB0 (i:=1) (by omega))
 have c3:=mY0 hI;have c4:=rB0 hI E hE 1 0 ⟨⟨[]⟩⟩;have c5:=rB0 hI E hE 1 1 ⟨⟨[]⟩⟩;rw[hC0.c1] at c4;rw[hC0.c2] at c5;refine qN hI tyK Tryz.func112 54 [.tmp 4] ?_;unhygienic intros
 refine qB 1 ?_
 repeat' first|refine qA 1 ?_|refine qJe (nN [0]) fun x hx=>?_|refine qJ (nN []) ?_|refine qJ (nN [0]) ?_|refine qp ?_ ?_|refine qk (fun h=>?_) fun h=>?_|fail
 all_goals (
  rename_i x1 hx1;refine hR _ _ ⟨_,⟨fun q=>?_,?_⟩,rfl,?_⟩
  ·simp only[Bool.or_eq_false_iff] at q
   rw[hx.1 q.2,hx1.1 q.1];simp[bP0,orB,h,hI.e]
  ·have:=hx.2
   have:=hx1.2;simp[-List.getElem!_eq_getElem?_getD];omega
  ·simp[hI.e,Bool.or_assoc])
def kkS (t k:Nat):Root->Nat->Option Nat:=fun r _=>match r with | .slot u=>if u=t then some k else none | _=>none
theorem CodeOf.snoc {c d:List Ik} {b b':Bool} {n m:Nat} {x y:List Ik} (h:CodeOf c b n x) (h':CodeOf d b' m y):CodeOf (c++d) (b || b') (n+m) (x++y):=
 ⟨fun q=>by rw[Bool.or_eq_false_iff] at q;rw[h.1 q.1,h'.1 q.2],by have:=h.2;have:=h'.2;rw[List.length_append];omega⟩
theorem partss_at {l:List Ex} {i:Nat} (h:i < l.length):Ex.partss (l.take (i+1))=Ex.partss (l.take i)+(l[i]!).parts:=by rw[yP0 h,Ex.partss_app,Ex.partss_one]
theorem YX0 (l:List Ex) (i:Nat):Ex.partss (l.take i)<=Ex.partss l:=by
 have h1:=congrArg Ex.partss (List.take_append_drop i l);rw[Ex.partss_app] at h1;omega
theorem DM0 (hI:II @I) (O:List ByteArray) (E:Gx) (l:List Ex) (hl:l.length<=1048576) (hn:Ex.partss l<=1048576) (ih:∀x∈l,Mx @I E 63 [eA @I x] (E.c O x) (E.b O x) (16 * x.parts)) :
  Mx @I E 113 [⟨.one,[.ro true (I (l.map Ex.t))]⟩] (l.map (E.c O)).flatten ((l.map (E.b O)).any id) (16 * Ex.partss l):=by
 intro bad;refine qN hI tyK Tryz.func113 21 [.tmp 4] ?_;unhygienic intros
 refine qB 1 ?_;refine qLf 1 [0,5,8,9,10] (kkS 5 2) (fun a:Nat×List Ik=>⟨vag 21 [(0,⟨.one,[.ptr 0 0]⟩),(5,⟨.one,[.ow (0,0) false 2 (I (a.2.map Ik.t))]⟩),(8,⟨.one,[.ro true (I (l.map Ex.t))]⟩),(9,litI (Int.ofNat (I l.length))),(10,litI (Int.ofNat (I a.1)))],[mkI @I E (I (bad || ((l.take a.1).map (E.b O)).any id))],1⟩) (fun a=>a.1<=l.length/\CodeOf ((l.take a.1).map (E.c O)).flatten (((l.take a.1).map (E.b O)).any id) (16 * Ex.partss (l.take a.1)) a.2) (fun a=>l.length - a.1) ?_ fun a ha=>?_
 ·cbv
  exact ⟨(0,[]),by simp[hI.e];rfl,by omega,by simp,by simp⟩
 obtain ⟨i,y⟩:=a;obtain ⟨hi,hy⟩:=ha;simp only at hi hy |-;have c1:=fun hh=>ih _ (zB0 (l:=l) (i:=i) hh);have hb:=fun (hh:i < l.length)=>partss_at hh;have hy2:=hy.2;have hp:=YX0 l i;have hp2:=YX0 l (i+1);refine qB 1 ?_
 repeat' first|refine qA 1 ?_|refine qJe (nN [0]) fun x hx=>?_|refine qp ?_ ?_|refine qk (fun h=>?_) fun h=>?_|fail
 ·have hs:=hy.snoc hx
  obtain ⟨hx1,hx2⟩:=hx;have hb2:=hb h;exact ⟨(i+1,y++x),by dsimp only;rw[gB0 (E.b O) h,<-Bool.or_assoc];(try simp only[A.reset,zD0,hI.e]);rfl,⟨by simp only;omega,by simp only[XW0 (E.c O) h,gB0 (E.b O) h,hb2,Nat.mul_add];exact hs⟩,by simp only;omega⟩
 ·have ht:l.take i=l:=List.take_of_length_le (by omega)
  rw[ht] at hy |-;exact hR _ _ ⟨y,hy,rfl,rfl⟩
variable {I:∀{α:Type},α->α}
section
variable {S:Type} (step:S->Ex->S)
mutual
def fE (s:S):Ex->S
 | .mk k n t l=>fL (step s (.mk k n t l)) l
def fL (s:S):List Ex->S
 | []=>s
 | e::l=>fL (fE s e) l
end
mutual
def fM (s:S):Sm->S
 | .mk _ _ _ x a b=>fB (fB (fL step s x) a) b
def fB (s:S):List Sm->S
 | []=>s
 | y::l=>fB (fM s y) l
end
theorem rY0 (s:S):∀l,fL step s l=l.foldl (fE step) s
 | []=>rfl
 | e::l=>by rw[fL,rY0 (fE step s e) l];rfl
theorem UQ0 (s:S):∀l,fB step s l=l.foldl (fM step) s
 | []=>rfl
 | e::l=>by rw[fB,UQ0 (fM step s e) l];rfl
theorem fE_eq (s:S) (e:Ex):fE step s e=e.l.foldl (fE step) (step s e):=by cases e;rw[fE,rY0];rfl
theorem fM_eq (s:S) (y:Sm):fM step s y=fB step (fB step (y.x.foldl (fE step) s) y.a) y.b:=by cases y;rw[fM,rY0];rfl
def fP (s:S) (x:Pa):S:=fB step (x.when_.foldl (fE step) s) x.l
end
structure Tell (I:∀{α:Type},α->α) {S:Type} (fT:FuncId) (kz:Nat) (L:S->List (List T)) (step:S->Ex->S) (G:Nat->S->Prop):Prop where
 en:zP0 Tryz.prog fT=true
 go:∀(e:Ex) (s:S) (n:Nat),e.Sh->G (n+1) s->ACl Tryz.prog fT [eA @I e,⟨.one,[.ptr 0 0]⟩] [some [.ow (0,0) false kz (I (L s))]] (fun res bx=>res=⟨.tup [],[]⟩/\bx=[some [.ow (0,0) false kz (I (L (step s e)))]])
 nx:∀e s n,G (n+1) s->G n (step s e)
 le:∀s n m,m<=n->G n s->G m s
section
variable {S:Type} {fT:FuncId} {kz:Nat} {L:S->List (List T)} {step:S->Ex->S} {G:Nat->S->Prop}
mutual
theorem fE_G (nx:∀e s n,G (n+1) s->G n (step s e)) (s:S):∀(e:Ex) (n:Nat),G (n+e.parts) s->G n (fE step s e)
 | .mk k n0 t l,n,h=>by
  rw[Ex.parts] at h;rw[fE];exact fL_G nx _ l n (nx _ _ _ (by rwa[show n+(1+Ex.partss l)=n+Ex.partss l+1 by omega] at h))
theorem fL_G (nx:∀e s n,G (n+1) s->G n (step s e)) (s:S):∀(l:List Ex) (n:Nat),G (n+Ex.partss l) s->G n (fL step s l)
 | [],n,h=>h
 | e::l,n,h=>by
  rw[Ex.partss] at h;rw[fL];exact fL_G nx _ l n (fE_G nx s e _ (by rwa[show n+(e.parts+Ex.partss l)=n+Ex.partss l+e.parts by omega] at h))
end
mutual
theorem fM_G (nx:∀e s n,G (n+1) s->G n (step s e)) (s:S):∀(y:Sm) (n:Nat),G (n+y.parts) s->G n (fM step s y)
 | .mk _ _ _ x a b,n,h=>by
  rw[Sm.parts] at h;rw[fM];exact fB_G nx _ b n (fB_G nx _ a _ (fL_G nx s x _ (by rwa[show n+(Ex.partss x+Sm.partss a+Sm.partss b)=n+Sm.partss b+Sm.partss a+Ex.partss x by omega] at h)))
theorem fB_G (nx:∀e s n,G (n+1) s->G n (step s e)) (s:S):∀(l:List Sm) (n:Nat),G (n+Sm.partss l) s->G n (fB step s l)
 | [],n,h=>h
 | e::l,n,h=>by
  rw[Sm.partss] at h;rw[fB];exact fB_G nx _ l n (fM_G nx s e _ (by rwa[show n+(e.parts+Sm.partss l)=n+Sm.partss l+e.parts by omega] at h))
end
theorem UM0 (nx:∀e s n,G (n+1) s->G n (step s e)) (le:∀s n m,m<=n->G n s->G m s) (s:S) {l:List Ex} {i:Nat} (hi:i < l.length) {n:Nat} (h:G (n+Ex.partss l) s):G (n+(l[i]!).parts) ((l.take i).foldl (fE step) s):=by
 rw[<-rY0];refine fL_G nx s _ _ (le _ _ _ ?_ h);have h1:=congrArg Ex.partss (List.take_append_drop (i+1) l);rw[Ex.partss_app,yP0 hi,Ex.partss_app,Ex.partss_one] at h1;omega
end
variable {I:∀{α:Type},α->α}
section
variable {S:Type} {fT:FuncId} {kz:Nat} {L:S->List (List T)} {step:S->Ex->S} {G:Nat->S->Prop}
theorem dQ0 (hI:II @I) (ht:Tell @I fT kz L step G):∀(e:Ex),e.Sh->∀(s:S) (n:Nat),G (n+e.parts) s->
  ACl Tryz.prog 151 [eA @I e,⟨.one,[.fn fT [(0,0)]]⟩] [some [.ow (0,0) false kz (I (L s))]] (fun res bx=>res=⟨.tup [],[]⟩/\bx=[some [.ow (0,0) false kz (I (L (fE step s e)))]]):=by
 refine Ex.ind fun e ih he s n hg=>?_;have he':=he;obtain ⟨_,_,hll,hs⟩:=he;have hp:e.parts=1+Ex.partss e.l:=by cases e;rw[Ex.parts];rfl
 rw[hp] at hg;have hg1:G (n+Ex.partss e.l+1) s:=by rwa[show n+(1+Ex.partss e.l)=n+Ex.partss e.l+1 by omega] at hg
 have c1:=ht.go e s _ he' hg1;have hen:=ht.en;rw[fE_eq];refine qN hI tyK Tryz.func151 20 [] ?_;unhygienic intros
 refine qB 1 ?_
 repeat' first|refine qA 1 ?_|refine qJ (nN [0]) ?_|refine qp ?_ ?_|refine qk (fun h=>?_) fun h=>?_|fail
 refine qLf 2 [1,10,11,12] kk0 (fun i:Nat=>⟨vag 20 [(1,⟨.one,[.fn fT [(0,0)]]⟩),(10,⟨.one,[.ro true (I (e.l.map Ex.t))]⟩),(11,litI (Int.ofNat (I e.l.length))),(12,litI (Int.ofNat (I i)))],[some [.ow (0,0) false kz (I (L ((e.l.take i).foldl (fE step) (step s e))))],some (eA @I e).cs],1⟩) (fun i=>i<=e.l.length) (fun i=>e.l.length - i) ?_ fun i hi=>?_
 ·cbv
  exact ⟨0,by simp[hI.e];rfl,by omega⟩
 have c2:=fun (hh:i < e.l.length)=>ih _ (zB0 hh) (hs _ (zB0 hh)) _ n (UM0 ht.nx ht.le (step s e) hh (ht.nx _ _ _ hg1));clear c1;refine qB 1 ?_
 repeat' first|refine qA 1 ?_|refine qJ (nN [0]) ?_|refine qp ?_ ?_|refine qk (fun h=>?_) fun h=>?_|fail
 ·exact ⟨i+1,by (try simp only[A.reset,zD0,hI.e,List.append_assoc,Bool.or_false,zC0,xW0 (fE step) (step s e) h]);rfl,by omega,by omega⟩
 ·have ht:e.l.take i=e.l:=List.take_of_length_le (by omega)
  rw[ht];exact hR _ _ ⟨rfl,rfl⟩
end
end Go.Gv
