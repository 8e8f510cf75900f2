/- Part G2 of the proof: contracts of functions of the program, each walked once. -/
import Derived.Test.YtomgmhbmchidnaaGreatG1
set_option linter.all false
namespace Go.Gv
open Go.Av Go.Proofs
set_option maxRecDepth 10000
set_option maxHeartbeats 8000000
variable {I:∀{α:Type},α->α}
abbrev yC1 (I:∀{α:Type},α->α) (f:FuncId) (l:List ByteArray):Prop:=ACl Tryz.prog f [] [] (fun res bx=>res=⟨.one,[.ow (0,0) false 1 (I (l.map strT))]⟩/\bx=[])
theorem DD0 (hI:II @I) (O:List ByteArray) (hO':O.length<=100) (E:Gx) (hE:E.Ok) (e:Ex) (hf:∀f∈E.p.fns,f.params.length<=1048576) (hm:e.l.length<=1048576) (cf:FnOk @I 60 E.p) (c5:yC1 @I 183 O) :
  Sp @I E 132 [eA @I e] (E.last O e.k e.s e.l.length) (E.lastB O e.k e.s e.l.length):=by
 intro code bad hl;have c1:=vF0 hI E;have c2:=fun s=>qA0 hI false E.ts s (by have:=hE.ts;omega)
 have c3:=fun s=>qA0 hI false E.rs s (by have:=hE.rs;omega)
 have c4:=fun s=>qA0 hI false O s (by omega)
 have c6:=TM0 hI E e hf hm cf;have hl2:e.k=11->code.length+(E.call e.s e.l.length).length<=274877906944:=fun h=>by simpa [Gx.last,h] using hl
 have hl3:code.length<=274877906944:=by omega
 clear hl;refine qN hI tyK Tryz.func132 103 [] ?_;unhygienic intros
 refine qB 2 ?_
 repeat' first|refine qA 2 ?_|refine qJ (nN []) ?_|refine qJ (nN [0,1]) ?_|refine qp ?_ ?_|refine qk (fun h=>?_) fun h=>?_|fail
 all_goals (clear c1 c2 c3 c4 c5 c6 cf)
 all_goals (refine hR _ _ ⟨?_,?_⟩<;>(simp[-List.getElem!_eq_getElem?_getD,hI.e,F.d1,F.d2,F.d3,F.d4,F.d5,F.d6,F.d7,F.d8,litI,litS,litB,Gx.last,Gx.lastB,pt, *];done))
variable {I:∀{α:Type},α->α}
inductive Ex.Sh:Ex->Prop where
 | mk {e:Ex} (h6:e.k=6->e.l.length=2) (h1:e.k=1->0<=e.n/\e.n<=2147483647) (hl:e.l.length<=1048576) (h:∀x∈e.l,x.Sh):e.Sh
structure Env (I:∀{α:Type},α->α) (O:List ByteArray) (E:Gx):Prop where
 o:O.length<=100
 ok:E.Ok
 ps:∀f∈E.p.fns,f.params.length<=1048576
 fn:FnOk @I 60 E.p
 ops:yC1 @I 183 O
theorem GZ0 {α β:Type} (f:α->List β) (l:List α) (i:Nat):((l.take i).map f).flatten.length<=(l.map f).flatten.length:=by
 conv=>rhs;rw[<-List.take_append_drop i l]
 rw[List.map_append,List.flatten_append,List.length_append];omega
theorem XW0 {α β:Type} [Inhabited α] (f:α->List β) {l:List α} {i:Nat} (h:i < l.length):((l.take (i+1)).map f).flatten=((l.take i).map f).flatten++f l[i]!:=by rw[yP0 h];simp
theorem gB0 {α:Type} [Inhabited α] (f:α->Bool) {l:List α} {i:Nat} (h:i < l.length):((l.take (i+1)).map f).any id=(((l.take i).map f).any id || f l[i]!):=by rw[yP0 h];simp
theorem Gx.node_log {O:List ByteArray} {E:Gx} {k n:Int} {s:ByteArray} {cs:List (List Ik)} (h:k=6) (ho:s=andB\/s=orB):E.node O k n s cs=bP0 (decide (s=orB)) cs[0]! cs[1]!:=by subst h;rw[Gx.node,if_neg (by decide),if_neg (by decide),if_neg (by decide),if_pos ⟨rfl,ho⟩]
theorem Gx.node_else {O:List ByteArray} {E:Gx} {k n:Int} {s:ByteArray} {cs:List (List Ik)} (h1:¬k=1) (h2:¬k=2) (h3:¬k=3) (h:¬(k=6/\(s=andB\/s=orB))):E.node O k n s cs=cs.flatten++E.last O k s cs.length:=by rw[Gx.node,if_neg h1,if_neg h2,if_neg h3,if_neg h]
theorem Gx.nodeB_else {O:List ByteArray} {E:Gx} {k n:Int} {s:ByteArray} {cs:List Bool} (h1:¬k=1) (h2:¬k=2) (h3:¬k=3) (h:¬(k=6/\(s=andB\/s=orB))):E.nodeB O k n s cs=(cs.any id || E.lastB O k s cs.length):=by rw[Gx.nodeB,if_neg h1,if_neg h2,if_neg h3,if_neg h]
theorem Gx.nodeB_log {O:List ByteArray} {E:Gx} {k n:Int} {s:ByteArray} {cs:List Bool} (h:k=6) (ho:s=andB\/s=orB):E.nodeB O k n s cs=(cs[0]! || cs[1]!):=by subst h;rw[Gx.nodeB,if_neg (by decide),if_neg (by decide),if_neg (by decide),if_pos ⟨rfl,ho⟩]
theorem hQ0 (hI:II @I) (O:List ByteArray) (E:Gx) (hE:Env @I O E):∀(e:Ex) (he:e.Sh),Sp @I E 66 [eA @I e] (E.c O e) (E.b O e):=by
 refine Ex.ind fun e ih he=>?_;intro code bad hl;obtain ⟨h6,h1,hm,hs⟩:=he;rw[Gx.c_eq] at hl |-;rw[Gx.b_eq];have c1:=vF0 hI E;have c2:=fun h=>TK0 hI (I e.n) (by rw[hI.e];exact h1 h)
 have c3:=PM0 hI;have c4:=fun k n s=>DE0 hI false E.cs k n s (by have:=hE.ok.cs;omega)
 have c5:=hP0 hI E hE.ok;have c0:=fun (h:e.k=6) (ho:e.s=andB\/e.s=orB)=>MY0 hI O E e (h6 h) (fun x hx=>ih x hx (hs x hx)) code bad (by have h2:=hl;have:=h6 h;rw[Gx.node_log h ho,xF0 (by omega),xF0 (by omega)] at h2;exact h2)
 have c6:=fun h (ho:e.s=⟨⟨[38,38]⟩⟩)=>c0 h (.inl ho);have c8:=fun h (ho:e.s=⟨⟨[124,124]⟩⟩)=>c0 h (.inr ho);clear c0;have c7:=DD0 hI O hE.o E hE.ok e hE.ps hm hE.fn hE.ops;have hl3:code.length<=274877906944:=by omega
 refine qN hI tyK Tryz.func66 81 [] ?_;unhygienic intros
 refine qB 2 ?_
 repeat' first|refine qA 2 ?_|refine qJ (nN []) ?_|refine qJ (nN [0,1]) ?_|refine qp ?_ ?_|refine qk (fun h=>?_) fun h=>?_|fail
 ·(refine hR _ _ ⟨?_,?_⟩<;>(simp[-List.getElem!_eq_getElem?_getD,hI.e,F.d1,F.d2,F.d3,F.d4,F.d5,F.d6,F.d7,F.d8,litI,litS,litB,Gx.node,Gx.nodeB,h];done))
 ·(refine hR _ _ ⟨?_,?_⟩<;>(simp[-List.getElem!_eq_getElem?_getD,hI.e,F.d1,F.d2,F.d3,F.d4,F.d5,F.d6,F.d7,F.d8,litI,litS,litB,Gx.node,Gx.nodeB,h];done))
 ·(refine hR _ _ ⟨?_,?_⟩<;>(simp[-List.getElem!_eq_getElem?_getD,hI.e,F.d1,F.d2,F.d3,F.d4,F.d5,F.d6,F.d7,F.d8,litI,litS,litB,Gx.node,Gx.nodeB,h];done))
 ·have:=h6 ‹_›
  refine hR _ _ ⟨rfl,?_⟩;rw[Gx.node_log ‹_› (.inl h),Gx.nodeB_log ‹_› (.inl h),xF0 (by omega),xF0 (by omega),xF0 (by omega),xF0 (by omega)]
 ·have:=h6 ‹_›
  refine hR _ _ ⟨rfl,?_⟩;rw[Gx.node_log ‹_› (.inr h),Gx.nodeB_log ‹_› (.inr h),xF0 (by omega),xF0 (by omega),xF0 (by omega),xF0 (by omega)]
 all_goals (
  have hn:¬(e.k=6/\(e.s=andB\/e.s=orB)):=by first | exact fun q=>h q.1 | exact fun q=>q.2.elim ‹_› h
  rw[Gx.node_else ‹_› ‹_› ‹_› hn,List.length_append,List.length_map] at hl;refine qLf 3 [0,3,4] kk0 (fun i:Nat=>⟨vag 81 [(0,⟨.one,[.ptr 0 0]⟩),(3,⟨.one,[.ptr 2 0]⟩),(4,litI (Int.ofNat (I i)))],[mkS @I E (code++((e.l.take i).map (E.c O)).flatten) (I (bad || ((e.l.take i).map (E.b O)).any id)),plS @I E,some (eA @I e).cs],1⟩) (fun i=>i<=e.l.length) (fun i=>e.l.length - i) ?_ fun i hi=>?_
  ·cbv
   exact ⟨0,by simp[hI.e];rfl,by omega⟩
  have hi2:=GZ0 (E.c O) e.l i;have hi3:=GZ0 (E.c O) e.l (i+1);have c9:=fun h=>ih _ (zB0 (l:=e.l) (i:=i) h) (hs _ (zB0 h)) (code++((e.l.take i).map (E.c O)).flatten) (I (bad || ((e.l.take i).map (E.b O)).any id)) (by rw[XW0 _ h,List.length_append] at hi3;rw[List.length_append];omega)
  refine qB 2 ?_
  repeat' first|refine qA 2 ?_|refine qJ (nN [0,1]) ?_|refine qp ?_ ?_|refine qk (fun h=>?_) fun h=>?_|fail
  ·exact ⟨i+1,by (try simp only[A.reset,zD0,hI.e,List.append_assoc,Bool.or_false,zC0,XW0 (E.c O) h,gB0 (E.b O) h,<-Bool.or_assoc]);rfl,by omega,by omega⟩
  ·rw[List.take_of_length_le (by omega)] at *
   refine hR _ _ ⟨rfl,?_⟩;rw[Gx.node_else ‹_› ‹_› ‹_› hn,Gx.nodeB_else ‹_› ‹_› ‹_› hn];simp[hI.e,Bool.or_assoc])
variable {I:∀{α:Type},α->α}
def Gx.slast (E:Gx) (k:Int) (s:ByteArray) (m:Nat):List Ik:=
 if k=1 then [⟨34,m⟩] else if k=2 then [E.nm s 6 4] else if k=3 then [pt 19 (ixOf E.ts s)] else if k=4 then [⟨23,0⟩] else if k=8 then [⟨41,0⟩] else if k=9 then [⟨40,0⟩] else if k=10 then [⟨33,0⟩]
 else if k=11 then [pt 21 (ixOf E.ts s)] else [⟨35,0⟩]
def Gx.slastB (E:Gx) (k:Int) (s:ByteArray):Bool:=
 if k=2 then E.nmB s else if k=3\/k=11 then decide (ixOf E.ts s < 0) else if k=8 then decide (0<=E.fn) else if k=10 then decide (E.fn < 0) else false
def rW0 (h t a:List Ik):List Ik:=[⟨13,0⟩,⟨14,0⟩,⟨1,0⟩]++h++[⟨11,0⟩,⟨17,1⟩]++t++a++[⟨16,0⟩,⟨15,0⟩,⟨15,0⟩]
def ifC (h a b:List Ik):List Ik:=[⟨13,0⟩,⟨13,0⟩]++h++[⟨10,0⟩,⟨17,0⟩]++b++[⟨16,1⟩,⟨15,0⟩]++a++[⟨15,0⟩]
def Gx.snode (O:List ByteArray) (E:Gx) (k:Int) (s t:ByteArray) (x:List Ex) (a b:List Ik):List Ik:=
 if k=5 then ifC (E.c O x[0]!) a b else if k=6 then rW0 (E.c O x[0]!++[⟨10,0⟩]) [] a else if k=7 then [pt 36 (ixOf E.ts t)]++rW0 [⟨37,0⟩] [⟨38,0⟩,E.nm s 6 4] a++[⟨39,0⟩]
 else (x.map (E.c O)).flatten++E.slast k s x.length
def Gx.snodeB (O:List ByteArray) (E:Gx) (k:Int) (s t:ByteArray) (x:List Ex) (a b:Bool):Bool:=
 if k=5 then E.b O x[0]! || (b || a) else if k=6 then E.b O x[0]! || a else if k=7 then decide (ixOf E.ts t < 0) || (E.nmB s || a)
 else (x.map (E.b O)).any id || E.slastB k s
mutual
def Gx.sc (O:List ByteArray) (E:Gx):Sm->List Ik
 | .mk k s t x a b=>⟨1,0⟩::E.snode O k s t x (E.lc O a) (E.lc O b)
def Gx.lc (O:List ByteArray) (E:Gx):List Sm->List Ik
 | []=>[]
 | y::l=>E.sc O y++E.lc O l
end
mutual
def Gx.sb (O:List ByteArray) (E:Gx):Sm->Bool
 | .mk k s t x a b=>E.snodeB O k s t x (E.lb O a) (E.lb O b)
def Gx.lb (O:List ByteArray) (E:Gx):List Sm->Bool
 | []=>false
 | y::l=>E.sb O y || E.lb O l
end
theorem Gx.lc_map (O:List ByteArray) (E:Gx):∀l,E.lc O l=(l.map (E.sc O)).flatten
 | []=>rfl
 | e::l=>by rw[Gx.lc,Gx.lc_map O E l];rfl
theorem Gx.lb_map (O:List ByteArray) (E:Gx):∀l,E.lb O l=(l.map (E.sb O)).any id
 | []=>rfl
 | e::l=>by rw[Gx.lb,Gx.lb_map O E l];rfl
theorem Gx.sc_eq (O:List ByteArray) (E:Gx) (y:Sm):E.sc O y=⟨1,0⟩::E.snode O y.k y.s y.tt y.x (E.lc O y.a) (E.lc O y.b):=by cases y;rw[Gx.sc];rfl
theorem Gx.sb_eq (O:List ByteArray) (E:Gx) (y:Sm):E.sb O y=E.snodeB O y.k y.s y.tt y.x (E.lb O y.a) (E.lb O y.b):=by cases y;rw[Gx.sb];rfl
inductive Sm.Sh:Sm->Prop where
 | mk {y:Sm} (h5:y.k=5\/y.k=6->y.x.length=1) (hx:∀e∈y.x,e.Sh) (lx:y.x.length<=1048576) (la:y.a.length<=1048576) (lb:y.b.length<=1048576) (h:∀z∈y.a++y.b,z.Sh):y.Sh
theorem Sm.Sh.ex {y:Sm} (h:y.Sh):∀e∈y.x,e.Sh:=by cases h;assumption
theorem hR0 (hI:II @I) (O:List ByteArray) (E:Gx) (l:List Sm) (hl':l.length<=1048576) (ih:∀y∈l,Sp @I E 72 [sA @I y] (E.sc O y) (E.sb O y)):Sp @I E 33 [smA @I l] (E.lc O l) (E.lb O l):=by
 intro code bad hl;rw[Gx.lc_map] at hl |-;rw[Gx.lb_map];refine qN hI tyK Tryz.func33 17 [] ?_;unhygienic intros
 refine qB 2 ?_;refine qLf 2 [0,1,4] kk0 (fun i:Nat=>⟨vag 17 [(0,⟨.one,[.ptr 0 0]⟩),(1,smA @I l),(4,litI (Int.ofNat (I i)))],[mkS @I E (code++((l.take i).map (E.sc O)).flatten) (I (bad || ((l.take i).map (E.sb O)).any id)),plS @I E],1⟩) (fun i=>i<=l.length) (fun i=>l.length - i) ?_ fun i hi=>?_
 ·cbv
  exact ⟨0,by simp[hI.e];rfl,by omega⟩
 have hi3:=GZ0 (E.sc O) l (i+1);have c9:=fun h=>ih _ (zB0 (l:=l) (i:=i) h) (code++((l.take i).map (E.sc O)).flatten) (I (bad || ((l.take i).map (E.sb O)).any id)) (by rw[XW0 _ h,List.length_append] at hi3;rw[List.length_append];omega)
 refine qB 2 ?_
 repeat' first|refine qA 2 ?_|refine qJ (nN [0,1]) ?_|refine qp ?_ ?_|refine qk (fun h=>?_) fun h=>?_|fail
 ·exact ⟨i+1,by (try simp only[A.reset,zD0,hI.e,List.append_assoc,Bool.or_false,zC0,XW0 (E.sc O) h,gB0 (E.sb O) h,<-Bool.or_assoc]);rfl,by omega,by omega⟩
 ·rw[List.take_of_length_le (by omega)] at *
  (refine hR _ _ ⟨?_,?_⟩<;>(simp[-List.getElem!_eq_getElem?_getD,hI.e,F.d1,F.d2,F.d3,F.d4,F.d5,F.d6,F.d7,F.d8,litI,litS,litB,hI.e];done))
theorem qH1 (hI:II @I) (O:List ByteArray) (E:Gx) (hE:Env @I O E) (y:Sm) (hy:y.Sh) (h5:y.x.length=1) (cA:Sp @I E 33 [smA @I y.a] (E.lc O y.a) (E.lb O y.a)) (cB:Sp @I E 33 [smA @I y.b] (E.lc O y.b) (E.lb O y.b)) :
  Sp @I E 139 [sA @I y] (ifC (E.c O y.x[0]!) (E.lc O y.a) (E.lc O y.b)) (E.b O y.x[0]! || (E.lb O y.b || E.lb O y.a)):=by
 intro code bad hl;have c1:=vF0 hI E;have c2:=hQ0 hI O E hE _ (hy.ex _ (zB0 (i:=0) (by omega)))
 have c3:=cA;have c4:=cB;simp only[ifC,List.length_append,List.length_cons,List.length_nil] at hl;refine qN hI tyK Tryz.func139 32 [] ?_;unhygienic intros
 refine qB 2 ?_
 repeat' first|refine qA 2 ?_|refine qJ (nN [0,1]) ?_|refine qp ?_ ?_|refine qk (fun h=>?_) fun h=>?_|fail
 (refine hR _ _ ⟨?_,?_⟩<;>(simp[-List.getElem!_eq_getElem?_getD,hI.e,F.d1,F.d2,F.d3,F.d4,F.d5,F.d6,F.d7,F.d8,litI,litS,litB,ifC,pt,Bool.or_assoc];done))
theorem WN0 (hI:II @I) (O:List ByteArray) (E:Gx) (hE:Env @I O E) (y:Sm) (hy:y.Sh) (h5:y.k=6->y.x.length=1) (h7:y.k=6\/y.k=7) (cA:Sp @I E 33 [smA @I y.a] (E.lc O y.a) (E.lb O y.a)) :
  Sp @I E 140 [sA @I y] (if y.k=6 then rW0 (E.c O y.x[0]!++[⟨10,0⟩]) [] (E.lc O y.a) else rW0 [⟨37,0⟩] [⟨38,0⟩,E.nm y.s 6 4] (E.lc O y.a)) (if y.k=6 then E.b O y.x[0]! || E.lb O y.a else E.nmB y.s || E.lb O y.a):=by
 intro code bad hl;have c1:=vF0 hI E;have c2:=fun h=>hQ0 hI O E hE _ (hy.ex _ (zB0 (i:=0) (by have:=h5 h;omega)))
 have c3:=cA;have c4:=hP0 hI E hE.ok;have hx:=h5;rcases h7 with h7 | h7
 ·rw[if_pos h7] at hl |-
  rw[if_pos h7];have hx:=h5 h7;simp only[rW0,List.length_append,List.length_cons,List.length_nil] at hl;refine qN hI tyK Tryz.func140 46 [] ?_;unhygienic intros
  refine qB 2 ?_
  repeat' first|refine qA 2 ?_|refine qJ (nN [0,1]) ?_|refine qp ?_ ?_|refine qk (fun h=>?_) fun h=>?_|fail
  all_goals first
   | (refine hR _ _ ⟨?_,?_⟩<;>(simp[-List.getElem!_eq_getElem?_getD,hI.e,F.d1,F.d2,F.d3,F.d4,F.d5,F.d6,F.d7,F.d8,litI,litS,litB,rW0,pt,Bool.or_assoc];done))
   | omega
 ·have h6:¬y.k=6:=by omega
  rw[if_neg h6] at hl |-;rw[if_neg h6];simp only[rW0,List.length_append,List.length_cons,List.length_nil] at hl;refine qN hI tyK Tryz.func140 46 [] ?_;unhygienic intros
  refine qB 2 ?_
  repeat' first|refine qA 2 ?_|refine qJ (nN [0,1]) ?_|refine qp ?_ ?_|refine qk (fun h=>?_) fun h=>?_|fail
  all_goals first
   | (refine hR _ _ ⟨?_,?_⟩<;>(simp[-List.getElem!_eq_getElem?_getD,hI.e,F.d1,F.d2,F.d3,F.d4,F.d5,F.d6,F.d7,F.d8,litI,litS,litB,rW0,pt,Bool.or_assoc];done))
   | omega
end Go.Gv
