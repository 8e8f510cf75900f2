/- Part H4 of the proof: contracts of functions of the program, each walked once. -/
import Derived.Test.YtomgmhbmchidnaaGreatH3
import Derived.Test.YtomgmhbmchidnaaGreatH2
import Derived.Test.YtomgmhbmchidnaaGreatG4
set_option linter.all false
namespace Go.Gv
open Go.Av Go.Proofs
set_option maxRecDepth 10000
set_option maxHeartbeats 8000000
variable {I:∀{α:Type},α->α}
inductive Sm.Sk (O:List ByteArray):Sm->Prop where
 | mk {y:Sm} (h5:y.k=5\/y.k=6->y.x.length=1) (h7:y.k=7->y.x=[]) (lx:y.x.length<=1048576) (la:y.a.length<=1048576) (lb:y.b.length<=1048576) (hx:∀e∈y.x,e.Sk O/\e.parts<=1000) (h:∀z∈y.a++y.b,z.Sk O):y.Sk O
theorem QZ0 {α β:Type} [Inhabited α] (f:α->List β) {l:List α} (h:l.length=1):(l.map f).flatten=f l[0]!:=by
 match l,h with
 | [a],_=>simp
theorem ZT0 {α:Type} [Inhabited α] (f:α->Bool) {l:List α} (h:l.length=1):(l.map f).any id=f l[0]!:=by
 match l,h with
 | [a],_=>simp
theorem pW1 {O:List ByteArray} {E:Gx} {y:Sm} {x c:List Ik} (k5:¬y.k=5) (k6:¬y.k=6) (k7:¬y.k=7) (hx:CodeOf (y.x.map (E.c O)).flatten ((y.x.map (E.b O)).any id) (16 * Ex.partss y.x) x)
  (hy:E.slastB y.k y.s=false->c=E.slast y.k y.s y.x.length) (hl:c.length<=24):CodeOf (E.snode O y.k y.s y.tt y.x (E.lc O y.a) (E.lc O y.b)) (E.sb O y) (16 * Ex.partss y.x+32 * Sm.ws y.a+32 * Sm.ws y.b+24) (x++c):=by
 have h:=hx.snoc (m:=24) (d:=E.slast y.k y.s y.x.length) (b':=E.slastB y.k y.s) (y:=c) ⟨hy,hl⟩;rw[Gx.snode,if_neg k5,if_neg k6,if_neg k7,Gx.sb_eq,Gx.snodeB,if_neg k5,if_neg k6,if_neg k7];exact ⟨h.1,by have:=h.2;omega⟩
theorem pX1 {O:List ByteArray} {E:Gx} {y:Sm} (k5:¬y.k=5) (k6:¬y.k=6) (k7:¬y.k=7):E.sb O y=((y.x.map (E.b O)).any id || E.slastB y.k y.s):=by
 rw[Gx.sb_eq,Gx.snodeB,if_neg k5,if_neg k6,if_neg k7]
section
variable (hI:II @I) (O:List ByteArray) (E:Gx) (hE:EnvI @I O E) (y:Sm) (hn:y.w<=1048576)
include hI hE hn
theorem s_if (k5:y.k=5) (h1:y.x.length=1) (c3:XsG @I O E y.x) (cA:BG @I O E y.a) (cB:BG @I O E y.b):SG @I O E y:=by
 intro bad;have hw:=Sm.w_eq y;have c1:=cA;have c2:=cB;have e1:I y.k=(5:Int):=by rw[hI.e];exact k5
 refine qN hI tyK Tryz.func91 173 [.tmp 4] ?_;unhygienic intros
 refine qB 1 ?_
 repeat' first|refine qA 1 ?_|refine qJe (nN [0]) fun x hx=>?_|refine qJ (nN []) ?_|refine qJ (nN [0]) ?_|refine qp ?_ ?_|refine qk (fun h=>?_) fun h=>?_|fail
 all_goals first
  | contradiction
  | exact absurd True.intro ‹_›
  | skip
 have hxe:=(by assumption:CodeOf (y.x.map (E.c O)).flatten ((y.x.map (E.b O)).any id) (16 * Ex.partss y.x) _)
 have hxb:=(by assumption:CodeOf (E.lc O y.b) (E.lb O y.b) (32 * Sm.ws y.b) _)
 refine hR _ _ ⟨_,⟨fun q=>?_,?_⟩,rfl,?_⟩
 ·rw[Gx.sb_eq,Gx.snodeB,if_pos k5] at q
  simp only[Bool.or_eq_false_iff] at q;rw[hx.1 q.2.2,hxb.1 q.2.1,hxe.1 (by rw[ZT0 _ h1];exact q.1),QZ0 _ h1,Gx.snode,if_pos k5]
  simp[ifC]
 ·have:=hx.2
  have:=hxe.2;have:=hxb.2;simp;omega
 ·rw[Gx.sb_eq,Gx.snodeB,if_pos k5,ZT0 _ h1]
  simp[hI.e,Bool.or_assoc]
theorem tD1 (k6:y.k=6) (h1:y.x.length=1) (c3:XsG @I O E y.x) (cA:BG @I O E y.a):SG @I O E y:=by
 intro bad;have hw:=Sm.w_eq y;have c1:=fun h hh=>rZ1 hI O E h y.a hh (by omega) cA
 have e1:I y.k=(6:Int):=by rw[hI.e];exact k6
 refine qN hI tyK Tryz.func91 173 [.tmp 4] ?_;unhygienic intros
 refine qB 1 ?_
 repeat' first|refine qA 1 ?_|refine qJe (nN [0]) fun x hx=>?_|refine qJ (nN []) ?_|refine qJ (nN [0]) ?_|refine qp ?_ ?_|refine qk (fun h=>?_) fun h=>?_|fail
 all_goals first
  | contradiction
  | exact absurd True.intro ‹_›
  | skip
 have hxe:=(by assumption:CodeOf (y.x.map (E.c O)).flatten ((y.x.map (E.b O)).any id) (16 * Ex.partss y.x) _)
 have k5:¬y.k=5:=by omega
 refine hR _ _ ⟨_,⟨fun q=>?_,?_⟩,rfl,?_⟩
 ·rw[Gx.sb_eq,Gx.snodeB,if_neg k5,if_pos k6] at q
  simp only[Bool.or_eq_false_iff] at q;rw[hx.1 q.2,hxe.1 (by rw[ZT0 _ h1];exact q.1),QZ0 _ h1,Gx.snode,if_neg k5,if_pos k6]
 ·have p1:=hx.2
  have p2:=hxe.2;simp only[List.length_append,List.length_cons,List.length_nil] at p1;omega
 ·rw[Gx.sb_eq,Gx.snodeB,if_neg k5,if_pos k6,ZT0 _ h1]
  simp[hI.e,Bool.or_assoc]
theorem nE1 (k5:¬y.k=5) (k6:¬y.k=6) (k7:¬y.k=7) (c3:XsG @I O E y.x):SG @I O E y:=by
 intro bad;have hw:=Sm.w_eq y;have c5:=nH0 hI E hE.ok;have c6:=TB0 hI E hE.ok;refine qN hI tyK Tryz.func91 173 [.tmp 4] ?_;unhygienic intros
 refine qB 1 ?_
 repeat' first|refine qA 1 ?_|refine qJe (nN [0]) fun x hx=>?_|refine qJ (nN []) ?_|refine qJ (nN [0]) ?_|refine qp ?_ ?_|refine qk (fun h=>?_) fun h=>?_|fail
 all_goals first
  | contradiction
  | skip
 all_goals (
  clear c3 c5 c6;refine hR _ _ ⟨_,pW1 k5 k6 k7 hx (fun q=>?_) (by simp),rfl,?_⟩
  ·first
   | (simp[Gx.slast,hI.e, *];done)
   | (simp[Gx.slastB, *] at q;simp[Gx.slast,pt,hI.e,tR1 q, *];done)
   | (simp[Gx.slastB, *] at q;simp[Gx.slast,pt,hI.e,Int.not_lt.2 q, *];done)
   | skip
  ·rw[pX1 k5 k6 k7]
   first
   | (simp[hI.e,Gx.slastB, *];done)
   | (simp[hI.e,Gx.slastB,Bool.or_assoc, *];done)
   | (rw[<-Bool.or_assoc,h];simp[hI.e];done)
   | (simp_all [hI.e,Gx.slastB,Bool.or_assoc,F.d3,F.d6];done)
   | skip)
end
variable {I:∀{α:Type},α->α}
section
variable (hI:II @I) (O:List ByteArray) (E:Gx) (hE:EnvI @I O E) (y:Sm) (hn:y.w<=1048576)
include hI hE hn
theorem s_for (k7:y.k=7) (h1:y.x=[]) (c3:XsG @I O E y.x) (cA:BG @I O E y.a):SG @I O E y:=by
 intro bad;have hw:=Sm.w_eq y;have c1:=fun op n=>qA1 hI O E op n y.a (by omega) cA
 have c5:=nH0 hI E hE.ok;have c6:=TB0 hI E hE.ok;have e1:I y.k=(7:Int):=by rw[hI.e];exact k7
 refine qN hI tyK Tryz.func91 173 [.tmp 4] ?_;unhygienic intros
 refine qB 1 ?_
 repeat' first|refine qA 1 ?_|refine qJe (nN [0]) fun x hx=>?_|refine qJ (nN []) ?_|refine qJ (nN [0]) ?_|refine qp ?_ ?_|refine qk (fun h=>?_) fun h=>?_|fail
 all_goals first
  | contradiction
  | exact absurd True.intro ‹_›
  | skip
 all_goals (
  refine hR _ _ ⟨_,⟨fun q=>?_,?_⟩,rfl,?_⟩
  ·rw[Gx.sb_eq,Gx.snodeB,if_neg (by omega),if_neg (by omega),if_pos k7] at q
   simp only[Bool.or_eq_false_iff,decide_eq_false_iff_not] at q;rw[hx.1 q.2.2,Gx.snode,if_neg (by omega),if_neg (by omega),if_pos k7,<-tR1 q.2.1,pt,if_neg q.1]
   simp only[hI.e]
  ·have p1:=hx.2
   simp only[List.length_append,List.length_cons,List.length_nil];omega
  ·rw[Gx.sb_eq,Gx.snodeB,if_neg (by omega),if_neg (by omega),if_pos k7,h1]
   simp only[mkI,hI.e,List.map_nil,List.any_nil,Bool.or_false,Bool.or_assoc,Bool.or_left_comm])
end
variable {I:∀{α:Type},α->α}
theorem Sm.ws_mem {l:List Sm} {z:Sm} (h:z∈l):z.w<=Sm.ws l:=by
 obtain ⟨a,b,rfl⟩:=List.append_of_mem h;rw[Sm.ws_app,Sm.ws];omega
theorem rT1 (hI:II @I) (O:List ByteArray) (E:Gx) (hE:EnvI @I O E):∀(y:Sm) (_:y.Sk O) (_:y.w<=1048576),SG @I O E y:=by
 refine Sm.ind fun y ih hy hn=>?_;obtain ⟨h5,h7,lx,la,lb,hx,hs⟩:=hy;have hw:=Sm.w_eq y;have c3:XsG @I O E y.x:=DM0 hI O E y.x lx (by omega) fun e he=>mR1 hI O E hE e (hx e he).1 (hx e he).2
 have cA:BG @I O E y.a:=nK0 hI O E y.a la (by omega) fun z hz=>ih z (List.mem_append_left _ hz) (hs z (List.mem_append_left _ hz)) (by have:=Sm.ws_mem hz;omega)
 have cB:BG @I O E y.b:=nK0 hI O E y.b lb (by omega) fun z hz=>ih z (List.mem_append_right _ hz) (hs z (List.mem_append_right _ hz)) (by have:=Sm.ws_mem hz;omega)
 by_cases k5:y.k=5
 ·exact s_if hI O E hE y hn k5 (h5 (.inl k5)) c3 cA cB
 by_cases k6:y.k=6
 ·exact tD1 hI O E hE y hn k6 (h5 (.inr k6)) c3 cA
 by_cases k7:y.k=7
 ·exact s_for hI O E hE y hn k7 (h7 k7) c3 cA
 ·exact nE1 hI O E hE y hn k5 k6 k7 c3
theorem wV1 (hI:II @I) (O:List ByteArray) (E:Gx) (hE:EnvI @I O E) (l:List Sm) (hl:l.length<=1048576) (hn:Sm.ws l<=1048576) (hs:∀y∈l,y.Sk O):BG @I O E l:=
 nK0 hI O E l hl hn fun z hz=>rT1 hI O E hE z (hs z hz) (by have:=Sm.ws_mem hz;omega)
variable {I:∀{α:Type},α->α}
theorem Ex.ok.sk:∀(e:Ex),e.ok->e.Sk operS:=by
 refine Ex.ind fun e ih h=>?_;obtain ⟨k,n,s,l⟩:=e;obtain ⟨⟨_,h1⟩,h2⟩:=exok_iff.1 h;have hs:∀x∈l,x.Sk operS:=fun x hx=>ih x hx (h2 x hx);have key:(k=6->l.length=2/\s∈operS)/\(k=1->0<=n/\n<=2147483647)/\(1<=k/\k<=18)/\(k<=3->l.length=0):=by
  rcases h1 with h | h | h | h | h | h | h | h | h | h | h | h | h | h | h | h | h | h<;>(obtain ⟨rfl,h⟩:=h;refine ⟨fun q=>?_,fun q=>?_,by decide,fun q=>?_⟩<;>first|(exact absurd q (by decide))|(simp_all;done))
 exact .mk key.1 key.2.1 key.2.2.1 (fun q=>List.length_eq_zero_iff.1 (key.2.2.2 q)) hs
theorem Sm.ok.sk:∀(y:Sm),y.ok->y.sz<=1048576->y.Sk operS:=by
 refine Sm.ind fun y ih h hz=>?_;obtain ⟨k,s,t,x,a,b⟩:=y;obtain ⟨⟨h0,h1⟩,h2⟩:=smok_iff.1 h;obtain ⟨_,_,hx,hxs,ha,hb,hab⟩:=pZ0 hz;have h1':=h1;obtain ⟨_,_,_,h3⟩:=h1;refine .mk (fun h5=>?_) (fun h7=>?_) hx ha hb (fun e he=>⟨(h0 e he).1.sk,by have:=(h0 e he).2.1;omega⟩) fun z hz'=>ih z hz' (h2 z hz') (hab z hz')
 ·have h5:k=5\/k=6:=h5
  rcases h5 with rfl | rfl<;>(simp at h3;exact h3.2)
 ·have h7:k=7:=h7
  subst h7;have:=(smHere7.1 h1').2.2.2;exact List.length_eq_zero_iff.1 this
mutual
theorem Sm.w_le:∀y:Sm,y.w<=1+y.sz
 | .mk k s t x a b=>by
  have h1:=Ex.partss_le x;have h2:=Sm.ws_le a;have h3:=Sm.ws_le b;rw[Sm.w,Sm.sz];omega
theorem Sm.ws_le:∀l:List Sm,Sm.ws l<=l.length+Sm.szs l
 | []=>by simp[Sm.ws]
 | y::l=>by
  have h1:=Sm.w_le y;have h2:=Sm.ws_le l;rw[Sm.ws,Sm.szs,List.length_cons];omega
end
theorem xU1 {O:List ByteArray} {E:Gx} (hp:∀f∈E.p.fns,f.params.length<=4) (k:Int) (s:ByteArray) (m:Nat):(E.last O k s m).length<=10:=by
 have hc:(E.call s m).length<=10:=by
  rw[Gx.call]
  split
  ·simp
  ·rename_i h
   have h1:=bX0 E.p s;have h2:=hp _ (zB0 (l:=E.p.fns) (i:=(fnIx E.p s).toNat) (by omega))
   rw[List.length_append,List.length_replicate,List.length_singleton];omega
 unfold Gx.last
 by_cases q0:k=4
 ·rw[if_pos q0];simp
 rw[if_neg q0]
 by_cases q1:k=5
 ·rw[if_pos q1];simp
 rw[if_neg q1]
 by_cases q2:k=6
 ·rw[if_pos q2];simp
 rw[if_neg q2]
 by_cases q3:k=7
 ·rw[if_pos q3];simp
 rw[if_neg q3]
 by_cases q4:k=8
 ·rw[if_pos q4];simp
 rw[if_neg q4]
 by_cases q5:k=9
 ·rw[if_pos q5];simp
 rw[if_neg q5]
 by_cases q6:k=10
 ·rw[if_pos q6];simp
 rw[if_neg q6]
 by_cases q7:k=18
 ·rw[if_pos q7];simp
 rw[if_neg q7]
 by_cases q8:k=11
 ·rw[if_pos q8];exact hc
 rw[if_neg q8]
 by_cases q9:k=12
 ·rw[if_pos q9];simp
 rw[if_neg q9]
 by_cases q10:k=13
 ·rw[if_pos q10];simp
 rw[if_neg q10]
 by_cases q11:k=14
 ·rw[if_pos q11];simp
 rw[if_neg q11]
 by_cases q12:k=15
 ·rw[if_pos q12];simp
 rw[if_neg q12]
 by_cases q13:k=16
 ·rw[if_pos q13];simp
 rw[if_neg q13];simp
theorem c_len {O:List ByteArray} {E:Gx} (hp:∀f∈E.p.fns,f.params.length<=4):∀(e:Ex),e.Sk O->(E.c O e).length<=16 * e.parts:=by
 refine Ex.ind fun e ih he=>?_;obtain ⟨h6,_,_,_,hs⟩:=he;rw[Ex.parts_eq];have hfl:∀l:List Ex,(∀x∈l,(E.c O x).length<=16 * x.parts)->(l.map (E.c O)).flatten.length<=16 * Ex.partss l:=by
  intro l
  induction l with
  | nil=>simp[Ex.partss]
  | cons x l ihl=>
   intro h;have h1:=h x List.mem_cons_self;have h2:=ihl fun y hy=>h y (List.mem_cons_of_mem _ hy);rw[List.map_cons,List.flatten_cons,List.length_append,Ex.partss];omega
 have hf:=hfl e.l fun x hx=>ih x hx (hs x hx)
 by_cases hlog:e.k=6/\(e.s=andB\/e.s=orB)
 ·have h2:=(h6 hlog.1).1
  have a1:=ih _ (zB0 (l:=e.l) (i:=0) (by omega)) (hs _ (zB0 (by omega)))
  have a2:=ih _ (zB0 (l:=e.l) (i:=1) (by omega)) (hs _ (zB0 (by omega)))
  rw[fQ0 h2,Gx.c_eq O E e,Gx.node_log hlog.1 hlog.2,xF0 (by omega),xF0 (by omega)]
  have:(if (decide (e.s=orB))=true then [(⟨11,0⟩:Ik)] else []).length<=1:=by split<;>simp
  simp only[bP0,List.length_append,List.length_cons,List.length_nil];omega
 by_cases h1:e.k=1
 ·rw[Gx.c_eq,Gx.node,if_pos h1];simp;omega
 by_cases h2:e.k=2
 ·rw[Gx.c_eq,Gx.node,if_neg h1,if_pos h2];simp;omega
 by_cases h3:e.k=3
 ·rw[Gx.c_eq,Gx.node,if_neg h1,if_neg h2,if_pos h3];simp;omega
 ·rw[Gx.c_eq,Gx.node_else h1 h2 h3 hlog,List.length_append,List.length_map]
  have:=xU1 (O:=O) hp e.k e.s e.l.length;omega
theorem nD1 {O:List ByteArray} {E:Gx} (hp:∀f∈E.p.fns,f.params.length<=4):∀(y:Sm),y.Sk O->(E.sc O y).length<=32 * y.w:=by
 refine Sm.ind fun y ih hy=>?_;obtain ⟨h5,h7,_,_,_,hx,hs⟩:=hy;have hfl:∀l:List Ex,(∀x∈l,x.Sk O)->(l.map (E.c O)).flatten.length<=16 * Ex.partss l:=by
  intro l
  induction l with
  | nil=>simp[Ex.partss]
  | cons x l ihl=>
   intro h;have h1:=c_len hp x (h x List.mem_cons_self);have h2:=ihl fun y hy=>h y (List.mem_cons_of_mem _ hy);rw[List.map_cons,List.flatten_cons,List.length_append,Ex.partss];omega
 have hll:∀l:List Sm,(∀z∈l,(E.sc O z).length<=32 * z.w)->(E.lc O l).length<=32 * Sm.ws l:=by
  intro l
  induction l with
  | nil=>simp[Gx.lc,Sm.ws]
  | cons x l ihl=>
   intro h;have h1:=h x List.mem_cons_self;have h2:=ihl fun y hy=>h y (List.mem_cons_of_mem _ hy);rw[Gx.lc,List.length_append,Sm.ws];omega
 have hX:=hfl y.x fun e he=>(hx e he).1;have hA:=hll y.a fun z hz=>ih z (List.mem_append_left _ hz) (hs z (List.mem_append_left _ hz));have hB:=hll y.b fun z hz=>ih z (List.mem_append_right _ hz) (hs z (List.mem_append_right _ hz));rw[Gx.sc_eq,Sm.w_eq,List.length_cons,Gx.snode]
 split
 ·rename_i h
  have h1:=h5 (.inl h);rw[QZ0 _ h1] at hX;simp only[ifC,List.length_append,List.length_cons,List.length_nil];omega
 split
 ·rename_i h
  have h1:=h5 (.inr h);rw[QZ0 _ h1] at hX;simp only[rW0,List.length_append,List.length_cons,List.length_nil];omega
 split
 ·simp only[rW0,List.length_append,List.length_cons,List.length_nil];omega
 ·have:(E.slast y.k y.s y.x.length).length<=1:=by
   unfold Gx.slast
   repeat' split
   all_goals simp
  rw[List.length_append];omega
theorem uB1 {O:List ByteArray} {E:Gx} (hp:∀f∈E.p.fns,f.params.length<=4):∀(l:List Sm),(∀y∈l,y.Sk O)->(E.lc O l).length<=32 * Sm.ws l
 | [],_=>by simp[Gx.lc,Sm.ws]
 | y::l,h=>by
  have h1:=nD1 hp y (h y List.mem_cons_self);have h2:=uB1 hp l fun z hz=>h z (List.mem_cons_of_mem _ hz);rw[Gx.lc,List.length_append,Sm.ws];omega
variable {I:∀{α:Type},α->α}
theorem DV0 (hI:II @I) (p:Pg) (hz:p.sz<=1048576):ACl Tryz.prog 89 [pA @I p] [] (fun res bx=>∃vs:List ByteArray,(VN0 p vs/\vs.length<=8388608)/\res=⟨.one,[.ro true (I (vs.map strT))]⟩/\bx=[]):=by
 simp only[pA,hI.e];refine acI (ZK0 p hz) ?_;rintro res bx ⟨vs,els,h1,h2,rfl,rfl,rfl⟩;exact ⟨vs,⟨h1,h2⟩,rfl,rfl⟩
theorem RA0 (hI:II @I) (p:Pg) (hz:p.sz<=1048576):ACl Tryz.prog 90 [pA @I p] [] (fun res bx=>∃vs:List ByteArray,(pQ0 p vs/\vs.length<=8388608)/\res=⟨.one,[.ro true (I (vs.map strT))]⟩/\bx=[]):=by
 simp only[pA,hI.e];refine acI (hV0 p hz) ?_;rintro res bx ⟨vs,els,h1,h2,rfl,rfl,rfl⟩;exact ⟨vs,⟨h1,h2⟩,rfl,rfl⟩
theorem KH0 (hI:II @I) (l:List Sm) (hz:l.length+Sm.szs l<=1048576):ACl Tryz.prog 38 [smA @I l] [] (fun res bx=>∃b:Bool,(b=true↔BodyP l)/\res=litB b/\bx=[]):=by
 simp only[smA,hI.e];exact hU0 l _ rfl hz
theorem DT0 (hI:II @I):yC1 @I 120 operS:=by
 refine qN hI tyK Tryz.func120 2 [.tmp 0] ?_;unhygienic intros
 refine qB 0 ?_;exact hR _ _ ⟨by simp only[hI.e];rfl,rfl⟩
theorem qJ1 (hI:II @I) (p:Pg) (hl:p.fns.length<=1048576):FnOk @I 122 p:=by
 intro s;simp only[hI.e];refine acI (DL0 _ _ p.fns rfl s hl) ?_;rintro res bx ⟨r,hr,rfl,rfl⟩;refine ⟨?_,rfl⟩;have:r=fnIx p s:=by
  refine hr.unique ?_;rw[fnIx];rcases XM0 (p.fns.map Fu.name) s with ⟨i,h1,h2,h3⟩ | ⟨h1,h2⟩
  ·rw[List.getElem?_map,Option.map_eq_some_iff] at h2
   obtain ⟨f,hf,hn⟩:=h2;refine .inl ⟨i,f,h1,hf,hn,fun j g hj hg hn=>h3 j hj ?_⟩;rw[List.getElem?_map,hg,<-hn];rfl
  ·exact .inr ⟨h1,fun f hf hn=>h2 (List.mem_map.2 ⟨f,hf,hn⟩)⟩
 rw[this]
structure MkOk (p:Pg) (fn:Int) (E:Gx):Prop where
 e:E=⟨p,fn,E.vs,E.ts,p.pool.1,p.pool.2⟩
 v:VN0 p E.vs/\E.vs.length<=8388608
 t:pQ0 p E.ts/\E.ts.length<=8388608
theorem FV0 (hI:II @I) (p:Pg) (fn:Int) (hg:p.good) (hz:p.sz<=1048576):ACl Tryz.prog 40 [pA @I p,litI fn] [] (fun res bx=>∃E:Gx,MkOk p fn E/\res=⟨.one,[.ptr 1 0]⟩/\bx=[some (pA @I p).cs,mkI @I E (I false)]):=by
 have c1:=KQ0 hI p hg hz;have c2:=DY0 hI p hg hz;have c3:=DV0 hI p hz;have c4:=RA0 hI p hz;refine qN hI tyK Tryz.func40 17 [.tmp 4] ?_;unhygienic intros
 refine qB 0 ?_
 repeat' first|refine qA 0 ?_|refine qJe (nN []) fun x hx=>?_|refine qJ (nN []) ?_|refine qp ?_ ?_|refine qk (fun h=>?_) fun h=>?_|fail
 rename_i vs hvs;refine hR _ _ ⟨⟨p,fn,vs,x,p.pool.1,p.pool.2⟩,⟨rfl,hvs,hx⟩,rfl,by simp[hI.e]⟩
theorem xD1 (p:Pg):po0.1 <+: p.pool.1:=by
 rw[bJ0];exact UN0 (G:=fun _ s=>po0.1 <+: s) (fun e s n h=>by
  unfold stC addV
  repeat' split
  all_goals first | exact h | exact h.trans (List.prefix_append _ _)) (Pa.of p) po0.1 0 (List.prefix_refl _)
theorem HN0 {α:Type} [DecidableEq α] {l m:List α} (h:l <+: m) {a:α} (ha:a∈l):ixOf m a=l.idxOf a:=by
 obtain ⟨t,rfl⟩:=h;rw[ixOf,if_pos (List.mem_append_left _ ha),List.idxOf_append,if_pos ha]
theorem nP1 (hI:II @I) {p:Pg} {fn:Int} {E:Gx} (hE:MkOk p fn E) (hg:p.good) (hz:p.sz<=1048576) (h1:-1<=fn) (h2:fn < p.fns.length):EnvI @I operS E:=by
 obtain ⟨e,hv,ht⟩:=hE;have hs:=hg.sh hz;rw[e];have h0:=xD1 p;have hps:∀f∈p.fns,f.params.length<=4:=fun f hf=>by
  obtain ⟨i,hi⟩:=List.mem_iff_getElem?.1 hf;exact (hg.2.1 i f hi).2.2.1.2
 refine ⟨by decide,⟨h1,h2,hv.2,ht.2,(mT0 hs).1,(mT0 hs).2,?_⟩,hs.lf,hps,qJ1 hI p hs.lf,DT0 hI,⟨?_,?_,?_⟩⟩
 ·rw[Gx.ps]
  split
  ·simp
  ·rename_i h
   have h:¬fn < 0:=h;have:=hps _ (zB0 (l:=p.fns) (i:=fn.toNat) (by omega))
   show (p.fns[fn.toNat]!).params.length<=_
   omega
 ·exact (HN0 h0 (by decide)).trans (by decide)
 ·exact (HN0 h0 (by decide)).trans (by decide)
 ·exact (HN0 h0 (by decide)).trans (by decide)
theorem gA0 (hI:II @I) (p:Pg) (fn:Int) (l:List Sm) (hz:p.sz<=1048576) (hl:l.length+Sm.szs l<=1048576) :
  ACl Tryz.prog 11 [pA @I p,litI fn,smA @I l] [] (fun res bx=>∃c:List Ik,GenIs p fn l c/\res=⟨.one,[.ow (0,0) false 2 (I (c.map Ik.t))]⟩/\bx=[]):=by
 refine NA0 2 ?_;have c1:=zC1 hI p hz;have c2:=KH0 hI l hl;have c3:=vE0;refine qN hI tyK Tryz.func11 37 [.tmp 6] ?_;unhygienic intros
 have e0:bin .sub .i64 (Int.ofNat (I p.fns.length)) 1=(p.fns.length:Int) - 1:=by
  have hp:p.fns.length<=1048576:=by rw[Pg.sz] at hz;omega
  cases hO;rw[hI.e];exact xV0 (x:=(p.fns.length:Int) - 1) (by omega)
 refine qB 0 ?_
 repeat' first|refine qA 0 ?_|refine qJe (nN []) fun x hx=>?_|refine qJ (nN []) ?_|refine qp ?_ ?_|refine qk (fun h=>?_) fun h=>?_|fail
 ·exact hR _ _ ⟨[],⟨fun q=>absurd (CheckIs.unique hx q.1) h,fun _=>rfl⟩,by simp[AV.owC,A.owC,hI.e],rfl⟩
 ·exact hR _ _ ⟨[],⟨fun q=>absurd (hx.2 q.2.1) h,fun _=>rfl⟩,by simp[AV.owC,A.owC,hI.e],rfl⟩
 ·exact hR _ _ ⟨[],⟨fun q=>absurd (hx.2 ⟨q.2.2.1,by rw[e0];omega⟩) h,fun _=>rfl⟩,by simp[AV.owC,A.owC,hI.e],rfl⟩
 rename_i r hr h1 b hb' h2;have h1:r=0:=Classical.not_not.1 h1;subst h1;have hlb:=hb'.1 (Classical.not_not.1 h2);have hfn:=hx.1 (Classical.not_not.1 h);rw[e0] at hfn;have hok:CheckIs p 0/\BodyP l∧-1<=fn/\fn < p.fns.length:=⟨hr,hlb,hfn.1,by omega⟩
 have hg:p.good:=by rcases hr with ⟨_,h⟩ | ⟨h,_⟩ | ⟨h,_⟩ | ⟨h,_⟩ | ⟨h,_⟩<;>first | exact h|(exfalso;omega)
 clear hb' hx h h2 c1 c2 c3;have c4:=FV0 hI p fn hg hz;refine qJe (nN []) fun E hE=>?_;have hV:=nP1 hI hE hg hz hok.2.2.1 hok.2.2.2;have hw:=Sm.ws_le l;have c5:=wV1 hI operS E hV l (by omega) (by omega) (fun y hy=>(hlb.1 y hy).1.sk y (by have:=Sm.szs_mem hy;omega)) (I false)
 have hu:UnOk p ⟨E.vs,E.ts,[],[],false,false,false⟩:=⟨(hE.v.1.1 hg).1,(hE.t.1.1 hg).1,(hE.v.1.1 hg).2,(hE.t.1.1 hg).2,hE.v.2,hE.t.2⟩;have hEg:(Un.g ⟨E.vs,E.ts,[],[],false,false,false⟩ p fn)=E:=hE.e.symm;clear c4
 repeat' first|refine qA 0 ?_|refine qJe (nN [2]) fun x hx=>?_|refine qp ?_ ?_|refine qk (fun h=>?_) fun h=>?_|fail
 ·exact hR _ _ ⟨[],⟨fun _=>⟨_,hu,by rw[hEg,if_pos (by simpa [hI.e] using h)]⟩,fun q=>absurd hok q⟩,by simp[AV.owC,A.owC,hI.e],rfl⟩
 ·have hf:E.lb operS l=false:=by simpa [hI.e] using h
  exact hR _ _ ⟨x,⟨fun _=>⟨_,hu,by rw[hEg,hf,hx.1 hf];rfl⟩,fun q=>absurd hok q⟩,rfl,rfl⟩
end Go.Gv
