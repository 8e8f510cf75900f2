/- Part H3 of the proof: contracts of functions of the program, each walked once. -/
import Derived.Test.YtomgmhbmchidnaaGreatH1
import Derived.Test.YtomgmhbmchidnaaGreatG2
set_option linter.all false
namespace Go.Gv
open Go.Av Go.Proofs
set_option maxRecDepth 10000
set_option maxHeartbeats 8000000
variable {I:∀{α:Type},α->α}
theorem DR0 (hI:II @I) (E:Gx) (e:Ex) (hp:E.p.fns.length<=1048576) (hm:e.l.length<=1048576) (hf:∀f∈E.p.fns,f.params.length<=1048576) (c1:FnOk @I 122 E.p) :
  ACl Tryz.prog 81 [⟨.agg,[.ro true (I (E.p.rules.map Ru.t)),.ro true (I (E.p.fns.map Fu.t))]⟩,eA @I e] [] (fun res bx=>res=litB (I (decide (e.k=11->E.callB e.s e.l.length=false)))/\bx=[]):=by
 have h1:=bX0 E.p e.s;have h0:=bQ0 (E.p.fns.map Fu.name) e.s;rw[<-fnIx] at h0;refine qN hI tyK Tryz.func81 28 [.tmp 4] ?_;unhygienic intros
 refine qB 0 ?_
 repeat' first|refine qA 0 ?_|refine qJ (nN []) ?_|refine qp ?_ ?_|refine qk (fun h=>?_) fun h=>?_|fail
 all_goals (first|(have hk:e.k=11:=Classical.not_not.1 (by assumption)) | skip)
 all_goals (refine hR _ _ ⟨?_,?_⟩<;>(simp[-List.getElem!_eq_getElem?_getD,hI.e,F.d1,F.d2,F.d3,F.d4,F.d5,F.d6,F.d7,F.d8,litI,litS,litB,Gx.callB, *];done))
structure EnvI (I:∀{α:Type},α->α) (O:List ByteArray) (E:Gx):Prop where
 o:O.length<=100
 ok:E.Ok
 np:E.p.fns.length<=1048576
 ps:∀f∈E.p.fns,f.params.length<=4
 fn:FnOk @I 122 E.p
 ops:yC1 @I 120 O
 c0:E.C0
inductive Ex.Sk (O:List ByteArray):Ex->Prop where
 | mk {e:Ex} (h6:e.k=6->e.l.length=2/\e.s∈O) (h1:e.k=1->0<=e.n/\e.n<=2147483647) (hk:1<=e.k/\e.k<=18) (h0:e.k<=3->e.l=[]) (h:∀x∈e.l,x.Sk O):e.Sk O
theorem Ex.parts_eq (e:Ex):e.parts=1+Ex.partss e.l:=by cases e;rfl
theorem Ex.partss_mem {l:List Ex} {x:Ex} (h:x∈l):x.parts<=Ex.partss l:=by
 obtain ⟨a,b,rfl⟩:=List.append_of_mem h;rw[Ex.partss_app,Ex.partss];omega
theorem Ex.partss_len:∀l:List Ex,l.length<=Ex.partss l
 | []=>by simp
 | e::l=>by rw[Ex.partss,List.length_cons,Ex.parts_eq];have:=Ex.partss_len l;omega
variable {I:∀{α:Type},α->α}
theorem CodeOf.last {c d:List Ik} {b b':Bool} {n:Nat} {x y:List Ik} (h:CodeOf c b (16 * n) x) (hy:b'=false->y=d) (hl:y.length<=16):CodeOf (c++d) (b || b') (16 * (1+n)) (x++y):=by
 have:=h.snoc (m:=16) (d:=d) (b':=b') (y:=y) ⟨hy,hl⟩;rwa[show 16 * (1+n)=16 * n+16 by omega]
theorem fQ0 {l:List Ex} (h:l.length=2):Ex.partss l=(l[0]!).parts+(l[1]!).parts:=by
 match l,h with
 | [a,b],_=>simp[Ex.partss]
theorem GL0 {α:Type} [DecidableEq α] {l:List α} {a:α} (h:a∈l):0<=ixOf l a:=by rw[ixOf,if_pos h];omega
theorem PA0 {O:List ByteArray} {E:Gx} {e:Ex} {x y:List Ik} (h4:4<=e.k) (hlog:¬(e.k=6/\(e.s=andB\/e.s=orB))) (hx:CodeOf (e.l.map (E.c O)).flatten ((e.l.map (E.b O)).any id) (16 * Ex.partss e.l) x)
  (hy:E.lastB O e.k e.s e.l.length=false->y=E.last O e.k e.s e.l.length) (hl:y.length<=16):CodeOf (E.c O e) (E.b O e) (16 * e.parts) (x++y):=by
 rw[Ex.parts_eq,Gx.c_eq,Gx.node_else (by omega) (by omega) (by omega) hlog,Gx.b_eq,Gx.nodeB_else (by omega) (by omega) (by omega) hlog,List.length_map,List.length_map]
 exact hx.last hy hl
theorem dG0 {O:List ByteArray} {E:Gx} {e:Ex} (h4:4<=e.k) (hlog:¬(e.k=6/\(e.s=andB\/e.s=orB))):E.b O e=((e.l.map (E.b O)).any id || E.lastB O e.k e.s e.l.length):=by
 rw[Gx.b_eq,Gx.nodeB_else (by omega) (by omega) (by omega) hlog,List.length_map]
theorem FC0 {O:List ByteArray} {E:Gx} {e:Ex} {x y:List Ik} (h:e.l=[]) (hx:CodeOf (e.l.map (E.c O)).flatten ((e.l.map (E.b O)).any id) (16 * Ex.partss e.l) x) (hy:E.nodeB O e.k e.n e.s []=false->y=E.node O e.k e.n e.s []) (hl:y.length<=16):CodeOf (E.c O e) (E.b O e) (16 * e.parts) (x++y):=by
 have h2:=hx.2;rw[h,Ex.partss] at h2;have h3:x=[]:=List.length_eq_zero_iff.1 (by omega)
 rw[Ex.parts_eq,Gx.c_eq,Gx.b_eq,h,h3,List.nil_append];exact ⟨hy,by omega⟩
abbrev XG (I:∀{α:Type},α->α) (O:List ByteArray) (E:Gx) (e:Ex):Prop:=Mx @I E 63 [eA @I e] (E.c O e) (E.b O e) (16 * e.parts)
abbrev XsG (I:∀{α:Type},α->α) (O:List ByteArray) (E:Gx) (l:List Ex):Prop:=Mx @I E 113 [⟨.one,[.ro true (I (l.map Ex.t))]⟩] (l.map (E.c O)).flatten ((l.map (E.b O)).any id) (16 * Ex.partss l)
theorem x_log (hI:II @I) (O:List ByteArray) (E:Gx) (hE:EnvI @I O E) (e:Ex) (h2:e.l.length=2) (hn:Ex.partss e.l<=1000) (ih:∀x∈e.l,XG @I O E x) (hlog:e.k=6/\(e.s=andB\/e.s=orB)):XG @I O E e:=by
 have hpm:=fun x hx=>Ex.partss_mem (l:=e.l) (x:=x) hx;intro bad;have c9:=wU1 hI O E hE.ok hE.c0 e h2 (fun x hx=>by have:=hpm x hx;omega) ih
 refine qN hI tyK Tryz.func63 177 [.tmp 4] ?_;unhygienic intros
 refine qB 1 ?_
 repeat' first|refine qA 1 ?_|refine qJe (nN [0]) fun x hx=>?_|refine qJ (nN []) ?_|refine qJ (nN [0]) ?_|refine qp ?_ ?_|refine qk (fun h=>?_) fun h=>?_|fail
 all_goals first
  | exact absurd hlog.1 ‹_›
  | exact hlog.2.elim (fun q=>absurd q ‹_›) (fun q=>absurd q ‹_›)
  | ((have hp2:e.parts=1+((e.l[0]!).parts+(e.l[1]!).parts):=by rw[Ex.parts_eq,fQ0 h2]);refine hR _ _ ⟨x,⟨fun q=>?_,?_⟩,rfl,?_⟩;(rw[Gx.b_eq O E e,Gx.nodeB_log hlog.1 hlog.2,xF0 (by omega),xF0 (by omega)] at q;rw[hx.1 q,Gx.c_eq O E e,Gx.node_log hlog.1 hlog.2,xF0 (by omega),xF0 (by omega)]);(have:=hx.2;omega);(rw[Gx.b_eq O E e,Gx.nodeB_log hlog.1 hlog.2,xF0 (by omega),xF0 (by omega)]))
theorem x_bin (hI:II @I) (O:List ByteArray) (E:Gx) (hE:EnvI @I O E) (e:Ex) (hm:e.s∈O) (hn:Ex.partss e.l<=1000) (c3:XsG @I O E e.l) (hlog:¬(e.k=6/\(e.s=andB\/e.s=orB))) (k6:e.k=6):XG @I O E e:=by
 intro bad;have c5:=hE.ops;have c6:=fun st s=>rC0 hI st O s (by have:=hE.o;omega)
 have e1:I e.k=(6:Int):=by rw[hI.e];exact k6
 refine qN hI tyK Tryz.func63 177 [.tmp 4] ?_;unhygienic intros
 refine qB 1 ?_
 repeat' first|refine qA 1 ?_|refine qJe (nN [0]) fun x hx=>?_|refine qJ (nN []) ?_|refine qJ (nN [0]) ?_|refine qp ?_ ?_|refine qk (fun h=>?_) fun h=>?_|fail
 all_goals first
  | contradiction
  | exact absurd True.intro ‹_›
  | exact absurd ⟨k6,.inl ‹_›⟩ hlog
  | exact absurd ⟨k6,.inr ‹_›⟩ hlog
  | skip
 have hnn:¬ixOf O e.s < 0:=by have:=GL0 hm;omega
 refine hR _ _ ⟨_,PA0 (by omega) hlog hx (fun q=>?_) (by simp),rfl,?_⟩
 ·simp[Gx.last,pt,k6,hI.e,hnn]
 ·rw[dG0 (by omega) hlog]
  simp[hI.e,Gx.lastB,k6,hnn]
variable {I:∀{α:Type},α->α}
theorem pG1 (hI:II @I) (O:List ByteArray) (E:Gx) (hE:EnvI @I O E) (e:Ex) (hn:Ex.partss e.l<=1000) (c3:XsG @I O E e.l) (k11:e.k=11):XG @I O E e:=by
 intro bad;refine NA0 2 ?_;have hll:=Ex.partss_len e.l;have hlog:¬(e.k=6/\(e.s=andB\/e.s=orB)):=fun q=>by omega
 have c4:=rB0 hI E hE.ok 0 0 ⟨⟨[]⟩⟩;rw[hE.c0.c0] at c4;have c5:=hE.fn;have c6:=DR0 hI E e hE.np (by omega) (fun f hf=>by have:=hE.ps f hf;omega) hE.fn
 have e1:I e.k=(11:Int):=by rw[hI.e];exact k11
 have e2:eA @I e=⟨.agg,[.lit (.int .i64 11),.lit (.int .i64 (I e.n)),.lit (.string (I e.s)),.ro true (I (e.l.map Ex.t))]⟩:=by rw[<-k11,eA,hI.e e.k]
 rw[e2] at c6;have h1:=bX0 E.p e.s;have h0:=bQ0 (E.p.fns.map Fu.name) e.s;rw[<-fnIx] at h0;refine qN hI tyK Tryz.func63 177 [.tmp 4] ?_;unhygienic intros
 refine qB 1 ?_
 repeat' first|refine qA 1 ?_|refine qJe (nN [0]) fun x hx=>?_|refine qJ (nN []) ?_|refine qJ (nN [0]) ?_|refine qp ?_ ?_|refine qk (fun h=>?_) fun h=>?_|fail
 all_goals first
  | contradiction
  | exact absurd True.intro ‹_›
  | skip
 ·have hb:E.callB e.s e.l.length=true:=by
   have h:=h;simp only[decide_eq_true_eq] at h
   by_cases q:E.callB e.s e.l.length=false
   ·exact absurd (fun _=>q) h
   ·simpa using q
  refine hR _ _ ⟨[],⟨fun q=>?_,by simp⟩,?_,?_⟩
  ·rw[dG0 (by omega) hlog,Gx.lastB] at q
   simp[k11,hb] at q
  ·simp[AV.owC,A.owC,hI.e]
  ·rw[dG0 (by omega) hlog,Gx.lastB]
   simp[k11,hb,hI.e]
 have hb:E.callB e.s e.l.length=false:=by
  have h:=Classical.not_not.1 h;simp only[decide_eq_true_eq] at h;exact h k11
 have hc:¬(fnIx E.p e.s < 0\/(E.p.fns[(fnIx E.p e.s).toNat]!).params.length < e.l.length):=of_decide_eq_false hb;have hc1:0<=fnIx E.p e.s:=by omega
 have hp:=hE.ps _ (zB0 (l:=E.p.fns) (i:=(fnIx E.p e.s).toNat) (by omega))
 have hx2:=hx.2;refine qLf 2 [0,5,6,7] (kkS 5 2) (fun i:Nat=>⟨vag 177 [(0,⟨.one,[.ptr 0 0]⟩),(5,⟨.one,[.ow (0,0) false 2 (I ((x++List.replicate i (⟨2,0⟩:Ik)).map Ik.t))]⟩),(6,litI (I (fnIx E.p e.s))),(7,litI (Int.ofNat (I (e.l.length+i))))],[mkI @I E (I (bad || (e.l.map (E.b O)).any id)),some [.lit (.int .i64 11),.lit (.int .i64 (I e.n)),.lit (.string (I e.s)),.ro true (I (e.l.map Ex.t))]],1⟩) (fun i=>e.l.length+i<=(E.p.fns[(fnIx E.p e.s).toNat]!).params.length) (fun i=>(E.p.fns[(fnIx E.p e.s).toNat]!).params.length - i) ?_ fun i hi=>?_
 ·cbv
  exact ⟨0,by simp[hI.e];rfl,by omega⟩
 have hlr:(List.replicate i (⟨2,0⟩:Ik)).length=i:=by simp
 refine qB 1 ?_
 repeat' first|refine qA 1 ?_|refine qJ (nN [0]) ?_|refine qp ?_ ?_|refine qk (fun h=>?_) fun h=>?_|fail
 ·exact ⟨i+1,by (try simp only[A.reset,zD0,hI.e,List.append_assoc,Bool.or_false,zC0,List.replicate_succ']);rfl,by omega,by omega⟩
 ·have ee:(E.p.fns[(fnIx E.p e.s).toNat]!).params.length - e.l.length=i:=by omega
  refine hR _ _ ⟨x++(List.replicate i (⟨2,0⟩:Ik)++[⟨32,fnIx E.p e.s⟩]),PA0 (by omega) hlog hx (fun q=>?_) (by simp;omega),?_,?_⟩
  ·rw[k11,Gx.last]
   simp only[show ¬(11:Int)=4 by decide,show ¬(11:Int)=5 by decide,show ¬(11:Int)=6 by decide,show ¬(11:Int)=7 by decide,show ¬(11:Int)=8 by decide,show ¬(11:Int)=9 by decide,show ¬(11:Int)=10 by decide,show ¬(11:Int)=18 by decide,if_false,if_true]
   rw[Gx.call,if_neg hc,ee]
  ·simp[AV.owC,A.owC,hI.e]
  ·rw[dG0 (by omega) hlog,Gx.lastB]
   simp[k11,hb,hI.e]
variable {I:∀{α:Type},α->α}
theorem x_uno (hI:II @I) (O:List ByteArray) (E:Gx) (hE:EnvI @I O E) (e:Ex) (hn:Ex.partss e.l<=1000) (c3:XsG @I O E e.l) (k12:e.k=5\/e.k=7\/e.k=8\/12<=e.k/\e.k<=17):XG @I O E e:=by
 intro bad;have hlog:¬(e.k=6/\(e.s=andB\/e.s=orB)):=fun q=>by omega
 have c8:ACl Tryz.prog 123 [⟨.one,[.ro false [[.lit (.int .i64 7)],[.lit (.int .i64 8)],[.lit (.int .i64 5)],[.lit (.int .i64 12)],[.lit (.int .i64 13)],[.lit (.int .i64 16)],[.lit (.int .i64 17)],[.lit (.int .i64 14)],[.lit (.int .i64 15)]]]⟩,litI (I e.k)] [] (fun res bx=>res=litI (I (ixOf [7,8,5,12,13,16,17,14,15] e.k))/\bx=[]):=by
  have h:=wX1 hI false [7,8,5,12,13,16,17,14,15] e.k (by decide)
  simp only[hI.e] at h |-;exact h
 have hop:∃op:Int,E.last O e.k e.s e.l.length=[⟨op,0⟩]/\E.lastB O e.k e.s e.l.length=false/\∀(O':Ops),O'=Ops.std->O'.get [[.lit (.int .i64 8)],[.lit (.int .i64 9)],[.lit (.int .i64 22)],[.lit (.int .i64 26)],[.lit (.int .i64 27)],[.lit (.int .i64 28)],[.lit (.int .i64 29)],[.lit (.int .i64 30)],[.lit (.int .i64 31)]] (O'.nadd 0 (O'.nat (I (ixOf [7,8,5,12,13,16,17,14,15] e.k))))=[.lit (.int .i64 op)]:=by
  rw[hI.e];rcases k12 with h | h | h | ⟨h1,h2⟩
  ·exact ⟨22,by simp[Gx.last,h],by simp[Gx.lastB,h],fun O' q=>by subst q;rw[h];rfl⟩
  ·exact ⟨8,by simp[Gx.last,h],by simp[Gx.lastB,h],fun O' q=>by subst q;rw[h];rfl⟩
  ·exact ⟨9,by simp[Gx.last,h],by simp[Gx.lastB,h],fun O' q=>by subst q;rw[h];rfl⟩
  ·have h3:e.k=12\/e.k=13\/e.k=14\/e.k=15\/e.k=16\/e.k=17:=by omega
   rcases h3 with h | h | h | h | h | h
   ·exact ⟨26,by simp[Gx.last,h],by simp[Gx.lastB,h],fun O' q=>by subst q;rw[h];rfl⟩
   ·exact ⟨27,by simp[Gx.last,h],by simp[Gx.lastB,h],fun O' q=>by subst q;rw[h];rfl⟩
   ·exact ⟨30,by simp[Gx.last,h],by simp[Gx.lastB,h],fun O' q=>by subst q;rw[h];rfl⟩
   ·exact ⟨31,by simp[Gx.last,h],by simp[Gx.lastB,h],fun O' q=>by subst q;rw[h];rfl⟩
   ·exact ⟨28,by simp[Gx.last,h],by simp[Gx.lastB,h],fun O' q=>by subst q;rw[h];rfl⟩
   ·exact ⟨29,by simp[Gx.last,h],by simp[Gx.lastB,h],fun O' q=>by subst q;rw[h];rfl⟩
 have hix:0<=ixOf [7,8,5,12,13,16,17,14,15] e.k/\ixOf [7,8,5,12,13,16,17,14,15] e.k < 9:=⟨GL0 (by simp;omega),GM0 _ _⟩
 obtain ⟨op,ho1,ho2,ho3⟩:=hop;refine qN hI tyK Tryz.func63 177 [.tmp 4] ?_;unhygienic intros
 have e1:=ho3 _ hO
 dsimp only at e1
 have n1:idx (I (ixOf [7,8,5,12,13,16,17,14,15] e.k)) (len [[.lit (.int .i64 8)],[.lit (.int .i64 9)],[.lit (.int .i64 22)],[.lit (.int .i64 26)],[.lit (.int .i64 27)],[.lit (.int .i64 28)],[.lit (.int .i64 29)],[.lit (.int .i64 30)],[.lit (.int .i64 31)]]):=by rw[hI.e];cases hO;exact hix
 have n2:idx (Int.ofNat (nadd 0 (nat (I (ixOf [7,8,5,12,13,16,17,14,15] e.k))))) (len [[.lit (.int .i64 8)],[.lit (.int .i64 9)],[.lit (.int .i64 22)],[.lit (.int .i64 26)],[.lit (.int .i64 27)],[.lit (.int .i64 28)],[.lit (.int .i64 29)],[.lit (.int .i64 30)],[.lit (.int .i64 31)]]):=by rw[hI.e];cases hO;show (0:Int)<=_/\_ < _;simp[Ops.std];omega
 refine qB 1 ?_
 repeat' first|refine qA 1 ?_|refine qJe (nN [0]) fun x hx=>?_|refine qJ (nN []) ?_|refine qJ (nN [0]) ?_|refine qp ?_ ?_|refine qk (fun h=>?_) fun h=>?_|fail
 all_goals first
  | contradiction
  | (exfalso;omega)
  | skip
 simp only[hseg]
 repeat' first|refine qA 1 ?_|refine qJ (nN []) ?_|refine qp ?_ ?_|refine qk (fun h=>?_) fun h=>?_|fail
 refine hR _ _ ⟨_,PA0 (by omega) hlog hx (fun q=>by rw[ho1]) (by simp),rfl,?_⟩
 rw[dG0 (by omega) hlog,ho2]
 simp[hI.e]
variable {I:∀{α:Type},α->α}
theorem tR1 {E:Gx} {s:ByteArray} {a b:Int} (h:E.nmB s=false):E.nmI s a b=E.nm s a b:=by
 unfold Gx.nmI Gx.nm
 by_cases h1:0<=ixOf E.ps s
 ·rw[if_pos h1,if_pos h1]
 ·have h2:=of_decide_eq_false h
  have h3:¬ixOf E.vs s < 0:=fun q=>h2 ⟨by omega,q⟩
  rw[if_neg h1,if_neg h1,pt,if_neg h3]
theorem x_low (hI:II @I) (O:List ByteArray) (E:Gx) (hE:EnvI @I O E) (e:Ex) (hn:Ex.partss e.l<=1000) (h1:e.k=1->0<=e.n/\e.n<=2147483647) (h0:e.k<=3->e.l=[]) (c3:XsG @I O E e.l) (hk:e.k=1\/e.k=2\/e.k=3\/e.k=4\/e.k=9\/e.k=10\/e.k=18):XG @I O E e:=by
 intro bad;have hlog:¬(e.k=6/\(e.s=andB\/e.s=orB)):=fun q=>by omega
 have c1:=mY0 hI;have c2:=uK1 hI;have c4:=rB0 hI E hE.ok;have c5:=nH0 hI E hE.ok;have c6:=TB0 hI E hE.ok;have c7:=fun s=>rC0 hI true E.rs s (by have:=hE.ok.rs;omega)
 have c8:=ZC0 hI E;refine qN hI tyK Tryz.func63 177 [.tmp 4] ?_;unhygienic intros
 refine qB 1 ?_
 repeat' first|refine qA 1 ?_|refine qJe (nN [0]) fun x hx=>?_|refine qJ (nN []) ?_|refine qJ (nN [0]) ?_|refine qp ?_ ?_|refine qk (fun h=>?_) fun h=>?_|fail
 all_goals first
  | contradiction
  | (exfalso;omega)
  | skip
 ·refine hR _ _ ⟨_,FC0 (h0 (by omega)) hx (fun q=>?_) (by simp),rfl,?_⟩
  ·simp[Gx.nodeB,h] at q
   simp[Gx.node,pt,h,hI.e,Int.not_lt.2 q]
  ·rw[Gx.b_eq,h0 (by omega)]
   simp[Gx.nodeB,hI.e,h]
 ·refine hR _ _ ⟨_,FC0 (h0 (by omega)) hx (fun q=>?_) (by simp),rfl,?_⟩
  ·simp[Gx.nodeB,h] at q
   simp[Gx.node,pt,h,hI.e,Int.not_lt.2 q]
  ·rw[Gx.b_eq,h0 (by omega)]
   simp[Gx.nodeB,hI.e,h]
 ·refine hR _ _ ⟨_,FC0 (h0 (by omega)) hx (fun q=>?_) (by simp),rfl,?_⟩
  ·simp[Gx.nodeB,h] at q
   simp[Gx.node,h,hI.e,tR1 q]
  ·rw[Gx.b_eq,h0 (by omega)]
   simp[Gx.nodeB,hI.e,h]
 all_goals (
  refine hR _ _ ⟨_,PA0 (by omega) hlog hx (fun q=>?_) (by simp),rfl,?_⟩
  ·simp[Gx.lastB,h] at q
   simp[Gx.last,pt,h,hI.e,Int.not_lt.2 q]
  ·rw[dG0 (by omega) hlog]
   simp[hI.e,Gx.lastB,h,Bool.or_assoc])
variable {I:∀{α:Type},α->α}
theorem mR1 (hI:II @I) (O:List ByteArray) (E:Gx) (hE:EnvI @I O E):∀(e:Ex) (he:e.Sk O) (hn:e.parts<=1000),XG @I O E e:=by
 refine Ex.ind fun e ih he hn=>?_;obtain ⟨h6,h1,hk,h0,hs⟩:=he;rw[Ex.parts_eq] at hn;have hll:=Ex.partss_len e.l;have hpm:=fun x hx=>Ex.partss_mem (l:=e.l) (x:=x) hx;have ih':=fun x hx=>ih x hx (hs x hx) (by have:=hpm x hx;omega)
 have c3:XsG @I O E e.l:=DM0 hI O E e.l (by omega) (by omega) ih'
 by_cases hlog:e.k=6/\(e.s=andB\/e.s=orB)
 ·exact x_log hI O E hE e (h6 hlog.1).1 (by omega) ih' hlog
 by_cases k6:e.k=6
 ·exact x_bin hI O E hE e (h6 k6).2 (by omega) c3 hlog k6
 by_cases k11:e.k=11
 ·exact pG1 hI O E hE e (by omega) c3 k11
 by_cases k12:e.k=5\/e.k=7\/e.k=8\/12<=e.k/\e.k<=17
 ·exact x_uno hI O E hE e (by omega) c3 k12
 ·exact x_low hI O E hE e (by omega) h1 h0 c3 (by omega)
mutual
def Sm.w:Sm->Nat
 | .mk _ _ _ x a b=>1+Ex.partss x+Sm.ws a+Sm.ws b
def Sm.ws:List Sm->Nat
 | []=>0
 | e::l=>Sm.w e+Sm.ws l
end
theorem Sm.ws_app:∀a b,Sm.ws (a++b)=Sm.ws a+Sm.ws b
 | [],b=>by simp[Sm.ws]
 | e::a,b=>by rw[List.cons_append,Sm.ws,Sm.ws,Sm.ws_app a b];omega
theorem Sm.ws_at {l:List Sm} {i:Nat} (h:i < l.length):Sm.ws (l.take (i+1))=Sm.ws (l.take i)+(l[i]!).w:=by rw[yP0 h,Sm.ws_app,Sm.ws,Sm.ws];rfl
theorem Sm.ws_to (l:List Sm) (i:Nat):Sm.ws (l.take i)<=Sm.ws l:=by
 have h1:=congrArg Sm.ws (List.take_append_drop i l);rw[Sm.ws_app] at h1;omega
theorem Sm.w_eq (y:Sm):y.w=1+Ex.partss y.x+Sm.ws y.a+Sm.ws y.b:=by cases y;rw[Sm.w];rfl
abbrev BG (I:∀{α:Type},α->α) (O:List ByteArray) (E:Gx) (l:List Sm):Prop:=Mx @I E 41 [smA @I l] (E.lc O l) (E.lb O l) (32 * Sm.ws l)
abbrev SG (I:∀{α:Type},α->α) (O:List ByteArray) (E:Gx) (y:Sm):Prop:=Mx @I E 91 [sA @I y] (E.snode O y.k y.s y.tt y.x (E.lc O y.a) (E.lc O y.b)) (E.sb O y) (16 * Ex.partss y.x+32 * Sm.ws y.a+32 * Sm.ws y.b+24)
theorem UG0 (h:List Ik):∀y∈h.map Ik.t,∀t∈y,isL t=true:=by simp[Ik.t,isL]
theorem rZ1 (hI:II @I) (O:List ByteArray) (E:Gx) (h:List Ik) (l:List Sm) (hh:h.length<=1073741824) (hl:Sm.ws l<=1048576) (c1:BG @I O E l) :
  Mx @I E 165 [⟨.one,[.ro false (I (h.map Ik.t))]⟩,⟨.one,[.nil]⟩,smA @I l] (rW0 h [] (E.lc O l)) (E.lb O l) (h.length+32 * Sm.ws l+8):=by
 intro bad;refine qN hI tyK Tryz.func165 35 [.tmp 8] ?_;unhygienic intros
 have n1:lits (I (h.map Ik.t)):=by rw[hI.e];cases hO;exact UG0 h
 refine qB 1 ?_
 repeat' first|refine qA 1 ?_|refine qJe (nN [0]) fun x hx=>?_|refine qJ (nN []) ?_|refine qJ (nN [0]) ?_|refine qp ?_ ?_|refine qk (fun h=>?_) fun h=>?_|fail
 refine hR _ _ ⟨_,⟨fun q=>?_,?_⟩,rfl,rfl⟩
 ·rw[hx.1 q]
  simp[rW0,hI.e]
 ·have:=hx.2
  simp;omega
theorem qA1 (hI:II @I) (O:List ByteArray) (E:Gx) (op n:Int) (l:List Sm) (hl:Sm.ws l<=1048576) (c1:BG @I O E l) :
  Mx @I E 165 [⟨.one,[.ro false [[.lit (.int .i64 37),.lit (.int .i64 0)]]]⟩,⟨.one,[.ro false [[.lit (.int .i64 38),.lit (.int .i64 0)],[.lit (.int .i64 (I op)),.lit (.int .i64 (I n))]]]⟩,smA @I l] (rW0 [⟨37,0⟩] [⟨38,0⟩,⟨op,n⟩] (E.lc O l)) (E.lb O l) (32 * Sm.ws l+12):=by
 intro bad;refine qN hI tyK Tryz.func165 35 [.tmp 8] ?_;unhygienic intros
 have n1:lits [[.lit (.int .i64 37),.lit (.int .i64 0)]]:=by cases hO;exact UG0 [⟨37,0⟩]
 have n2:lits [[.lit (.int .i64 38),.lit (.int .i64 0)],[.lit (.int .i64 (I op)),.lit (.int .i64 (I n))]]:=by cases hO;exact UG0 [⟨38,0⟩,⟨I op,I n⟩]
 refine qB 1 ?_
 repeat' first|refine qA 1 ?_|refine qJe (nN [0]) fun x hx=>?_|refine qJ (nN []) ?_|refine qJ (nN [0]) ?_|refine qp ?_ ?_|refine qk (fun h=>?_) fun h=>?_|fail
 refine hR _ _ ⟨_,⟨fun q=>?_,?_⟩,rfl,rfl⟩
 ·rw[hx.1 q]
  simp[rW0,hI.e]
 ·have:=hx.2
  simp;omega
theorem nK0 (hI:II @I) (O:List ByteArray) (E:Gx) (l:List Sm) (hl:l.length<=1048576) (hn:Sm.ws l<=1048576) (ih:∀y∈l,SG @I O E y):BG @I O E l:=by
 intro bad;rw[Gx.lc_map,Gx.lb_map];refine qN hI tyK Tryz.func41 24 [.tmp 4] ?_;unhygienic intros
 refine qB 1 ?_;refine qLf 1 [0,5,8,9,10] (kkS 5 2) (fun a:Nat×List Ik=>⟨vag 24 [(0,⟨.one,[.ptr 0 0]⟩),(5,⟨.one,[.ow (0,0) false 2 (I (a.2.map Ik.t))]⟩),(8,smA @I l),(9,litI (Int.ofNat (I l.length))),(10,litI (Int.ofNat (I a.1)))],[mkI @I E (I (bad || ((l.take a.1).map (E.sb O)).any id))],1⟩) (fun a=>a.1<=l.length/\CodeOf ((l.take a.1).map (E.sc O)).flatten (((l.take a.1).map (E.sb O)).any id) (32 * Sm.ws (l.take a.1)) a.2) (fun a=>l.length - a.1) ?_ fun a ha=>?_
 ·cbv
  exact ⟨(0,[]),by simp[hI.e];rfl,by omega,by simp,by simp⟩
 obtain ⟨i,y⟩:=a;obtain ⟨hi,hy⟩:=ha;simp only at hi hy |-;have c1:=fun hh=>ih _ (zB0 (l:=l) (i:=i) hh);have hb:=fun (hh:i < l.length)=>Sm.ws_at hh;have hw:=fun (hh:i < l.length)=>Sm.w_eq (l[i]!);have hy2:=hy.2;have hp:=Sm.ws_to l i;have hp2:=Sm.ws_to l (i+1);refine qB 1 ?_
 repeat' first|refine qA 1 ?_|refine qJe (nN [0]) fun x hx=>?_|refine qp ?_ ?_|refine qk (fun h=>?_) fun h=>?_|fail
 ·have hb2:=hb h
  have hw2:=hw h;have hs:=hy.snoc (d:=E.sc O l[i]!) (b':=E.sb O l[i]!) (m:=32 * (l[i]!).w) (y:=⟨1,0⟩::x) ⟨fun q=>by rw[hx.1 q,Gx.sc_eq O E],by have:=hx.2;rw[List.length_cons];omega⟩
  exact ⟨(i+1,y++⟨1,0⟩::x),by dsimp only;rw[gB0 (E.sb O) h,<-Bool.or_assoc];(try simp only[A.reset,zD0,hI.e,List.append_assoc,List.cons_append,List.nil_append]);rfl,⟨by simp only;omega,by simp only[XW0 (E.sc O) h,gB0 (E.sb O) h,hb2,Nat.mul_add];exact hs⟩,by simp only;omega⟩
 ·have ht:l.take i=l:=List.take_of_length_le (by omega)
  rw[ht] at hy |-;exact hR _ _ ⟨y,hy,rfl,rfl⟩
end Go.Gv
