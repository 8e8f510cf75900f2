/- Part G1 of the proof: contracts of functions of the program, each walked once. -/
import Derived.Test.YtomgmhbmchidnaaGreatD13
import Derived.Test.YtomgmhbmchidnaaGreatD6
set_option linter.all false
namespace Go.Gv
open Go.Av Go.Proofs
set_option maxRecDepth 10000
set_option maxHeartbeats 8000000
variable {I:∀{α:Type},α->α}
deriving instance DecidableEq for Vl
structure Gx where
 p:Pg
 fn:Int
 vs:List ByteArray
 ts:List ByteArray
 cs:List Vl
 rs:List ByteArray
@[simp,reducible] def mkS (I:∀{α:Type},α->α) (E:Gx) (code:List Ik) (bad:Bool):Option (List A):=some [.ro true (I (E.p.rules.map Ru.t)),.ro true (I (E.p.fns.map Fu.t)),.lit (.int .i64 (I E.fn)),.ptr 1 0,
 .ow (0,0) false 1 (I (E.vs.map strT)),.ow (0,0) false 1 (I (E.ts.map strT)),.lit (.bool true),.ow (0,0) false 2 (I (code.map Ik.t)),.lit (.bool bad)]
@[simp,reducible] def plS (I:∀{α:Type},α->α) (E:Gx):Option (List A):=some [.ow (0,0) false 3 (I (E.cs.map Vl.t)),.ow (0,0) false 1 (I (E.rs.map strT))]
def Gx.ps (E:Gx):List ByteArray:=if E.fn < 0 then [] else E.p.fns[E.fn.toNat]!.params
def pt (op n:Int):Ik:=⟨op,if n < 0 then 0 else n⟩
def Gx.nm (E:Gx) (s:ByteArray) (a b:Int):Ik:=if 0<=ixOf E.ps s then ⟨a,ixOf E.ps s⟩ else pt b (ixOf E.vs s)
def Gx.nmB (E:Gx) (s:ByteArray):Bool:=decide (ixOf E.ps s < 0/\ixOf E.vs s < 0)
abbrev Sp (I:∀{α:Type},α->α) (E:Gx) (f:FuncId) (args:List AV) (c:List Ik) (b:Bool):Prop:=∀(code:List Ik) (bad:Bool),code.length+c.length<=274877906944->
 ACl Tryz.prog f (⟨.one,[.ptr 0 0]⟩::args) [mkS @I E code bad,plS @I E] (fun res bx=>res=⟨.tup [],[]⟩/\bx=[mkS @I E (code++c) (I (bad || b)),plS @I E])
abbrev Sq (I:∀{α:Type},α->α) (E:Gx) (f:FuncId) (args:List AV) (c:List Ik) (b:Bool):Prop:=∀(code:List Ik) (bad:Bool),code.length<=549755813888->
 ACl Tryz.prog f (⟨.one,[.ptr 0 0]⟩::args) [mkS @I E code bad,plS @I E] (fun res bx=>res=⟨.tup [],[]⟩/\bx=[mkS @I E (code++c) (I (bad || b)),plS @I E])
theorem vl_eq {v:Vl} {k n:Int} {s:ByteArray}:v=⟨k,n,s⟩↔v.k=k/\v.n=n/\v.s=s:=by cases v;simp
theorem vF0 (hI:II @I) (E:Gx) (op n:Int):Sq @I E 126 [litI op,litI n] [pt op n] (decide (n < 0)):=by
 intro code bad hl;refine qN hI tyK Tryz.func126 23 [] ?_;unhygienic intros
 refine qB 2 ?_
 repeat' first|refine qA 2 ?_|refine qp ?_ ?_|refine qk (fun h=>?_) fun h=>?_|fail
 all_goals (refine hR _ _ ⟨?_,?_⟩<;>(simp[-List.getElem!_eq_getElem?_getD,hI.e,F.d1,F.d2,F.d3,F.d4,F.d5,F.d6,F.d7,F.d8,litI,litS,litB,pt,h];done))
theorem TL0 (hI:II @I) (E:Gx) (code:List Ik) (bad:Bool) (hf:E.fn < E.p.fns.length) :
  ACl Tryz.prog 191 [⟨.one,[.ptr 0 0]⟩] [mkS @I E code bad,plS @I E] (fun res bx=>res=⟨.one,[.ro true (I (E.ps.map strT))]⟩/\bx=[mkS @I E code bad,plS @I E]):=by
 refine dU0 ?_;refine qN hI tyK Tryz.func191 21 [.tmp 2] ?_;unhygienic intros
 refine qB 2 ?_
 repeat' first|refine qA 2 ?_|refine qp ?_ ?_|refine qk (fun h=>?_) fun h=>?_|fail
 all_goals (refine hR _ _ ⟨?_,?_⟩<;>(simp[-List.getElem!_eq_getElem?_getD,hI.e,F.d1,F.d2,F.d3,F.d4,F.d5,F.d6,F.d7,F.d8,litI,litS,litB,Gx.ps,h,AV.roC,A.roC,erD];done))
theorem qA0 (hI:II @I) (st:Bool) (l:List ByteArray) (s:ByteArray) (hl:l.length<=1099511627776) :
  ACl Tryz.prog 141 [⟨.one,[.ro st (I (l.map strT))]⟩,litS s] [] (fun res bx=>res=litI (I (ixOf l s))/\bx=[]):=by
 refine qN hI tyK Tryz.func141 19 [.tmp 4] ?_;unhygienic intros
 refine qB 0 ?_;refine qLf 0 [0,1,5] kk0 (fun i=>⟨vag 19 [(0,⟨.one,[.ro st (I (l.map strT))]⟩),(1,litS s),(5,litI (Int.ofNat (I i)))],[],1⟩) (fun i=>i<=l.length/\s∉l.take i) (fun i=>l.length - i) ?_ fun i hi=>?_
 ·cbv
  exact ⟨0,by simp only[hI.e];rfl,by simp,by simp⟩
 refine qB 0 ?_
 repeat' first|refine qA 0 ?_|refine qp ?_ ?_|refine qk (fun h=>?_) fun h=>?_|fail
 ·exact hR _ _ ⟨liN hI (qX0 ‹_› h hi.2),rfl⟩
 ·exact ⟨_,rfl,⟨by omega,jL0 ‹_› h hi.2⟩,by omega⟩
 ·exact hR _ _ ⟨liI hI (tB0 (by rw[List.take_of_length_le (by omega)] at hi;exact hi.2)),rfl⟩
theorem DE0 (hI:II @I) (st:Bool) (l:List Vl) (k n:Int) (s:ByteArray) (hl:l.length<=1099511627776) :
  ACl Tryz.prog 127 [⟨.one,[.ro st (I (l.map Vl.t))]⟩,⟨.agg,[.lit (.int .i64 k),.lit (.int .i64 n),.lit (.string s)]⟩] [] (fun res bx=>res=litI (I (ixOf l ⟨k,n,s⟩))/\bx=[]):=by
 refine qN hI tyK Tryz.func127 19 [.tmp 4] ?_;unhygienic intros
 refine qB 0 ?_;refine qLf 1 [0,3,5] kk0 (fun i=>⟨vag 19 [(0,⟨.one,[.ro st (I (l.map Vl.t))]⟩),(3,⟨.one,[.ptr 0 0]⟩),(5,litI (Int.ofNat (I i)))],[some [.lit (.int .i64 k),.lit (.int .i64 n),.lit (.string s)]],1⟩) (fun i=>i<=l.length/\(⟨k,n,s⟩:Vl)∉l.take i) (fun i=>l.length - i) ?_ fun i hi=>?_
 ·cbv
  exact ⟨0,by simp only[hI.e];rfl,by simp,by simp⟩
 refine qB 0 ?_
 repeat' first|refine qA 0 ?_|refine qp ?_ ?_|refine qk (fun h=>?_) fun h=>?_|fail
 ·exact hR _ _ ⟨liN hI (qX0 ‹_› (vl_eq.2 h) hi.2),rfl⟩
 ·exact ⟨_,rfl,⟨by omega,jL0 ‹_› (fun q=>h (vl_eq.1 q)) hi.2⟩,by omega⟩
 ·exact hR _ _ ⟨liI hI (tB0 (by rw[List.take_of_length_le (by omega)] at hi;exact hi.2)),rfl⟩
structure Gx.Ok (E:Gx):Prop where
 lo:-1<=E.fn
 hi:E.fn < E.p.fns.length
 vs:E.vs.length<=8388608
 ts:E.ts.length<=8388608
 cs:E.cs.length<=8388608
 rs:E.rs.length<=8388608
 ps:E.ps.length<=8388608
theorem hP0 (hI:II @I) (E:Gx) (hE:E.Ok) (s:ByteArray) (a b:Int):Sq @I E 130 [litS s,litI a,litI b] [E.nm s a b] (E.nmB s):=by
 intro code bad hl;have c1:=TL0 hI E code bad hE.hi;have c2:=fun s=>qA0 hI true E.ps s (by have:=hE.ps;omega)
 have c3:=fun s=>qA0 hI false E.vs s (by have:=hE.vs;omega)
 have c4:=fun op n=>vF0 hI E op n code bad hl;have h0:=bQ0 E.ps s;refine qN hI tyK Tryz.func130 28 [] ?_;unhygienic intros
 refine qB 2 ?_
 repeat' first|refine qA 2 ?_|refine qJ (nN [0,1]) ?_|refine qJ (nN []) ?_|refine qp ?_ ?_|refine qk (fun h=>?_) fun h=>?_|fail
 ·(refine hR _ _ ⟨?_,?_⟩<;>(simp[-List.getElem!_eq_getElem?_getD,hI.e,F.d1,F.d2,F.d3,F.d4,F.d5,F.d6,F.d7,F.d8,litI,litS,litB,Gx.nm,Gx.nmB,pt,h,Int.not_lt.2 h];done))
 ·(refine hR _ _ ⟨?_,?_⟩<;>(simp[-List.getElem!_eq_getElem?_getD,hI.e,F.d1,F.d2,F.d3,F.d4,F.d5,F.d6,F.d7,F.d8,litI,litS,litB,Gx.nm,Gx.nmB,pt,h,Int.not_le.1 h];done))
variable {I:∀{α:Type},α->α}
theorem andW {O:Ops} (hO:O=Ops.std) {n:Int} (h:0<=n/\n<=2147483647):O.bin .and .i64 n 4294967295=n:=by
 subst hO;obtain ⟨m,rfl⟩:=Int.eq_ofNat_of_zero_le h.1;have hm:m < 4294967296:=by omega
 have e:(BitVec.ofInt 64 (m:Int) &&& BitVec.ofInt 64 4294967295).toNat=m:=by
  rw[BitVec.toNat_and];have h1:(BitVec.ofInt 64 (m:Int)).toNat=m:=by rw[BitVec.ofInt_natCast,BitVec.toNat_ofNat];omega
  have h2:(BitVec.ofInt 64 4294967295).toNat=2 ^ 32 - 1:=by decide
  rw[h1,h2,Nat.and_two_pow_sub_one_eq_mod];omega
 show IntKind.i64.wrap (((BitVec.ofInt 64 (m:Int) &&& BitVec.ofInt 64 4294967295).toNat:Nat):Int)=_
 rw[e,xV0 (by omega)]
theorem mV1 (hI:II @I) (n:Int) (h:0<=n/\n<=2147483647):ACl Tryz.prog 190 [litI n] [] (fun res bx=>res=litI n/\bx=[]):=by
 refine qN hI tyK Tryz.func190 11 [.tmp 2] ?_;unhygienic intros
 have e1:bin .and .i64 n 4294967295=n:=andW hO h;refine qB 0 ?_
 repeat' first|refine qA 0 ?_|refine qp ?_ ?_|refine qk (fun h=>?_) fun h=>?_|fail
 ·omega
 ·exact hR _ _ ⟨rfl,rfl⟩
theorem TK0 (hI:II @I) (n:Int) (h:0<=n/\n<=2147483647):ACl Tryz.prog 128 [litI n] [] (fun res bx=>res=⟨.agg,[.lit (.int .i64 1),.lit (.int .i64 n),.lit (.string ⟨⟨[]⟩⟩)]⟩/\bx=[]):=by
 have c1:=mV1 hI n h;refine qN hI tyK Tryz.func128 6 [.cell 2 169] ?_;unhygienic intros
 refine qB 0 ?_
 repeat' first|refine qA 0 ?_|refine qJ (nN []) ?_|refine qp ?_ ?_|refine qk (fun h=>?_) fun h=>?_|fail
 exact hR _ _ ⟨rfl,rfl⟩
theorem PM0 (hI:II @I) (s:ByteArray):ACl Tryz.prog 129 [litS s] [] (fun res bx=>res=⟨.agg,[.lit (.int .i64 2),.lit (.int .i64 0),.lit (.string s)]⟩/\bx=[]):=by
 refine qN hI tyK Tryz.func129 5 [.cell 2 169] ?_;unhygienic intros
 refine qB 0 ?_;exact hR _ _ ⟨rfl,rfl⟩
def addV (l:List Vl) (v:Vl):List Vl:=if v∈l then l else l++[v]
@[simp,reducible] def plB (I:∀{α:Type},α->α) (cs:List Vl) (rs:List ByteArray):Option (List A):=some [.ow (0,0) false 3 (I (cs.map Vl.t)),.ow (0,0) false 1 (I (rs.map strT))]
theorem ixOf_neg {α:Type} [DecidableEq α] {l:List α} {a:α}:ixOf l a < 0↔a∉l:=by unfold ixOf;split<;>(constructor<;>intro h<;>simp_all<;>omega)
theorem MZ0 (hI:II @I) (cs:List Vl) (rs:List ByteArray) (k n:Int) (s:ByteArray) (hl:cs.length<=274877906944) :
  ACl Tryz.prog 195 [⟨.one,[.ptr 0 0]⟩,⟨.agg,[.lit (.int .i64 k),.lit (.int .i64 n),.lit (.string s)]⟩] [plB @I cs rs] (fun res bx=>res=⟨.tup [],[]⟩/\bx=[plB @I (addV cs ⟨k,n,s⟩) rs]):=by
 have c1:=DE0 hI false cs k n s (by omega)
 refine qN hI tyK Tryz.func195 21 [] ?_;unhygienic intros
 refine qB 1 ?_
 repeat' first|refine qA 1 ?_|refine qJ (nN []) ?_|refine qp ?_ ?_|refine qk (fun h=>?_) fun h=>?_|fail
 ·(refine hR _ _ ⟨?_,?_⟩<;>(simp[-List.getElem!_eq_getElem?_getD,hI.e,F.d1,F.d2,F.d3,F.d4,F.d5,F.d6,F.d7,F.d8,litI,litS,litB,addV,ixOf_neg.1 h];done))
 ·(refine hR _ _ ⟨?_,?_⟩<;>(simp[-List.getElem!_eq_getElem?_getD,hI.e,F.d1,F.d2,F.d3,F.d4,F.d5,F.d6,F.d7,F.d8,litI,litS,litB,addV,Classical.not_not.1 (fun q=>h (ixOf_neg.2 q))];done))
variable {I:∀{α:Type},α->α}
def andB:ByteArray:=⟨⟨[38,38]⟩⟩
def orB:ByteArray:=⟨⟨[124,124]⟩⟩
def fnIx (p:Pg) (s:ByteArray):Int:=ixOf (p.fns.map Fu.name) s
def Gx.call (E:Gx) (s:ByteArray) (m:Nat):List Ik:=if fnIx E.p s < 0\/(E.p.fns[(fnIx E.p s).toNat]!).params.length < m then [] else List.replicate ((E.p.fns[(fnIx E.p s).toNat]!).params.length - m) ⟨2,0⟩++[⟨32,fnIx E.p s⟩]
def Gx.callB (E:Gx) (s:ByteArray) (m:Nat):Bool:=decide (fnIx E.p s < 0\/(E.p.fns[(fnIx E.p s).toNat]!).params.length < m)
def Gx.last (O:List ByteArray) (E:Gx) (k:Int) (s:ByteArray) (m:Nat):List Ik:=
 if k=4 then [pt 18 (ixOf E.ts s)] else if k=5 then [⟨22,0⟩] else if k=6 then [pt 7 (ixOf O s)] else if k=7 then [⟨8,0⟩] else if k=8 then [⟨9,0⟩] else if k=9 then [pt 20 (ixOf E.ts s)]
 else if k=10 then [pt 24 (ixOf E.rs s)] else if k=18 then [pt 25 (ixOf E.rs s)] else if k=11 then E.call s m else if k=12 then [⟨26,0⟩] else if k=13 then [⟨27,0⟩] else if k=14 then [⟨30,0⟩]
 else if k=15 then [⟨31,0⟩] else if k=16 then [⟨28,0⟩] else [⟨29,0⟩]
def Gx.lastB (O:List ByteArray) (E:Gx) (k:Int) (s:ByteArray) (m:Nat):Bool:=
 if k=4\/k=9 then decide (ixOf E.ts s < 0) else if k=6 then decide (ixOf O s < 0) else if k=10\/k=18 then decide (ixOf E.rs s < 0) else if k=11 then E.callB s m else false
def bP0 (o:Bool) (a b:List Ik):List Ik:=[⟨13,1⟩,⟨13,0⟩]++a++[⟨10,0⟩]++(if o then [⟨11,0⟩] else [])++[⟨17,0⟩,⟨2,if o then 2 else 1⟩,⟨16,1⟩,⟨15,0⟩]++b++[⟨10,0⟩,⟨12,0⟩,⟨15,0⟩]
def Gx.node (O:List ByteArray) (E:Gx) (k n:Int) (s:ByteArray) (cs:List (List Ik)):List Ik:=
 if k=1 then [pt 2 (ixOf E.cs ⟨1,n,⟨⟨[]⟩⟩⟩)] else if k=2 then [pt 2 (ixOf E.cs ⟨2,0,s⟩)] else if k=3 then [E.nm s 5 3]
 else if k=6/\(s=andB\/s=orB) then bP0 (decide (s=orB)) cs[0]! cs[1]! else cs.flatten++E.last O k s cs.length
def Gx.nodeB (O:List ByteArray) (E:Gx) (k n:Int) (s:ByteArray) (bs:List Bool):Bool:=
 if k=1 then decide (ixOf E.cs ⟨1,n,⟨⟨[]⟩⟩⟩ < 0) else if k=2 then decide (ixOf E.cs ⟨2,0,s⟩ < 0) else if k=3 then E.nmB s
 else if k=6/\(s=andB\/s=orB) then bs[0]! || bs[1]! else bs.any id || E.lastB O k s bs.length
mutual
def Gx.c (O:List ByteArray) (E:Gx):Ex->List Ik
 | .mk k n s l=>E.node O k n s (E.cl O l)
def Gx.cl (O:List ByteArray) (E:Gx):List Ex->List (List Ik)
 | []=>[]
 | e::l=>E.c O e::E.cl O l
end
mutual
def Gx.b (O:List ByteArray) (E:Gx):Ex->Bool
 | .mk k n s l=>E.nodeB O k n s (E.bl O l)
def Gx.bl (O:List ByteArray) (E:Gx):List Ex->List Bool
 | []=>[]
 | e::l=>E.b O e::E.bl O l
end
theorem Gx.cl_map (O:List ByteArray) (E:Gx):∀l,E.cl O l=l.map (E.c O)
 | []=>rfl
 | e::l=>by rw[Gx.cl,Gx.cl_map O E l];rfl
theorem Gx.bl_map (O:List ByteArray) (E:Gx):∀l,E.bl O l=l.map (E.b O)
 | []=>rfl
 | e::l=>by rw[Gx.bl,Gx.bl_map O E l];rfl
theorem Gx.c_eq (O:List ByteArray) (E:Gx) (e:Ex):E.c O e=E.node O e.k e.n e.s (e.l.map (E.c O)):=by cases e;rw[Gx.c,Gx.cl_map];rfl
theorem Gx.b_eq (O:List ByteArray) (E:Gx) (e:Ex):E.b O e=E.nodeB O e.k e.n e.s (e.l.map (E.b O)):=by cases e;rw[Gx.b,Gx.bl_map];rfl
theorem xF0 {α β:Type} [Inhabited α] [Inhabited β] {f:α->β} {l:List α} {i:Nat} (h:i < l.length):(l.map f)[i]! = f l[i]!:=by simp[h]
theorem MY0 (hI:II @I) (O:List ByteArray) (E:Gx) (e:Ex) (h2:e.l.length=2) (ih:∀x∈e.l,Sp @I E 66 [eA @I x] (E.c O x) (E.b O x)) :
  Sp @I E 131 [eA @I e] (bP0 (decide (e.s=orB)) (E.c O e.l[0]!) (E.c O e.l[1]!)) (E.b O e.l[0]! || E.b O e.l[1]!):=by
 intro code bad hl;have c1:=vF0 hI E;have c2:=ih _ (zB0 (i:=0) (by omega))
 have c3:=ih _ (zB0 (i:=1) (by omega))
 simp only[bP0,List.length_append,List.length_cons,List.length_nil] at hl;refine qN hI tyK Tryz.func131 43 [] ?_;unhygienic intros
 refine qB 2 ?_
 repeat' first|refine qA 2 ?_|refine qJ (nN [0,1]) ?_|refine qp ?_ ?_|refine qk (fun h=>?_) fun h=>?_|fail
 ·(refine hR _ _ ⟨?_,?_⟩<;>(simp[-List.getElem!_eq_getElem?_getD,hI.e,F.d1,F.d2,F.d3,F.d4,F.d5,F.d6,F.d7,F.d8,litI,litS,litB,bP0,orB,pt,h,Bool.or_assoc];done))
 ·(refine hR _ _ ⟨?_,?_⟩<;>(simp[-List.getElem!_eq_getElem?_getD,hI.e,F.d1,F.d2,F.d3,F.d4,F.d5,F.d6,F.d7,F.d8,litI,litS,litB,bP0,orB,pt,h,Bool.or_assoc];done))
variable {I:∀{α:Type},α->α}
abbrev FnOk (I:∀{α:Type},α->α) (f:FuncId) (p:Pg):Prop:=∀s,ACl Tryz.prog f [⟨.agg,[.ro true (I (p.rules.map Ru.t)),.ro true (I (p.fns.map Fu.t))]⟩,litS s] [] (fun res bx=>res=litI (I (fnIx p s))/\bx=[])
theorem bX0 (p:Pg) (s:ByteArray):fnIx p s < p.fns.length:=by have:=GM0 (p.fns.map Fu.name) s;rwa[List.length_map] at this
theorem TM0 (hI:II @I) (E:Gx) (e:Ex) (hE:∀f∈E.p.fns,f.params.length<=1048576) (hm:e.l.length<=1048576) (c1:FnOk @I 60 E.p):Sp @I E 192 [eA @I e] (E.call e.s e.l.length) (E.callB e.s e.l.length):=by
 intro code bad hl;have c2:=vF0 hI E;have h1:=bX0 E.p e.s;have h0:=bQ0 (E.p.fns.map Fu.name) e.s;rw[<-fnIx] at h0;rw[Gx.call,Gx.callB];rw[Gx.call] at hl;refine qN hI tyK Tryz.func192 56 [] ?_;unhygienic intros
 refine qB 2 ?_
 repeat' first|refine qA 2 ?_|refine qJ (nN []) ?_|refine qJ (nN [0,1]) ?_|refine qp ?_ ?_|refine qk (fun h=>?_) fun h=>?_|fail
 ·(refine hR _ _ ⟨?_,?_⟩<;>(simp[-List.getElem!_eq_getElem?_getD,hI.e,F.d1,F.d2,F.d3,F.d4,F.d5,F.d6,F.d7,F.d8,litI,litS,litB,h];done))
 ·have hc:fnIx E.p e.s < 0\/(E.p.fns[(fnIx E.p e.s).toNat]!).params.length < e.l.length:=Or.inr h
  (refine hR _ _ ⟨?_,?_⟩<;>(simp[-List.getElem!_eq_getElem?_getD,hI.e,F.d1,F.d2,F.d3,F.d4,F.d5,F.d6,F.d7,F.d8,litI,litS,litB,h];done))
 have hge:=Nat.le_of_not_lt h;have hc:¬(fnIx E.p e.s < 0\/(E.p.fns[(fnIx E.p e.s).toNat]!).params.length < e.l.length):=fun q=>q.elim ‹_› h;have hp:=hE _ (zB0 (l:=E.p.fns) (i:=(fnIx E.p e.s).toNat) (by omega))
 rw[if_neg hc,List.length_append,List.length_replicate] at hl;refine qLf 3 [0,3,4,5] kk0 (fun i=>⟨vag 56 [(0,⟨.one,[.ptr 0 0]⟩),(3,⟨.one,[.ptr 2 0]⟩),(4,litI (I (fnIx E.p e.s))),(5,litI (Int.ofNat (I (e.l.length+i))))],[mkS @I E (code++List.replicate i ⟨2,0⟩) (I bad),plS @I E,some (eA @I e).cs],1⟩) (fun i=>e.l.length+i<=(E.p.fns[(fnIx E.p e.s).toNat]!).params.length) (fun i=>(E.p.fns[(fnIx E.p e.s).toNat]!).params.length - i) ?_ fun i hi=>?_
 ·cbv
  exact ⟨0,by simp[hI.e];rfl,by omega⟩
 refine qB 2 ?_
 repeat' first|refine qA 2 ?_|refine qJ (nN [0,1]) ?_|refine qp ?_ ?_|refine qk (fun h=>?_) fun h=>?_|fail
 ·exact ⟨i+1,by (try simp only[A.reset,zD0,hI.e,List.append_assoc,Bool.or_false,zC0,List.replicate_succ']);rfl,by omega,by omega⟩
 ·have ee:(E.p.fns[(fnIx E.p e.s).toNat]!).params.length - e.l.length=i:=by omega
  have h2:¬fnIx E.p e.s < 0:=‹_›;refine hR _ _ ⟨rfl,?_⟩;rw[if_neg hc,decide_eq_false hc,ee];simp[hI.e,pt,h2]
end Go.Gv
