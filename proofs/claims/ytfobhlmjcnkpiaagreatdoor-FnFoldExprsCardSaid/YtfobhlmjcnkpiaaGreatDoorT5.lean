/- Part T5 of the proof: contracts of functions of the program, each walked once. -/
import Derived.Test.YtfobhlmjcnkpiaaGreatDoorT4
import Derived.Test.YtfobhlmjcnkpiaaGreatDoorQ1
import Derived.Test.YtfobhlmjcnkpiaaGreatDoorR1
set_option linter.all false
namespace Go.Gv
open Go.Av Go.Proofs
set_option maxRecDepth 10000
set_option maxHeartbeats 8000000
variable {I:∀{α:Type},α->α}
def kkN (b:Nat):Root->Nat->Option Nat:=fun r x=>match r with | .box b'=>if b'=b then if x=3 then some 1004 else if x=4 then some 1006 else if x=5 then some 1006 else none else none | _=>none
theorem Ex.t_er (e:Ex):erC e.t=e.t:=by cases e;rw[Ex.t_mk];simp only[erC,T.er]
theorem Ex.er_map:∀l:List Ex,erE (l.map Ex.t)=l.map Ex.t
 | []=>rfl
 | e::l=>by rw[List.map_cons,erE,Ex.t_er,Ex.er_map l]
theorem Sm.t_er (e:Sm):erC e.t=e.t:=by cases e;rw[Sm.t_mk];simp only[erC,T.er]
theorem Sm.er_map:∀l:List Sm,erE (l.map Sm.t)=l.map Sm.t
 | []=>rfl
 | e::l=>by rw[List.map_cons,erE,Sm.t_er,Sm.er_map l]
theorem Sm.sz_eq (e:Sm):e.sz=e.s.size+e.tt.size+(e.x.length+Ex.szs e.x)+(e.a.length+Sm.szs e.a)+(e.b.length+Sm.szs e.b):=by cases e;simp only[Sm.sz];rfl
theorem rT1 (hI:II @I):Dr @I 54 [] (fun y:Sm=>y.sz<=96000) (fun y=>sA @I y):=by
 intro b u hb hu;refine wZ0 ?_;have c1:=PB0 hI 2 (by decide)
 have e0:I (Int.ofNat 2)=(2:Int):=by rw[hI.e];rfl
 have c2:=uQ0 hI;have c3:=yL0 hI;have c4:=tT0 hI;have c5:=TB0 hI;have c6:=FY0 hI 0 (by decide) false
 have e1:I (Int.ofNat 0)=(0:Int):=by rw[hI.e];rfl
 dsimp only [P9,Dr] at c1 c2 c3 c4 c5 c6
 rw[e0,show stB 2=91242 from rfl] at c1
 rw[e1,show stB 0=2300 from rfl] at c6
 refine qN hI tyK Tryz.func54 60 [.cell 2 74] ?_;unhygienic intros
 refine qB 1 ?_
 repeat' first|refine qA 1 ?_|refine qJe (nN [0]) fun x hx=>?_|refine qJe (nN [0]) fun x hx=>?_|refine qp ?_ ?_|refine qk (fun h=>?_) fun h=>?_<;>try(exfalso;omega)|fail
 ·rename Sm×Cu=>y;rename y.1.sz<=91242/\_=>hy;have hzy:=Sm.sz_eq y.1
  exact hR _ _ ⟨(.mk x.1 y.1.s y.1.tt y.1.x y.1.a y.1.b,x.2),⟨by simp only[Sm.sz];omega,hx.2⟩,by simp only[AV.roC,A.roC,List.map,erD,sA,hI.e]<;>rfl,rfl⟩
 ·rename Sm×Cu=>y;rename y.1.sz<=91242/\_=>hy;have hzy:=Sm.sz_eq y.1
  exact hR _ _ ⟨(.mk y.1.k x.1 y.1.tt y.1.x y.1.a y.1.b,x.2),⟨by simp only[Sm.sz];omega,hx.2⟩,by simp only[AV.roC,A.roC,List.map,erD,sA,hI.e]<;>rfl,rfl⟩
 ·rename Sm×Cu=>y;rename y.1.sz<=91242/\_=>hy;have hzy:=Sm.sz_eq y.1
  exact hR _ _ ⟨(.mk y.1.k y.1.s x.1 y.1.x y.1.a y.1.b,x.2),⟨by simp only[Sm.sz];omega,hx.2⟩,by simp only[AV.roC,A.roC,List.map,erD,sA,hI.e]<;>rfl,rfl⟩
 ·rename Sm×Cu=>y;rename y.1.sz<=91242/\_=>hy;have hzy:=Sm.sz_eq y.1
  have hl:y.1.x.length<=91242:=by omega
  refine qA 1 ?_
  repeat' first|refine qA 1 ?_|refine qJ (nN []) ?_|refine qp ?_ ?_|refine qk (fun h=>?_) fun h=>?_<;>try(exfalso;omega)|fail
  exact hR _ _ ⟨(.mk y.1.k y.1.s y.1.tt (y.1.x++[x.1]) y.1.a y.1.b,x.2),⟨by simp only[Sm.sz,List.length_append,List.length_singleton];rw[szs_app];simp only[Ex.szs];omega,hx.2⟩,by simp only[AV.roC,A.roC,List.map,erD,sA,hI.e]<;>rfl,rfl⟩
 ·rename_i y hy z hz q1 q2 q3 q4;have hzy:=Sm.sz_eq y.1
  have hl:y.1.a.length<=91242:=by omega
  refine qA 1 ?_
  repeat' first|refine qA 1 ?_|refine qJ (nN []) ?_|refine qp ?_ ?_|refine qk (fun h=>?_) fun h=>?_<;>try(exfalso;omega)|fail
  exact hR _ _ ⟨(.mk y.1.k y.1.s y.1.tt y.1.x (y.1.a++[x.1]) y.1.b,x.2),⟨by simp only[Sm.sz,List.length_append,List.length_singleton];rw[qN0];simp only[Sm.szs];omega,hx.2⟩,by simp only[AV.roC,A.roC,List.map,erD,sA,hI.e]<;>rfl,rfl⟩
 ·rename Sm×Cu=>y;rename y.1.sz<=91242/\_=>hy;have hzy:=Sm.sz_eq y.1
  clear c1 c2 c3 c4 c5 c6;have c1:=pG0 hI;obtain ⟨m,hm⟩:=Int.eq_ofNat_of_zero_le hx.1.1;have hm3:=hx.1.2 (by decide)
  rw[hm] at hm3;refine qLf 3 [0,2,3,4] (kkN 2) (fun a:(Sm×List (List T)×List (List T)×List (List T))×Nat×Cu=>⟨vag 60 [(0,⟨.one,[.ptr 0 0]⟩),(2,⟨.one,[.ptr 1 0]⟩),(3,⟨.one,[.ptr 2 0]⟩),(4,litI (Int.ofNat (I a.2.1)))],[cuB @I b a.2.2,some [.lit (.int .i64 0),.lit (.string ⟨⟨[]⟩⟩),.lit (.string ⟨⟨[]⟩⟩),.nil,.nil,.nil],some [.lit (.int .i64 (I a.1.1.k)),.lit (.string (I a.1.1.s)),.lit (.string (I a.1.1.tt)),.ow (0,0) true 4 (I a.1.2.1),.ow (0,0) true 6 (I a.1.2.2.1),.ow (0,0) true 6 (I a.1.2.2.2)]],1⟩) (fun a=>(erE a.1.2.1=a.1.1.x.map Ex.t/\erE a.1.2.2.1=a.1.1.a.map Sm.t/\erE a.1.2.2.2=a.1.1.b.map Sm.t)/\a.1.1.sz+2 * a.2.1<=95000/\a.2.2.i<=b.length) (fun a=>a.2.1) ?_ fun a ha=>?_
  ·have hb0:y.1.sz+2 * m<=95000:=by have:=hy.1;omega
   cbv
   exact ⟨((y.1,y.1.x.map Ex.t,y.1.a.map Sm.t,y.1.b.map Sm.t),m,x.2),by simp only[hI.e,hm];rfl,⟨Ex.er_map y.1.x,Sm.er_map y.1.a,Sm.er_map y.1.b⟩,hb0,hx.2⟩
  obtain ⟨⟨q,xe,ae,be⟩,i,v⟩:=a;obtain ⟨⟨r1,r2,r3⟩,hz,hv⟩:=ha;simp only at r1 r2 r3 hz hv |-;cases i with
  | zero=>
   have e1:I 0=(0:Nat):=by rw[hI.e]
   refine qB 1 ?_
   (repeat' first|refine qA 1 ?_|refine qJ (nN []) ?_|refine qp ?_ ?_|refine qk (fun h=>?_) fun h=>?_<;>try(exfalso;omega)|fail)
   exact hR _ _ ⟨(q,v),⟨by show q.sz<=96000;omega,hv⟩,by simp only[AV.roC,A.roC,List.map,erD,sA,hI.e,r1,r2,r3]<;>rfl,rfl⟩
  | succ i=>
   have e1:bin .sub .i64 (Int.ofNat (I (i+1))) 1=Int.ofNat (I i):=by simp only[hI.e];cases hO;exact sub_one i (by omega)
   refine qB 1 ?_
   (repeat' first|refine qA 1 ?_|refine qJ (nS []) ?_|refine qJ (nN []) ?_|refine qp ?_ ?_|refine qk (fun h=>?_) fun h=>?_<;>try(exfalso;omega)|fail)
   all_goals exact ⟨((.mk 6 ⟨⟨[]⟩⟩ ⟨⟨[]⟩⟩ [.mk 1 0 ⟨⟨[]⟩⟩ []] [q] [],_,_,_),i,v),by simp only[hI.e,A.reset];rfl,⟨⟨by simp only[erE,erC,T.er,List.map,Sm.x,Ex.t_mk],by simp only[erE,erC,T.er,r1,r2,r3,List.map,Sm.a];cases q;simp only[Sm.t_mk,Sm.k,Sm.s,Sm.tt,Sm.x,Sm.a,Sm.b],by simp only[erE,List.map,Sm.b]⟩,by simp only[Sm.sz,Sm.szs,Ex.szs,Ex.sz,List.length_singleton,List.length_nil];have:(⟨⟨[]⟩⟩:ByteArray).size=0:=rfl;omega,hv⟩,Nat.lt_succ_self i⟩
 ·rename Sm×Cu=>y;rename y.1.sz<=91242/\_=>hy
  exact hR _ _ ⟨(y.1,x.2),⟨by show y.1.sz<=96000;omega,hx.2⟩,by simp only[AV.roC,A.roC,List.map,erD,sA,hI.e]<;>rfl,rfl⟩
variable {I:∀{α:Type},α->α}
abbrev NnS (I:∀{α:Type},α->α) (l:List Sm):Prop:=ACl Tryz.prog 92 [smI @I l] [] (fun res bx=>res=⟨.one,[.ow (0,0) false 6 (I ((Sm.nns l).map Sm.t))]⟩/\bx=[])
theorem hW0 (hI:II @I):ACl Tryz.prog 92 [⟨.one,[.nil]⟩] [] (fun res bx=>res=⟨.one,[.ow (0,0) false 6 (I (([]:List Sm).map Sm.t))]⟩/\bx=[]):=by
 refine qN hI tyK Tryz.func92 36 [.tmp 2] ?_;unhygienic intros
 refine qB 0 ?_
 repeat' first|refine qA 0 ?_|refine qJ (nN []) ?_|refine qp ?_ ?_|refine qk (fun h=>?_) fun h=>?_|fail
 refine qLf 0 [0,2,3,4] (kkS 3 6) (fun _:Unit=>⟨vag 36 [(0,⟨.one,[.nil]⟩),(2,⟨.one,[.nil]⟩),(3,⟨.one,[.ow (0,0) false 6 (I (([]:List Sm).map Sm.t))]⟩),(4,litI 0)],[],1⟩) (fun _=>True) (fun _=>0) ?_ fun _ _=>?_
 ·cbv
  exact ⟨(),by simp only[hI.e];rfl,trivial⟩
 repeat' first|refine qA 0 ?_|refine qJ (nN []) ?_|refine qp ?_ ?_|refine qk (fun h=>?_) fun h=>?_|fail
 ·exact absurd h (by decide)
 ·exact hR _ _ ⟨rfl,rfl⟩
theorem rP0 (hI:II @I) (l:List Sm) (hl:l.length<=1048576) (ih1:∀y∈l,NnS @I y.a) (ih2:∀y∈l,NnS @I y.b):NnS @I l:=by
 have c4:=hW0 hI;have c3:=pG0 hI;refine qN hI tyK Tryz.func92 36 [.tmp 2] ?_;unhygienic intros
 refine qB 0 ?_
 repeat' first|refine qA 0 ?_|refine qJ (nN []) ?_|refine qp ?_ ?_|refine qk (fun h=>?_) fun h=>?_|fail
 refine qLf 0 [0,2,3,4] (kkS 3 6) (fun i:Nat=>⟨vag 36 [(0,smI @I l),(2,⟨.one,[.nil]⟩),(3,⟨.one,[.ow (0,0) false 6 (I ((Sm.nns (l.take i)).map Sm.t))]⟩),(4,litI (Int.ofNat (I i)))],[],1⟩) (fun i=>i<=l.length) (fun i=>l.length - i) ?_ fun i hi=>?_
 ·cbv
  exact ⟨0,by simp only[hI.e];rfl,by omega⟩
 by_cases hh:i < l.length
 ·have c1:=ih1 _ (zD0 hh)
  have c2:=ih2 _ (zD0 hh);have hlt:(Sm.nns (l.take i)).length<=1048576:=by rw[Sm.nns_len,List.length_take];omega
  have hnn:Sm.nns (l.take (i+1))=Sm.nns (l.take i)++[l[i]!.nn]:=by rw[zZ0 hh,Sm.nns_app,Sm.nns_one]
  generalize hr:l[i]! = y at *;have e2:=hr
  by_cases hk:y.k=8
  ·have e1:app (I ((Sm.nns (l.take i)).map Sm.t)) [[.lit (.int .i64 1),.lit (.string ⟨⟨[]⟩⟩),.lit (.string ⟨⟨[]⟩⟩),.sl [[.lit (.int .i64 1),.lit (.int .i64 1),.lit (.string ⟨⟨[]⟩⟩),.sl []]],.sl (I (([]:List Sm).map Sm.t)),.sl (I (([]:List Sm).map Sm.t))]]=I ((Sm.nns (l.take (i+1))).map Sm.t):=by
    rw[hnn];simp only[hI.e];cases hO;cases y;simp only[Sm.k] at hk;rw[List.map_append,Sm.nn,if_pos hk];simp only[List.map,Sm.t_mk,Ex.t_mk]
   refine qB 0 ?_
   (repeat' first|refine qA 0 ?_|refine qJ (nN []) ?_|refine qJ (nS []) ?_|refine qp ?_ ?_|refine qk (fun h=>?_) fun h=>?_|fail)
   all_goals first | exact absurd hk (by assumption) | exact absurd (by assumption) hk | exact absurd hh (by assumption) | exact ⟨i+1,by (try simp only[A.reset,hI.e]);rfl,by omega,by omega⟩
  ·have e1:app (I ((Sm.nns (l.take i)).map Sm.t)) [[.lit (.int .i64 (I y.k)),.lit (.string (I y.s)),.lit (.string (I y.tt)),.sl (I (y.x.map Ex.t)),.sl (I ((Sm.nns y.a).map Sm.t)),.sl (I ((Sm.nns y.b).map Sm.t))]]=I ((Sm.nns (l.take (i+1))).map Sm.t):=by
    rw[hnn];simp only[hI.e];cases hO;cases y;simp only[Sm.k] at hk;rw[List.map_append,Sm.nn,if_neg hk];simp only[List.map,Sm.t_mk,Sm.k,Sm.s,Sm.tt,Sm.x,Sm.a,Sm.b]
   refine qB 0 ?_
   (repeat' first|refine qA 0 ?_|refine qJ (nN []) ?_|refine qJ (nS []) ?_|refine qp ?_ ?_|refine qk (fun h=>?_) fun h=>?_|fail)
   all_goals first | exact absurd hk (by assumption) | exact absurd (by assumption) hk | exact absurd hh (by assumption) | exact ⟨i+1,by (try simp only[A.reset,hI.e]);rfl,by omega,by omega⟩
 ·refine qB 0 ?_
  repeat' first|refine qA 0 ?_|refine qJ (nN []) ?_|refine qp ?_ ?_|refine qk (fun h=>?_) fun h=>?_|fail
  all_goals first | exact absurd (by assumption) hh | skip
  have e:l.take i=l:=List.take_of_length_le (by omega)
  exact hR _ _ ⟨by rw[e],rfl⟩
theorem TH0 (hI:II @I):∀l:List Sm,l.length<=1048576->(∀y∈l,y.Bd)->NnS @I l:=by
 have key:∀e:Sm,e.Bd->NnS @I e.a/\NnS @I e.b:=by
  refine Sm.ind fun e ih h=>?_;obtain ⟨_,h2,h3⟩:=h.inv;have up:∀l:List Sm,(∀y∈l,y∈e.a++e.b)->l.length<=1048576->(∀y∈l,y.Bd)->NnS @I l:=fun l hm hl hb=>
   rP0 hI l hl (fun y hy=>(ih y (hm y hy) (hb y hy)).1) (fun y hy=>(ih y (hm y hy) (hb y hy)).2)
  exact ⟨up e.a (fun y hy=>List.mem_append_left _ hy) h2.1 h2.2,up e.b (fun y hy=>List.mem_append_right _ hy) h3.1 h3.2⟩
 exact fun l hl hb=>rP0 hI l hl (fun y hy=>(key y (hb y hy)).1) (fun y hy=>(key y (hb y hy)).2)
variable {I:∀{α:Type},α->α}
def Ru.w (r:Ru):List T:=[.lit (.int .i64 r.k),.lit (.int .i64 r.p.k),.lit (.int .i64 r.p.n),.lit (.string r.p.s),.sl (r.p.l.map Ex.t),.own (r.a.map Sm.t)]
def A.dp:A->A
 | .ow g _ k els=>.ow g true k els
 | c=>c
def AV.dp (av:AV):AV:=⟨av.sh,av.cs.map A.dp⟩
theorem RepA.dp {E:Env} {c:A} {u:Value} {own:List Nat} (h:RepA E c u own):RepA E (A.dp c) u own:=by
 cases c<;>try exact h
 rename_i g d k els;cases d
 ·exact RepO.deep (show RepO E.S E.w false k els u own from h)
 ·exact h
theorem RpA.dp {E:Env}:∀{cs:List A} {us:List Value} {own:List Nat},RpA E cs us own->RpA E (cs.map A.dp) us own
 | [],us,own,h=>h
 | c::cs,us,own,h=>by
  obtain ⟨u,us',o1,o2,rfl,rfl,h3,h4⟩:=h;exact ⟨u,us',o1,o2,rfl,rfl,RepA.dp h3,RpA.dp h4⟩
theorem uB1 {P:Program} {f:FuncId} {args:List AV} {bx:List (Option (List A))} {R:AV->List (Option (List A))->Prop} (h:ACl P f args bx (fun res bx=>R (AV.dp res) bx)):ACl P f args bx R:=by
 intro w vals S L bl O1 O2 h1 h2 h3 h4 h5 h6;refine (h w vals S L bl O1 O2 h1 h2 h3 h4 h5 h6).mono ?_;rintro e w' ⟨v,rfl,res,bx',S',bl',o1,o2,hR,hv,hr⟩;refine ⟨v,rfl,AV.dp res,bx',S',bl',o1,o2,hR,?_,hr⟩;obtain ⟨sh,cs⟩:=res;cases sh with
 | any=>
  have hc:cs=[]:=hv.1;subst hc;exact hv
 | one=>exact ⟨hv.1,RpA.dp hv.2⟩
 | agg=>exact ⟨hv.1,RpA.dp hv.2⟩
 | tup ns=>exact ⟨hv.1,RpA.dp hv.2⟩
theorem mL0 (hI:II @I) (l:List Sm) (hl:l.length<=3) (hz:Sm.szs l<=1000000):ACl Tryz.prog 92 [smI @I l] [] (fun res bx=>res=⟨.one,[.ow (0,0) true 6 (I ((Sm.nns l).map Sm.t))]⟩/\bx=[]):=
 uB1 <| acI (TH0 hI l (by omega) fun y hy=>Sm.bd_of y (by have:=Sm.szs_mem hy;omega)) fun _ _ ⟨h1,h2⟩=>⟨by rw[h1];rfl,h2⟩
theorem FW0 (hI:II @I) (d:Nat) (h:d<=8) (fn:Bool):Dr @I 91 [litI (I (Int.ofNat d)),litB fn] (fun l:List Sm=>1<=l.length/\l.length<=3/\Sm.szs l<=l.length * stB d/\Sm.szs (Sm.nns l)<=l.length * stB d) (fun l=>⟨.one,[.ow (0,0) true 6 (I (l.map Sm.t))]⟩):=fun b u hb hu=>
 uB1 <| acI (PA0 hI d h fn b u hb hu) fun _ _ ⟨x,h1,h2,h3⟩=>⟨x,h1,by rw[h2];rfl,h3⟩
theorem WU0 (hI:II @I):Dr @I 53 [] (fun p:List Ru×List Fu=>(1<=p.1.length/\p.1.length<=3/\Ru.szs p.1<=p.1.length * 275000/\∀r∈p.1,r.a≠[])/\p.2.length=2/\Fu.szs p.2<=90200) (fun p=>⟨.agg,[.ow (0,0) true 6 (I (p.1.map Ru.w)),.ow (0,0) false 3 (I (p.2.map Fu.t))]⟩):=by
 intro b u hb hu;have c1:=PA0 hI 1 (by decide)
 have c2:=FW0 hI 2 (by decide)
 have c3:=yL0 hI;have c4:=qC0 hI;have c5:=pH0 hI 2 (by decide)
 have c6:=mL0 hI;have e1:I (Int.ofNat 1)=(1:Int):=by rw[hI.e];rfl
 have e2:I (Int.ofNat 2)=(2:Int):=by rw[hI.e];rfl
 dsimp only [L9s,Dr] at c1 c2 c3 c4 c5
 rw[e1,show stB 1=15006 from rfl] at c1
 rw[show stB 2=91242 from rfl,e2] at c2
 rw[e2,show szB 2=1100 from rfl] at c5
 clear e1 e2;refine qN hI tyK Tryz.func53 50 [.cell 2 32] ?_;unhygienic intros
 have hadd:∀m:Nat,m<=100->bin .add .i64 1 (I (Int.ofNat m))=Int.ofNat (I (m+1)):=by
  intro m hm;simp only[hI.e];cases hO;simp only[Ops.std,yW0];rw[zW0 (by simp only[Int.ofNat_eq_natCast];omega)];simp only[Int.ofNat_eq_natCast];omega
 refine qB 1 ?_
 repeat' first|refine qA 1 ?_|refine qJe (nN [0]) fun x hx=>?_|refine qp ?_ ?_|refine qk (fun h=>?_) fun h=>?_<;>try(exfalso;omega)|fail
 rename_i l1 hl1 l2 hl2;obtain ⟨m,hm⟩:=Int.eq_ofNat_of_zero_le hx.1.1;have hm3:=hx.1.2 (by decide)
 rw[hm] at hm3;obtain ⟨fns,hfns⟩:∃fns:List Fu,fns=[⟨⟨#[102]⟩,[⟨#[97]⟩,⟨#[98]⟩],l1.1⟩,⟨⟨#[103]⟩,[⟨#[120]⟩],l2.1⟩]:=⟨_,rfl⟩;have hfl:fns.length=2/\Fu.szs fns<=90200:=by
  subst hfns;have h1:=hl1.1;have h2:=hl2.1;refine ⟨by simp,?_⟩
  simp only[Fu.szs,List.map,List.sum_cons,List.sum_nil,Fu.sz,mV0,List.length_cons,List.length_nil];have e1:(⟨#[102]⟩:ByteArray).size=1:=rfl;have e2:(⟨#[97]⟩:ByteArray).size=1:=rfl;have e3:(⟨#[98]⟩:ByteArray).size=1:=rfl;have e4:(⟨#[103]⟩:ByteArray).size=1:=rfl;have e5:(⟨#[120]⟩:ByteArray).size=1:=rfl;omega
 refine qLf 3 [0,2,3,4] (kkB 2 0 1006) (fun a:Nat×List Ru×Cu=>⟨vag 50 [(0,⟨.one,[.ptr 0 0]⟩),(2,⟨.one,[.ptr 1 0]⟩),(3,⟨.one,[.ptr 2 0]⟩),(4,litI (Int.ofNat (I a.1)))],[cuB @I b a.2.2,some [.nil,.nil],some [.ow (0,0) true 6 (I (a.2.1.map Ru.w)),.ow (0,0) false 3 (I (fns.map Fu.t))]],1⟩) (fun a=>(1<=a.1+a.2.1.length/\a.1+a.2.1.length<=3)/\(Ru.szs a.2.1<=a.2.1.length * 275000/\∀r∈a.2.1,r.a≠[])/\a.2.2.i<=b.length) (fun a=>a.1) ?_ fun a ha=>?_
 ·have ea:bin .add .i64 1 (I x.1)=Int.ofNat (I (m+1)):=by rw[hm];exact hadd m (by omega)
  have hm4:m+1<=3:=by omega
  cbv
  exact ⟨(m+1,[],x.2),by rw[ea,hfns];simp only[hI.e];rfl,⟨Nat.le_add_left 1 m,hm4⟩,⟨by simp[Ru.szs],by simp⟩,hx.2⟩
 obtain ⟨i,l,v⟩:=a;obtain ⟨hn,⟨hz,hne⟩,hv⟩:=ha;simp only at hn hz hne hv |-;clear c1 hx hm hm3 hl1 hl2 hfns;cases i with
 | zero=>
  have e1:I 0=(0:Nat):=by rw[hI.e]
  refine qB 1 ?_
  repeat' first|refine qA 1 ?_|refine qJ (nN []) ?_|refine qp ?_ ?_|refine qk (fun h=>?_) fun h=>?_<;>try(exfalso;omega)|fail
  exact hR _ _ ⟨((l,fns),v),⟨⟨⟨by simp only;omega,by simp only;omega,hz,hne⟩,hfl⟩,hv⟩,rfl,rfl⟩
 | succ i=>
  have e1:bin .sub .i64 (Int.ofNat (I (i+1))) 1=Int.ofNat (I i):=by simp only[hI.e];cases hO;exact sub_one i (by omega)
  have e2:∀l:List Sm,er (I (l.map Sm.t))=I (l.map Sm.t):=fun l=>by simp only[hI.e];cases hO;exact Sm.er_map l
  have c7:∀l:List Sm,l.length<=3->Sm.szs l<=1000000->ACl Tryz.prog 92 [⟨.one,[.ro true (er (I (l.map Sm.t)))]⟩] [] (fun res bx=>res=⟨.one,[.ow (0,0) true 6 (I ((Sm.nns l).map Sm.t))]⟩/\bx=[]):=fun l h1 h2=>by rw[e2 l];exact mL0 hI l h1 h2
  generalize hL:l.length=L at *;refine qB 1 ?_
  repeat' first|refine qA 1 ?_|refine qJe (nN [0]) fun x hx=>?_|refine qJ (nS []) ?_|refine qp ?_ ?_|refine qk (fun h=>?_) fun h=>?_<;>try(exfalso;omega)|fail
  ·rename_i k hk _ p hp
   have hsz:(⟨k.1,p.1,x.1⟩:Ru).sz<=275000:=by simp only[Ru.sz,Ex.sz,Ex.szs,List.length_nil,Sm.nns_len];have:=hx.1;have:(⟨⟨[]⟩⟩:ByteArray).size=0:=rfl;have:=hp.1;omega
   exact ⟨(i,l++[⟨k.1,p.1,x.1⟩],x.2),by simp only[hI.e,A.reset,List.map_append,List.map_singleton,Ru.w];cases hO;rfl,⟨by simp only[List.length_append,List.length_singleton];omega,⟨by simp only[Ru.szs,List.map_append,List.map_singleton,List.sum_append,List.sum_singleton,List.length_append,List.length_singleton,hL,Nat.add_mul] at hz |-;omega,fun r hr=>(List.mem_append.1 hr).elim (hne r) fun q=>by rw[List.mem_singleton.1 q];intro q2;have:=hx.1;have q3:=congrArg List.length q2;simp only[Sm.nns_len,List.length_nil] at q3;omega⟩,hx.2⟩,Nat.lt_succ_self i⟩
  ·rename_i k hk _
   have hsz:(⟨k.1,.mk 0 0 ⟨⟨[]⟩⟩ [],Sm.nns x.1⟩:Ru).sz<=275000:=by simp only[Ru.sz,Ex.sz,Ex.szs,List.length_nil,Sm.nns_len];have:=hx.1;have:(⟨⟨[]⟩⟩:ByteArray).size=0:=rfl;omega
   exact ⟨(i,l++[⟨k.1,.mk 0 0 ⟨⟨[]⟩⟩ [],Sm.nns x.1⟩],x.2),by simp only[hI.e,A.reset,List.map_append,List.map_singleton,Ru.w];cases hO;rfl,⟨by simp only[List.length_append,List.length_singleton];omega,⟨by simp only[Ru.szs,List.map_append,List.map_singleton,List.sum_append,List.sum_singleton,List.length_append,List.length_singleton,hL,Nat.add_mul] at hz |-;omega,fun r hr=>(List.mem_append.1 hr).elim (hne r) fun q=>by rw[List.mem_singleton.1 q];intro q2;have:=hx.1;have q3:=congrArg List.length q2;simp only[Sm.nns_len,List.length_nil] at q3;omega⟩,hx.2⟩,Nat.lt_succ_self i⟩
  ·rename_i k hk _
   have hsz:(⟨k.1,.mk 0 0 ⟨⟨[]⟩⟩ [],x.1⟩:Ru).sz<=275000:=by simp only[Ru.sz,Ex.sz,Ex.szs,List.length_nil,Sm.nns_len];have:=hx.1;have:(⟨⟨[]⟩⟩:ByteArray).size=0:=rfl;omega
   exact ⟨(i,l++[⟨k.1,.mk 0 0 ⟨⟨[]⟩⟩ [],x.1⟩],x.2),by simp only[hI.e,A.reset,List.map_append,List.map_singleton,Ru.w];cases hO;rfl,⟨by simp only[List.length_append,List.length_singleton];omega,⟨by simp only[Ru.szs,List.map_append,List.map_singleton,List.sum_append,List.sum_singleton,List.length_append,List.length_singleton,hL,Nat.add_mul] at hz |-;omega,fun r hr=>(List.mem_append.1 hr).elim (hne r) fun q=>by rw[List.mem_singleton.1 q];intro q2;have:=hx.1;have q3:=congrArg List.length q2;simp only[Sm.nns_len,List.length_nil] at q3;omega⟩,hx.2⟩,Nat.lt_succ_self i⟩
end Go.Gv
