/- Part T8 of the proof: contracts of functions of the program, each walked once. -/
import Derived.Test.YtfobhlmjcnkpiaaGreatDoorT2
import Derived.Test.YtfobhlmjcnkpiaaGreatDoorV7
import Derived.Test.YtfobhlmjcnkpiaaGreatDoorT7
import Derived.Test.YtfobhlmjcnkpiaaGreatDoorW1
import Derived.Test.YtfobhlmjcnkpiaaGreatDoorQ6
import Derived.Test.YtfobhlmjcnkpiaaGreatDoorQ7
import Derived.Test.YtfobhlmjcnkpiaaGreatDoorN3
import Derived.Test.YtfobhlmjcnkpiaaGreatDoorD9
import Derived.Test.YtfobhlmjcnkpiaaGreatDoorR1
import Derived.WalkKit
import Derived.ProofKit
import Derived.OpenShut
import Derived.ShutString
import Derived.ChangeOld
import Derived.Below
set_option linter.all false
namespace Go.Gv
open Go.Av Go.Proofs
set_option maxRecDepth 10000
set_option maxHeartbeats 8000000
variable {I:∀{α:Type},α->α}
theorem TF0 (hI:II @I) (b:List Int) (hb:b.length<=1048576):ACl Tryz.prog 17 [⟨.one,[.ro true (I (b.map byT))]⟩] [] (fun res bx=>∃u:Cu,u.i=0/\res=⟨.one,[.ptr 0 0]⟩/\bx=[cuB @I b u]):=by
 refine qN hI tyK Tryz.func17 32 [.tmp 2] ?_;unhygienic intros
 refine qB 0 ?_
 repeat' first|refine qA 0 ?_|refine qp ?_ ?_|refine qk (fun h=>?_) fun h=>?_|fail
 refine qLf 0 [0,3,4] kk0 (fun a:Nat×Int=>⟨vag 32 [(0,⟨.one,[.ro true (I (b.map byT))]⟩),(3,litI (I a.2)),(4,litI (Int.ofNat (I a.1)))],[],1⟩) (fun a=>a.1<=b.length) (fun a=>b.length - a.1) ?_ fun a ha=>?_
 ·cbv
  exact ⟨(0,_),by simp only[hI.e];rfl,Nat.zero_le _⟩
 obtain ⟨i,h0⟩:=a;simp only at ha |-;refine qB 0 ?_
 repeat' first|refine qA 0 ?_|refine qp ?_ ?_|refine qk (fun h=>?_) fun h=>?_|fail
 ·exact ⟨(i+1,_),by simp only[hI.e,A.reset];rfl,by simp only;omega,by simp only;omega⟩
 all_goals exact hR _ _ ⟨⟨0,h0⟩,rfl,rfl,by simp only[cuB,hI.e];rfl⟩
theorem MN0 (hI:II @I):ACl Tryz.prog 95 [] [] (fun res bx=>∃l:List ByteArray,(l.length=7/\∀s∈l,s.size<=1048576)/\res=⟨.one,[.ro true (I (l.map strT))]⟩/\bx=[]):=by
 refine wZ0 (b:=fun _=>[]) ?_;refine qN hI tyK Tryz.func95 2 [.tmp 0] ?_;unhygienic intros
 refine qB 0 ?_
 repeat' first|refine qA 0 ?_|refine qp ?_ ?_|refine qk (fun h=>?_) fun h=>?_|fail
 refine hR _ _ ⟨[_,_,_,_,_,_,_],⟨rfl,?_⟩,by simp only[AV.roC,A.roC,List.map,erD,hI.e];rfl,rfl⟩
 intro s hs;simp only[List.mem_cons,List.not_mem_nil,or_false] at hs;rcases hs with rfl | rfl | rfl | rfl | rfl | rfl | rfl<;>exact Nat.le_of_ble_eq_true rfl
theorem FB0 (hI:II @I) (k:Int) (x:Ex):eA @I (.mk k 0 ⟨⟨[]⟩⟩ [x])=⟨.agg,[.lit (.int .i64 k),.lit (.int .i64 0),.lit (.string ⟨⟨[]⟩⟩),.ro true [[.lit (.int .i64 (I x.k)),.lit (.int .i64 (I x.n)),.lit (.string (I x.s)),.sl (I (x.l.map Ex.t))]]]⟩:=by
 cases x;simp only[eA,hI.e,Ex.k,Ex.n,Ex.s,Ex.l,List.map,Ex.t_mk]
theorem xJ1 (hI:II @I) (s:ByteArray) (x y:Ex):eA @I (.mk 6 0 s [x,y])=⟨.agg,[.lit (.int .i64 6),.lit (.int .i64 0),.lit (.string (I s)),.ro true [[.lit (.int .i64 (I x.k)),.lit (.int .i64 (I x.n)),.lit (.string (I x.s)),.sl (I (x.l.map Ex.t))],[.lit (.int .i64 (I y.k)),.lit (.int .i64 (I y.n)),.lit (.string (I y.s)),.sl (I (y.l.map Ex.t))]]]⟩:=by
 cases x;cases y;simp only[eA,hI.e,Ex.k,Ex.n,Ex.s,Ex.l,List.map,Ex.t_mk]
def fxB:Nat->Nat
 | 0=>10
 | n+1=>1200+2 * fxB n
theorem hV0 (hI:II @I):∀d:Nat,d<=8->Dr @I 20 [litI (I (Int.ofNat d))] (fun e:Ex=>e.sz<=fxB d) (fun e=>eA @I e):=by
 intro d
 induction d with
 | zero=>
  intro _ b u hb hu;refine wZ0 ?_;have c1:=qC0 hI;have c2:=pG0 hI
  dsimp only [Dr] at c1
  have e1:I (Int.ofNat 0)=(0:Int):=by rw[hI.e];rfl
  rw[e1];refine qN hI tyK Tryz.func20 50 [.cell 4 26] ?_;unhygienic intros
  refine qB 1 ?_
  repeat' first|refine qA 1 ?_|refine qJe (nN [0]) fun x hx=>?_|refine qJ (nN []) ?_|refine qp ?_ ?_|refine qk (fun h=>?_) fun h=>?_<;>try(exfalso;omega)|fail
  ·exact hR _ _ ⟨(.mk 1 x.1 ⟨⟨[]⟩⟩ [],x.2),⟨by simp only[Ex.sz,Ex.szs,List.length_nil,fxB];have:(⟨⟨[]⟩⟩:ByteArray).size=0:=rfl;omega,hx.2⟩,by simp only[AV.roC,A.roC,List.map,eA,hI.e];rfl,rfl⟩
  ·exact absurd trivial h
 | succ d ih=>
  intro hd b u hb hu;refine wZ0 ?_;have c1:=ih (by omega)
  have c2:=yL0 hI;have c3:=qB0 hI;have c4:=pH0 hI 2 (by decide)
  have c5:=OpsI hI UZ0;have c6:=PJ0 hI;have hop:okT (I (operS.map strT))=true:=by rw[hI.e];decide
  have e3:I (Int.ofNat 2)=(2:Int):=by rw[hI.e];rfl
  dsimp only [Dr] at c1 c2 c4 c6
  rw[e3,show szB 2=1100 from rfl] at c4
  have e2:I (Int.ofNat (d+1))=Int.ofNat (I (d+1)):=by rw[hI.e,hI.e]
  rw[e2];clear e2 e3;refine qN hI tyK Tryz.func20 50 [.cell 4 26] ?_;unhygienic intros
  have e1:bin .sub .i64 (Int.ofNat (I (d+1))) 1=I (Int.ofNat d):=by simp only[hI.e];cases hO;exact sub_one d (by omega)
  refine qB 1 ?_
  repeat' first|refine qA 1 ?_|refine qJe (nN [0]) fun x hx=>?_|refine qJ (nS []) ?_|refine qJ (nN []) ?_|refine qp ?_ ?_|refine qk (fun h=>?_) fun h=>?_<;>try(exfalso;omega)|fail
  ·exact hR _ _ ⟨(.mk 7 0 ⟨⟨[]⟩⟩ [x.1],x.2),⟨by simp only[Ex.sz,Ex.szs,List.length_singleton,fxB];have:(⟨⟨[]⟩⟩:ByteArray).size=0:=rfl;have:=hx.1;omega,hx.2⟩,by simp only[FB0 hI];rfl,rfl⟩
  ·exact hR _ _ ⟨(.mk 12 0 ⟨⟨[]⟩⟩ [x.1],x.2),⟨by simp only[Ex.sz,Ex.szs,List.length_singleton,fxB];have:(⟨⟨[]⟩⟩:ByteArray).size=0:=rfl;have:=hx.1;omega,hx.2⟩,by simp only[FB0 hI];rfl,rfl⟩
  ·exact hR _ _ ⟨(x.1,x.2),⟨by simp only[fxB];have:=hx.1;omega,hx.2⟩,rfl,rfl⟩
  all_goals (rename_i y hy z hz;exact hR _ _ ⟨(.mk 6 0 x.1 [y.1,z.1],x.2),⟨by simp only[Ex.sz,Ex.szs,List.length_cons,List.length_nil,fxB];have:=hx.1;have:=hy.1;have:=hz.1;omega,hx.2⟩,by simp only[xJ1 hI];rfl,rfl⟩)
variable {I:∀{α:Type},α->α}
theorem Ru.er_map (l:List Ru):erE (l.map Ru.t)=l.map Ru.t:=by
 induction l with
 | nil=>rfl
 | cons r l ih=>rw[List.map_cons,erE,ih,Ru.tI (I:=@id) rfl];rfl
theorem Ru.er_mapW (l:List Ru):erE (l.map Ru.w)=l.map Ru.t:=by
 induction l with
 | nil=>rfl
 | cons r l ih=>rw[List.map_cons,List.map_cons,erE,ih,Ru.tI (I:=@id) rfl];simp only[Ru.w,erC,T.er,Sm.er_map,id]
theorem DE0 (hI:II @I) (cO:∀p:Pg,p.sz<=1048576->ACl Tryz.prog 37 [pA @I p] [] (fun res bx=>∃b:Bool,(b=true↔p.good)/\res=litB b/\bx=[])):Dr @I 55 [] (fun x:Pg×List (List T)=>x.1.sz<=1020000/\erE x.2=x.1.rules.map Ru.t/\(∀e∈x.2,e.length=6)/\x.2.length<=420000) (fun x=>⟨.agg,[.ow (0,0) true 6 (I x.2),.ow (0,0) false 3 (I (x.1.fns.map Fu.t))]⟩):=by
 intro b u hb hu;have c1:=uQ0 hI;have c2:=yL0 hI;have c3:=MN0 hI;have c4:=fun (l:List ByteArray) (i:Nat) (h:l.length=7/\∀s∈l,s.size<=1048576) (hi:i < 7)=>YX0 hI (l[i]!) (h.2 _ (zD0 (by omega))) cO
 have c5:=WU0 hI
 dsimp only [Dr] at c1 c2 c5
 refine qN hI tyK Tryz.func55 19 [.cell 2 32] ?_;unhygienic intros
 refine qB 1 ?_
 repeat' first|refine qA 1 ?_|refine qJe (nN [0]) fun x hx=>?_|refine qJe (nN []) fun x hx=>?_|refine qp ?_ ?_|refine qk (fun h=>?_) fun h=>?_|fail
 ·rename_i t ht k hk
  refine hR _ _ ⟨((x.1,x.1.rules.map Ru.t),k.2),⟨⟨by simp only;omega,Ru.er_map _,?_,?_⟩,hk.2⟩,rfl,rfl⟩
  ·intro e he;obtain ⟨r,_,rfl⟩:=List.mem_map.1 he;exact Ru.t_len r
  ·simp only[List.length_map];have:=hx;simp only[Pg.sz] at this;omega
 ·obtain ⟨⟨rules,fns⟩,cu⟩:=x
  obtain ⟨⟨⟨q1,q2,q3,q4⟩,q5,q6⟩,q7⟩:=hx;simp only at q1 q2 q3 q4 q5 q6 q7 |-;refine hR _ _ ⟨((⟨rules,fns⟩,rules.map Ru.w),cu),⟨⟨by simp only[Pg.sz];omega,Ru.er_mapW _,?_,?_⟩,q7⟩,rfl,rfl⟩
  ·intro e he;obtain ⟨r,_,rfl⟩:=List.mem_map.1 he;rfl
  ·simp only[List.length_map];omega
theorem QW0:∀(l:List (List T)) (x:List T),erE (l++[x])=erE l++[erC x]
 | [],x=>rfl
 | a::l,x=>by rw[List.cons_append,erE,QW0 l x];rfl
theorem tY1 {els:List (List T)} {rules:List Ru} (h:erE els=rules.map Ru.t) (e f:Ex):erE (els++[[.lit (.int .i64 2),.lit (.int .i64 0),.lit (.int .i64 0),.lit (.string ⟨⟨[]⟩⟩),.sl [],.sl [[.lit (.int .i64 1),.lit (.string ⟨⟨[]⟩⟩),.lit (.string ⟨⟨[]⟩⟩),.sl [[.lit (.int .i64 e.k),.lit (.int .i64 e.n),.lit (.string e.s),.sl (e.l.map Ex.t)],[.lit (.int .i64 f.k),.lit (.int .i64 f.n),.lit (.string f.s),.sl (f.l.map Ex.t)]],.sl [],.sl []]]]]) =
  (rules++[(⟨2,.mk 0 0 ⟨⟨[]⟩⟩ [],[.mk 1 ⟨⟨[]⟩⟩ ⟨⟨[]⟩⟩ [e,f] [] []]⟩:Ru)]).map Ru.t:=by
 rw[QW0,h,List.map_append,List.map_singleton]
 congr 1
 have h1:=Ex.tI (I:=@id) rfl e;have h2:=Ex.tI (I:=@id) rfl f;simp only[id] at h1 h2;rw[<-h1,<-h2];simp only[Ru.tI (I:=@id) rfl,id,erC,T.er]
 show _=_
 simp only[Ex.k,Ex.n,Ex.s,Ex.l,List.map,Sm.tI (I:=@id) rfl,id,Sm.k,Sm.s,Sm.tt,Sm.x,Sm.a,Sm.b]
theorem DD0 (hI:II @I) (cO:∀p:Pg,p.sz<=1048576->ACl Tryz.prog 37 [pA @I p] [] (fun res bx=>∃b:Bool,(b=true↔p.good)/\res=litB b/\bx=[])):Dr @I 24 [] (fun p:Pg=>p.sz<=1040000) (fun p=>pA @I p):=by
 intro b u hb hu;refine wZ0 ?_;have c1:=DE0 hI cO;have c2:=hV0 hI 3 (by decide)
 have c3:=hV0 hI 2 (by decide)
 have e3:I (Int.ofNat 3)=(3:Int):=by rw[hI.e];rfl
 have e2:I (Int.ofNat 2)=(2:Int):=by rw[hI.e];rfl
 rw[e3,show fxB 3=8480 from rfl] at c2
 rw[e2,show fxB 2=3640 from rfl] at c3
 clear e2 e3
 dsimp only [Dr] at c1 c2 c3
 refine qN hI tyK Tryz.func24 24 [.cell 2 32] ?_;unhygienic intros
 have hao:∀(els:List (List T)) (z:List T),els.length<=420000->aOk 88 (I els) [z]:=by
  intro els z h;simp only[hI.e];cases hO;simp[Ops.std];omega
 refine qB 1 ?_
 repeat' first|refine qA 1 ?_|refine qJe (nN [0]) fun x hx=>?_|refine qp ?_ ?_|refine qk (fun h=>?_) fun h=>?_|fail
 all_goals (rename_i p hp e he;intro K hK;refine ndC (hao _ _ hp.1.2.2.2) ?_;revert hK K)
 all_goals refine qA 1 ?_
 all_goals exact hR _ _ ⟨(⟨p.1.1.rules++[⟨2,.mk 0 0 ⟨⟨[]⟩⟩ [],[.mk 1 ⟨⟨[]⟩⟩ ⟨⟨[]⟩⟩ [e.1,x.1] [] []]⟩],p.1.1.fns⟩,x.2),⟨by
   have h1:=hp.1.1;have h2:=he.1;have h3:=hx.1;have h4:(⟨⟨[]⟩⟩:ByteArray).size=0:=rfl;simp only[Pg.sz,Ru.szs,List.map_append,List.sum_append,List.length_append,List.map_cons,List.map_nil,List.sum_cons,List.sum_nil,List.length_cons,List.length_nil,Ru.sz,Ex.sz,Ex.szs,Sm.sz,Sm.szs] at h1 |-;omega,hx.2⟩,by
   simp only[AV.roC,List.map,A.roC,erD,pA,hI.e];cases hO;rw[<-tY1 hp.1.2.1],rfl⟩
variable {I:∀{α:Type},α->α}
section
variable (hI:II @I)
include hI
abbrev DrT (I:∀{α:Type},α->α) (f:FuncId) {α:Type} (W:α->Prop) (r:α->AV):Prop:=∀b:List Int,b.length<=1048576->ACl Tryz.prog f [⟨.one,[.ro true (I (b.map byT))]⟩] [] (fun res bx=>∃x,W x/\res=r x/\bx=[])
theorem ZZ0:DrT @I 8 (fun p:Pg=>p.sz<=1040000) (fun p=>pA @I p):=by
 intro b hb;refine wZ0 (b:=fun _=>[]) ?_;have c1:=TF0 hI b hb;have c2:=PK0 hI b
 dsimp only [Dr] at c2
 refine qN hI tyK Tryz.func8 8 [.cell 2 32] ?_;unhygienic intros
 refine qB 0 ?_
 repeat' first|refine qA 0 ?_|refine qJe (nN []) fun x hx=>?_|refine qJe (nN [1]) fun x hx=>?_|refine qp ?_ ?_|refine qk (fun h=>?_) fun h=>?_|fail
 exact hR _ _ ⟨x.1,hx.1,rfl,rfl⟩
theorem fC0:DrT @I 5 (fun e:Ex=>e.sz<=8480) (fun e=>eA @I e):=by
 intro b hb;refine wZ0 (b:=fun _=>[]) ?_;have c1:=TF0 hI b hb;have c2:=uQ0 hI;have c3:=TB0 hI;have c4:=hV0 hI 3 (by decide)
 have e3:I (Int.ofNat 3)=(3:Int):=by rw[hI.e];rfl
 rw[e3,show fxB 3=8480 from rfl] at c4
 dsimp only [Dr] at c2 c3 c4
 refine qN hI tyK Tryz.func5 12 [.cell 2 26] ?_;unhygienic intros
 refine qB 0 ?_
 repeat' first|refine qA 0 ?_|refine qJe (nN []) fun x hx=>?_|refine qJe (nN [1]) fun x hx=>?_|refine qp ?_ ?_|refine qk (fun h=>?_) fun h=>?_|fail
 all_goals exact hR _ _ ⟨x.1,by have:=hx.1;omega,rfl,rfl⟩
theorem fB0 (cO:∀p:Pg,p.sz<=1048576->ACl Tryz.prog 37 [pA @I p] [] (fun res bx=>∃b:Bool,(b=true↔p.good)/\res=litB b/\bx=[])):DrT @I 7 (fun p:Pg=>p.sz<=1040000) (fun p=>pA @I p):=by
 intro b hb;refine wZ0 (b:=fun _=>[]) ?_;have c1:=TF0 hI b hb;have c2:=uQ0 hI;have c3:=PK0 hI;have c4:=DD0 hI cO
 dsimp only [Dr] at c2 c3 c4
 refine qN hI tyK Tryz.func7 12 [.cell 2 32] ?_;unhygienic intros
 refine qB 0 ?_
 repeat' first|refine qA 0 ?_|refine qJe (nN []) fun x hx=>?_|refine qJe (nN [1]) fun x hx=>?_|refine qp ?_ ?_|refine qk (fun h=>?_) fun h=>?_|fail
 all_goals exact hR _ _ ⟨x.1,hx.1,rfl,rfl⟩
end
variable {I:∀{α:Type},α->α}
theorem JC0:∀l:List ByteArray,erE (l.map strT)=l.map strT
 | []=>rfl
 | s::l=>by rw[List.map_cons,erE,JC0 l];rfl
theorem Ru.map_erR:∀l:List Ru,erE (l.map Ru.o)=l.map Ru.t
 | []=>rfl
 | r::l=>by rw[List.map_cons,List.map_cons,erE,Ru.map_erR l,Ru.o_eq];simp only[erC,T.er,Ex.map_erR,Sm.map_erR];obtain ⟨k,⟨pk,pn,ps,pl⟩,a⟩:=r;rw[Ru.t,Ex.t_mk];rfl
theorem Fu.map_erR:∀l:List Fu,erE (l.map Fu.o)=l.map Fu.t
 | []=>rfl
 | r::l=>by rw[List.map_cons,List.map_cons,erE,Fu.map_erR l,Fu.o_eq];simp only[erC,T.er,JC0,Sm.map_erR];rfl
theorem c_big (hI:II @I) (b:List Int):ACl Tryz.prog 4 [⟨.one,[.ro true (I (b.map byT))]⟩] [] (fun res bx=>res=litB (I (bB (1048576 < b.length)))/\bx=[]):=by
 refine qN hI tyK Tryz.func4 6 [.tmp 2] ?_;unhygienic intros
 refine qB 0 ?_
 repeat' first|refine qA 0 ?_|refine qp ?_ ?_|refine qk (fun h=>?_) fun h=>?_|fail
 exact hR _ _ ⟨liP hI (by simp only[hI.e];cases hO;simp[Ops.std,sCm];omega),rfl⟩
theorem c_law (hI:II @I) (b:List Int):ACl Tryz.prog 3 [⟨.one,[.ro true (I (b.map byT))]⟩] [] (fun res bx=>res=litB true/\bx=[]):=by
 have c1:=c_big hI b
 by_cases hb:b.length<=1048576
 ·have cO:=fun (p:Pg) (hz:p.sz<=1048576)=>(by simp only[pA,hI.e];exact pN0 p hz:ACl Tryz.prog 37 [pA @I p] [] (fun res bx=>∃b:Bool,(b=true↔p.good)/\res=litB b/\bx=[]))
  have hb':¬1048576 < b.length:=by omega
  have c2:=fC0 hI b hb;have c3:=fB0 hI cO b hb;have c4:=ZZ0 hI b hb;clear cO;refine qN hI tyK Tryz.func3 48 [.tmp 2] ?_;unhygienic intros
  refine qB 0 ?_
  repeat' first|refine qA 0 ?_|refine qJ (nN []) ?_|refine qJe (nN []) fun x hx=>?_|refine qp ?_ ?_|refine qk (fun h=>?_) fun h=>?_<;>try(exfalso;omega)|fail
  rename Ex=>e
  rename e.sz<=8480=>he
  clear c1 c2;obtain ⟨y,hy⟩:∃y,y=e.fold:=⟨_,rfl⟩;have hyz:y.sz<=1048576:=hy ▸ bV0 (by omega)
  have c2:∀z:Ex,(z=e\/z=y)->ACl Tryz.prog 6 [eA @I z] [] (fun res bx=>res=eA @I y/\bx=[]):=fun z hz=>by
   have h:z.fold=y/\z.sz<=1048576:=by rcases hz with rfl | rfl;exact ⟨hy.symm,by omega⟩;exact ⟨by rw[hy,FA0],hyz⟩
   refine yM0 (acI (vL0 hI z h.2) fun _ _ ⟨h1,h2⟩=>⟨?_,h2⟩);rw[h1,h.1];simp only[eO,eA,AV.roC,List.map,A.roC,erD,hI.e,Ex.map_erR]
  have hz1:e=e\/e=y:=.inl rfl;have hz2:y=e\/y=y:=.inr rfl
  repeat' first|refine qA 0 ?_|refine qJ (nN []) ?_|refine qJe (nN []) fun x hx=>?_|refine qp ?_ ?_|refine qk (fun h=>?_) fun h=>?_<;>try(exfalso;omega)|fail
  rename_i p hp
  rename Pg=>q
  rename q.sz<=1040000=>hq
  have c1:=nH0 hI y hyz;have c3:∀z:Ex,(z=e\/z=y)->ACl Tryz.prog 11 [eA @I z] [] (fun res bx=>res=litB (I (bB e.good))/\bx=[]):=fun z hz=>by
   have h:bB z.good=bB e.good/\z.sz<=1048576:=by
    rcases hz with rfl | rfl
    ·exact ⟨rfl,by omega⟩
    ·exact ⟨by rw[hy,propext (pC0 e)],hyz⟩
   exact acI (gB0 hI z h.2) fun _ _ ⟨h1,h2⟩=>⟨by rw[h1,h.1],h2⟩
  have c4:=TR0 hI e (by omega)
  rw[<-hy] at c4;have c5:ACl Tryz.prog 13 [pA @I p] [] (fun res bx=>res=pA @I p.fold/\bx=[]):=yM0 (acI (TQ0 hI p (by omega)) fun _ _ ⟨h1,h2⟩=>⟨by
   rw[h1];simp only[pO,pA,AV.roC,List.map,A.roC,erD,hI.e,Ru.map_erR,Fu.map_erR],h2⟩)
  have c6:=TP0 hI p (by omega)
  have c7:=NT0 hI p.fold (Pg.fold_bd (by omega))
  have c8:=MX0 hI q (by omega)
  have c9:=MW0 hI q (by omega)
  generalize p.fold=g at *;generalize q.parts=N at *;generalize bB e.good=B at *;have e1:∀B:Bool,beq (I B) (I B)=true:=fun B=>by simp only[hI.e];cases hO;simp[Ops.std]
  repeat' first|refine qA 0 ?_|refine qJ (nN []) ?_|refine qp ?_ ?_|refine qk (fun h=>?_) fun h=>?_<;>try(exfalso;omega)|fail
  all_goals exact hR _ _ ⟨by simp only[litB,hI.e];cases hO;simp[Ops.std,sCm],rfl⟩
 ·have hb':1048576 < b.length:=by omega
  refine qN hI tyK Tryz.func3 48 [.tmp 2] ?_;unhygienic intros
  refine qB 0 ?_
  repeat' first|refine qA 0 ?_|refine qJ (nN []) ?_|refine qp ?_ ?_|refine qk (fun h=>?_) fun h=>?_<;>try(exfalso;omega)|fail
  exact hR _ _ ⟨rfl,rfl⟩
variable {I:∀{α:Type},α->α}
open Go.RowKit
def qT1 (k:IntKind) (w:World) (a:Option Addr) (len cap:Nat) (zs:List Int):Prop:=
 (a=none/\len=0/\cap=0/\zs=[])\/
 ∃x,a=some x/\len<=cap/\cap<=maxLen/\zs.length=cap/\(∀i,i < zs.length->w.cell? (x.add i)=some (.int k (zs.getD i 0)))/\∀n∈zs,(Lit.int k n).wf=true
theorem PM0 {S:Nat->Prop} {w:World} {b:Nat}:∀{l:List Int} {o:Nat},(∀j x,l[j]?=some x->w.cell? ⟨b,o+j,none⟩=some (.int .u8 x))->RepSE S w b o (l.map byT)
 | [],o,_=>by simp only[List.map_nil,RepSE]
 | x::l,o,h=>by
  simp only[List.map_cons,byT,RepSE,RepSC,List.length_singleton];refine ⟨⟨⟨.int .u8 x,by simpa using h 0 x rfl,by simp only[RepS];exact ⟨trivial,rfl⟩⟩,trivial⟩,?_⟩
  refine PM0 fun j y hj=>?_;have:=h (j+1) y (by simpa using hj)
  rwa[show o+1+j=o+(j+1) by omega]
theorem MG0 {w:World} {b o:Nat} {v:Value} (h:w.cell? ⟨b,o,none⟩=some v):b < w.heap.size:=by
 unfold World.cell? at h
 split at h
 ·rename_i hb
  exact (Array.getElem?_eq_some_iff.1 hb).1
 ·simp at h
theorem law_main {a:Option Addr} {len cap:Nat} {zs:List Int} {w:World} (hg:GdW w) (w0:qT1 .u8 w a len cap zs):Calls Tryz.prog 3 #[.slice a len cap] w fun e w'=>e=.returned (.bool true)/\RowKit.Below w.heap.size w w':=by
 have main:∀l:List Int,RepS (fun b=>b < w.heap.size) w (.sl (l.map byT)) (.slice a len cap)->Calls Tryz.prog 3 #[.slice a len cap] w fun e w'=>e=.returned (.bool true)/\RowKit.Below w.heap.size w w':=by
  intro l hr;refine (c_law (I:=@id) rfl l w #[.slice a len cap] (fun b=>b < w.heap.size) (fun b=>b < w.heap.size) [] [] [] ⟨_,[],[],[],rfl,rfl,⟨⟨rfl,rfl⟩,_,[],[],[],rfl,rfl,⟨hr,rfl⟩,rfl,rfl⟩,rfl,rfl⟩ ⟨rfl,rfl⟩ (by simp) (fun _ h=>h) (fun b hb=>⟨hb,by simp⟩) (fun x hx=>hg x hx)).mono ?_
  rintro e w' ⟨v,rfl,res,bx',S',bl',o1,o2,⟨rfl,rfl⟩,hv,h3,h4,h5,h6,h7,h8,h9,h10⟩;refine ⟨?_,UK0 h8⟩;obtain ⟨g1,g2⟩:=hv;rw[yQ0 g1] at g2;obtain ⟨u,us,p1,p2,e1,e2,⟨rfl,_,_⟩,_⟩:=g2;simp at e1;rw[e1.1]
 rcases w0 with ⟨rfl,rfl,rfl,rfl⟩ | ⟨x,rfl,hl,hm,hz,hcell,hwz⟩
 ·refine main [] ?_
  simp only[RepS];exact ⟨none,0,rfl,by simp,fun h=>by simp at h⟩
 ·obtain ⟨b,off,spot⟩:=x
  by_cases h0:cap=0
  ·subst h0
   obtain rfl:len=0:=by omega
   refine main [] ?_;simp only[RepS];exact ⟨_,0,rfl,by simp,fun h=>by simp at h⟩
  ·have hc:=hcell 0 (by omega)
   have hspot:spot=none:=by simpa [Addr.add] using World.cell?_spot hc
   subst hspot;have hcell':∀i,i < zs.length->w.cell? ⟨b,off+i,none⟩=some (.int .u8 (zs.getD i 0)):=fun i hi=>by
    have:=hcell i hi;rwa[xB0] at this
   refine main (zs.take len) ?_;simp only[RepS];have hlen:((zs.take len).map byT).length=len:=by simp;omega
   refine ⟨_,cap,by rw[hlen],by rw[hlen];exact hl,fun _=>⟨b,off,rfl,MG0 (hcell' 0 (by omega)),PM0 fun j y hj=>?_⟩⟩
   rw[List.getElem?_take] at hj
   split at hj
   ·rename_i hjl
    have:=hcell' j (by omega)
    rw[this];simp[hj]
   ·simp at hj
end Go.Gv
