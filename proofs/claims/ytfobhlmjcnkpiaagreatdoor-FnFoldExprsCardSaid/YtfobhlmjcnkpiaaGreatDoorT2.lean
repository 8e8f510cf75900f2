/- Part T2 of the proof: contracts of functions of the program, each walked once. -/
import Derived.Test.YtfobhlmjcnkpiaaGreatDoorT1
import Derived.Test.YtfobhlmjcnkpiaaGreatDoorN1
import Derived.Test.YtfobhlmjcnkpiaaGreatDoorD9
import Derived.Test.YtfobhlmjcnkpiaaGreatDoorR1
set_option linter.all false
namespace Go.Gv
open Go.Av Go.Proofs
set_option maxRecDepth 10000
set_option maxHeartbeats 8000000
variable {I:∀{α:Type},α->α}
def szB:Nat->Nat
 | 0=>50
 | n+1=>60+4 * szB n
theorem uN1 (n:Nat):50<=szB n:=by cases n<;>simp[szB];omega
theorem sub_one (d:Nat) (h:d<=1048576):yW0 .sub .i64 (Int.ofNat (d+1)) 1=Int.ofNat d:=by
 simp only[yW0];have e:Int.ofNat (d+1) - 1=Int.ofNat d:=by simp only[Int.ofNat_eq_natCast];omega
 rw[e,zW0 (by simp only[Int.ofNat_eq_natCast];omega)]
theorem szs_app (l m:List Ex):Ex.szs (l++m)=Ex.szs l+Ex.szs m:=by
 induction l with
 | nil=>simp[Ex.szs]
 | cons a t ih=>simp only[List.cons_append,Ex.szs,ih];omega
theorem PJ0 (hI:II @I) (e:List (List T)) (he:okT e=true):Dr @I 46 [⟨.one,[.ro true e]⟩] (fun s:ByteArray=>s.size<=40) (fun s=>litS (I s)):=by
 intro b u hb hu;have hl:0 < e.length:=by rw[okT,Bool.and_eq_true] at he;simpa using he.1
 have c1:=yL0 hI (Int.ofNat (I e.length)) b u hb hu;refine qN hI tyK Tryz.func46 12 [.tmp 4] ?_;unhygienic intros
 have e1:len e=I e.length:=by rw[hI.e];cases hO;rfl
 have hget:∀x:Int,0<=x->x < Int.ofNat e.length->idx (I x) (I e.length)/\get e (nat (I x))=e[x.toNat]!/\x.toNat < e.length:=by
  intro x h0 h1;have h2:x.toNat < e.length:=by simp only[Int.ofNat_eq_natCast] at h1;omega
  rw[hI.e,hI.e];cases hO;exact ⟨⟨h0,h1⟩,by simp[Ops.std,h2],h2⟩
 refine qB 1 ?_
 repeat' first|refine qA 1 ?_|refine qJe (nN [0]) fun x hx=>?_|refine qp ?_ ?_|refine qk (fun h=>?_) fun h=>?_|fail
 have hx1:=hget x.1 hx.1.1 (by have:=hx.1.2;rw[hI.e] at this;exact this (by simp only[Int.ofNat_eq_natCast];omega))
 obtain ⟨s,hs,hz⟩:=vN1 he hx1.2.2;have hix:=hx1.1;have e2:=hx1.2.1.trans hs;have hall:all e 1:=by cases hO;exact HL0 he
 refine qA 1 ?_;exact hR _ _ ⟨(s,x.2),⟨hz,hx.2⟩,vP1 hI _,rfl⟩
theorem UY0 (hI:II @I):Dr @I 83 [] (fun s:ByteArray=>s.size<=40) (fun s=>litS (I s)):=by
 intro b u hb hu;have c1:=tT0 hI
 dsimp only [Dr] at c1
 refine qN hI tyK Tryz.func83 6 [.tmp 2] ?_;unhygienic intros
 refine qB 1 ?_
 repeat' first|refine qA 1 ?_|refine qJe (nN [0]) fun x hx=>?_|refine qp ?_ ?_|refine qk (fun h=>?_) fun h=>?_|fail
 exact hR _ _ ⟨x,hx,rfl,rfl⟩
theorem pH0 (hI:II @I):∀d:Nat,d<=8->Dr @I 45 [litI (I (Int.ofNat d))] (fun e:Ex=>e.sz<=szB d) (fun e=>eA @I e):=by
 intro d
 induction d with
 | zero=>
  intro _ b u hb hu;refine wZ0 ?_;have c1:=PD0 hI
  dsimp only [Dr] at c1
  have e1:I (Int.ofNat 0)=(0:Int):=by rw[hI.e];rfl
  rw[e1];refine qN hI tyK Tryz.func45 73 [.cell 4 26] ?_;unhygienic intros
  refine qB 1 ?_
  repeat' first|refine qA 1 ?_|refine qJe (nN [0]) fun x hx=>?_|refine qp ?_ ?_|refine qk (fun h=>?_) fun h=>?_<;>try(exfalso;omega)|fail
  ·exact hR _ _ ⟨x,⟨hx.1,hx.2⟩,rfl,rfl⟩
  ·exact absurd trivial h
 | succ d ih=>
  intro hd b u hb hu;refine wZ0 ?_;have c1:=PD0 hI;have c2:=uQ0 hI;have c3:=qC0 hI;have c4:=tT0 hI;have c5:=yL0 hI;have c6:=OpsI hI UZ0;have c7:=UY0 hI;have c8:=PJ0 hI;have hop:okT (I (operS.map strT))=true:=by rw[hI.e];decide
  dsimp only [Dr] at c1 c2 c3 c4 c5 c7 c8
  have e2:I (Int.ofNat (d+1))=Int.ofNat (I (d+1)):=by rw[hI.e,hI.e]
  rw[e2];refine qN hI tyK Tryz.func45 73 [.cell 4 26] ?_;unhygienic intros
  have e1:bin .sub .i64 (Int.ofNat (I (d+1))) 1=I (Int.ofNat d):=by simp only[hI.e];cases hO;exact sub_one d (by omega)
  refine qB 1 ?_
  repeat' first|refine qA 1 ?_|refine qJe (nN [0]) fun x hx=>?_|refine qJ (nN []) ?_|refine qJe (nN []) fun x hx=>?_|refine qJe (nN [0]) fun x hx=>?_|refine qp ?_ ?_|refine qk (fun h=>?_) fun h=>?_<;>try(exfalso;omega)|fail
  ·exact hR _ _ ⟨x,⟨by have:=uN1 (d+1);omega,hx.2⟩,rfl,rfl⟩
  all_goals clear c1 c2 c3 c4 c5 c6 c7 c8 hop
  all_goals refine qLf 3 [0,1,4,6,7,8] (kkB 2 3 4) (fun a:(Int×ByteArray×Nat)×List Ex×Cu=>⟨vag 73 [(0,⟨.one,[.ptr 0 0]⟩),(1,litI (Int.ofNat (I (d+1)))),(4,⟨.one,[.ptr 1 0]⟩),(6,⟨.one,[.ptr 2 0]⟩),(7,litI (Int.ofNat (I a.1.2.2))),(8,litI (Int.ofNat (I a.2.1.length)))],[cuB @I b a.2.2,some [.lit (.int .i64 0),.lit (.int .i64 0),.lit (.string ⟨⟨[]⟩⟩),.nil],some [.lit (.int .i64 (I a.1.1)),.lit (.int .i64 0),.lit (.string (I a.1.2.1)),.ow (0,0) false 4 (I (a.2.1.map Ex.t))]],1⟩) (fun a=>a.1.2.2<=3/\a.1.2.1.size<=40/\a.2.1.length<=a.1.2.2/\Ex.szs a.2.1<=a.2.1.length * szB d/\a.2.2.i<=b.length) (fun a=>a.1.2.2 - a.2.1.length) ?_ fun a ha=>?_
  all_goals first
   | (cbv;first
     | exact ⟨((_,_,1),[],_),by simp only[hI.e];rfl,by simp,by first | exact hx.1 | exact Nat.zero_le 40,by simp,by simp[Ex.szs],hx.2⟩
     | exact ⟨((_,_,2),[],_),by simp only[hI.e];rfl,by simp,by first | exact hx.1 | exact Nat.zero_le 40,by simp,by simp[Ex.szs],hx.2⟩
     | exact ⟨((_,_,3),[],_),by simp only[hI.e];rfl,by simp,by first | exact hx.1 | exact Nat.zero_le 40,by simp,by simp[Ex.szs],hx.2⟩
     | (obtain ⟨m,hm⟩:=Int.eq_ofNat_of_zero_le hx.1.1;have hm3:=hx.1.2 (by decide);rw[hm] at hm3;rename ByteArray×Cu=>y;rename y.1.size<=40/\y.2.i<=b.length=>hy;exact ⟨((_,_,m),[],_),by simp only[hI.e,hm];rfl,by simp only;omega,hy.1,by simp,by simp[Ex.szs],hx.2⟩)
     | fail)
   | skip
  all_goals rename_i a ha;obtain ⟨⟨kx,s,n⟩,l,v⟩:=a;obtain ⟨hn,hs,hln,hsz,hv⟩:=ha;simp only at hn hs hln hsz hv |-;have c1:=ih (by omega) b v hb hv;generalize hL:l.length=L at *;clear ih
  all_goals (
   (repeat' first|refine qA 1 ?_|refine qJe (nN [0]) fun x hx=>?_|refine qp ?_ ?_|refine qk (fun h=>?_) fun h=>?_<;>try(exfalso;omega)|fail)
   ·exact ⟨((kx,s,n),l++[x.1],x.2),by simp only[hI.e,List.length_append,List.length_singleton,hL];rfl,⟨hn,hs,by simp only[List.length_append,List.length_singleton];omega,by rw[szs_app];simp only[Ex.szs,List.length_append,List.length_singleton,hL,Nat.add_mul];have:=hx.1;omega,hx.2⟩,by simp only[List.length_append,List.length_singleton];omega⟩
   ·exact hR _ _ ⟨(.mk kx 0 s l,v),⟨by simp only[Ex.sz,szB,hL];have:L * szB d<=3 * szB d:=Nat.mul_le_mul_right _ (by omega);omega,hv⟩,by simp only[eA,hI.e];rfl,rfl⟩)
variable {I:∀{α:Type},α->α}
def A.owF (k:Nat):A->A
 | .nil=>.ow (0,0) false k []
 | c=>c
def AV.owF (k:Nat) (av:AV):AV:=⟨av.sh,av.cs.map (A.owF k)⟩
theorem RepA.owF {E:Env} {k:Nat} {c:A} {u:Value} {own:List Nat} (h:RepA E c u own):RepA E (A.owF k c) u own:=by
 cases c<;>try exact h
 obtain ⟨⟨ad,rfl⟩,rfl⟩:=h;exact ⟨ad,0,rfl,Nat.le_refl _,by simp,.inl ⟨rfl,rfl,rfl⟩⟩
theorem RpA.owF {E:Env} {k:Nat}:∀{cs:List A} {us:List Value} {own:List Nat},RpA E cs us own->RpA E (cs.map (A.owF k)) us own
 | [],us,own,h=>h
 | c::cs,us,own,h=>by
  obtain ⟨u,us',o1,o2,rfl,rfl,h3,h4⟩:=h;exact ⟨u,us',o1,o2,rfl,rfl,RepA.owF h3,RpA.owF h4⟩
theorem zB1 {P:Program} {f:FuncId} {args:List AV} {bx:List (Option (List A))} {α:Type} {W:α->Prop} {r:α->AV} {b:α->List (Option (List A))} (k:Nat) (h:ACl P f args bx (fun res bx=>∃x,W x/\AV.owF k res=r x/\bx=b x)):ACl P f args bx (fun res bx=>∃x,W x/\res=r x/\bx=b x):=by
 intro w vals S L bl O1 O2 h1 h2 h3 h4 h5 h6;refine (h w vals S L bl O1 O2 h1 h2 h3 h4 h5 h6).mono ?_;rintro e w' ⟨v,rfl,res,bx',S',bl',o1,o2,⟨x,hW,hR,hb⟩,hv,hr⟩;refine ⟨v,rfl,AV.owF k res,bx',S',bl',o1,o2,⟨x,hW,hR,hb⟩,?_,hr⟩;obtain ⟨sh,cs⟩:=res;cases sh with
 | any=>
  have hc:cs=[]:=hv.1;subst hc;exact hv
 | one=>exact ⟨hv.1,RpA.owF hv.2⟩
 | agg=>exact ⟨hv.1,RpA.owF hv.2⟩
 | tup ns=>exact ⟨hv.1,RpA.owF hv.2⟩
theorem Ex.sz_eq (e:Ex):e.sz=e.s.size+e.l.length+Ex.szs e.l:=by cases e;simp only[Ex.sz];rfl
theorem TB0 (hI:II @I):Dr @I 19 [] (fun e:Ex=>e.sz<=4600) (fun e=>eA @I e):=by
 intro b u hb hu;refine wZ0 ?_;have c1:=pH0 hI 3 (by decide)
 have e0:I (Int.ofNat 3)=(3:Int):=by rw[hI.e];rfl
 rw[e0] at c1;have c2:=yL0 hI;have c3:=tT0 hI;have c4:=qC0 hI
 dsimp only [Dr] at c1 c2 c3 c4
 have hz3:szB 3=4460:=rfl;rw[hz3] at c1;refine qN hI tyK Tryz.func19 38 [.cell 2 26] ?_;unhygienic intros
 refine qB 1 ?_
 repeat' first|refine qA 1 ?_|refine qJe (nN [0]) fun x hx=>?_|refine qJ (nN []) ?_|refine qJe (nN []) fun x hx=>?_|refine qp ?_ ?_|refine qk (fun h=>?_) fun h=>?_<;>try(exfalso;omega)|fail
 all_goals (rename Ex×Cu=>y;rename y.1.sz<=4460/\y.2.i<=b.length=>hy;have hzy:=Ex.sz_eq y.1)
 ·exact hR _ _ ⟨(.mk x.1 y.1.n y.1.s y.1.l,x.2),⟨by simp only[Ex.sz];omega,hx.2⟩,by simp only[eA,hI.e];rfl,rfl⟩
 ·exact hR _ _ ⟨(.mk y.1.k y.1.n x.1 y.1.l,x.2),⟨by simp only[Ex.sz];omega,hx.2⟩,by simp only[eA,hI.e];rfl,rfl⟩
 ·exact hR _ _ ⟨(.mk y.1.k x.1 y.1.s y.1.l,x.2),⟨by simp only[Ex.sz];omega,hx.2⟩,by simp only[eA,hI.e];rfl,rfl⟩
 ·clear c1 c2 c3 c4
  have c1:=qB0 hI;obtain ⟨m,hm⟩:=Int.eq_ofNat_of_zero_le hx.1.1;have hm3:=hx.1.2 (by decide)
  rw[hm] at hm3;refine qLf 3 [0,2,3,4] kk0 (fun a:(Int×Int×ByteArray×List Ex)×Nat×Cu=>⟨vag 38 [(0,⟨.one,[.ptr 0 0]⟩),(2,⟨.one,[.ptr 1 0]⟩),(3,⟨.one,[.ptr 2 0]⟩),(4,litI (Int.ofNat (I a.2.1)))],[cuB @I b a.2.2,some [.lit (.int .i64 0),.lit (.int .i64 0),.lit (.string ⟨⟨[]⟩⟩),.nil],some [.lit (.int .i64 (I a.1.1)),.lit (.int .i64 (I a.1.2.1)),.lit (.string (I a.1.2.2.1)),.ro true (I (a.1.2.2.2.map Ex.t))]],1⟩) (fun a=>a.1.2.2.1.size+a.1.2.2.2.length+Ex.szs a.1.2.2.2+a.2.1<=4500/\a.2.2.i<=b.length) (fun a=>a.2.1) ?_ fun a ha=>?_
  ·have hb0:y.1.s.size+y.1.l.length+Ex.szs y.1.l+m<=4500:=by have:=hy.1;omega
   cbv
   exact ⟨((y.1.k,y.1.n,y.1.s,y.1.l),m,x.2),by simp only[hI.e,hm];rfl,hb0,hx.2⟩
  obtain ⟨⟨k,n,s,l⟩,i,v⟩:=a;obtain ⟨hz,hv⟩:=ha;simp only at hz hv |-;cases i with
  | zero=>
   have e1:I 0=(0:Nat):=by rw[hI.e]
   refine qB 1 ?_
   (repeat' first|refine qA 1 ?_|refine qJ (nN []) ?_|refine qp ?_ ?_|refine qk (fun h=>?_) fun h=>?_<;>try(exfalso;omega)|fail)
   exact hR _ _ ⟨(.mk k n s l,v),⟨by simp only[Ex.sz];omega,hv⟩,by simp only[eA,hI.e];rfl,rfl⟩
  | succ i=>
   have e1:bin .sub .i64 (Int.ofNat (I (i+1))) 1=Int.ofNat (I i):=by simp only[hI.e];cases hO;exact sub_one i (by omega)
   refine qB 1 ?_
   (repeat' first|refine qA 1 ?_|refine qJ (nS []) ?_|refine qp ?_ ?_|refine qk (fun h=>?_) fun h=>?_<;>try(exfalso;omega)|fail)
   exact ⟨((8,0,⟨⟨[]⟩⟩,[.mk k n s l]),i,v),by simp only[hI.e,List.map,Ex.t_mk,A.reset];rfl,⟨by simp only[Ex.szs,Ex.sz,List.length_singleton];have:(⟨⟨[]⟩⟩:ByteArray).size=0:=rfl;omega,hv⟩,Nat.lt_succ_self i⟩
 ·exact hR _ _ ⟨(y.1,x.2),⟨by show y.1.sz<=4600;omega,hx.2⟩,by simp only[eA,hI.e];rfl,rfl⟩
variable {I:∀{α:Type},α->α}
@[simp,reducible] def sOw (I:∀{α:Type},α->α) (y:Sm):AV:=⟨.agg,[.lit (.int .i64 (I y.k)),.lit (.string (I y.s)),.lit (.string (I y.tt)),.ow (0,0) false 4 (I (y.x.map Ex.t)),.ow (0,0) false 6 (I (y.a.map Sm.t)),.ow (0,0) false 6 (I (y.b.map Sm.t))]⟩
def stB:Nat->Nat
 | 0=>2300
 | n+1=>1206+6 * stB n
theorem uQ1 (n:Nat):2300<=stB n:=by
 induction n with
 | zero=>exact Nat.le_refl _
 | succ n ih=>simp only[stB];omega
theorem qN0 (l m:List Sm):Sm.szs (l++m)=Sm.szs l+Sm.szs m:=Sm.szs_app l m
mutual
def Sm.nn:Sm->Sm
 | .mk k s t x a b=>if k=8 then .mk 1 ⟨⟨[]⟩⟩ ⟨⟨[]⟩⟩ [.mk 1 1 ⟨⟨[]⟩⟩ []] [] [] else .mk k s t x (Sm.nns a) (Sm.nns b)
def Sm.nns:List Sm->List Sm
 | []=>[]
 | y::l=>y.nn::Sm.nns l
end
theorem Sm.nns_app (l m:List Sm):Sm.nns (l++m)=Sm.nns l++Sm.nns m:=by
 induction l with
 | nil=>rw[Sm.nns];rfl
 | cons y l ih=>rw[List.cons_append,Sm.nns,Sm.nns,ih];rfl
theorem Sm.nns_one (y:Sm):Sm.nns [y]=[y.nn]:=by rw[Sm.nns,Sm.nns]
theorem Sm.nns_len (l:List Sm):(Sm.nns l).length=l.length:=by
 induction l with
 | nil=>rw[Sm.nns]
 | cons y l ih=>rw[Sm.nns,List.length_cons,List.length_cons,ih]
theorem UG0 {k:Int} {s t:ByteArray} {x:List Ex} {a b:List Sm} {N:Nat} (h1:1<=N) (h:s.size+t.size+(x.length+Ex.szs x)+(a.length+Sm.szs (Sm.nns a))+(b.length+Sm.szs (Sm.nns b))<=N):(Sm.mk k s t x a b).nn.sz<=N:=by
 rw[Sm.nn]
 split
 ·simp only[Sm.sz,Sm.szs,Ex.szs,Ex.sz,List.length_singleton,List.length_nil]
  have:(⟨⟨[]⟩⟩:ByteArray).size=0:=rfl;omega
 ·simp only[Sm.sz,Sm.nns_len]
  exact h
theorem rY0:Sm.szs (Sm.nns [])=0:=by rw[Sm.nns];rfl
abbrev P9s (I:∀{α:Type},α->α) (d:Nat):Prop:=∀fn:Bool,Dr @I 93 [litI (I (Int.ofNat d)),litB fn] (fun y:Sm=>y.sz<=stB d/\y.nn.sz<=stB d) (fun y=>sOw @I y)
abbrev L9s (I:∀{α:Type},α->α) (d:Nat):Prop:=∀fn:Bool,Dr @I 91 [litI (I (Int.ofNat d)),litB fn] (fun l:List Sm=>1<=l.length/\l.length<=3/\Sm.szs l<=l.length * stB d/\Sm.szs (Sm.nns l)<=l.length * stB d) (fun l=>⟨.one,[.ow (0,0) false 6 (I (l.map Sm.t))]⟩)
theorem hN0 (hI:II @I) (d:Nat) (ih:P9s @I d):L9s @I d:=by
 intro fn b u hb hu;have c1:=ih fn;have c2:=yL0 hI
 dsimp only [Dr] at c1 c2
 refine qN hI tyK Tryz.func91 25 [.tmp 6] ?_;unhygienic intros
 have hadd:∀m:Nat,m<=100->bin .add .i64 1 (I (Int.ofNat m))=Int.ofNat (I (m+1)):=by
  intro m hm;simp only[hI.e];cases hO;simp only[Ops.std,yW0];rw[zW0 (by simp only[Int.ofNat_eq_natCast];omega)];simp only[Int.ofNat_eq_natCast];omega
 refine qB 1 ?_
 repeat' first|refine qA 1 ?_|refine qJe (nN [0]) fun x hx=>?_|refine qp ?_ ?_|refine qk (fun h=>?_) fun h=>?_<;>try(exfalso;omega)|fail
 obtain ⟨m,hm⟩:=Int.eq_ofNat_of_zero_le hx.1.1;have hm3:=hx.1.2 (by decide)
 rw[hm] at hm3;refine qLf 1 [0,1,2,6,7,8] (kkS 7 6) (fun a:Nat×List Sm×Cu=>⟨vag 25 [(0,⟨.one,[.ptr 0 0]⟩),(1,litI (I (Int.ofNat d))),(2,litB fn),(6,⟨.one,[.nil]⟩),(7,⟨.one,[.ow (0,0) false 6 (I (a.2.1.map Sm.t))]⟩),(8,litI (Int.ofNat (I a.1)))],[cuB @I b a.2.2],1⟩) (fun a=>(1<=a.1+a.2.1.length/\a.1+a.2.1.length<=3)/\(Sm.szs a.2.1<=a.2.1.length * stB d/\Sm.szs (Sm.nns a.2.1)<=a.2.1.length * stB d)/\a.2.2.i<=b.length) (fun a=>a.1) ?_ fun a ha=>?_
 ·have ea:bin .add .i64 1 (I x.1)=Int.ofNat (I (m+1)):=by rw[hm];exact hadd m (by omega)
  have hm4:m+1<=3:=by omega
  cbv
  exact ⟨(m+1,[],x.2),by rw[ea];simp only[hI.e];rfl,⟨Nat.le_add_left 1 m,hm4⟩,⟨by simp[Sm.szs],by rw[rY0];exact Nat.zero_le _⟩,hx.2⟩
 obtain ⟨i,l,v⟩:=a;obtain ⟨hn,hz,hv⟩:=ha;simp only at hn hz hv |-;have c1:=c1 b v hb hv;clear c2 hx hm hm3;cases i with
 | zero=>
  have e1:I 0=(0:Nat):=by rw[hI.e]
  refine qB 1 ?_
  repeat' first|refine qA 1 ?_|refine qJ (nN []) ?_|refine qp ?_ ?_|refine qk (fun h=>?_) fun h=>?_<;>try(exfalso;omega)|fail
  exact hR _ _ ⟨(l,v),⟨⟨by simp only;omega,by simp only;omega,hz⟩,hv⟩,rfl,rfl⟩
 | succ i=>
  have e1:bin .sub .i64 (Int.ofNat (I (i+1))) 1=Int.ofNat (I i):=by simp only[hI.e];cases hO;exact sub_one i (by omega)
  generalize hL:l.length=L at *;refine qB 1 ?_
  repeat' first|refine qA 1 ?_|refine qJe (nN [0]) fun x hx=>?_|refine qp ?_ ?_|refine qk (fun h=>?_) fun h=>?_<;>try(exfalso;omega)|fail
  exact ⟨(i,l++[x.1],x.2),by simp only[hI.e];rfl,⟨by simp only[List.length_append,List.length_singleton];omega,⟨by rw[qN0];simp only[Sm.szs,List.length_append,List.length_singleton,hL,Nat.add_mul];have:=hx.1;omega,by rw[Sm.nns_app,Sm.nns_one,qN0];simp only[Sm.szs,List.length_append,List.length_singleton,hL,Nat.add_mul];have:=hx.1;omega⟩,hx.2⟩,Nat.lt_succ_self i⟩
end Go.Gv
