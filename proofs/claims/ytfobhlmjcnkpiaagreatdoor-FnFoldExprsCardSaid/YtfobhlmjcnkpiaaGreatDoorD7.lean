/- Part D7 of the proof: Avs: a slice of ones own that lies in a cell is let go: it is read alone from here on. / What a walk does, written once: theorems that give back what they are given the way from the one to the other is their last argument, with the walks tactics as its default proof. / What a rows reading tells of plain data: a tree, and its shape. / Trees of a language of lines: terms, statements, rules, functions, programs as data that is read, and what is counted in them. / Short names and small lemmas for te -/
import Derived.Test.YtfobhlmjcnkpiaaGreatDoorD5
import Derived.Test.YtfobhlmjcnkpiaaGreatDoorD6
import Derived.Test.YtfobhlmjcnkpiaaGreatDoorC2
import Derived.DataReads
import Derived.ChangeOld
import Derived.Test.YtfobhlmjcnkpiaaGreatDoorD4
import Derived.IntWalk
set_option linter.all false
/- Avs: a slice of one's own that lies in a cell is let go: it is read alone from here on. -/
namespace Go.Gv
open Go.Av
variable {P:Program} {ts:Nat->Option TI} {C:Ctx} {O:Ops} {σ:AS} {Q:Exit->AS->Prop} {a:Act} {w:World}
end Go.Gv
/- What a walk does, written once: theorems that give back what they are given; the way from the one to the other is their last argument, with the walk's tactics as its default proof. -/
namespace Go.Gv
open Go.Av
structure Nx (p:Prop):Prop where
 go:p
structure Bx (n:Nat):Prop
theorem bR {O:Ops} {ts:Nat->Option TI} {P:Program} {C:Ctx} {σ:AS} {Q:Exit->AS->Prop} {base id:Nat} {ops:Array Oper} (_:Bx base) (h:∀K:AS->Prop,(∀σ',Q .normal σ'->K σ')->gOps O ts P base ops (List.range ops.size) [] [] σ K):At O ts P C (.region id ops false) σ Q:=aR h
theorem bE {O:Ops} {ts:Nat->Option TI} {P:Program} {C:Ctx} {σ:AS} {Q:Exit->AS->Prop} {base id:Nat} {ops:Array Oper} (_:Bx base) (hm:P.follows .mixedOrders=true) (hok:exOk ops=true)
  (h:∀K:AS->Prop,(∀σ',Q .normal σ'->K σ')->gExp O ts P base ops (ops.size+1) [] [] [] [] (AS.blank (vC0 ops) σ) K):At O ts P C (.region id ops true) σ Q:=aE hm hok h
abbrev nN (l:List Nat):Hint:=⟨fun _ _=>false,fun _ _=>false,l⟩
section
variable {G H:Prop} {α:Type} {β:α->Prop} {J:∀a:α,β a->Prop}
theorem qC (h:H) (t:H->G:=by
 intro hZ
 try cbv
 try simp only[hseg]
 exact hZ):Nx G:=⟨t h⟩
theorem qG (h:H) (t:H->G:=by
 intro hZ;refine GCall.by (nN []) ?_
 try cbv
 try simp only[hseg]
 exact hZ):G:=t h
theorem qK {b:Bool} {x y:Unit->Prop} {A B:Prop} (h:b=true->A) (k:b=false->B) (s:A->x ():=by
 intro hZ
 first|(with_reducible refine nxId ?_;(conv=>whnf);(first|(with_reducible refine atId ?_)|(with_reducible refine FinAt.mk ?_;cbv;try simp only[hseg])|(cbv;try simp only[hseg])))|(cbv;try simp only[hseg])
 exact hZ) (t:B->y ():=by
 intro hZ
 first|(with_reducible refine nxId ?_;(conv=>whnf);(first|(with_reducible refine atId ?_)|(with_reducible refine FinAt.mk ?_;cbv;try simp only[hseg])|(cbv;try simp only[hseg])))|(cbv;try simp only[hseg])
 exact hZ):GFork b x y:=⟨fun e=>s (h e),fun e=>t (k e)⟩
theorem qW (b:Nat) (h:∀a b,J a b) (t:Bx b->(∀a b,J a b)->G:=by
 intro hB hZ;have K:=0;have hK:=True.intro;intro K hK
 (try with_reducible refine Nx.mk ?_);first|(with_reducible refine atId ?_)|(with_reducible refine nxId ?_;(conv=>whnf);(first|(with_reducible refine atId ?_)|(with_reducible refine FinAt.mk ?_;cbv;try simp only[hseg])|(cbv;try simp only[hseg])))|(try cbv;try simp only[hseg])
 repeat' (first
  |(with_reducible refine hK _ ?_;clear hK K);(conv=>whnf);(first|(with_reducible refine atId ?_)|(with_reducible refine FinAt.mk ?_;cbv;try simp only[hseg])|(cbv;try simp only[hseg]))
  |(with_reducible first|(refine bR hB ?_;intro K hK)|apply dC0|apply dD0);cbv;try simp only[hseg]
  |(with_reducible first|apply ndN|refine ndC True.intro ?_);try cbv
  |(with_reducible refine nT ?h ?_);(case h=>rfl);(conv=>whnf);(first|(with_reducible refine atId ?_)|(with_reducible refine FinAt.mk ?_;cbv;try simp only[hseg])|(cbv;try simp only[hseg]))
  |(with_reducible refine nF ?h ?_);(case h=>rfl);(conv=>whnf);(first|(with_reducible refine atId ?_)|(with_reducible refine FinAt.mk ?_;cbv;try simp only[hseg])|(cbv;try simp only[hseg]))
  |(with_reducible refine bE hB hM ?h ?_);(case h=>decide +kernel);intro K hK;cbv;try simp only[hseg]
  |(with_reducible refine ndC ?h ?_);(case h=>first|with_reducible rfl|exact yU1 hO (by decide))
  |fail)
 exact hZ K hK):G:=t ⟨⟩ h
theorem qV (b:Nat) (h:∀a b,J a b) (t:Bx b->(∀a b,J a b)->G:=by
 intro hB hZ;have K:=0;have hK:=True.intro;intro K hK
 repeat1' (first
  |(with_reducible refine hK _ ?_;clear hK K);(conv=>whnf);(first|(with_reducible refine atId ?_)|(with_reducible refine FinAt.mk ?_;cbv;try simp only[hseg])|(cbv;try simp only[hseg]))
  |(with_reducible refine bR hB ?_;intro K hK);cbv;try simp only[hseg]
  |(with_reducible first|apply ndN|refine ndC True.intro ?_);try cbv
  |(with_reducible refine bE hB hM ?h ?_);(case h=>decide +kernel);intro K hK;cbv;try simp only[hseg]
  |(with_reducible refine ndC ?h ?_);(case h=>first|with_reducible rfl|exact yU1 hO (by decide))
  |(with_reducible refine nG ?_);(conv=>whnf)
  |(with_reducible first|apply dC0|apply dD0);(first|((with_reducible refine nxId ?_);(conv=>whnf);(first|(with_reducible refine atId ?_)|(with_reducible refine FinAt.mk ?_;cbv;try simp only[hseg])|(cbv;try simp only[hseg])))|(cbv;try simp only[hseg]))
  |(with_reducible first|refine GW0 (by assumption) ?_|refine GX0 (by assumption) ?_);(first|((with_reducible refine nxId ?_);(conv=>whnf);(first|(with_reducible refine atId ?_)|(with_reducible refine FinAt.mk ?_;cbv;try simp only[hseg])|(cbv;try simp only[hseg])))|(cbv;try simp only[hseg]))
  |fail)
 exact hZ K hK):G:=t ⟨⟩ h
theorem qS (b:Nat) (h:∀a b,J a b) (t:Bx b->(∀a b,J a b)->G:=by
 intro hB hZ;have K:=0;have hK:=True.intro;intro K hK
 first
  |(with_reducible refine hK _ ?_;clear hK K);(conv=>whnf);(first|(with_reducible refine atId ?_)|(with_reducible refine FinAt.mk ?_;cbv;try simp only[hseg])|(cbv;try simp only[hseg]))
  |(with_reducible refine bR hB ?_;intro K hK);cbv;try simp only[hseg]
  |(with_reducible first|apply ndN|refine ndC True.intro ?_);try cbv
  |(with_reducible refine bE hB hM ?h ?_);(case h=>decide +kernel);intro K hK;cbv;try simp only[hseg]
  |(with_reducible refine ndC ?h ?_);(case h=>first|with_reducible rfl|exact yU1 hO (by decide))
  |(with_reducible refine nG ?_);(conv=>whnf)
  |(with_reducible first|apply dC0|apply dD0);(first|((with_reducible refine nxId ?_);(conv=>whnf);(first|(with_reducible refine atId ?_)|(with_reducible refine FinAt.mk ?_;cbv;try simp only[hseg])|(cbv;try simp only[hseg])))|(cbv;try simp only[hseg]))
  |(with_reducible first|refine GW0 (by assumption) ?_|refine GX0 (by assumption) ?_);(first|((with_reducible refine nxId ?_);(conv=>whnf);(first|(with_reducible refine atId ?_)|(with_reducible refine FinAt.mk ?_;cbv;try simp only[hseg])|(cbv;try simp only[hseg])))|(cbv;try simp only[hseg]))
 exact hZ K hK):G:=t ⟨⟩ h
end
section
variable {Q:Prop}
theorem qv1 (t:Q:=by try clear hK K;clear hM hP hC hR;cases hO;simp only[Ops.std,sCm,yW0,sqL,xJ0,qM0,Int.ofNat_eq_natCast] at *;simpa using h1):Q:=t
theorem qw1 (t:Q:=by try clear hK K;clear hM hP hC hR;cases hO;simp only[Ops.std,sCm,yW0,sqL,xJ0,qM0,Int.ofNat_eq_natCast] at *;simp at h1;omega):Q:=t
theorem qv2 (t:Q:=by try clear hK K;clear hM hP hC hR;cases hO;simp only[Ops.std,sCm,yW0,sqL,xJ0,qM0,Int.ofNat_eq_natCast] at *;simpa using h2):Q:=t
theorem qv3 (t:Q:=by try clear hK K;clear hM hP hC hR;cases hO;simp only[Ops.std,sCm,yW0,sqL,xJ0,qM0,Int.ofNat_eq_natCast] at *;simpa using h3):Q:=t
theorem qw3 (t:Q:=by try clear hK K;clear hM hP hC hR;cases hO;simp only[Ops.std,sCm,yW0,sqL,xJ0,qM0,Int.ofNat_eq_natCast] at *;simp at h3;omega):Q:=t
theorem qv4 (t:Q:=by try clear hK K;clear hM hP hC hR;cases hO;simp only[Ops.std,sCm,yW0,sqL,xJ0,qM0,Int.ofNat_eq_natCast] at *;simpa using h4):Q:=t
theorem qw4 (t:Q:=by try clear hK K;clear hM hP hC hR;cases hO;simp only[Ops.std,sCm,yW0,sqL,xJ0,qM0,Int.ofNat_eq_natCast] at *;simp at h4;omega):Q:=t
theorem qv5 (t:Q:=by try clear hK K;clear hM hP hC hR;cases hO;simp only[Ops.std,sCm,yW0,sqL,xJ0,qM0,Int.ofNat_eq_natCast] at *;simpa using h5):Q:=t
theorem qw5 (t:Q:=by try clear hK K;clear hM hP hC hR;cases hO;simp only[Ops.std,sCm,yW0,sqL,xJ0,qM0,Int.ofNat_eq_natCast] at *;simp at h5;omega):Q:=t
theorem qv6 (t:Q:=by try clear hK K;clear hM hP hC hR;cases hO;simp only[Ops.std,sCm,yW0,sqL,xJ0,qM0,Int.ofNat_eq_natCast] at *;simpa using h6):Q:=t
theorem qv7 (t:Q:=by try clear hK K;clear hM hP hC hR;cases hO;simp only[Ops.std,sCm,yW0,sqL,xJ0,qM0,Int.ofNat_eq_natCast] at *;simpa using h7):Q:=t
end
theorem qX {α:Type} (a:α):∃x,x=a:=⟨a,rfl⟩
abbrev nS (l:List Nat):Hint:=⟨fun _ _=>false,fun _ _=>true,l⟩
abbrev nM (l:List Nat):Hint:=⟨fun _ _=>true,fun _ _=>false,l⟩
theorem qg {O:Ops} {P:Program} {σ:AS} (x:Hint) {i:Nat} {fop:Operand} {args:Array Operand} {dst:Option Tmp} {K:AS->Prop} (hx:Nx (XX0 O P x i fop args dst σ K)):GCall O P i fop args dst σ K:=GCall.by x hx.go
theorem qD {P P0:Program} (hP:P=P0) {f:FuncId} {cargs:List AV} {cbx:List (Option (List A))} {ids:List Nat} {i:Nat} {dst:Option Tmp} {σm:AS} {K:AS->Prop} {R:AV->List (Option (List A))->Prop} (hc:ACl P0 f cargs cbx R)
  (hK:∀res bx,R res bx->Nx (K ((zH0 ids i σm res bx).2.putO dst (zH0 ids i σm res bx).1))) (he:zT0 P0 f=true:=by rfl):GCallD P f cargs cbx ids i dst σm K:=GCallD.by hP he hc fun r b h=>(hK r b h).go
abbrev kk0:Root->Nat->Option Nat:=fun _ _=>none
theorem qL {O:Ops} {ts:Nat->Option TI} {P:Program} {C:Ctx} {σ:AS} {Q:Exit->AS->Prop} {c:Code} (nb:Nat) (ks:List Nat) (kk:Root->Nat->Option Nat) (I:Nat->AS->Prop) (h0:wF0 nb (fun t=>ks.contains t) kk σ fun σ'=>∃n,I n σ')
  (round:∀n σ,I n σ->Nx (nxt O ts P C c σ (tD0 (fun σ'=>wF0 nb (fun t=>ks.contains t) kk σ' fun σ''=>∃m,m < n/\I m σ'') Q))) (hC':C.bl0.length<=nb:=by simp at hC;simp[hC]):At O ts P C (.loop c) σ Q:=nL I hC' h0 fun n σ h=>(round n σ h).go
theorem qF {ts:Nat->Option TI} {P0:Program} (ht:∀n ti,ts n=some ti->tyOf P0 n=some ti) {f:FuncId} {fn:Func} {c:Code} {args:List AV} {bx:List (Option (List A))} {R0:AV->List (Option (List A))->Prop} (hf:P0.funcs[f]?=some fn) (n:Nat) (rs:List ResultVar)
  (h:∀bin cmp sadd scmp beq bnot band un wrap size byte chr sub len seg app get set nat nadd nsub repl text bytes mn mx nz nn idx bnd le all one lits isB sOk aOk mOk er,∀(hO:⟨bin,cmp,sadd,scmp,beq,bnot,band,un,wrap,size,byte,chr,sub,len,seg,app,get,set,nat,nadd,nsub,repl,text,bytes,mn,mx,nz,nn,idx,bnd,le,all,one,lits,isB,sOk,aOk,mOk,er⟩=Ops.std) (P:Program) (hP:P=P0) (C:Ctx) (hC:C.bl0.length=bx.length) (R:AV->List (Option (List A))->Prop) (hR:∀res bx',R0 res bx'->R res bx') (hM:P.follows .mixedOrders=true) (hseg:∀e,seg 0 (len e) e=e) (K:Nat) (hK:True),Nx (nxt ⟨bin,cmp,sadd,scmp,beq,bnot,band,un,wrap,size,byte,chr,sub,len,seg,app,get,set,nat,nadd,nsub,repl,text,bytes,mn,mx,nz,nn,idx,bnd,le,all,one,lits,isB,sOk,aOk,mOk,er⟩ ts P C c (tE0 args n bx) (FinAt ⟨bin,cmp,sadd,scmp,beq,bnot,band,un,wrap,size,byte,chr,sub,len,seg,app,get,set,nat,nadd,nsub,repl,text,bytes,mn,mx,nz,nn,idx,bnd,le,all,one,lits,isB,sOk,aOk,mOk,er⟩ ts bx.length rs R))) (hb:fn.body=some c:=by rfl)
  (hn:fn.ntmps=n:=by rfl) (hrs:fn.results.toList=rs:=by rfl) (hA:∀av∈args,xD0 av.cs:=by first|(simp[xD0,litI,litS,litB,A.stamp,A.rstamp,stampIn];done) | simp) (hB:∀cs,some cs∈bx->xD0 cs:=by first|(simp[xD0,litI,litS,litB,A.stamp,A.rstamp,stampIn];done) | simp) (hm:P0.follows .mixedOrders=true:=by rfl):ACl P0 f args bx R0:=
 XU0 ht n rs hf hb hn hrs hA hB fun O hO P hP C hC R' hR=>HN0 (by
  obtain ⟨bin,cmp,sadd,scmp,beq,bnot,band,un,wrap,size,byte,chr,sub,len,seg,app,get,set,nat,nadd,nsub,repl,text,bytes,mn,mx,nz,nn,idx,bnd,le,all,one,lits,isB,sOk,aOk,mOk,er⟩:=O;exact (h bin cmp sadd scmp beq bnot band un wrap size byte chr sub len seg app get set nat nadd nsub repl text bytes mn mx nz nn idx bnd le all one lits isB sOk aOk mOk er hO P hP C hC R' hR (by rw[hP];exact hm) (by intro e;cases hO;simp) 0 trivial).go)
end Go.Gv
/- What a row's reading tells of plain data: a tree, and its shape. -/
namespace Go.Gv
open Go.Av
variable {H:Type} {enc:TypeId×Value->H} {P:Program} {w:World} {spare:Nat->Bool} {held:Bool} {L:List TypeId}
end Go.Gv
/- Trees of a language of lines: terms, statements, rules, functions, programs; as data that is read, and what is counted in them. -/
namespace Go.Gv
open Go.Av
section
variable {P:Program} {t:TypeId} {ts:List T}
end
theorem mpA {O:Ops} (hO:O=Ops.std) {α:Type} {f:α->List T} {els:List (List T)} {l:List α} (he:els=l.map f) {i:Nat} (hi:i < l.length) :
  ∃x,x∈l/\l[i]?=some x/\l.take (i+1)=l.take i++[x]/\O.get els (O.nat (Int.ofNat i))=f x:=by
 subst hO;subst he;refine ⟨l[i],List.getElem_mem hi,List.getElem?_eq_getElem hi,List.take_succ_eq_append_getElem hi,?_⟩
 show (l.map f).getD i []=f l[i]
 simp[hi]
inductive Ex where
 | mk (k n:Int) (s:ByteArray) (l:List Ex)
 deriving Inhabited
mutual
def Ex.t:Ex->List T
 | .mk k n s l=>[.lit (.int .i64 k),.lit (.int .i64 n),.lit (.string s),.sl (Ex.ts l)]
def Ex.ts:List Ex->List (List T)
 | []=>[]
 | e::l=>Ex.t e::Ex.ts l
end
theorem Ex.ts_map:∀l,Ex.ts l=l.map Ex.t
 | []=>rfl
 | e::l=>by rw[Ex.ts,Ex.ts_map l,List.map_cons]
theorem Ex.t_mk (k n:Int) (s:ByteArray) (l:List Ex):(Ex.mk k n s l).t=[.lit (.int .i64 k),.lit (.int .i64 n),.lit (.string s),.sl (l.map Ex.t)]:=by rw[Ex.t,Ex.ts_map]
theorem Ex.t_len (e:Ex):e.t.length=4:=by cases e;rw[Ex.t];rfl
mutual
def Ex.sz:Ex->Nat
 | .mk _ _ s l=>s.size+l.length+Ex.szs l
def Ex.szs:List Ex->Nat
 | []=>0
 | e::l=>Ex.sz e+Ex.szs l
end
theorem Ex.szs_app:∀a b,Ex.szs (a++b)=Ex.szs a+Ex.szs b
 | [],b=>by simp[Ex.szs]
 | e::a,b=>by rw[List.cons_append,Ex.szs,Ex.szs,Ex.szs_app a b];omega
mutual
def Ex.parts:Ex->Nat
 | .mk _ _ _ l=>1+Ex.partss l
def Ex.partss:List Ex->Nat
 | []=>0
 | e::l=>Ex.parts e+Ex.partss l
end
theorem Ex.partss_app:∀a b,Ex.partss (a++b)=Ex.partss a+Ex.partss b
 | [],b=>by simp[Ex.partss]
 | e::a,b=>by rw[List.cons_append,Ex.partss,Ex.partss,Ex.partss_app a b];omega
theorem Ex.partss_one (e:Ex):Ex.partss [e]=e.parts:=by simp[Ex.partss]
mutual
theorem Ex.parts_le:∀e:Ex,e.parts<=1+e.sz
 | .mk k n s l=>by have:=Ex.partss_le l;rw[Ex.parts,Ex.sz];omega
theorem Ex.partss_le:∀l:List Ex,Ex.partss l<=l.length+Ex.szs l
 | []=>by simp[Ex.partss]
 | e::l=>by have:=Ex.parts_le e;have:=Ex.partss_le l;rw[Ex.partss,Ex.szs,List.length_cons];omega
end
inductive Sm where
 | mk (k:Int) (s t:ByteArray) (x:List Ex) (a b:List Sm)
 deriving Inhabited
mutual
def Sm.t:Sm->List T
 | .mk k s t x a b=>[.lit (.int .i64 k),.lit (.string s),.lit (.string t),.sl (x.map Ex.t),.sl (Sm.ts a),.sl (Sm.ts b)]
def Sm.ts:List Sm->List (List T)
 | []=>[]
 | e::l=>Sm.t e::Sm.ts l
end
theorem Sm.ts_map:∀l,Sm.ts l=l.map Sm.t
 | []=>rfl
 | e::l=>by rw[Sm.ts,Sm.ts_map l,List.map_cons]
theorem Sm.t_mk (k:Int) (s t:ByteArray) (x:List Ex) (a b:List Sm):(Sm.mk k s t x a b).t=[.lit (.int .i64 k),.lit (.string s),.lit (.string t),.sl (x.map Ex.t),.sl (a.map Sm.t),.sl (b.map Sm.t)]:=by
 rw[Sm.t,Sm.ts_map,Sm.ts_map]
theorem Sm.t_len (e:Sm):e.t.length=6:=by cases e;rw[Sm.t];rfl
mutual
def Sm.sz:Sm->Nat
 | .mk _ s t x a b=>s.size+t.size+(x.length+Ex.szs x)+(a.length+Sm.szs a)+(b.length+Sm.szs b)
def Sm.szs:List Sm->Nat
 | []=>0
 | e::l=>Sm.sz e+Sm.szs l
end
theorem Sm.szs_app:∀a b,Sm.szs (a++b)=Sm.szs a+Sm.szs b
 | [],b=>by simp[Sm.szs]
 | e::a,b=>by rw[List.cons_append,Sm.szs,Sm.szs,Sm.szs_app a b];omega
mutual
def Sm.parts:Sm->Nat
 | .mk _ _ _ x a b=>Ex.partss x+Sm.partss a+Sm.partss b
def Sm.partss:List Sm->Nat
 | []=>0
 | e::l=>Sm.parts e+Sm.partss l
end
theorem Sm.partss_app:∀a b,Sm.partss (a++b)=Sm.partss a+Sm.partss b
 | [],b=>by simp[Sm.partss]
 | e::a,b=>by rw[List.cons_append,Sm.partss,Sm.partss,Sm.partss_app a b];omega
theorem Sm.partss_one (e:Sm):Sm.partss [e]=e.parts:=by simp[Sm.partss]
mutual
theorem Sm.parts_le:∀e:Sm,e.parts<=e.sz
 | .mk k s t x a b=>by have:=Ex.partss_le x;have:=Sm.partss_le a;have:=Sm.partss_le b;rw[Sm.parts,Sm.sz];omega
theorem Sm.partss_le:∀l:List Sm,Sm.partss l<=Sm.szs l
 | []=>by simp[Sm.partss]
 | e::l=>by have:=Sm.parts_le e;have:=Sm.partss_le l;rw[Sm.partss,Sm.szs];omega
end
structure Ru where
 k:Int
 p:Ex
 a:List Sm
 deriving Inhabited
structure Fu where
 name:ByteArray
 params:List ByteArray
 a:List Sm
 deriving Inhabited
structure Pg where
 rules:List Ru
 fns:List Fu
 deriving Inhabited
def strT (s:ByteArray):List T:=[.lit (.string s)]
def Ru.t (r:Ru):List T:=.lit (.int .i64 r.k)::(r.p.t++[.sl (r.a.map Sm.t)])
def Fu.t (f:Fu):List T:=[.lit (.string f.name),.sl (f.params.map strT),.sl (f.a.map Sm.t)]
def Pg.t (p:Pg):List T:=[.sl (p.rules.map Ru.t),.sl (p.fns.map Fu.t)]
theorem Ru.t_len (r:Ru):r.t.length=6:=by simp[Ru.t,Ex.t_len]
theorem Fu.t_len (f:Fu):f.t.length=3:=rfl
def mV0 (l:List ByteArray):Nat:=(l.map ByteArray.size).sum
def Ru.sz (r:Ru):Nat:=r.p.sz+(r.a.length+Sm.szs r.a)
def Fu.sz (f:Fu):Nat:=f.name.size+(f.params.length+mV0 f.params)+(f.a.length+Sm.szs f.a)
def Ru.szs (l:List Ru):Nat:=(l.map Ru.sz).sum
def Fu.szs (l:List Fu):Nat:=(l.map Fu.sz).sum
def Pg.sz (p:Pg):Nat:=(p.rules.length+Ru.szs p.rules)+(p.fns.length+Fu.szs p.fns)
def Ru.parts (r:Ru):Nat:=(if r.k=4 then r.p.parts else 0)+Sm.partss r.a
def Ru.partss (l:List Ru):Nat:=(l.map Ru.parts).sum
def Fu.partss (l:List Fu):Nat:=(l.map fun f=>Sm.partss f.a).sum
def Pg.parts (p:Pg):Nat:=Ru.partss p.rules+Fu.partss p.fns
theorem Ru.partss_app (a b:List Ru):Ru.partss (a++b)=Ru.partss a+Ru.partss b:=by simp[Ru.partss]
theorem Ru.partss_one (a:Ru):Ru.partss [a]=a.parts:=by simp[Ru.partss]
theorem Fu.partss_app (a b:List Fu):Fu.partss (a++b)=Fu.partss a+Fu.partss b:=by simp[Fu.partss]
theorem Fu.partss_one (a:Fu):Fu.partss [a]=Sm.partss a.a:=by simp[Fu.partss]
theorem Ru.parts_le (r:Ru):r.parts<=1+r.sz:=by
 have:=Ex.parts_le r.p;have:=Sm.partss_le r.a;unfold Ru.parts Ru.sz
 split<;>omega
theorem Ru.partss_le:∀l:List Ru,Ru.partss l<=l.length+Ru.szs l
 | []=>by simp[Ru.partss]
 | r::l=>by
  have h1:=Ru.parts_le r;have h2:=Ru.partss_le l;simp only[Ru.partss,Ru.szs,List.map_cons,List.sum_cons,List.length_cons] at h2 |-;omega
theorem Fu.partss_le:∀l:List Fu,Fu.partss l<=Fu.szs l
 | []=>by simp[Fu.partss]
 | f::l=>by
  have h1:=Sm.partss_le f.a;have h2:=Fu.partss_le l;simp only[Fu.partss,Fu.szs,Fu.sz,List.map_cons,List.sum_cons] at h2 |-;omega
end Go.Gv
/- Short names and small lemmas for texts over a program's table of types. -/
namespace Go.Gv
open Go.Av
abbrev litI (x:Int):AV:=⟨.one,[.lit (.int .i64 x)]⟩
abbrev litB (b:Bool):AV:=⟨.one,[.lit (.bool b)]⟩
abbrev litS (s:ByteArray):AV:=⟨.one,[.lit (.string s)]⟩
def strs (l:List ByteArray):List (List T):=l.map fun s=>[T.lit (.string s)]
@[simp] theorem RF0 (l:List ByteArray):(strs l).length=l.length:=by simp[strs]
@[simp] theorem kE0 (l:List ByteArray):∀x∈strs l,x.length=1:=by simp[strs]
@[simp] theorem pL1 (l:List ByteArray):∀x∈strs l,∀t∈x,isL t=true:=by simp[strs,isL]
theorem zW0 {x:Int} (h:-9223372036854775808<=x/\x<=9223372036854775807):IntKind.i64.wrap x=x:=IntWalk.i64_in x h
theorem ba_eq {a b:ByteArray}:(a.toList == b.toList)=decide (a=b):=by
 rw[ByteArray.toList_eq,ByteArray.toList_eq]
 by_cases h:a=b
 ·subst h;simp
 ·have:a.data.toList≠b.data.toList:=fun e=>h (by cases a;cases b;simp at e;rw[e])
  rw[decide_eq_false h];simpa using fun e=>this (by rw[e])
theorem sqL (a b:ByteArray):dX0 .eql a b=decide (a=b):=ba_eq
theorem xJ0 (a b:ByteArray):dX0 .neq a b=!decide (a=b):=by simp only[dX0,ba_eq]
theorem iSc {O:Ops} (hO:O=Ops.std) {i:Nat} (h:i < 9223372036854775807):O.bin .add .i64 (Int.ofNat i) 1=Int.ofNat (i+1):=by
 subst hO;exact zW0 (x:=(i:Int)+1) (by omega)
theorem yU1 {O:Ops} (hO:O=Ops.std) {n:Int} (h:0<=n):O.nn n:=by subst hO;exact h
theorem nF1 {O:Ops} (hO:O=Ops.std) {n:Int} (h:n≠0):O.nz n:=by subst hO;exact h
theorem dR0 {O:Ops} (hO:O=Ops.std) {n:Nat} {a b:List (List T)} (h1:(a.length+b.length) * n<=140737488355328) (h2:a.length+b.length<=9223372036854775807):O.aOk n a b:=by subst hO;exact ⟨h1,h2⟩
theorem nZ1 {O:Ops} (hO:O=Ops.std) {i:Int} {n:Nat} (h:0<=i/\i < Int.ofNat n):O.idx i n:=by subst hO;exact h
theorem ixN {O:Ops} (hO:O=Ops.std) {i n:Nat} (h:i < n):O.idx (Int.ofNat i) n:=nZ1 hO ⟨Int.natCast_nonneg _,Int.ofNat_lt.2 h⟩
theorem vM1 {O:Ops} (hO:O=Ops.std) {outs:List (List T)} {i n K:Nat} (hi:i < outs.length) (hn:n=i) (hk:∀e∈outs,e.length=K):O.one outs n K:=by
 subst hO;subst hn;refine ⟨hi,?_⟩;rw[List.getD_eq_getElem?_getD,List.getElem?_eq_getElem hi];exact hk _ (List.getElem_mem hi)
theorem alO {O:Ops} (hO:O=Ops.std) {els:List (List T)} {K:Nat} (hk:∀e∈els,e.length=K):O.all els K:=by subst hO;exact hk
theorem lnO {O:Ops} (hO:O=Ops.std) {els:List (List T)} {N:Nat} (h:els.length=N):O.len els=N:=by subst hO;exact h
end Go.Gv
/- What is made of trees: each slice one's own; and what the helpers of an exact law say. -/
namespace Go.Gv
open Go.Av
end Go.Gv
/- The machine's parts as data that is read, and what is counted in them. -/
namespace Go.Gv
open Go.Av
theorem qG0 {O:Ops} (hO:O=Ops.std) {a b:Nat} (h:a+b<=9223372036854775807):O.bin .add .i64 (Int.ofNat a) (Int.ofNat b)=Int.ofNat (a+b):=by
 subst hO;exact zW0 (x:=(a:Int)+(b:Int)) (by omega)
abbrev roT (els:List (List T)):AV:=⟨.one,[.ro true els]⟩
abbrev agT (ts:List T):AV:=⟨.agg,ts.map (tA true)⟩
def intT (n:Int):List T:=[.lit (.int .i64 n)]
structure Vl where
 k:Int
 n:Int
 s:ByteArray
 deriving Inhabited
def Vl.t (x:Vl):List T:=[.lit (.int .i64 x.k)]++([.lit (.int .i64 x.n)]++([.lit (.string x.s)]))
theorem Vl.t_len (x:Vl):x.t.length=3:=by simp[Vl.t]
def Vl.sz (x:Vl):Nat:=x.s.size
def Vl.szs (l:List Vl):Nat:=(l.map Vl.sz).sum
end Go.Gv
/- What is told of terms and statements, one after the other; generic in what is told. -/
namespace Go.Gv
open Go.Av
def Sm.x:Sm->List Ex | .mk _ _ _ x _ _=>x
section
variable {α:Type}
end
end Go.Gv
/- Values in a box that nothing looks into: a variable, which is the identity: what stands in a state is written there; a function's opening with the facts on them; the steps of a walk. -/
namespace Go.Gv
open Go.Av
def II (I:∀{α:Type},α->α):Prop:=@I=@id
theorem II.e {I:∀{α:Type},α->α} (h:II @I) {α:Type} (a:α):I a=a:=by
 have h:@I=@id:=h;rw[h];rfl
section
variable {I:∀{α:Type},α->α} (h:II @I)
include h
theorem II.u0 {α:Type} (x:α):I (I x)=I x:=by rw[h.e]
theorem II.u1 {α β:Type} (f:α->β) (x:α):I (f (I x))=I (f x):=by rw[h.e x]
theorem II.u2 {α β γ:Type} (f:α->γ->β) (x:α) (y:γ):I (f (I x) y)=I (f x y):=by rw[h.e x]
theorem II.u3 {α β γ δ:Type} (f:α->γ->δ->β) (x:α) (y:γ) (z:δ):I (f (I x) y z)=I (f x y z):=by rw[h.e x]
end
def Ex.k:Ex->Int | .mk k _ _ _=>k
def Ex.n:Ex->Int | .mk _ n _ _=>n
def Ex.s:Ex->ByteArray | .mk _ _ s _=>s
def Ex.l:Ex->List Ex | .mk _ _ _ l=>l
def Sm.k:Sm->Int | .mk k _ _ _ _ _=>k
def Sm.s:Sm->ByteArray | .mk _ s _ _ _ _=>s
def Sm.tt:Sm->ByteArray | .mk _ _ t _ _ _=>t
def Sm.a:Sm->List Sm | .mk _ _ _ _ a _=>a
def Sm.b:Sm->List Sm | .mk _ _ _ _ _ b=>b
def byT (n:Int):List T:=[.lit (.int .u8 n)]
structure Ik where
 op:Int
 n:Int
 deriving Inhabited,DecidableEq
def Ik.t (x:Ik):List T:=[.lit (.int .i64 x.op),.lit (.int .i64 x.n)]
def IffW (p q:Prop):Prop:=p↔q
structure Fx (I:∀{α:Type},α->α) (bin:BinOp->IntKind->Int->Int->Int) (cmp:BinOp->Int->Int->Bool) (sadd:ByteArray->ByteArray->ByteArray) (scmp:BinOp->ByteArray->ByteArray->Bool) (beq:Bool->Bool->Bool) (bnot:Bool->Bool) (band:Bool->Bool->Bool) (un:UnOp->IntKind->Int->Int) (wrap:IntKind->Int->Int) (size:ByteArray->Nat) (byte:ByteArray->Nat->Int) (chr:Int->ByteArray) (sub:ByteArray->Nat->Nat->ByteArray) (len:List (List T)->Nat) (seg:Nat->Nat->List (List T)->List (List T)) (app:List (List T)->List (List T)->List (List T)) (get:List (List T)->Nat->List T) (set:List (List T)->Nat->List T->List (List T)) (nat:Int->Nat) (nadd:Nat->Nat->Nat) (nsub:Nat->Nat->Nat) (repl:Nat->List T->List (List T)) (text:List (List T)->ByteArray) (bytes:ByteArray->List (List T)) (mn:Int->Int->Int) (mx:Int->Int->Int) (nz:Int->Prop) (nn:Int->Prop) (idx:Int->Nat->Prop) (bnd:Int->Nat->Prop) (le:Nat->Nat->Prop) (all:List (List T)->Nat->Prop) (one:List (List T)->Nat->Nat->Prop) (lits:List (List T)->Prop) (isB:List (List T)->Prop) (sOk:ByteArray->ByteArray->Prop) (aOk:Nat->List (List T)->List (List T)->Prop) (mOk:Nat->Int->Int->Prop) (er:List (List T)->List (List T)):Prop where
 r1:∀{α:Type} (f:α->List T) (l:List α),len (I (l.map f))=I l.length
 r2:∀{α:Type} [Inhabited α] (f:α->List T) (l:List α) (i:Nat),i < l.length->get (I (l.map f)) (nat (Int.ofNat (I i)))=f l[i]!
 r3:∀i:Nat,i < 9223372036854775807->bin .add .i64 (Int.ofNat (I i)) 1=Int.ofNat (I (i+1))
 r4:∀{α:Type} (f:α->List T) (a b:List α),app (I (a.map f)) (I (b.map f))=I ((a++b).map f)
 r5:∀{α:Type} (f:α->List T) (l:List α),app [] (I (l.map f))=I (l.map f)
 r6:∀{α:Type} (f:α->List T) (l:List α),app (I (l.map f)) []=I (l.map f)
 r7:∀{α:Type} (f:α->List T) (l:List α),seg 0 (I l.length) (I (l.map f))=I (l.map f)
 r8:∀(l:List Ik) (x y:Int) (z:List (List T)),app (I (l.map Ik.t)) ([.lit (.int .i64 x),.lit (.int .i64 y)]::z)=app (I ((l++[(⟨x,y⟩:Ik)]).map Ik.t)) z
 r9:∀(x y:Int) (z:List (List T)),app [] ([.lit (.int .i64 x),.lit (.int .i64 y)]::z)=app (I ([(⟨x,y⟩:Ik)].map Ik.t)) z
 r10:∀(x y:Int) (z:List (List T)),app [[.lit (.int .i64 x),.lit (.int .i64 y)]] z=app (I ([(⟨x,y⟩:Ik)].map Ik.t)) z
 r11:∀(x y x' y':Int) (z:List (List T)),app [[.lit (.int .i64 x),.lit (.int .i64 y)],[.lit (.int .i64 x'),.lit (.int .i64 y')]] z=app (I ([(⟨x,y⟩:Ik),⟨x',y'⟩].map Ik.t)) z
 r12:∀(x y x' y' x2 y2:Int) (z:List (List T)),app [[.lit (.int .i64 x),.lit (.int .i64 y)],[.lit (.int .i64 x'),.lit (.int .i64 y')],[.lit (.int .i64 x2),.lit (.int .i64 y2)]] z=app (I ([(⟨x,y⟩:Ik),⟨x',y'⟩,⟨x2,y2⟩].map Ik.t)) z
 r13:∀(l:List ByteArray) (s:ByteArray),app (I (l.map strT)) [[.lit (.string s)]]=I ((l++[s]).map strT)
 r14:∀(s:ByteArray),app [] [[.lit (.string s)]]=I ([s].map strT)
 r15:∀(l:List Vl) (k n:Int) (s:ByteArray),app (I (l.map Vl.t)) [[.lit (.int .i64 k),.lit (.int .i64 n),.lit (.string s)]]=I ((l++[(⟨k,n,s⟩:Vl)]).map Vl.t)
 r16:∀(s:ByteArray),size (I s)=I s.size
 r17:∀{α:Type} [Inhabited α] (f:α->List T) (l:List α) (i:Nat),i < l.length->get (I (l.map f)) (nadd 0 (nat (Int.ofNat (I i))))=f l[i]!
 r20:∀{α:Type} [Inhabited α] (f:α->List T) (l:List α) (x:Int),0<=x/\x < l.length->get (I (l.map f)) (nat (I x))=f l[x.toNat]!
 r21:∀{α:Type} [Inhabited α] (f:α->List T) (l:List α),0 < l.length->get (I (l.map f)) (nat 0)=f l[0]!
 r22:∀{α:Type} [Inhabited α] (f:α->List T) (l:List α),1 < l.length->get (I (l.map f)) (nat 1)=f l[1]!
 r18:bnot true=false
 r19:bnot false=true
 k1:∀a b,(cmp .eql a b=true)=(a=b)
 k2:∀a b,(cmp .neq a b=true)=(a≠b)
 k3:∀a b,(cmp .lss a b=true)=(a < b)
 k4:∀a b,(cmp .leq a b=true)=(a<=b)
 k5:∀a b,(cmp .gtr a b=true)=(b < a)
 k6:∀a b,(cmp .geq a b=true)=(b<=a)
 k7:∀a b,(scmp .eql a b=true)=(a=b)
 k8:∀a b,(scmp .neq a b=true)=(a≠b)
 k9:∀a,(bnot a=true)=¬(a=true)
 k10:∀a b,(band a b=true)=(a=true/\b=true)
 k11:∀a,(beq true a=true)=(a=true)
 k12:∀a,(beq false a=true)=¬(a=true)
 k13:∀a x y b,(beq (cmp a x y) b=true)=IffW (cmp a x y=true) (b=true)
 r23:∀a b:Nat,a+b < 9223372036854775807->bin .add .i64 (Int.ofNat (I a)) (Int.ofNat (I b))=Int.ofNat (I (a+b))
 r24:∀(l:List Ex) (e:Ex) (z:List T),set (app (I (l.map Ex.t)) [z]) (nadd 0 (nat (Int.ofNat (I l.length)))) [.lit (.int .i64 (I e.k)),.lit (.int .i64 (I e.n)),.lit (.string (I e.s)),.sl (I (e.l.map Ex.t))]=I ((l++[e]).map Ex.t)
 r25:∀(l:List Sm) (y:Sm) (z:List T),set (app (I (l.map Sm.t)) [z]) (nadd 0 (nat (Int.ofNat (I l.length)))) [.lit (.int .i64 (I y.k)),.lit (.string (I y.s)),.lit (.string (I y.tt)),.sl (I (y.x.map Ex.t)),.sl (I (y.a.map Sm.t)),.sl (I (y.b.map Sm.t))]=I ((l++[y]).map Sm.t)
 r26:∀(l:List Ex) (e:Ex),app (I (l.map Ex.t)) [[.lit (.int .i64 (I e.k)),.lit (.int .i64 (I e.n)),.lit (.string (I e.s)),.sl (I (e.l.map Ex.t))]]=I ((l++[e]).map Ex.t)
 r27:∀(l:List Sm) (y:Sm),app (I (l.map Sm.t)) [[.lit (.int .i64 (I y.k)),.lit (.string (I y.s)),.lit (.string (I y.tt)),.sl (I (y.x.map Ex.t)),.sl (I (y.a.map Sm.t)),.sl (I (y.b.map Sm.t))]]=I ((l++[y]).map Sm.t)
 r28:∀(e:Ex),app [] [[.lit (.int .i64 (I e.k)),.lit (.int .i64 (I e.n)),.lit (.string (I e.s)),.sl (I (e.l.map Ex.t))]]=I ([e].map Ex.t)
 r29:∀(y:Sm),app [] [[.lit (.int .i64 (I y.k)),.lit (.string (I y.s)),.lit (.string (I y.tt)),.sl (I (y.x.map Ex.t)),.sl (I (y.a.map Sm.t)),.sl (I (y.b.map Sm.t))]]=I ([y].map Sm.t)
 n13:∀{α:Type} (f:α->List T) (l:List α) (z:List T),idx (Int.ofNat (I l.length)) (len (app (I (l.map f)) [z]))
 n14:∀(k:Nat) {α:Type} (f:α->List T) (l:List α) (z:List T),(∀x,(f x).length=k)->z.length=k->one (app (I (l.map f)) [z]) (nadd 0 (nat (Int.ofNat (I l.length)))) k
 n15:∀(i n:Nat),i < n->idx (Int.ofNat (nadd 0 (nat (Int.ofNat (I i))))) (I n)
 d1:∀a b,cmp .eql a b=decide (a=b)
 d2:∀a b,cmp .neq a b=decide (a≠b)
 d3:∀a b,cmp .lss a b=decide (a < b)
 d4:∀a b,cmp .leq a b=decide (a<=b)
 d5:∀a b,cmp .gtr a b=decide (b < a)
 d6:∀a b,cmp .geq a b=decide (b<=a)
 d7:∀a b,scmp .eql a b=decide (a=b)
 d8:∀a b,scmp .neq a b=decide (a≠b)
 n1:∀(i n:Nat),i < n->idx (Int.ofNat (I i)) (I n)
 n2:∀{α:Type} (f:α->List T) (l:List α) (k:Nat),(∀x,(f x).length=k)->all (I (l.map f)) k
 n3:∀(m:Nat) {α β:Type} (f:α->List T) (g:β->List T) (a:List α) (b:List β),m<=128->a.length+b.length<=1099511627776->aOk m (I (a.map f)) (I (b.map g))
 n4:∀(a b:ByteArray),a.size+b.size<=9223372036854775807->sOk (I a) (I b)
 n5:∀(x:Int) (n:Nat),0<=x/\x < (n:Int)->idx (I x) (I n)
 n8:∀(x:Int) (n:Nat),0<=x/\x < n->idx x (I n)
 n9:∀(a:List (List T)) (k:Nat),(∀e∈a,e.length=k)->all a k
 n10:∀(m:Nat) {α:Type} (f:α->List T) (a:List α) (b:List (List T)),m<=128->a.length+b.length<=1099511627776->aOk m (I (a.map f)) b
 n11:∀(m:Nat) {α:Type} (f:α->List T) (a:List (List T)) (b:List α),m<=128->a.length+b.length<=1099511627776->aOk m a (I (b.map f))
 n12:∀(m:Nat) (a b:List (List T)),m<=128->a.length+b.length<=1099511627776->aOk m a b
 n6:∀(m:Nat) (a b:List (List T)),(a.length+b.length) * m<=140737488355328->a.length+b.length<=9223372036854775807->aOk m a b
 n7:∀(i n:Nat) (l:List (List T)),l.length=n->i < n->idx (Int.ofNat (nadd 0 (nat (Int.ofNat (I i))))) (len l)
theorem Fx.of {I:∀{α:Type},α->α} (hI:II @I) {O:Ops} (hO:O=Ops.std):Fx @I O.bin O.cmp O.sadd O.scmp O.beq O.bnot O.band O.un O.wrap O.size O.byte O.chr O.sub O.len O.seg O.app O.get O.set O.nat O.nadd O.nsub O.repl O.text O.bytes O.mn O.mx O.nz O.nn O.idx O.bnd O.le O.all O.one O.lits O.isB O.sOk O.aOk O.mOk O.er:=by
 subst hO;have hI:@I=@id:=hI;subst hI
 constructor<;>try (simp[Ops.std,sCm,sqL,xJ0,Ik.t,Vl.t,strT];done)
 case r2=>intro α _ f l i h;simp[Ops.std,h]
 case r3=>intro i h;exact iSc (O:=Ops.std) rfl h
 case r26=>intro l e;cases e;simp[Ops.std,Ex.t_mk,Ex.k,Ex.n,Ex.s,Ex.l]
 case r27=>intro l e;cases e;simp[Ops.std,Sm.t_mk,Sm.k,Sm.s,Sm.tt,Sm.x,Sm.a,Sm.b]
 case r28=>intro e;cases e;simp[Ops.std,Ex.t_mk,Ex.k,Ex.n,Ex.s,Ex.l]
 case r29=>intro e;cases e;simp[Ops.std,Sm.t_mk,Sm.k,Sm.s,Sm.tt,Sm.x,Sm.a,Sm.b]
 case r24=>intro l e z;cases e;simp[Ops.std,Ex.t_mk,Ex.k,Ex.n,Ex.s,Ex.l]
 case r25=>intro l e z;cases e;simp[Ops.std,Sm.t_mk,Sm.k,Sm.s,Sm.tt,Sm.x,Sm.a,Sm.b]
 case n13=>intro α f l z;refine ixN rfl ?_;simp[Ops.std]
 case k13=>intro a x y b;unfold IffW;show (((_:Bool) == b)=true)=_;rw[beq_iff_eq,Bool.eq_iff_iff]
 case r23=>intro a b h;simp only[Ops.std,yW0,Int.ofNat_eq_natCast,id];rw[zW0 (by omega)];omega
 case r20=>
  intro α _ f l x h;have h1:x.toNat < l.length:=by omega
  simp[Ops.std,h1]
 case r21=>intro α _ f l h;simp[Ops.std,h]
 case r22=>intro α _ f l h;simp[Ops.std,h]
 case r17=>intro α _ f l i h;simp[Ops.std,h]
 case d1=>intro a b;show (a == b)=_;by_cases h:a=b<;>simp[h]
 case d2=>intro a b;show (a != b)=_;by_cases h:a=b<;>simp[h]
 case r7=>intro α f l;show ((l.map f).drop 0).take l.length=_;rw[List.drop_zero,List.take_of_length_le (by simp)];rfl
 case n2=>intro α f l k h x hx;simp at hx;obtain ⟨y,_,rfl⟩:=hx;exact h y
 case n3=>
  intro m α β f g a b hm h;have:=Nat.mul_le_mul h hm;exact ⟨by simp;omega,by simp;omega⟩
 case n10=>
  intro m α f a b hm h;have:=Nat.mul_le_mul h hm;exact ⟨by simp;omega,by simp;omega⟩
 case n11=>
  intro m α f a b hm h;have:=Nat.mul_le_mul h hm;exact ⟨by simp;omega,by simp;omega⟩
 case n12=>
  intro m a b hm h;have:=Nat.mul_le_mul h hm;exact ⟨by omega,by omega⟩
 case n6=>intro m a b h1 h2;exact ⟨h1,h2⟩
 case n7=>intro i n l h h1;subst h;show (0:Int)<=_/\_;simp[Ops.std];omega
section
variable {I:∀{α:Type},α->α} (h:II @I)
include h
theorem Ex.tI (x:Ex):x.t=[.lit (.int .i64 (I x.k)),.lit (.int .i64 (I x.n)),.lit (.string (I x.s)),.sl (I (x.l.map Ex.t))]:=by cases x;simp only[h.e,Ex.t_mk,Ex.k,Ex.n,Ex.s,Ex.l]
theorem Sm.tI (x:Sm):x.t=[.lit (.int .i64 (I x.k)),.lit (.string (I x.s)),.lit (.string (I x.tt)),.sl (I (x.x.map Ex.t)),.sl (I (x.a.map Sm.t)),.sl (I (x.b.map Sm.t))]:=by cases x;simp only[h.e,Sm.t_mk,Sm.k,Sm.s,Sm.tt,Sm.x,Sm.a,Sm.b]
theorem Ru.tI (x:Ru):x.t=[.lit (.int .i64 (I x.k)),.lit (.int .i64 (I x.p.k)),.lit (.int .i64 (I x.p.n)),.lit (.string (I x.p.s)),.sl (I (x.p.l.map Ex.t)),.sl (I (x.a.map Sm.t))]:=by rw[Ru.t,Ex.tI h];simp only[h.e];rfl
theorem Fu.tI (x:Fu):x.t=[.lit (.string (I x.name)),.sl (I (x.params.map strT)),.sl (I (x.a.map Sm.t))]:=by simp only[h.e];rfl
theorem JD0 (x:ByteArray):strT x=[.lit (.string (I x))]:=by simp only[h.e];rfl
theorem Vl.tI (x:Vl):x.t=[.lit (.int .i64 (I x.k)),.lit (.int .i64 (I x.n)),.lit (.string (I x.s))]:=by simp only[h.e];rfl
theorem GN0 (x:Int):intT x=[.lit (.int .i64 (I x))]:=by simp only[h.e];rfl
theorem qJ1 (x:Int):byT x=[.lit (.int .u8 (I x))]:=by simp only[h.e];rfl
theorem Ik.tI (x:Ik):x.t=[.lit (.int .i64 (I x.op)),.lit (.int .i64 (I x.n))]:=by simp only[h.e];rfl
end
theorem Ex.ind {P:Ex->Prop} (h:∀e,(∀x∈e.l,P x)->P e):∀e,P e:=by
 have key:∀(n:Nat) (e:Ex),SizeOf.sizeOf e < n->P e:=by
  intro n
  induction n with
  | zero=>intro e h;omega
  | succ n ih=>
   intro e he;refine h e fun x hx=>ih x ?_;cases e;have:=List.sizeOf_lt_of_mem hx;simp only[Ex.l] at this;simp at he;omega
 exact fun e=>key _ e (Nat.lt_succ_self _)
theorem Sm.ind {P:Sm->Prop} (h:∀e,(∀x∈e.a++e.b,P x)->P e):∀e,P e:=by
 have key:∀(n:Nat) (e:Sm),SizeOf.sizeOf e < n->P e:=by
  intro n
  induction n with
  | zero=>intro e h;omega
  | succ n ih=>
   intro e he;refine h e fun x hx=>ih x ?_;cases e;simp at he;rcases List.mem_append.1 hx with hx | hx<;>(have:=List.sizeOf_lt_of_mem hx;simp only[Sm.a,Sm.b] at this;omega)
 exact fun e=>key _ e (Nat.lt_succ_self _)
@[simp,reducible] def eA (I:∀{α:Type},α->α) (e:Ex):AV:=⟨.agg,[.lit (.int .i64 (I e.k)),.lit (.int .i64 (I e.n)),.lit (.string (I e.s)),.ro true (I (e.l.map Ex.t))]⟩
@[simp,reducible] def sA (I:∀{α:Type},α->α) (y:Sm):AV:=⟨.agg,[.lit (.int .i64 (I y.k)),.lit (.string (I y.s)),.lit (.string (I y.tt)),.ro true (I (y.x.map Ex.t)),.ro true (I (y.a.map Sm.t)),.ro true (I (y.b.map Sm.t))]⟩
@[simp,reducible] def smA (I:∀{α:Type},α->α) (l:List Sm):AV:=⟨.one,[.ro true (I (l.map Sm.t))]⟩
@[simp,reducible] def pA (I:∀{α:Type},α->α) (p:Pg):AV:=⟨.agg,[.ro true (I (p.rules.map Ru.t)),.ro true (I (p.fns.map Fu.t))]⟩
theorem zD0 {α:Type} [Inhabited α] {l:List α} {i:Nat} (h:i < l.length):l[i]!∈l:=by
 rw[List.getElem!_eq_getElem?_getD,List.getElem?_eq_getElem h];exact List.getElem_mem h
theorem zZ0 {α:Type} [Inhabited α] {l:List α} {i:Nat} (h:i < l.length):l.take (i+1)=l.take i++[l[i]!]:=by
 rw[List.take_succ_eq_append_getElem h,List.getElem!_eq_getElem?_getD,List.getElem?_eq_getElem h];rfl
theorem mV1 {α:Type} [Inhabited α] {l:List α} {i:Nat} (h:i < l.length):l.drop i=l[i]!::l.drop (i+1):=by
 rw[List.drop_eq_getElem_cons h,List.getElem!_eq_getElem?_getD,List.getElem?_eq_getElem h];rfl
end Go.Gv
/- Avs: a region whose last two stores are in no order. -/
namespace Go.Gv
open Go.Av
variable {P:Program} {ts:Nat->Option TI} {ops:Array Oper} {C:Ctx} {Q:Exit->Act->World->Prop} {base:Nat}
end Go.Gv
/- Avs: the last two stores of a region, in whatever order. -/
namespace Go.Av
variable {P:Program} {C:Ctx} {X:List Nat} {σ σ1:AS} {a:Act} {w:World} {base i:Nat}
end Go.Av
/- Avs: the rule for such regions. -/
namespace Go.Gv
open Go.Av
variable {P:Program} {ts:Nat->Option TI} {ops:Array Oper} {C:Ctx} {Q:Exit->Act->World->Prop} {base:Nat}
theorem run_store {a:Act} {w:World} {t:TypeId} {p x:Operand} {g o:Nat} {row:Array Value} (hp:a.eval p=.pointer (some ⟨g,o,none⟩)) (h:(storeVar t ⟨g,o,none⟩ (a.eval x)).run P w=.ok () (w.setRow g row)) (dst:Option Tmp) (type:TypeId) (pos:String) (after:Array Edge) (guard:Option (Nat×Bool)) :
  (execOp a.eval ⟨dst,.store t p x,type,pos,after,guard⟩).run P w=.ok .skip (w.setRow g row):=by
 simp only[execOp,hp,Instr.storeAt,Instr.sureAddr,pure_bind];simp only[Sem.run_bind,h]
 rfl
end Go.Gv
/- Avs: the rule itself. -/
namespace Go.Gv
open Go.Av
variable {P:Program} {ts:Nat->Option TI} {ops:Array Oper} {C:Ctx} {O:Ops} {σ:AS} {Q:Exit->AS->Prop}
end Go.Gv
namespace Go.Gv
open Go.Av
variable {P:Program} {ts:Nat->Option TI} {ops:Array Oper} {C:Ctx} {O:Ops} {σ:AS} {Q:Exit->AS->Prop}
end Go.Gv
