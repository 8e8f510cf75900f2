/- Part PD7 of the proof: Avs: a slice of ones own that lies in a cell is let go: it is read alone from here on. / What a walk does, written once: theorems that give back what they are given the way from the one to the other is their last argument, with the walks tactics as its default proof. / What is told of terms and statements, one after the other generic in what is told. / Values in a box that nothing looks into: a variable, which is the identity: what stands in a state is written there a functions opening with the  -/
import Derived.Test.YtnmkmfancgcaeaaGreatDoorPD5
import Derived.Test.YtnmkmfancgcaeaaGreatDoorPD6
set_option linter.all false
/- Avs: a slice of one's own that lies in a cell is let go: it is read alone from here on. -/
namespace Go.Gv
open Go.Av
variable {P:Program} {ts:Nat->Option TI} {C:Ctx} {O:Ops} {σ:AS} {Q:Exit->AS->Prop} {a:Act} {w:World}
end Go.Gv
/- What a walk does, written once: theorems that give back what they are given; the way from the one to the other is their last argument, with the walk's tactics as its default proof. -/
namespace Go.Gv
open Go.Av
structure Nx (p:Prop):Prop where
 go:p
structure Bx (n:Nat):Prop
theorem bR {O:Ops} {ts:Nat->Option TI} {P:Program} {C:Ctx} {σ:AS} {Q:Exit->AS->Prop} {base id:Nat} {ops:Array Oper} (_:Bx base) (h:∀K:AS->Prop,(∀σ',Q .normal σ'->K σ')->gOps O ts P base ops (List.range ops.size) [] [] σ K):At O ts P C (.region id ops false) σ Q:=aR h
theorem bE {O:Ops} {ts:Nat->Option TI} {P:Program} {C:Ctx} {σ:AS} {Q:Exit->AS->Prop} {base id:Nat} {ops:Array Oper} (_:Bx base) (hm:P.follows .mixedOrders=true) (hok:exOk ops=true)
  (h:∀K:AS->Prop,(∀σ',Q .normal σ'->K σ')->gExp O ts P base ops (ops.size+1) [] [] [] [] (AS.blank (wP0 ops) σ) K):At O ts P C (.region id ops true) σ Q:=aE hm hok h
abbrev nN (l:List Nat):Hint:=⟨fun _ _=>false,fun _ _=>false,l⟩
section
variable {G H:Prop} {α:Type} {β:α->Prop} {J:∀a:α,β a->Prop}
theorem qC (h:H) (t:H->G:=by
 intro hZ
 try cbv
 try simp only[hseg]
 exact hZ):Nx G:=⟨t h⟩
theorem qG (h:H) (t:H->G:=by
 intro hZ;refine GCall.by (nN []) ?_
 try cbv
 try simp only[hseg]
 exact hZ):G:=t h
theorem qK {b:Bool} {x y:Unit->Prop} {A B:Prop} (h:b=true->A) (k:b=false->B) (s:A->x ():=by
 intro hZ
 first|(with_reducible refine nxId ?_;(conv=>whnf);(first|(with_reducible refine atId ?_)|(with_reducible refine FinAt.mk ?_;cbv;try simp only[hseg])|(cbv;try simp only[hseg])))|(cbv;try simp only[hseg])
 exact hZ) (t:B->y ():=by
 intro hZ
 first|(with_reducible refine nxId ?_;(conv=>whnf);(first|(with_reducible refine atId ?_)|(with_reducible refine FinAt.mk ?_;cbv;try simp only[hseg])|(cbv;try simp only[hseg])))|(cbv;try simp only[hseg])
 exact hZ):GFork b x y:=⟨fun e=>s (h e),fun e=>t (k e)⟩
theorem qW (b:Nat) (h:∀a b,J a b) (t:Bx b->(∀a b,J a b)->G:=by
 intro hB hZ;have K:=0;have hK:=True.intro;intro K hK
 (try with_reducible refine Nx.mk ?_);first|(with_reducible refine atId ?_)|(with_reducible refine nxId ?_;(conv=>whnf);(first|(with_reducible refine atId ?_)|(with_reducible refine FinAt.mk ?_;cbv;try simp only[hseg])|(cbv;try simp only[hseg])))|(try cbv;try simp only[hseg])
 repeat' (first
  |(with_reducible refine hK _ ?_;clear hK K);(conv=>whnf);(first|(with_reducible refine atId ?_)|(with_reducible refine FinAt.mk ?_;cbv;try simp only[hseg])|(cbv;try simp only[hseg]))
  |(with_reducible first|(refine bR hB ?_;intro K hK)|apply ZN0|apply ZP0);cbv;try simp only[hseg]
  |(with_reducible first|apply ndN|refine ndC True.intro ?_);try cbv
  |(with_reducible refine nT ?h ?_);(case h=>rfl);(conv=>whnf);(first|(with_reducible refine atId ?_)|(with_reducible refine FinAt.mk ?_;cbv;try simp only[hseg])|(cbv;try simp only[hseg]))
  |(with_reducible refine nF ?h ?_);(case h=>rfl);(conv=>whnf);(first|(with_reducible refine atId ?_)|(with_reducible refine FinAt.mk ?_;cbv;try simp only[hseg])|(cbv;try simp only[hseg]))
  |(with_reducible refine bE hB hM ?h ?_);(case h=>decide +kernel);intro K hK;cbv;try simp only[hseg]
  |(with_reducible refine ndC ?h ?_);(case h=>first|with_reducible rfl|exact GG0 hO (by decide))
  |fail)
 exact hZ K hK):G:=t ⟨⟩ h
theorem qV (b:Nat) (h:∀a b,J a b) (t:Bx b->(∀a b,J a b)->G:=by
 intro hB hZ;have K:=0;have hK:=True.intro;intro K hK
 repeat1' (first
  |(with_reducible refine hK _ ?_;clear hK K);(conv=>whnf);(first|(with_reducible refine atId ?_)|(with_reducible refine FinAt.mk ?_;cbv;try simp only[hseg])|(cbv;try simp only[hseg]))
  |(with_reducible refine bR hB ?_;intro K hK);cbv;try simp only[hseg]
  |(with_reducible first|apply ndN|refine ndC True.intro ?_);try cbv
  |(with_reducible refine bE hB hM ?h ?_);(case h=>decide +kernel);intro K hK;cbv;try simp only[hseg]
  |(with_reducible refine ndC ?h ?_);(case h=>first|with_reducible rfl|exact GG0 hO (by decide))
  |(with_reducible refine nG ?_);(conv=>whnf)
  |(with_reducible first|apply ZN0|apply ZP0);(first|((with_reducible refine nxId ?_);(conv=>whnf);(first|(with_reducible refine atId ?_)|(with_reducible refine FinAt.mk ?_;cbv;try simp only[hseg])|(cbv;try simp only[hseg])))|(cbv;try simp only[hseg]))
  |(with_reducible first|refine MY0 (by assumption) ?_|refine MZ0 (by assumption) ?_);(first|((with_reducible refine nxId ?_);(conv=>whnf);(first|(with_reducible refine atId ?_)|(with_reducible refine FinAt.mk ?_;cbv;try simp only[hseg])|(cbv;try simp only[hseg])))|(cbv;try simp only[hseg]))
  |fail)
 exact hZ K hK):G:=t ⟨⟩ h
theorem qS (b:Nat) (h:∀a b,J a b) (t:Bx b->(∀a b,J a b)->G:=by
 intro hB hZ;have K:=0;have hK:=True.intro;intro K hK
 first
  |(with_reducible refine hK _ ?_;clear hK K);(conv=>whnf);(first|(with_reducible refine atId ?_)|(with_reducible refine FinAt.mk ?_;cbv;try simp only[hseg])|(cbv;try simp only[hseg]))
  |(with_reducible refine bR hB ?_;intro K hK);cbv;try simp only[hseg]
  |(with_reducible first|apply ndN|refine ndC True.intro ?_);try cbv
  |(with_reducible refine bE hB hM ?h ?_);(case h=>decide +kernel);intro K hK;cbv;try simp only[hseg]
  |(with_reducible refine ndC ?h ?_);(case h=>first|with_reducible rfl|exact GG0 hO (by decide))
  |(with_reducible refine nG ?_);(conv=>whnf)
  |(with_reducible first|apply ZN0|apply ZP0);(first|((with_reducible refine nxId ?_);(conv=>whnf);(first|(with_reducible refine atId ?_)|(with_reducible refine FinAt.mk ?_;cbv;try simp only[hseg])|(cbv;try simp only[hseg])))|(cbv;try simp only[hseg]))
  |(with_reducible first|refine MY0 (by assumption) ?_|refine MZ0 (by assumption) ?_);(first|((with_reducible refine nxId ?_);(conv=>whnf);(first|(with_reducible refine atId ?_)|(with_reducible refine FinAt.mk ?_;cbv;try simp only[hseg])|(cbv;try simp only[hseg])))|(cbv;try simp only[hseg]))
 exact hZ K hK):G:=t ⟨⟩ h
end
section
variable {Q:Prop}
theorem qv1 (t:Q:=by try clear hK K;clear hM hP hC hR;cases hO;simp only[Ops.std,sCm,wF0,sqL,yZ0,rK0,Int.ofNat_eq_natCast] at *;simpa using h1):Q:=t
theorem qw1 (t:Q:=by try clear hK K;clear hM hP hC hR;cases hO;simp only[Ops.std,sCm,wF0,sqL,yZ0,rK0,Int.ofNat_eq_natCast] at *;simp at h1;omega):Q:=t
theorem qv2 (t:Q:=by try clear hK K;clear hM hP hC hR;cases hO;simp only[Ops.std,sCm,wF0,sqL,yZ0,rK0,Int.ofNat_eq_natCast] at *;simpa using h2):Q:=t
theorem qv3 (t:Q:=by try clear hK K;clear hM hP hC hR;cases hO;simp only[Ops.std,sCm,wF0,sqL,yZ0,rK0,Int.ofNat_eq_natCast] at *;simpa using h3):Q:=t
theorem qw3 (t:Q:=by try clear hK K;clear hM hP hC hR;cases hO;simp only[Ops.std,sCm,wF0,sqL,yZ0,rK0,Int.ofNat_eq_natCast] at *;simp at h3;omega):Q:=t
theorem qv4 (t:Q:=by try clear hK K;clear hM hP hC hR;cases hO;simp only[Ops.std,sCm,wF0,sqL,yZ0,rK0,Int.ofNat_eq_natCast] at *;simpa using h4):Q:=t
theorem qw4 (t:Q:=by try clear hK K;clear hM hP hC hR;cases hO;simp only[Ops.std,sCm,wF0,sqL,yZ0,rK0,Int.ofNat_eq_natCast] at *;simp at h4;omega):Q:=t
theorem qv5 (t:Q:=by try clear hK K;clear hM hP hC hR;cases hO;simp only[Ops.std,sCm,wF0,sqL,yZ0,rK0,Int.ofNat_eq_natCast] at *;simpa using h5):Q:=t
theorem qw5 (t:Q:=by try clear hK K;clear hM hP hC hR;cases hO;simp only[Ops.std,sCm,wF0,sqL,yZ0,rK0,Int.ofNat_eq_natCast] at *;simp at h5;omega):Q:=t
theorem qv6 (t:Q:=by try clear hK K;clear hM hP hC hR;cases hO;simp only[Ops.std,sCm,wF0,sqL,yZ0,rK0,Int.ofNat_eq_natCast] at *;simpa using h6):Q:=t
theorem qv7 (t:Q:=by try clear hK K;clear hM hP hC hR;cases hO;simp only[Ops.std,sCm,wF0,sqL,yZ0,rK0,Int.ofNat_eq_natCast] at *;simpa using h7):Q:=t
end
theorem qX {α:Type} (a:α):∃x,x=a:=⟨a,rfl⟩
abbrev nS (l:List Nat):Hint:=⟨fun _ _=>false,fun _ _=>true,l⟩
abbrev nM (l:List Nat):Hint:=⟨fun _ _=>true,fun _ _=>false,l⟩
theorem qg {O:Ops} {P:Program} {σ:AS} (x:Hint) {i:Nat} {fop:Operand} {args:Array Operand} {dst:Option Tmp} {K:AS->Prop} (hx:Nx (ZM0 O P x i fop args dst σ K)):GCall O P i fop args dst σ K:=GCall.by x hx.go
theorem qD {P P0:Program} (hP:P=P0) {f:FuncId} {cargs:List AV} {cbx:List (Option (List A))} {ids:List Nat} {i:Nat} {dst:Option Tmp} {σm:AS} {K:AS->Prop} {R:AV->List (Option (List A))->Prop} (hc:ACl P0 f cargs cbx R)
  (hK:∀res bx,R res bx->Nx (K ((zF0 ids i σm res bx).2.putO dst (zF0 ids i σm res bx).1))) (he:yP0 P0 f=true:=by rfl):GCallD P f cargs cbx ids i dst σm K:=GCallD.by hP he hc fun r b h=>(hK r b h).go
abbrev kk0:Root->Nat->Option Nat:=fun _ _=>none
theorem qL {O:Ops} {ts:Nat->Option TI} {P:Program} {C:Ctx} {σ:AS} {Q:Exit->AS->Prop} {c:Code} (nb:Nat) (ks:List Nat) (kk:Root->Nat->Option Nat) (I:Nat->AS->Prop) (h0:xR0 nb (fun t=>ks.contains t) kk σ fun σ'=>∃n,I n σ')
  (round:∀n σ,I n σ->Nx (nxt O ts P C c σ (uL0 (fun σ'=>xR0 nb (fun t=>ks.contains t) kk σ' fun σ''=>∃m,m < n/\I m σ'') Q))) (hC':C.bl0.length<=nb:=by simp at hC;simp[hC]):At O ts P C (.loop c) σ Q:=nL I hC' h0 fun n σ h=>(round n σ h).go
theorem qF {ts:Nat->Option TI} {P0:Program} (ht:∀n ti,ts n=some ti->tyOf P0 n=some ti) {f:FuncId} {fn:Func} {c:Code} {args:List AV} {bx:List (Option (List A))} {R0:AV->List (Option (List A))->Prop} (hf:P0.funcs[f]?=some fn) (n:Nat) (rs:List ResultVar)
  (h:∀bin cmp sadd scmp beq bnot band un wrap size byte chr sub len seg app get set nat nadd nsub repl text bytes mn mx nz nn idx bnd le all one lits isB sOk aOk mOk er,∀(hO:⟨bin,cmp,sadd,scmp,beq,bnot,band,un,wrap,size,byte,chr,sub,len,seg,app,get,set,nat,nadd,nsub,repl,text,bytes,mn,mx,nz,nn,idx,bnd,le,all,one,lits,isB,sOk,aOk,mOk,er⟩=Ops.std) (P:Program) (hP:P=P0) (C:Ctx) (hC:C.bl0.length=bx.length) (R:AV->List (Option (List A))->Prop) (hR:∀res bx',R0 res bx'->R res bx') (hM:P.follows .mixedOrders=true) (hseg:∀e,seg 0 (len e) e=e) (K:Nat) (hK:True),Nx (nxt ⟨bin,cmp,sadd,scmp,beq,bnot,band,un,wrap,size,byte,chr,sub,len,seg,app,get,set,nat,nadd,nsub,repl,text,bytes,mn,mx,nz,nn,idx,bnd,le,all,one,lits,isB,sOk,aOk,mOk,er⟩ ts P C c (uM0 args n bx) (FinAt ⟨bin,cmp,sadd,scmp,beq,bnot,band,un,wrap,size,byte,chr,sub,len,seg,app,get,set,nat,nadd,nsub,repl,text,bytes,mn,mx,nz,nn,idx,bnd,le,all,one,lits,isB,sOk,aOk,mOk,er⟩ ts bx.length rs R))) (hb:fn.body=some c:=by rfl)
  (hn:fn.ntmps=n:=by rfl) (hrs:fn.results.toList=rs:=by rfl) (hA:∀av∈args,yU0 av.cs:=by first|(simp[yU0,litI,litS,litB,A.stamp,A.rstamp,stampIn];done) | simp) (hB:∀cs,some cs∈bx->yU0 cs:=by first|(simp[yU0,litI,litS,litB,A.stamp,A.rstamp,stampIn];done) | simp) (hm:P0.follows .mixedOrders=true:=by rfl):ACl P0 f args bx R0:=
 ZJ0 ht n rs hf hb hn hrs hA hB fun O hO P hP C hC R' hR=>NY0 (by
  obtain ⟨bin,cmp,sadd,scmp,beq,bnot,band,un,wrap,size,byte,chr,sub,len,seg,app,get,set,nat,nadd,nsub,repl,text,bytes,mn,mx,nz,nn,idx,bnd,le,all,one,lits,isB,sOk,aOk,mOk,er⟩:=O;exact (h bin cmp sadd scmp beq bnot band un wrap size byte chr sub len seg app get set nat nadd nsub repl text bytes mn mx nz nn idx bnd le all one lits isB sOk aOk mOk er hO P hP C hC R' hR (by rw[hP];exact hm) (by intro e;cases hO;simp) 0 trivial).go)
end Go.Gv
/- What is told of terms and statements, one after the other; generic in what is told. -/
namespace Go.Gv
open Go.Av
def Sm.x:Sm->List Ex | .mk _ _ _ x _ _=>x
section
variable {α:Type}
end
end Go.Gv
/- Values in a box that nothing looks into: a variable, which is the identity: what stands in a state is written there; a function's opening with the facts on them; the steps of a walk. -/
namespace Go.Gv
open Go.Av
def II (I:∀{α:Type},α->α):Prop:=@I=@id
theorem II.e {I:∀{α:Type},α->α} (h:II @I) {α:Type} (a:α):I a=a:=by
 have h:@I=@id:=h;rw[h];rfl
section
variable {I:∀{α:Type},α->α} (h:II @I)
include h
theorem II.u0 {α:Type} (x:α):I (I x)=I x:=by rw[h.e]
theorem II.u1 {α β:Type} (f:α->β) (x:α):I (f (I x))=I (f x):=by rw[h.e x]
theorem II.u2 {α β γ:Type} (f:α->γ->β) (x:α) (y:γ):I (f (I x) y)=I (f x y):=by rw[h.e x]
theorem II.u3 {α β γ δ:Type} (f:α->γ->δ->β) (x:α) (y:γ) (z:δ):I (f (I x) y z)=I (f x y z):=by rw[h.e x]
end
def Ex.k:Ex->Int | .mk k _ _ _=>k
def Ex.n:Ex->Int | .mk _ n _ _=>n
def Ex.s:Ex->ByteArray | .mk _ _ s _=>s
def Ex.l:Ex->List Ex | .mk _ _ _ l=>l
def Sm.k:Sm->Int | .mk k _ _ _ _ _=>k
def Sm.s:Sm->ByteArray | .mk _ s _ _ _ _=>s
def Sm.tt:Sm->ByteArray | .mk _ _ t _ _ _=>t
def Sm.a:Sm->List Sm | .mk _ _ _ _ a _=>a
def Sm.b:Sm->List Sm | .mk _ _ _ _ _ b=>b
def byT (n:Int):List T:=[.lit (.int .u8 n)]
structure Ik where
 op:Int
 n:Int
 deriving Inhabited,DecidableEq
def Ik.t (x:Ik):List T:=[.lit (.int .i64 x.op),.lit (.int .i64 x.n)]
def IffW (p q:Prop):Prop:=p↔q
structure Fx (I:∀{α:Type},α->α) (bin:BinOp->IntKind->Int->Int->Int) (cmp:BinOp->Int->Int->Bool) (sadd:ByteArray->ByteArray->ByteArray) (scmp:BinOp->ByteArray->ByteArray->Bool) (beq:Bool->Bool->Bool) (bnot:Bool->Bool) (band:Bool->Bool->Bool) (un:UnOp->IntKind->Int->Int) (wrap:IntKind->Int->Int) (size:ByteArray->Nat) (byte:ByteArray->Nat->Int) (chr:Int->ByteArray) (sub:ByteArray->Nat->Nat->ByteArray) (len:List (List T)->Nat) (seg:Nat->Nat->List (List T)->List (List T)) (app:List (List T)->List (List T)->List (List T)) (get:List (List T)->Nat->List T) (set:List (List T)->Nat->List T->List (List T)) (nat:Int->Nat) (nadd:Nat->Nat->Nat) (nsub:Nat->Nat->Nat) (repl:Nat->List T->List (List T)) (text:List (List T)->ByteArray) (bytes:ByteArray->List (List T)) (mn:Int->Int->Int) (mx:Int->Int->Int) (nz:Int->Prop) (nn:Int->Prop) (idx:Int->Nat->Prop) (bnd:Int->Nat->Prop) (le:Nat->Nat->Prop) (all:List (List T)->Nat->Prop) (one:List (List T)->Nat->Nat->Prop) (lits:List (List T)->Prop) (isB:List (List T)->Prop) (sOk:ByteArray->ByteArray->Prop) (aOk:Nat->List (List T)->List (List T)->Prop) (mOk:Nat->Int->Int->Prop) (er:List (List T)->List (List T)):Prop where
 r1:∀{α:Type} (f:α->List T) (l:List α),len (I (l.map f))=I l.length
 r2:∀{α:Type} [Inhabited α] (f:α->List T) (l:List α) (i:Nat),i < l.length->get (I (l.map f)) (nat (Int.ofNat (I i)))=f l[i]!
 r3:∀i:Nat,i < 9223372036854775807->bin .add .i64 (Int.ofNat (I i)) 1=Int.ofNat (I (i+1))
 r4:∀{α:Type} (f:α->List T) (a b:List α),app (I (a.map f)) (I (b.map f))=I ((a++b).map f)
 r5:∀{α:Type} (f:α->List T) (l:List α),app [] (I (l.map f))=I (l.map f)
 r6:∀{α:Type} (f:α->List T) (l:List α),app (I (l.map f)) []=I (l.map f)
 r7:∀{α:Type} (f:α->List T) (l:List α),seg 0 (I l.length) (I (l.map f))=I (l.map f)
 r8:∀(l:List Ik) (x y:Int) (z:List (List T)),app (I (l.map Ik.t)) ([.lit (.int .i64 x),.lit (.int .i64 y)]::z)=app (I ((l++[(⟨x,y⟩:Ik)]).map Ik.t)) z
 r9:∀(x y:Int) (z:List (List T)),app [] ([.lit (.int .i64 x),.lit (.int .i64 y)]::z)=app (I ([(⟨x,y⟩:Ik)].map Ik.t)) z
 r10:∀(x y:Int) (z:List (List T)),app [[.lit (.int .i64 x),.lit (.int .i64 y)]] z=app (I ([(⟨x,y⟩:Ik)].map Ik.t)) z
 r11:∀(x y x' y':Int) (z:List (List T)),app [[.lit (.int .i64 x),.lit (.int .i64 y)],[.lit (.int .i64 x'),.lit (.int .i64 y')]] z=app (I ([(⟨x,y⟩:Ik),⟨x',y'⟩].map Ik.t)) z
 r12:∀(x y x' y' x2 y2:Int) (z:List (List T)),app [[.lit (.int .i64 x),.lit (.int .i64 y)],[.lit (.int .i64 x'),.lit (.int .i64 y')],[.lit (.int .i64 x2),.lit (.int .i64 y2)]] z=app (I ([(⟨x,y⟩:Ik),⟨x',y'⟩,⟨x2,y2⟩].map Ik.t)) z
 r13:∀(l:List ByteArray) (s:ByteArray),app (I (l.map strT)) [[.lit (.string s)]]=I ((l++[s]).map strT)
 r14:∀(s:ByteArray),app [] [[.lit (.string s)]]=I ([s].map strT)
 r15:∀(l:List Vl) (k n:Int) (s:ByteArray),app (I (l.map Vl.t)) [[.lit (.int .i64 k),.lit (.int .i64 n),.lit (.string s)]]=I ((l++[(⟨k,n,s⟩:Vl)]).map Vl.t)
 r16:∀(s:ByteArray),size (I s)=I s.size
 r17:∀{α:Type} [Inhabited α] (f:α->List T) (l:List α) (i:Nat),i < l.length->get (I (l.map f)) (nadd 0 (nat (Int.ofNat (I i))))=f l[i]!
 r20:∀{α:Type} [Inhabited α] (f:α->List T) (l:List α) (x:Int),0<=x/\x < l.length->get (I (l.map f)) (nat (I x))=f l[x.toNat]!
 r21:∀{α:Type} [Inhabited α] (f:α->List T) (l:List α),0 < l.length->get (I (l.map f)) (nat 0)=f l[0]!
 r22:∀{α:Type} [Inhabited α] (f:α->List T) (l:List α),1 < l.length->get (I (l.map f)) (nat 1)=f l[1]!
 r18:bnot true=false
 r19:bnot false=true
 k1:∀a b,(cmp .eql a b=true)=(a=b)
 k2:∀a b,(cmp .neq a b=true)=(a≠b)
 k3:∀a b,(cmp .lss a b=true)=(a < b)
 k4:∀a b,(cmp .leq a b=true)=(a<=b)
 k5:∀a b,(cmp .gtr a b=true)=(b < a)
 k6:∀a b,(cmp .geq a b=true)=(b<=a)
 k7:∀a b,(scmp .eql a b=true)=(a=b)
 k8:∀a b,(scmp .neq a b=true)=(a≠b)
 k9:∀a,(bnot a=true)=¬(a=true)
 k10:∀a b,(band a b=true)=(a=true/\b=true)
 k11:∀a,(beq true a=true)=(a=true)
 k12:∀a,(beq false a=true)=¬(a=true)
 k13:∀a x y b,(beq (cmp a x y) b=true)=IffW (cmp a x y=true) (b=true)
 r23:∀a b:Nat,a+b < 9223372036854775807->bin .add .i64 (Int.ofNat (I a)) (Int.ofNat (I b))=Int.ofNat (I (a+b))
 r24:∀(l:List Ex) (e:Ex) (z:List T),set (app (I (l.map Ex.t)) [z]) (nadd 0 (nat (Int.ofNat (I l.length)))) [.lit (.int .i64 (I e.k)),.lit (.int .i64 (I e.n)),.lit (.string (I e.s)),.sl (I (e.l.map Ex.t))]=I ((l++[e]).map Ex.t)
 r25:∀(l:List Sm) (y:Sm) (z:List T),set (app (I (l.map Sm.t)) [z]) (nadd 0 (nat (Int.ofNat (I l.length)))) [.lit (.int .i64 (I y.k)),.lit (.string (I y.s)),.lit (.string (I y.tt)),.sl (I (y.x.map Ex.t)),.sl (I (y.a.map Sm.t)),.sl (I (y.b.map Sm.t))]=I ((l++[y]).map Sm.t)
 r26:∀(l:List Ex) (e:Ex),app (I (l.map Ex.t)) [[.lit (.int .i64 (I e.k)),.lit (.int .i64 (I e.n)),.lit (.string (I e.s)),.sl (I (e.l.map Ex.t))]]=I ((l++[e]).map Ex.t)
 r27:∀(l:List Sm) (y:Sm),app (I (l.map Sm.t)) [[.lit (.int .i64 (I y.k)),.lit (.string (I y.s)),.lit (.string (I y.tt)),.sl (I (y.x.map Ex.t)),.sl (I (y.a.map Sm.t)),.sl (I (y.b.map Sm.t))]]=I ((l++[y]).map Sm.t)
 r28:∀(e:Ex),app [] [[.lit (.int .i64 (I e.k)),.lit (.int .i64 (I e.n)),.lit (.string (I e.s)),.sl (I (e.l.map Ex.t))]]=I ([e].map Ex.t)
 r29:∀(y:Sm),app [] [[.lit (.int .i64 (I y.k)),.lit (.string (I y.s)),.lit (.string (I y.tt)),.sl (I (y.x.map Ex.t)),.sl (I (y.a.map Sm.t)),.sl (I (y.b.map Sm.t))]]=I ([y].map Sm.t)
 n13:∀{α:Type} (f:α->List T) (l:List α) (z:List T),idx (Int.ofNat (I l.length)) (len (app (I (l.map f)) [z]))
 n14:∀(k:Nat) {α:Type} (f:α->List T) (l:List α) (z:List T),(∀x,(f x).length=k)->z.length=k->one (app (I (l.map f)) [z]) (nadd 0 (nat (Int.ofNat (I l.length)))) k
 n15:∀(i n:Nat),i < n->idx (Int.ofNat (nadd 0 (nat (Int.ofNat (I i))))) (I n)
 d1:∀a b,cmp .eql a b=decide (a=b)
 d2:∀a b,cmp .neq a b=decide (a≠b)
 d3:∀a b,cmp .lss a b=decide (a < b)
 d4:∀a b,cmp .leq a b=decide (a<=b)
 d5:∀a b,cmp .gtr a b=decide (b < a)
 d6:∀a b,cmp .geq a b=decide (b<=a)
 d7:∀a b,scmp .eql a b=decide (a=b)
 d8:∀a b,scmp .neq a b=decide (a≠b)
 n1:∀(i n:Nat),i < n->idx (Int.ofNat (I i)) (I n)
 n2:∀{α:Type} (f:α->List T) (l:List α) (k:Nat),(∀x,(f x).length=k)->all (I (l.map f)) k
 n3:∀(m:Nat) {α β:Type} (f:α->List T) (g:β->List T) (a:List α) (b:List β),m<=128->a.length+b.length<=1099511627776->aOk m (I (a.map f)) (I (b.map g))
 n4:∀(a b:ByteArray),a.size+b.size<=9223372036854775807->sOk (I a) (I b)
 n5:∀(x:Int) (n:Nat),0<=x/\x < (n:Int)->idx (I x) (I n)
 n8:∀(x:Int) (n:Nat),0<=x/\x < n->idx x (I n)
 n9:∀(a:List (List T)) (k:Nat),(∀e∈a,e.length=k)->all a k
 n10:∀(m:Nat) {α:Type} (f:α->List T) (a:List α) (b:List (List T)),m<=128->a.length+b.length<=1099511627776->aOk m (I (a.map f)) b
 n11:∀(m:Nat) {α:Type} (f:α->List T) (a:List (List T)) (b:List α),m<=128->a.length+b.length<=1099511627776->aOk m a (I (b.map f))
 n12:∀(m:Nat) (a b:List (List T)),m<=128->a.length+b.length<=1099511627776->aOk m a b
 n6:∀(m:Nat) (a b:List (List T)),(a.length+b.length) * m<=140737488355328->a.length+b.length<=9223372036854775807->aOk m a b
 n7:∀(i n:Nat) (l:List (List T)),l.length=n->i < n->idx (Int.ofNat (nadd 0 (nat (Int.ofNat (I i))))) (len l)
theorem Fx.of {I:∀{α:Type},α->α} (hI:II @I) {O:Ops} (hO:O=Ops.std):Fx @I O.bin O.cmp O.sadd O.scmp O.beq O.bnot O.band O.un O.wrap O.size O.byte O.chr O.sub O.len O.seg O.app O.get O.set O.nat O.nadd O.nsub O.repl O.text O.bytes O.mn O.mx O.nz O.nn O.idx O.bnd O.le O.all O.one O.lits O.isB O.sOk O.aOk O.mOk O.er:=by
 subst hO;have hI:@I=@id:=hI;subst hI
 constructor<;>try (simp[Ops.std,sCm,sqL,yZ0,Ik.t,Vl.t,strT];done)
 case r2=>intro α _ f l i h;simp[Ops.std,h]
 case r3=>intro i h;exact iSc (O:=Ops.std) rfl h
 case r26=>intro l e;cases e;simp[Ops.std,Ex.t_mk,Ex.k,Ex.n,Ex.s,Ex.l]
 case r27=>intro l e;cases e;simp[Ops.std,Sm.t_mk,Sm.k,Sm.s,Sm.tt,Sm.x,Sm.a,Sm.b]
 case r28=>intro e;cases e;simp[Ops.std,Ex.t_mk,Ex.k,Ex.n,Ex.s,Ex.l]
 case r29=>intro e;cases e;simp[Ops.std,Sm.t_mk,Sm.k,Sm.s,Sm.tt,Sm.x,Sm.a,Sm.b]
 case r24=>intro l e z;cases e;simp[Ops.std,Ex.t_mk,Ex.k,Ex.n,Ex.s,Ex.l]
 case r25=>intro l e z;cases e;simp[Ops.std,Sm.t_mk,Sm.k,Sm.s,Sm.tt,Sm.x,Sm.a,Sm.b]
 case n13=>intro α f l z;refine ixN rfl ?_;simp[Ops.std]
 case k13=>intro a x y b;unfold IffW;show (((_:Bool) == b)=true)=_;rw[beq_iff_eq,Bool.eq_iff_iff]
 case r23=>intro a b h;simp only[Ops.std,wF0,Int.ofNat_eq_natCast,id];rw[yV0 (by omega)];omega
 case r20=>
  intro α _ f l x h;have h1:x.toNat < l.length:=by omega
  simp[Ops.std,h1]
 case r21=>intro α _ f l h;simp[Ops.std,h]
 case r22=>intro α _ f l h;simp[Ops.std,h]
 case r17=>intro α _ f l i h;simp[Ops.std,h]
 case d1=>intro a b;show (a == b)=_;by_cases h:a=b<;>simp[h]
 case d2=>intro a b;show (a != b)=_;by_cases h:a=b<;>simp[h]
 case r7=>intro α f l;show ((l.map f).drop 0).take l.length=_;rw[List.drop_zero,List.take_of_length_le (by simp)];rfl
 case n2=>intro α f l k h x hx;simp at hx;obtain ⟨y,_,rfl⟩:=hx;exact h y
 case n3=>
  intro m α β f g a b hm h;have:=Nat.mul_le_mul h hm;exact ⟨by simp;omega,by simp;omega⟩
 case n10=>
  intro m α f a b hm h;have:=Nat.mul_le_mul h hm;exact ⟨by simp;omega,by simp;omega⟩
 case n11=>
  intro m α f a b hm h;have:=Nat.mul_le_mul h hm;exact ⟨by simp;omega,by simp;omega⟩
 case n12=>
  intro m a b hm h;have:=Nat.mul_le_mul h hm;exact ⟨by omega,by omega⟩
 case n6=>intro m a b h1 h2;exact ⟨h1,h2⟩
 case n7=>intro i n l h h1;subst h;show (0:Int)<=_/\_;simp[Ops.std];omega
section
variable {I:∀{α:Type},α->α} (h:II @I)
include h
theorem Ex.tI (x:Ex):x.t=[.lit (.int .i64 (I x.k)),.lit (.int .i64 (I x.n)),.lit (.string (I x.s)),.sl (I (x.l.map Ex.t))]:=by cases x;simp only[h.e,Ex.t_mk,Ex.k,Ex.n,Ex.s,Ex.l]
theorem Sm.tI (x:Sm):x.t=[.lit (.int .i64 (I x.k)),.lit (.string (I x.s)),.lit (.string (I x.tt)),.sl (I (x.x.map Ex.t)),.sl (I (x.a.map Sm.t)),.sl (I (x.b.map Sm.t))]:=by cases x;simp only[h.e,Sm.t_mk,Sm.k,Sm.s,Sm.tt,Sm.x,Sm.a,Sm.b]
theorem Ru.tI (x:Ru):x.t=[.lit (.int .i64 (I x.k)),.lit (.int .i64 (I x.p.k)),.lit (.int .i64 (I x.p.n)),.lit (.string (I x.p.s)),.sl (I (x.p.l.map Ex.t)),.sl (I (x.a.map Sm.t))]:=by rw[Ru.t,Ex.tI h];simp only[h.e];rfl
theorem Fu.tI (x:Fu):x.t=[.lit (.string (I x.name)),.sl (I (x.params.map strT)),.sl (I (x.a.map Sm.t))]:=by simp only[h.e];rfl
theorem DM0 (x:ByteArray):strT x=[.lit (.string (I x))]:=by simp only[h.e];rfl
theorem Vl.tI (x:Vl):x.t=[.lit (.int .i64 (I x.k)),.lit (.int .i64 (I x.n)),.lit (.string (I x.s))]:=by simp only[h.e];rfl
theorem DV0 (x:Int):intT x=[.lit (.int .i64 (I x))]:=by simp only[h.e];rfl
theorem uE1 (x:Int):byT x=[.lit (.int .u8 (I x))]:=by simp only[h.e];rfl
theorem Ik.tI (x:Ik):x.t=[.lit (.int .i64 (I x.op)),.lit (.int .i64 (I x.n))]:=by simp only[h.e];rfl
end
theorem Ex.ind {P:Ex->Prop} (h:∀e,(∀x∈e.l,P x)->P e):∀e,P e:=by
 have key:∀(n:Nat) (e:Ex),SizeOf.sizeOf e < n->P e:=by
  intro n
  induction n with
  | zero=>intro e h;omega
  | succ n ih=>
   intro e he;refine h e fun x hx=>ih x ?_;cases e;have:=List.sizeOf_lt_of_mem hx;simp only[Ex.l] at this;simp at he;omega
 exact fun e=>key _ e (Nat.lt_succ_self _)
theorem Sm.ind {P:Sm->Prop} (h:∀e,(∀x∈e.a++e.b,P x)->P e):∀e,P e:=by
 have key:∀(n:Nat) (e:Sm),SizeOf.sizeOf e < n->P e:=by
  intro n
  induction n with
  | zero=>intro e h;omega
  | succ n ih=>
   intro e he;refine h e fun x hx=>ih x ?_;cases e;simp at he;rcases List.mem_append.1 hx with hx | hx<;>(have:=List.sizeOf_lt_of_mem hx;simp only[Sm.a,Sm.b] at this;omega)
 exact fun e=>key _ e (Nat.lt_succ_self _)
@[simp,reducible] def eA (I:∀{α:Type},α->α) (e:Ex):AV:=⟨.agg,[.lit (.int .i64 (I e.k)),.lit (.int .i64 (I e.n)),.lit (.string (I e.s)),.ro true (I (e.l.map Ex.t))]⟩
@[simp,reducible] def sA (I:∀{α:Type},α->α) (y:Sm):AV:=⟨.agg,[.lit (.int .i64 (I y.k)),.lit (.string (I y.s)),.lit (.string (I y.tt)),.ro true (I (y.x.map Ex.t)),.ro true (I (y.a.map Sm.t)),.ro true (I (y.b.map Sm.t))]⟩
@[simp,reducible] def smA (I:∀{α:Type},α->α) (l:List Sm):AV:=⟨.one,[.ro true (I (l.map Sm.t))]⟩
@[simp,reducible] def pA (I:∀{α:Type},α->α) (p:Pg):AV:=⟨.agg,[.ro true (I (p.rules.map Ru.t)),.ro true (I (p.fns.map Fu.t))]⟩
theorem zB0 {α:Type} [Inhabited α] {l:List α} {i:Nat} (h:i < l.length):l[i]!∈l:=by
 rw[List.getElem!_eq_getElem?_getD,List.getElem?_eq_getElem h];exact List.getElem_mem h
theorem zU0 {α:Type} [Inhabited α] {l:List α} {i:Nat} (h:i < l.length):l.take (i+1)=l.take i++[l[i]!]:=by
 rw[List.take_succ_eq_append_getElem h,List.getElem!_eq_getElem?_getD,List.getElem?_eq_getElem h];rfl
theorem JN0 {α:Type} [Inhabited α] {l:List α} {i:Nat} (h:i < l.length):l.drop i=l[i]!::l.drop (i+1):=by
 rw[List.drop_eq_getElem_cons h,List.getElem!_eq_getElem?_getD,List.getElem?_eq_getElem h];rfl
end Go.Gv
