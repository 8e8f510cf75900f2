/- Part D8 of the proof: The steps of a walk over boxed values, each once. -/
import Derived.Test.YtfobhlmjcnkpiaaGreatDoorD7
import Derived.Test.YtfobhlmjcnkpiaaGreatDoorD6
set_option linter.all false
/- The steps of a walk over boxed values, each once. -/
namespace Go.Gv
open Go.Av
structure Wr (p:Prop):Prop where
 go:p
noncomputable def bB (p:Prop):Bool:=@decide p (Classical.propDecidable p)
theorem nl1 (n k:Nat):((n:Int)=no_index (@OfNat.ofNat Int k (@instOfNat k)))=(n=@OfNat.ofNat Nat k (instOfNatNat k)):=propext (by show (n:Int)=((k:Nat):Int)↔n=k;omega)
theorem nl2 (n k:Nat):((n:Int) < no_index (@OfNat.ofNat Int k (@instOfNat k)))=(n < @OfNat.ofNat Nat k (instOfNatNat k)):=propext (by show (n:Int) < ((k:Nat):Int)↔n < k;omega)
theorem nl3 (n k:Nat):((n:Int)<=no_index (@OfNat.ofNat Int k (@instOfNat k)))=(n<=@OfNat.ofNat Nat k (instOfNatNat k)):=propext (by show (n:Int)<=((k:Nat):Int)↔n<=k;omega)
theorem nl4 (n k:Nat):(no_index (@OfNat.ofNat Int k (@instOfNat k)) < (n:Int))=(@OfNat.ofNat Nat k (instOfNatNat k) < n):=propext (by show ((k:Nat):Int) < (n:Int)↔k < n;omega)
theorem nl5 (n k:Nat):(no_index (@OfNat.ofNat Int k (@instOfNat k))<=(n:Int))=(@OfNat.ofNat Nat k (instOfNatNat k)<=n):=propext (by show ((k:Nat):Int)<=(n:Int)↔k<=n;omega)
theorem xT0 (p:Prop):(bB p=true)=p:=by simp[bB]
theorem mU1 {b:Bool} {p:Prop} (h:b=true↔p):b=bB p:=Bool.eq_iff_iff.2 (by rw[xT0];exact h)
theorem liP {I:∀{α:Type},α->α} (hI:II @I) {b:Bool} {p:Prop} (h:b=true↔p):(⟨.one,[.lit (.bool b)]⟩:AV)=litB (I (bB p)):=by rw[mU1 h,hI.e]
theorem QB.of {I:∀{α:Type},α->α} (hI:II @I) {P:Program} {f:FuncId} {args:List AV} {p:Prop} (h:ACl P f args [] (fun res bx=>∃b:Bool,(b=true↔p)/\res=litB b/\bx=[])):ACl P f args [] (fun res bx=>res=litB (I (bB p))/\bx=[]):=
 acI h fun _ _ ⟨b,h1,h2,h3⟩=>⟨by rw[h2,hI.e,mU1 h1],h3⟩
theorem QB.to {P:Program} {f:FuncId} {args:List AV} {p:Prop} (h:ACl P f args [] (fun res bx=>res=litB (@id Bool (bB p))/\bx=[])):ACl P f args [] (fun res bx=>∃b:Bool,(b=true↔p)/\res=litB b/\bx=[]):=
 acI h fun _ _ ⟨h2,h3⟩=>⟨bB p,by rw[xT0],h2,h3⟩
section
variable {O:Ops} {ts:Nat->Option TI} {P:Program} {C:Ctx} {σ:AS} {Q:Exit->AS->Prop} {ops:Array Oper}
end
theorem hcW {Q:Prop} (t:Q:=by first|((with_reducible apply c1)<;>first|assumption|omega|(simp only[List.length_append,List.length_cons,List.length_nil,List.length_replicate];omega)|(have hb':=hb (by assumption);simp only[List.length_append,List.length_cons,List.length_nil,List.length_replicate];omega)|rfl|fail)|((with_reducible apply c2)<;>first|assumption|omega|(simp only[List.length_append,List.length_cons,List.length_nil,List.length_replicate];omega)|(have hb':=hb (by assumption);simp only[List.length_append,List.length_cons,List.length_nil,List.length_replicate];omega)|rfl|fail)|((with_reducible apply c3)<;>first|assumption|omega|(simp only[List.length_append,List.length_cons,List.length_nil,List.length_replicate];omega)|(have hb':=hb (by assumption);simp only[List.length_append,List.length_cons,List.length_nil,List.length_replicate];omega)|rfl|fail)|((with_reducible apply c4)<;>first|assumption|omega|(simp only[List.length_append,List.length_cons,List.length_nil,List.length_replicate];omega)|(have hb':=hb (by assumption);simp only[List.length_append,List.length_cons,List.length_nil,List.length_replicate];omega)|rfl|fail)|((with_reducible apply c5)<;>first|assumption|omega|(simp only[List.length_append,List.length_cons,List.length_nil,List.length_replicate];omega)|(have hb':=hb (by assumption);simp only[List.length_append,List.length_cons,List.length_nil,List.length_replicate];omega)|rfl|fail)|((with_reducible apply c6)<;>first|assumption|omega|(simp only[List.length_append,List.length_cons,List.length_nil,List.length_replicate];omega)|(have hb':=hb (by assumption);simp only[List.length_append,List.length_cons,List.length_nil,List.length_replicate];omega)|rfl|fail)|((with_reducible apply c7)<;>first|assumption|omega|(simp only[List.length_append,List.length_cons,List.length_nil,List.length_replicate];omega)|(have hb':=hb (by assumption);simp only[List.length_append,List.length_cons,List.length_nil,List.length_replicate];omega)|rfl|fail)|((with_reducible apply c8)<;>first|assumption|omega|(simp only[List.length_append,List.length_cons,List.length_nil,List.length_replicate];omega)|(have hb':=hb (by assumption);simp only[List.length_append,List.length_cons,List.length_nil,List.length_replicate];omega)|rfl|fail)|((with_reducible apply c9)<;>first|assumption|omega|(simp only[List.length_append,List.length_cons,List.length_nil,List.length_replicate];omega)|(have hb':=hb (by assumption);simp only[List.length_append,List.length_cons,List.length_nil,List.length_replicate];omega)|rfl|fail)|fail):Q:=t
theorem ntW {Q:Prop} (t:Q:=by first|assumption|(exact F.n1 _ _ (by omega))|(exact F.n2 _ _ _ (by intro x;first|rfl|exact Ex.t_len x|exact Sm.t_len x|exact Ru.t_len x|exact Vl.t_len x|exact Ru.t_len x))|(exact F.n3 _ _ _ _ _ (by decide) (by (try simp only[List.length_append,List.length_cons,List.length_nil]);omega))|(exact F.n9 _ _ (by simp))|(exact F.n10 _ _ _ _ (by decide) (by (try simp only[List.length_append,List.length_cons,List.length_nil]);omega))|(exact F.n11 _ _ _ _ (by decide) (by (try simp only[List.length_append,List.length_cons,List.length_nil]);omega))|(exact F.n12 _ _ _ (by decide) (by (try simp only[List.length_cons,List.length_nil]);omega))|(exact F.n4 _ _ (by omega))|(exact F.n13 _ _ _)|(exact F.n14 _ _ _ _ (by intro x;first|rfl|exact Ex.t_len x|exact Sm.t_len x|exact Ru.t_len x|exact Vl.t_len x|exact Ru.t_len x) rfl)|(exact F.n5 _ _ (by omega))|(exact F.n8 _ _ (by omega))|(exact yU1 hO (by decide))|(exact nF1 hO (by omega))|(exact F.n15 _ _ (by omega))):Q:=t
section
variable {G H:Prop} {α:Type} {β:α->Prop} {J:∀a:α,β a->Prop}
theorem qA (b:Nat) (h:H) (t:Bx b->Wr H->G:=by
 intro hB hZ;(try intro K hK)
 first|(with_reducible refine Nx.mk ?_;first|(with_reducible refine atId ?_)|(with_reducible refine nxId ?_;(conv=>whnf);(first|(with_reducible refine atId ?_)|(with_reducible refine FinAt.mk ?_;cbv;try simp only[hseg])|(cbv;try simp only[hseg])))|(try cbv;try simp only[hseg]))|skip
 repeat1' (first
  |(with_reducible refine hK _ ?_;clear hK K);(conv=>whnf);(first|(with_reducible refine atId ?_)|(with_reducible refine FinAt.mk ?_;cbv;try simp only[hseg])|(cbv;try simp only[hseg]))
  |(with_reducible refine bR hB ?_;intro K hK);cbv;try simp only[hseg]
  |(with_reducible refine FinAt.mk ?_);cbv;try simp only[hseg]
  |(with_reducible first|apply ndN|refine ndC True.intro ?_);try cbv
  |(with_reducible refine bE hB hM ?ndh ?_);(case ndh=>decide +kernel);intro K hK;cbv;try simp only[hseg]
  |(with_reducible refine ndC ?ndh ?_);(case ndh=>exact ntW)
  |(with_reducible refine nG ?_);(conv=>whnf)
  |(with_reducible first|apply dC0|apply dD0);(first|(with_reducible refine nxId ?_;(conv=>whnf);(first|(with_reducible refine atId ?_)|(with_reducible refine FinAt.mk ?_;cbv;try simp only[hseg])|(cbv;try simp only[hseg])))|(cbv;try simp only[hseg]))
  |(simp (disch:=omega) only [F.r1,F.r2,F.r3,F.r4,F.r5,F.r6,F.r7,F.r8,F.r9,F.r10,F.r11,F.r12,F.r13,F.r14,F.r15,F.r16,F.r17,F.r20,F.r21,F.r22,F.r18,F.r19,F.r23,F.r24,F.r25,F.r26,F.r27,F.r28,F.r29,Ex.tI hI,Sm.tI hI,Ru.tI hI,Fu.tI hI,JD0 hI,Vl.tI hI,Ik.tI hI,GN0 hI,qJ1 hI]);(try cbv)
  |(first|simp only[e1]|simp only[e2]|simp only[e3]|fail);(try cbv)
  |fail)
 (try revert hK K);exact hZ.go):G:=t ⟨⟩ ⟨h⟩
theorem qB (b:Nat) (h:H) (t:Bx b->Wr H->G:=by
 intro hB hZ;(try intro K hK)
 (with_reducible refine Nx.mk ?_);first|(with_reducible refine atId ?_)|(with_reducible refine nxId ?_;(conv=>whnf);(first|(with_reducible refine atId ?_)|(with_reducible refine FinAt.mk ?_;cbv;try simp only[hseg])|(cbv;try simp only[hseg])))|(try cbv;try simp only[hseg])
 repeat' (first
  |(with_reducible refine hK _ ?_;clear hK K);(conv=>whnf);(first|(with_reducible refine atId ?_)|(with_reducible refine FinAt.mk ?_;cbv;try simp only[hseg])|(cbv;try simp only[hseg]))
  |(with_reducible refine bR hB ?_;intro K hK);cbv;try simp only[hseg]
  |(with_reducible refine FinAt.mk ?_);cbv;try simp only[hseg]
  |(with_reducible first|apply ndN|refine ndC True.intro ?_);try cbv
  |(with_reducible refine bE hB hM ?ndh ?_);(case ndh=>decide +kernel);intro K hK;cbv;try simp only[hseg]
  |(with_reducible refine ndC ?ndh ?_);(case ndh=>exact ntW)
  |(with_reducible refine nG ?_);(conv=>whnf)
  |(with_reducible first|apply dC0|apply dD0);(first|(with_reducible refine nxId ?_;(conv=>whnf);(first|(with_reducible refine atId ?_)|(with_reducible refine FinAt.mk ?_;cbv;try simp only[hseg])|(cbv;try simp only[hseg])))|(cbv;try simp only[hseg]))
  |(simp (disch:=omega) only [F.r1,F.r2,F.r3,F.r4,F.r5,F.r6,F.r7,F.r8,F.r9,F.r10,F.r11,F.r12,F.r13,F.r14,F.r15,F.r16,F.r17,F.r20,F.r21,F.r22,F.r18,F.r19,F.r23,F.r24,F.r25,F.r26,F.r27,F.r28,F.r29,Ex.tI hI,Sm.tI hI,Ru.tI hI,Fu.tI hI,JD0 hI,Vl.tI hI,Ik.tI hI,GN0 hI,qJ1 hI]);(try cbv)
  |(first|simp only[e1]|simp only[e2]|simp only[e3]|fail);(try cbv)
  |fail)
 (try revert hK K);exact hZ.go):G:=t ⟨⟩ ⟨h⟩
end
theorem forkP {b:Bool} {x y:Unit->Prop} {p:Prop} (e:(b=true)=p) (s:p->x ()) (t:¬p->y ()):GFork b x y:=⟨fun q=>s (e ▸ q),fun q=>t (e ▸ (by simp[q]:¬b=true))⟩
theorem qk {G A B p:Prop} (h:p->A) (k:¬p->B) (t:(p->A)->(¬p->B)->G:=by
 intro hA hB;(try intro K hK);with_reducible apply forkP
 case e=>(try (conv=>lhs;simp only[F.k1,F.k2,F.k3,F.k4,F.k5,F.k6,F.k7,F.k8,F.k9,F.k10,F.k11,F.k12,F.k13,xT0,hI.e,Int.ofNat_eq_natCast,Int.ofNat_lt,Int.ofNat_le,Int.natCast_inj,nl1,nl2,nl3,nl4,nl5]));all_goals exact rfl
 case s=>intro q;(first|(with_reducible refine nxId ?_;(conv=>whnf);(first|(with_reducible refine atId ?_)|(with_reducible refine FinAt.mk ?_;cbv;try simp only[hseg])|(cbv;try simp only[hseg])))|(cbv;try simp only[hseg]));(try revert hK K);exact hA q
 case t=>intro q;(first|(with_reducible refine nxId ?_;(conv=>whnf);(first|(with_reducible refine atId ?_)|(with_reducible refine FinAt.mk ?_;cbv;try simp only[hseg])|(cbv;try simp only[hseg])))|(cbv;try simp only[hseg]));(try revert hK K);exact hB q):G:=t h k
theorem qp {G A B:Prop} (h:A) (k:B) (t:A->B->G:=by
 intro hA hB;(try intro K hK);with_reducible refine tG1 ?_ ?_
 ·(first|(with_reducible refine nxId ?_;(conv=>whnf);(first|(with_reducible refine atId ?_)|(with_reducible refine FinAt.mk ?_;cbv;try simp only[hseg])|(cbv;try simp only[hseg])))|(cbv;try simp only[hseg]));(try revert hK K);exact hA
 ·(first|(with_reducible refine nxId ?_;(conv=>whnf);(first|(with_reducible refine atId ?_)|(with_reducible refine FinAt.mk ?_;cbv;try simp only[hseg])|(cbv;try simp only[hseg])))|(cbv;try simp only[hseg]));(try revert hK K);exact hB):G:=t h k
theorem qY {P P0:Program} {f:FuncId} {cargs:List AV} {cbx:List (Option (List A))} {ids:List Nat} {i:Nat} {dst:Option Tmp} {σm:AS} {K:AS->Prop} {r:AV} {b:List (Option (List A))} (hP:P=P0) (hc:ACl P0 f cargs cbx (fun res bx=>res=r/\bx=b))
  (hK:Nx (K ((zH0 ids i σm r b).2.putO dst (zH0 ids i σm r b).1))) (he:zT0 P0 f=true):GCallD P f cargs cbx ids i dst σm K:=GCallD.by hP he hc fun _ _ h=>by rw[h.1,h.2];exact hK.go
theorem qYe {P P0:Program} {f:FuncId} {cargs:List AV} {cbx:List (Option (List A))} {ids:List Nat} {i:Nat} {dst:Option Tmp} {σm:AS} {K:AS->Prop} {α:Type} {W:α->Prop} {r:α->AV} {b:α->List (Option (List A))} (hP:P=P0) (hc:ACl P0 f cargs cbx (fun res bx=>∃x,W x/\res=r x/\bx=b x))
  (hK:∀x,W x->Nx (K ((zH0 ids i σm (r x) (b x)).2.putO dst (zH0 ids i σm (r x) (b x)).1))) (he:zT0 P0 f=true):GCallD P f cargs cbx ids i dst σm K:=GCallD.by hP he hc fun _ _ ⟨x,hx,h1,h2⟩=>by rw[h1,h2];exact (hK x hx).go
section
variable {G H:Prop} {α:Type} {W J:α->Prop}
structure Hb (x:Hint):Prop
theorem gH {O:Ops} {P:Program} {σ:AS} {x:Hint} {i:Nat} {fop:Operand} {args:Array Operand} {dst:Option Tmp} {K:AS->Prop} (_:Hb x) (hx:XX0 O P x i fop args dst σ K):GCall O P i fop args dst σ K:=GCall.by x hx
theorem qJ (x:Hint) (h:H) (t:Hb x->Wr H->G:=by
 intro hH hZ;(try intro K hK)
 refine gH hH ?_;(try cbv);(try simp only[hseg,F.r1,F.r7])
 (with_reducible apply qY hP);(case hc=>exact hcW);(case he=>first|rfl|assumption)
 refine Nx.mk ?_;(try cbv);(try simp only[hseg,hI.u0,hI.u1,hI.u2,hI.u3]);(try revert hK K);exact hZ.go):G:=t ⟨⟩ ⟨h⟩
theorem qJe (x:Hint) (h:∀x,W x->J x) (t:Hb x->Wr (∀x,W x->J x)->G:=by
 intro hH hZ;(try intro K hK)
 refine gH hH ?_;(try cbv);(try simp only[hseg,F.r1,F.r7])
 (with_reducible apply qYe hP);(case hc=>exact hcW);(case he=>first|rfl|assumption)
 intro x hx;refine Nx.mk ?_;(try cbv);(try simp only[hseg,hI.u0,hI.u1,hI.u2,hI.u3]);(try revert hK K);exact hZ.go x hx):G:=t ⟨⟩ ⟨h⟩
end
section
variable {I:∀{α:Type},α->α} (hI:II @I)
include hI
theorem liI {a b:Int} (h:a=b):(⟨.one,[.lit (.int .i64 a)]⟩:AV)=litI (I b):=by rw[h,hI.e]
end
def kkB (b c k:Nat):Root->Nat->Option Nat:=fun r x=>match r with | .box b'=>if b'=b then if x=c then some k else none else none | _=>none
theorem pE0:decide ((0:Int) < 0)=false:=rfl
theorem yM0 {P:Program} {f:FuncId} {args:List AV} {bx:List (Option (List A))} {r:AV} {x:List (Option (List A))} (h:ACl P f args bx (fun res bx=>res.roC=r/\bx=x)):ACl P f args bx (fun res bx=>res=r/\bx=x):=
 acI h.ro fun _ _ ⟨_,h,e⟩=>⟨by rw[e,h.1],h.2⟩
theorem qLf {α:Type} {O:Ops} {ts:Nat->Option TI} {P:Program} {C:Ctx} {σ:AS} {Q:Exit->AS->Prop} {c:Code} (nb:Nat) (ks:List Nat) (kk:Root->Nat->Option Nat) (S:α->AS) (V:α->Prop) (μ:α->Nat) (h0:wF0 nb (fun t=>ks.contains t) kk σ fun σ'=>∃a,σ'=S a/\V a)
  (round:∀a,V a->Nx (nxt O ts P C c (S a) (tD0 (fun σ'=>wF0 nb (fun t=>ks.contains t) kk σ' fun σ''=>∃a',σ''=S a'/\V a'/\μ a' < μ a) Q))) (hC':C.bl0.length<=nb:=by first|(simp at hC;simp[hC];done)|(simp[hC];done)|omega|(simp at hC;omega)|fail):At O ts P C (.loop c) σ Q:=
 nL (nb:=nb) (keep:=fun t=>ks.contains t) (kk:=kk) (fun n σ=>∃a,σ=S a/\V a/\n=μ a) hC' (by
  unfold wF0 at h0 |-
  split at h0
  ·rename_i x hx
   obtain ⟨a,h1,h2⟩:=h0;exact ⟨_,a,h1,h2,rfl⟩
  ·exact h0.elim) fun n σ=>by
  rintro ⟨a,rfl,h1,rfl⟩;have h:=(round a h1).go;have e:(tD0 (fun σ'=>wF0 nb (fun t=>ks.contains t) kk σ' fun σ''=>∃a',σ''=S a'/\V a'/\μ a' < μ a) Q)=(tD0 (fun σ'=>wF0 nb (fun t=>ks.contains t) kk σ' fun σ''=>∃m,m < μ a/\∃a,σ''=S a/\V a/\m=μ a) Q):=by
   congr 1
   funext σ'
   congr 1
   funext σ''
   exact propext ⟨fun ⟨a',h1,h2,h3⟩=>⟨_,h3,a',h1,h2,rfl⟩,fun ⟨m,h3,a',h1,h2,h4⟩=>⟨a',h1,h2,h4 ▸ h3⟩⟩
  rw[e] at h;exact h
theorem qN {I:∀{α:Type},α->α} (hI:II @I) {ts:Nat->Option TI} {P0:Program} (ht:∀n ti,ts n=some ti->tyOf P0 n=some ti) {f:FuncId} {fn:Func} {c:Code} {args:List AV} {bx:List (Option (List A))} {R0:AV->List (Option (List A))->Prop} (hf:P0.funcs[f]?=some fn) (n:Nat) (rs:List ResultVar)
  (h:∀bin cmp sadd scmp beq bnot band un wrap size byte chr sub len seg app get set nat nadd nsub repl text bytes mn mx nz nn idx bnd le all one lits isB sOk aOk mOk er,∀(hO:⟨bin,cmp,sadd,scmp,beq,bnot,band,un,wrap,size,byte,chr,sub,len,seg,app,get,set,nat,nadd,nsub,repl,text,bytes,mn,mx,nz,nn,idx,bnd,le,all,one,lits,isB,sOk,aOk,mOk,er⟩=Ops.std) (F:Fx @I bin cmp sadd scmp beq bnot band un wrap size byte chr sub len seg app get set nat nadd nsub repl text bytes mn mx nz nn idx bnd le all one lits isB sOk aOk mOk er) (P:Program) (hP:P=P0) (C:Ctx) (hC:C.bl0.length=bx.length) (R:AV->List (Option (List A))->Prop) (hR:∀res bx',R0 res bx'->R res bx') (hM:P.follows .mixedOrders=true) (hseg:∀e,seg 0 (len e) e=e),Nx (nxt ⟨bin,cmp,sadd,scmp,beq,bnot,band,un,wrap,size,byte,chr,sub,len,seg,app,get,set,nat,nadd,nsub,repl,text,bytes,mn,mx,nz,nn,idx,bnd,le,all,one,lits,isB,sOk,aOk,mOk,er⟩ ts P C c (tE0 args n bx) (FinAt ⟨bin,cmp,sadd,scmp,beq,bnot,band,un,wrap,size,byte,chr,sub,len,seg,app,get,set,nat,nadd,nsub,repl,text,bytes,mn,mx,nz,nn,idx,bnd,le,all,one,lits,isB,sOk,aOk,mOk,er⟩ ts bx.length rs R))) (hb:fn.body=some c:=by rfl)
  (hn:fn.ntmps=n:=by rfl) (hrs:fn.results.toList=rs:=by rfl) (hA:∀av∈args,xD0 av.cs:=by first|(simp[xD0,litI,litS,litB,A.stamp,A.rstamp,stampIn];done) | simp) (hB:∀cs,some cs∈bx->xD0 cs:=by first|(simp[xD0,litI,litS,litB,A.stamp,A.rstamp,stampIn];done) | simp) (hm:P0.follows .mixedOrders=true:=by rfl):ACl P0 f args bx R0:=
 XU0 ht n rs hf hb hn hrs hA hB fun O hO P hP C hC R' hR=>HN0 (by
  have F:=Fx.of hI hO;obtain ⟨bin,cmp,sadd,scmp,beq,bnot,band,un,wrap,size,byte,chr,sub,len,seg,app,get,set,nat,nadd,nsub,repl,text,bytes,mn,mx,nz,nn,idx,bnd,le,all,one,lits,isB,sOk,aOk,mOk,er⟩:=O;exact (h bin cmp sadd scmp beq bnot band un wrap size byte chr sub len seg app get set nat nadd nsub repl text bytes mn mx nz nn idx bnd le all one lits isB sOk aOk mOk er hO F P hP C hC R' hR (by rw[hP];exact hm) (by intro e;cases hO;simp)).go)
end Go.Gv
