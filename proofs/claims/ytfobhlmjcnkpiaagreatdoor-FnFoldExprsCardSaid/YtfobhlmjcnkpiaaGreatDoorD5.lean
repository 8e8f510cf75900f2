/- Part D5 of the proof: The walk, made short: what stands next is computed. / What a function hands over may be shared at once: its slices read as such that are read alone. / The end of a function, not looked into till it is reached. / A fork whose bit is known is none. -/
import Derived.Test.YtfobhlmjcnkpiaaGreatDoorD4
set_option linter.all false
/- The walk, made short: what stands next is computed. -/
namespace Go.Gv
open Go.Av
structure At (O:Ops) (ts:Nat->Option TI) (P:Program) (C:Ctx) (c:Code) (σ:AS) (Q:Exit->AS->Prop):Prop where
 go:GWp O ts P C c σ Q
def nxt (O:Ops) (ts:Nat->Option TI) (P:Program) (C:Ctx):Code->AS->(Exit->AS->Prop)->Prop
 | .seq x y,σ,Q=>nxt O ts P C x σ (tD0 (fun σ'=>nxt O ts P C y σ' Q) Q)
 | .block id c,σ,Q=>nxt O ts P C c σ (kJ0 id Q)
 | .skip,σ,Q=>Q .normal σ
 | .ret,σ,Q=>Q .ret σ
 | .exit id,σ,Q=>Q (.exit id) σ
 | c,σ,Q=>At O ts P C c σ Q
variable {O:Ops} {ts:Nat->Option TI} {P:Program} {C:Ctx} {σ:AS} {Q:Exit->AS->Prop}
theorem rL0:∀{c:Code} {σ:AS} {Q:Exit->AS->Prop},nxt O ts P C c σ Q->GWp O ts P C c σ Q
 | .seq x y,σ,Q,h=>GWp.seq ((rL0 (c:=x) h).mono fun e σ' hq=>by
   cases e<;>first | exact rL0 (c:=y) hq | exact hq)
 | .block id c,σ,Q,h=>GWp.block (rL0 (c:=c) h)
 | .skip,σ,Q,h=>GWp.skip h
 | .ret,σ,Q,h=>GWp.ret h
 | .exit id,σ,Q,h=>GWp.exit h
 | .region ..,σ,Q,h=>h.go
 | .cond ..,σ,Q,h=>h.go
 | .loop ..,σ,Q,h=>h.go
 | .goto ..,σ,Q,h=>h.go
 | .label ..,σ,Q,h=>h.go
 | .rangeFunc ..,σ,Q,h=>h.go
 | .scope ..,σ,Q,h=>h.go
 | .refuse ..,σ,Q,h=>h.go
theorem aR {base id:Nat} {ops:Array Oper} (h:∀K:AS->Prop,(∀σ',Q .normal σ'->K σ')->gOps O ts P base ops (List.range ops.size) [] [] σ K):At O ts P C (.region id ops false) σ Q:=⟨GWp.region h⟩
theorem nC {c:Operand} {x y:Code} {b:Bool} (hc:σ.ev c=some ⟨.one,[.lit (.bool b)]⟩) (h1:b=true->nxt O ts P C x σ Q) (h2:b=false->nxt O ts P C y σ Q):At O ts P C (.cond c x y) σ Q:=
 ⟨GWp.cond hc (fun h=>rL0 (h1 h)) fun h=>rL0 (h2 h)⟩
theorem nT {c:Operand} {x y:Code} (hc:σ.ev c=some ⟨.one,[.lit (.bool true)]⟩) (h:nxt O ts P C x σ Q):At O ts P C (.cond c x y) σ Q:=⟨GWp.cond_t hc (rL0 h)⟩
theorem nF {c:Operand} {x y:Code} (hc:σ.ev c=some ⟨.one,[.lit (.bool false)]⟩) (h:nxt O ts P C y σ Q):At O ts P C (.cond c x y) σ Q:=⟨GWp.cond_f hc (rL0 h)⟩
theorem nL {nb:Nat} {keep:Nat->Bool} {kk:Root->Nat->Option Nat} {c:Code} (I:Nat->AS->Prop) (hC:C.bl0.length<=nb) (h0:wF0 nb keep kk σ fun σ'=>∃n,I n σ')
  (round:∀n σ,I n σ->nxt O ts P C c σ (tD0 (fun σ'=>wF0 nb keep kk σ' fun σ''=>∃m,m < n/\I m σ'') Q)):At O ts P C (.loop c) σ Q:=
 ⟨GWp.loop I hC h0 fun n σ h=>rL0 (round n σ h)⟩
theorem atId {c:Code} (h:At O ts P C c σ Q):At O ts P C c σ Q:=h
theorem nxId {c:Code} (h:nxt O ts P C c σ Q):nxt O ts P C c σ Q:=h
theorem nW {nb:Nat} {keep:Nat->Bool} {kk:Root->Nat->Option Nat} {c:Code} (hC:C.bl0.length<=nb) (h:wF0 nb keep kk σ fun σ'=>At O ts P C c σ' Q):At O ts P C c σ Q:=by
 refine ⟨fun hO ht a w hi=>?_⟩;simp only[wF0] at h
 split at h
 ·rename_i σ2 hx2
  exact h.go hO ht a w (uJ1 hx2 hC hi)
 ·exact h.elim
theorem nWr {id:Nat} {nb:Nat} {keep:Nat->Bool} {kk:Root->Nat->Option Nat} {ops:Array Oper} {d:Bool} (hC:C.bl0.length<=nb) (h:wF0 nb keep kk σ fun σ'=>At O ts P C (.region id ops d) σ' Q):At O ts P C (.region id ops d) σ Q:=nW hC h
theorem FP0 {α:Type} {S:α->AS} {H:α->Prop} {G:Prop} {c:Code} {Q:Exit->AS->Prop} (h1:(∀b,H b->At O ts P C c (S b) Q)->G) (h2:∀b,H b->At O ts P C c (S b) Q):G:=h1 h2
def mH1 (v:Option AV) (x y:Unit->Prop):Prop:=match v with
 | some ⟨.one,[.lit (.bool b)]⟩=>GFork b x y
 | _=>False
theorem nG {c:Operand} {x y:Code} (h:mH1 (σ.ev c) (fun _=>nxt O ts P C x σ Q) (fun _=>nxt O ts P C y σ Q)):At O ts P C (.cond c x y) σ Q:=by
 unfold mH1 at h
 split at h
 ·rename_i b hb
  exact nC hb (fun hx=>h.yes hx) fun hx=>h.no hx
 ·exact h.elim
end Go.Gv
/- What a function hands over may be shared at once: its slices read as such that are read alone. -/
namespace Go.Av
def A.roC:A->A
 | .nil=>.ro true []
 | .ow _ d _ els=>.ro true (erD d els)
 | c=>c
def AV.roC (av:AV):AV:=⟨av.sh,av.cs.map A.roC⟩
theorem le_zero {S S':Nat->Prop} {bl:List Bk} {w:World} (h:∀b,S b->S' b):Env.Le none (Env.zero S S bl w) (Env.zero S' S' bl w):=
 ⟨h,h,fun _ _=>rfl,fun _ _ hb=>hb,fun r c g d k els' _ he=>by simp[Env.zero] at he⟩
theorem xA0 (cs:List A):zG0 none cs:=by
 intro c hc
 by_cases h:c.rstamp=none
 ·exact Or.inl h
 ·exact Or.inr h
theorem RepA.roC {S S':Nat->Prop} {bl:List Bk} {w:World} (h:∀b,S b->S' b) {c:A} {u:Value} {own:List Nat} (ho:∀b∈own,S' b) (hr:RepA (Env.zero S S bl w) c u own) :
  RepA (Env.zero S' S' bl w) c.roC u []:=by
 have key:own=[]->RepA (Env.zero S' S' bl w) c u []:=fun e=>by
  subst e;exact RepA.go (le_zero h) (fun _ _=>rfl) (xA0 [c] c List.mem_cons_self) hr
 cases c<;>simp only[A.roC]<;>try (exact key (by first | exact hr.2.2 | exact hr.2 | exact hr.1))
 ·obtain ⟨⟨ad,rfl⟩,rfl⟩:=hr
  exact ⟨by simp only[RepS];exact ⟨ad,0,rfl,Nat.le_refl _,fun hne=>absurd rfl hne⟩,rfl⟩
 ·rename_i g d k els
  exact ⟨RepO.toR (S':=S') h ho (show RepO S w d k els u own from hr),rfl⟩
theorem RpA.roC {S S':Nat->Prop} {bl:List Bk} {w:World} (h:∀b,S b->S' b):∀{cs:List A} {us:List Value} {own:List Nat},(∀b∈own,S' b)->RpA (Env.zero S S bl w) cs us own->
  RpA (Env.zero S' S' bl w) (cs.map A.roC) us []
 | [],us,own,_,hr=>⟨hr.1,rfl⟩
 | c::cs,us,own,ho,hr=>by
  obtain ⟨u,us',o1,o2,rfl,rfl,h3,h4⟩:=hr;exact ⟨u,us',[],[],rfl,rfl,RepA.roC h (fun b hb=>ho b (by simp[hb])) h3,RpA.roC h (fun b hb=>ho b (by simp[hb])) h4⟩
theorem RepA.lt {E:Env} {c:A} {u:Value} {own:List Nat} (h:RepA E c u own):∀b∈own,b < E.w.heap.size:=by
 cases c<;>try (first|(rw[show own=[] from h.2.2];simp;done)|(rw[show own=[] from h.2];simp;done)|(rw[show own=[] from h.1];simp;done))
 exact RepO.lt h
theorem RpA.lt {E:Env}:∀{cs:List A} {us:List Value} {own:List Nat},RpA E cs us own->∀b∈own,b < E.w.heap.size
 | [],us,own,h=>by rw[h.2];simp
 | c::cs,us,own,h=>by
  obtain ⟨u,us',o1,o2,rfl,rfl,h3,h4⟩:=h;intro b hb;rcases List.mem_append.1 hb with hb | hb
  ·exact RepA.lt h3 b hb
  ·exact RpA.lt h4 b hb
theorem ACl.ro {P:Program} {f:FuncId} {args:List AV} {bx:List (Option (List A))} {R:AV->List (Option (List A))->Prop} (h:ACl P f args bx R) :
  ACl P f args bx (fun res bx=>∃r0,R r0 bx/\res=r0.roC):=by
 intro w vals S L bl O1 O2 h1 h2 h3 h4 h5 h6;refine (h w vals S L bl O1 O2 h1 h2 h3 h4 h5 h6).mono ?_;rintro e w' ⟨v,rfl,res,bx',S',bl',o1,o2,hR,hv,hb,hn,hs,hSS,hS',hk,ho,hp⟩;have hlt:∀b∈o1,b < w'.heap.size:=by
  obtain ⟨sh,cs⟩:=res;cases sh with
  | any=>rw[hv.2];simp
  | one=>exact RpA.lt hv.2
  | agg=>exact RpA.lt hv.2
  | tup ns=>exact RpA.lt hv.2
 have hup:∀b,S' b->(fun b=>S' b\/b∈o1) b:=fun b h=>Or.inl h;refine ⟨v,rfl,res.roC,bx',fun b=>S' b\/b∈o1,bl',[],o2,⟨res,hR,rfl⟩,?_,?_,(List.nodup_append.1 hn).2.1,?_,fun b hb=>Or.inl (hSS b hb),?_,hk,fun b hb=>ho b (by simp at hb;simp[hb]),hp⟩
 ·obtain ⟨sh,cs⟩:=res
  cases sh with
  | any=>
   have hc:cs=[]:=hv.1;subst hc;exact ⟨rfl,rfl⟩
  | one=>exact ⟨hv.1,RpA.roC hup (fun b hb=>Or.inr hb) hv.2⟩
  | agg=>exact ⟨hv.1,RpA.roC hup (fun b hb=>Or.inr hb) hv.2⟩
  | tup ns=>exact ⟨hv.1,RpA.roC hup (fun b hb=>Or.inr hb) hv.2⟩
 ·exact RpB.go (le_zero hup) (fun _ _=>rfl) (fun c cs' _ _=>xA0 cs') hb
 ·rintro b (hb | hb)
  ·exact ⟨(hs b hb).1,by have:=(hs b hb).2;simp at this |-;exact this.2⟩
  ·refine ⟨hlt b hb,?_⟩
   simp only[List.nil_append];exact fun hb2=>(List.nodup_append.1 hn).2.2 b hb b hb2 rfl
 ·rintro b (hb | hb)
  ·exact hS' b hb
  ·rcases ho b (by simp[hb]) with h | h
   ·exact Or.inr (Or.inl h)
   ·exact Or.inr (Or.inr h)
theorem acI {P:Program} {f:FuncId} {args:List AV} {bx:List (Option (List A))} {R R':AV->List (Option (List A))->Prop} (h:ACl P f args bx R) (hi:∀res bx,R res bx->R' res bx):ACl P f args bx R':=by
 intro w vals S L bl O1 O2 h1 h2 h3 h4 h5 h6;refine (h w vals S L bl O1 O2 h1 h2 h3 h4 h5 h6).mono ?_;rintro e w' ⟨v,rfl,res,bx',S',bl',o1,o2,hR,hr⟩;exact ⟨v,rfl,res,bx',S',bl',o1,o2,hi _ _ hR,hr⟩
end Go.Av
/- The end of a function, not looked into till it is reached. -/
namespace Go.Gv
open Go.Av
variable {O:Ops} {ts:Nat->Option TI} {P:Program} {C:Ctx} {σ:AS}
structure FinAt (O:Ops) (ts:Nat->Option TI) (base:Nat) (rs:List ResultVar) (R:AV->List (Option (List A))->Prop) (e:Exit) (σ:AS):Prop where
 go:rE1 O ts base rs R e σ
theorem HN0 {base:Nat} {rs:List ResultVar} {R:AV->List (Option (List A))->Prop} {c:Code} (h:nxt O ts P C c σ (FinAt O ts base rs R)):GWp O ts P C c σ (rE1 O ts base rs R):=
 (rL0 h).mono fun _ _ hq=>hq.go
end Go.Gv
/- A fork whose bit is known is none. -/
namespace Go.Gv
open Go.Av
theorem GW0 {b:Bool} {x y:Unit->Prop} (hb:b=true) (h:x ()):GFork b x y:=⟨fun _=>h,fun h'=>absurd (hb.symm.trans h') (by decide)⟩
theorem GX0 {b:Bool} {x y:Unit->Prop} (hb:b=false) (h:y ()):GFork b x y:=⟨fun h'=>absurd (hb.symm.trans h') (by decide),fun _=>h⟩
end Go.Gv
