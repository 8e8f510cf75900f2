/- Part K2 of the proof: The walk, made short: what stands next is computed. / What a function hands over may be shared at once: its slices read as such that are read alone. / The end of a function, not looked into till it is reached. / A fork whose bit is known is none. / Avs: a slice of ones own that lies in a cell is let go: it is read alone from here on. / A slice of bytes that is converted to its own type as bytes out of a constant text are laid: its block gets a mark, the slice is shared and a rule for regions wit -/
import Derived.Test.YtjeejieaalnbeaaGreatD4
set_option linter.all false
/- The walk, made short: what stands next is computed. -/
namespace Go.Gv
open Go.Av
structure At (O:Ops) (ts:Nat->Option TI) (P:Program) (C:Ctx) (c:Code) (σ:AS) (Q:Exit->AS->Prop):Prop where
 go:GWp O ts P C c σ Q
def nxt (O:Ops) (ts:Nat->Option TI) (P:Program) (C:Ctx):Code->AS->(Exit->AS->Prop)->Prop
 | .seq x y,σ,Q=>nxt O ts P C x σ (thenA (fun σ'=>nxt O ts P C y σ' Q) Q)
 | .block id c,σ,Q=>nxt O ts P C c σ (inBlockA id Q)
 | .skip,σ,Q=>Q .normal σ
 | .ret,σ,Q=>Q .ret σ
 | .exit id,σ,Q=>Q (.exit id) σ
 | c,σ,Q=>At O ts P C c σ Q
variable {O:Ops} {ts:Nat->Option TI} {P:Program} {C:Ctx} {σ:AS} {Q:Exit->AS->Prop}
theorem nxt_ok:∀{c:Code} {σ:AS} {Q:Exit->AS->Prop},nxt O ts P C c σ Q->GWp O ts P C c σ Q
 | .seq x y,σ,Q,h=>GWp.seq ((nxt_ok (c:=x) h).mono fun e σ' hq=>by
   cases e<;>first | exact nxt_ok (c:=y) hq | exact hq)
 | .block id c,σ,Q,h=>GWp.block (nxt_ok (c:=c) h)
 | .skip,σ,Q,h=>GWp.skip h
 | .ret,σ,Q,h=>GWp.ret h
 | .exit id,σ,Q,h=>GWp.exit h
 | .region ..,σ,Q,h=>h.go
 | .cond ..,σ,Q,h=>h.go
 | .loop ..,σ,Q,h=>h.go
 | .goto ..,σ,Q,h=>h.go
 | .label ..,σ,Q,h=>h.go
 | .rangeFunc ..,σ,Q,h=>h.go
 | .scope ..,σ,Q,h=>h.go
 | .refuse ..,σ,Q,h=>h.go
theorem aR {base id:Nat} {ops:Array Oper} (h:∀K:AS->Prop,(∀σ',Q .normal σ'->K σ')->gOps O ts P base ops (List.range ops.size) [] [] σ K):At O ts P C (.region id ops false) σ Q:=⟨GWp.region h⟩
theorem aD {ops:Array Oper} {base id:Nat} (hm:P.follows .mixedOrders=true) (hok:ordOk ops (mkOrd ops)=true)
  (h:∀K:AS->Prop,(∀σ',Q .normal σ'->K σ')->gCan O ts P base ops (mkOrd ops) [] [] [] [] (AS.blank (pureDsts ops) σ) K):At O ts P C (.region id ops true) σ Q:=⟨GWp.draws hm hok h⟩
theorem nC {c:Operand} {x y:Code} {b:Bool} (hc:σ.ev c=some ⟨.one,[.lit (.bool b)]⟩) (h1:b=true->nxt O ts P C x σ Q) (h2:b=false->nxt O ts P C y σ Q):At O ts P C (.cond c x y) σ Q:=
 ⟨GWp.cond hc (fun h=>nxt_ok (h1 h)) fun h=>nxt_ok (h2 h)⟩
theorem nT {c:Operand} {x y:Code} (hc:σ.ev c=some ⟨.one,[.lit (.bool true)]⟩) (h:nxt O ts P C x σ Q):At O ts P C (.cond c x y) σ Q:=⟨GWp.cond_t hc (nxt_ok h)⟩
theorem nF {c:Operand} {x y:Code} (hc:σ.ev c=some ⟨.one,[.lit (.bool false)]⟩) (h:nxt O ts P C y σ Q):At O ts P C (.cond c x y) σ Q:=⟨GWp.cond_f hc (nxt_ok h)⟩
theorem nL {nb:Nat} {keep:Nat->Bool} {kk:Root->Nat->Option Nat} {c:Code} (I:Nat->AS->Prop) (hC:C.bl0.length<=nb) (h0:wkThen nb keep kk σ fun σ'=>∃n,I n σ')
  (round:∀n σ,I n σ->nxt O ts P C c σ (thenA (fun σ'=>wkThen nb keep kk σ' fun σ''=>∃m,m < n/\I m σ'') Q)):At O ts P C (.loop c) σ Q:=
 ⟨GWp.loop I hC h0 fun n σ h=>nxt_ok (round n σ h)⟩
theorem atId {c:Code} (h:At O ts P C c σ Q):At O ts P C c σ Q:=h
theorem nxId {c:Code} (h:nxt O ts P C c σ Q):nxt O ts P C c σ Q:=h
theorem nW {nb:Nat} {keep:Nat->Bool} {kk:Root->Nat->Option Nat} {c:Code} (hC:C.bl0.length<=nb) (h:wkThen nb keep kk σ fun σ'=>At O ts P C c σ' Q):At O ts P C c σ Q:=by
 refine ⟨fun hO ht a w hi=>?_⟩;simp only[wkThen] at h
 split at h
 ·rename_i σ2 hx2
  exact h.go hO ht a w (wk_ok hx2 hC hi)
 ·exact h.elim
theorem nWr {id:Nat} {nb:Nat} {keep:Nat->Bool} {kk:Root->Nat->Option Nat} {ops:Array Oper} {d:Bool} (hC:C.bl0.length<=nb) (h:wkThen nb keep kk σ fun σ'=>At O ts P C (.region id ops d) σ' Q):At O ts P C (.region id ops d) σ Q:=nW hC h
theorem cutRest {α:Type} {S:α->AS} {H:α->Prop} {G:Prop} {c:Code} {Q:Exit->AS->Prop} (h1:(∀b,H b->At O ts P C c (S b) Q)->G) (h2:∀b,H b->At O ts P C c (S b) Q):G:=h1 h2
def condG (v:Option AV) (x y:Unit->Prop):Prop:=match v with
 | some ⟨.one,[.lit (.bool b)]⟩=>GFork b x y
 | _=>False
theorem nG {c:Operand} {x y:Code} (h:condG (σ.ev c) (fun _=>nxt O ts P C x σ Q) (fun _=>nxt O ts P C y σ Q)):At O ts P C (.cond c x y) σ Q:=by
 unfold condG at h
 split at h
 ·rename_i b hb
  exact nC hb (fun hx=>h.yes hx) fun hx=>h.no hx
 ·exact h.elim
end Go.Gv
/- What a function hands over may be shared at once: its slices read as such that are read alone. -/
namespace Go.Av
def A.roC:A->A
 | .nil=>.ro true []
 | .ow _ _ els=>.ro true els
 | c=>c
def AV.roC (av:AV):AV:=⟨av.sh,av.cs.map A.roC⟩
theorem le_zero {S S':Nat->Prop} {bl:List Nat} {w:World} (h:∀b,S b->S' b):Env.Le none (Env.zero S S bl w) (Env.zero S' S' bl w):=
 ⟨h,h,fun _ _=>rfl,fun _ _ hb=>hb,fun r c g k els' _ he=>by simp[Env.zero] at he⟩
theorem stampsNe_none (cs:List A):stampsNe none cs:=by
 intro c hc
 by_cases h:c.rstamp=none
 ·exact Or.inl h
 ·exact Or.inr h
theorem RepA.roC {S S':Nat->Prop} {bl:List Nat} {w:World} (h:∀b,S b->S' b) {c:A} {u:Value} {own:List Nat} (ho:∀b∈own,S' b) (hr:RepA (Env.zero S S bl w) c u own) :
  RepA (Env.zero S' S' bl w) c.roC u []:=by
 have key:own=[]->RepA (Env.zero S' S' bl w) c u []:=fun e=>by
  subst e;exact RepA.go (le_zero h) (fun _ _=>rfl) (stampsNe_none [c] c List.mem_cons_self) hr
 cases c<;>simp only[A.roC]<;>try (exact key (by first | exact hr.2.2 | exact hr.2 | exact hr.1))
 ·obtain ⟨⟨ad,rfl⟩,rfl⟩:=hr
  exact ⟨by simp only[RepS];exact ⟨ad,0,rfl,Nat.le_refl _,fun hne=>absurd rfl hne⟩,rfl⟩
 ·exact ⟨RepO.toS (S':=S') h ho hr,rfl⟩
theorem RpA.roC {S S':Nat->Prop} {bl:List Nat} {w:World} (h:∀b,S b->S' b):∀{cs:List A} {us:List Value} {own:List Nat},(∀b∈own,S' b)->RpA (Env.zero S S bl w) cs us own->
  RpA (Env.zero S' S' bl w) (cs.map A.roC) us []
 | [],us,own,_,hr=>⟨hr.1,rfl⟩
 | c::cs,us,own,ho,hr=>by
  obtain ⟨u,us',o1,o2,rfl,rfl,h3,h4⟩:=hr;exact ⟨u,us',[],[],rfl,rfl,RepA.roC h (fun b hb=>ho b (by simp[hb])) h3,RpA.roC h (fun b hb=>ho b (by simp[hb])) h4⟩
theorem RepO.lt {S:Nat->Prop} {w:World} {k:Nat} {els:List (List T)} {u:Value} {own:List Nat} (h:RepO S w k els u own):∀b∈own,b < w.heap.size:=by
 obtain ⟨ad,cap,_,_,_,h4⟩:=h;rcases h4 with ⟨rfl,_,_⟩ | ⟨b,o,arr,ty,fz,_,rfl,g3,_⟩
 ·simp
 ·intro x hx
  simp at hx;subst hx;exact (Array.getElem?_eq_some_iff.1 g3).1
theorem RepA.lt {E:Env} {c:A} {u:Value} {own:List Nat} (h:RepA E c u own):∀b∈own,b < E.w.heap.size:=by
 cases c<;>try (first|(rw[show own=[] from h.2.2];simp;done)|(rw[show own=[] from h.2];simp;done)|(rw[show own=[] from h.1];simp;done))
 exact RepO.lt h
theorem RpA.lt {E:Env}:∀{cs:List A} {us:List Value} {own:List Nat},RpA E cs us own->∀b∈own,b < E.w.heap.size
 | [],us,own,h=>by rw[h.2];simp
 | c::cs,us,own,h=>by
  obtain ⟨u,us',o1,o2,rfl,rfl,h3,h4⟩:=h;intro b hb;rcases List.mem_append.1 hb with hb | hb
  ·exact RepA.lt h3 b hb
  ·exact RpA.lt h4 b hb
theorem ACl.ro {P:Program} {f:FuncId} {args:List AV} {bx:List (Option (List A))} {R:AV->List (Option (List A))->Prop} (h:ACl P f args bx R) :
  ACl P f args bx (fun res bx=>∃r0,R r0 bx/\res=r0.roC):=by
 intro w vals S L bl O1 O2 h1 h2 h3 h4 h5;refine (h w vals S L bl O1 O2 h1 h2 h3 h4 h5).mono ?_;rintro e w' ⟨v,rfl,res,bx',S',bl',o1,o2,hR,hv,hb,hn,hs,hSS,hS',hk,ho,hp⟩;have hlt:∀b∈o1,b < w'.heap.size:=by
  obtain ⟨sh,cs⟩:=res;cases sh with
  | any=>rw[hv.2];simp
  | one=>exact RpA.lt hv.2
  | agg=>exact RpA.lt hv.2
  | tup ns=>exact RpA.lt hv.2
 have hup:∀b,S' b->(fun b=>S' b\/b∈o1) b:=fun b h=>Or.inl h;refine ⟨v,rfl,res.roC,bx',fun b=>S' b\/b∈o1,bl',[],o2,⟨res,hR,rfl⟩,?_,?_,(List.nodup_append.1 hn).2.1,?_,fun b hb=>Or.inl (hSS b hb),?_,hk,fun b hb=>ho b (by simp at hb;simp[hb]),hp⟩
 ·obtain ⟨sh,cs⟩:=res
  cases sh with
  | any=>
   have hc:cs=[]:=hv.1;subst hc;exact ⟨rfl,rfl⟩
  | one=>exact ⟨hv.1,RpA.roC hup (fun b hb=>Or.inr hb) hv.2⟩
  | agg=>exact ⟨hv.1,RpA.roC hup (fun b hb=>Or.inr hb) hv.2⟩
  | tup ns=>exact ⟨hv.1,RpA.roC hup (fun b hb=>Or.inr hb) hv.2⟩
 ·exact RpB.go (le_zero hup) (fun _ _=>rfl) (fun c cs' _ _=>stampsNe_none cs') hb
 ·rintro b (hb | hb)
  ·exact ⟨(hs b hb).1,by have:=(hs b hb).2;simp at this |-;exact this.2⟩
  ·refine ⟨hlt b hb,?_⟩
   simp only[List.nil_append];exact fun hb2=>(List.nodup_append.1 hn).2.2 b hb b hb2 rfl
 ·rintro b (hb | hb)
  ·exact hS' b hb
  ·rcases ho b (by simp[hb]) with h | h
   ·exact Or.inr (Or.inl h)
   ·exact Or.inr (Or.inr h)
theorem acI {P:Program} {f:FuncId} {args:List AV} {bx:List (Option (List A))} {R R':AV->List (Option (List A))->Prop} (h:ACl P f args bx R) (hi:∀res bx,R res bx->R' res bx):ACl P f args bx R':=by
 intro w vals S L bl O1 O2 h1 h2 h3 h4 h5;refine (h w vals S L bl O1 O2 h1 h2 h3 h4 h5).mono ?_;rintro e w' ⟨v,rfl,res,bx',S',bl',o1,o2,hR,hr⟩;exact ⟨v,rfl,res,bx',S',bl',o1,o2,hi _ _ hR,hr⟩
end Go.Av
/- The end of a function, not looked into till it is reached. -/
namespace Go.Gv
open Go.Av
variable {O:Ops} {ts:Nat->Option TI} {P:Program} {C:Ctx} {σ:AS}
structure FinAt (O:Ops) (ts:Nat->Option TI) (base:Nat) (rs:List ResultVar) (R:AV->List (Option (List A))->Prop) (e:Exit) (σ:AS):Prop where
 go:gPost O ts base rs R e σ
theorem nxt_fin {base:Nat} {rs:List ResultVar} {R:AV->List (Option (List A))->Prop} {c:Code} (h:nxt O ts P C c σ (FinAt O ts base rs R)):GWp O ts P C c σ (gPost O ts base rs R):=
 (nxt_ok h).mono fun _ _ hq=>hq.go
end Go.Gv
/- A fork whose bit is known is none. -/
namespace Go.Gv
open Go.Av
theorem fork_kt {b:Bool} {x y:Unit->Prop} (hb:b=true) (h:x ()):GFork b x y:=⟨fun _=>h,fun h'=>absurd (hb.symm.trans h') (by decide)⟩
theorem fork_kf {b:Bool} {x y:Unit->Prop} (hb:b=false) (h:y ()):GFork b x y:=⟨fun h'=>absurd (hb.symm.trans h') (by decide),fun _=>h⟩
end Go.Gv
/- Avs: a slice of one's own that lies in a cell is let go: it is read alone from here on. -/
namespace Go.Gv
open Go.Av
variable {P:Program} {ts:Nat->Option TI} {C:Ctx} {O:Ops} {σ:AS} {Q:Exit->AS->Prop} {a:Act} {w:World}
theorem Inv.freeze {r:Root} {c:Nat} {g:Stamp} {k:Nat} {els:List (List T)} (h:Inv C [] σ a w) (hc:σ.cell r c=some (.ow g k els)):Inv C [] (σ.setCell r c (.ro true els)).next a w:=by
 obtain ⟨S,L,bl,O1,O2,h⟩:=h;have h':=h.mono (X':=[0]) (fun x hx=>by simp at hx)
 obtain ⟨u,o,k1,k2,_⟩:=h.peek hc;have hat:σ.at? r c g=some (k,els):=by simp[AS.at?,hc]
 have hone:=RepA.oneC k2;obtain ⟨ad,cap,m1,m2,_⟩:=k2;have hr:RpA ⟨S,L,bl,a,w,σ.cell⟩ [.sref r c g 0 els.length] [u] []:=⟨u,[],[],[],rfl,rfl,⟨rfl,hone,fun k' els' he=>by
  simp only at he;rw[hc] at he;simp at he;obtain ⟨rfl,rfl⟩:=he;exact ⟨by omega,ad,cap,ad,by rw[k1,m1],by rw[m1];rfl,subOk_zero _ _ _⟩⟩,rfl,rfl⟩
 obtain ⟨S',L',O1',O2',g1,_⟩:=freezeCells_ok (i:=0) h' (h.fresh (by simp)) hr (ts:=[.sl ((els.drop 0).take els.length)]) (σ':=σ.setCell r c (.ro true els)) (by simp[fzC,hat])
 exact Inv.next ⟨S',L',bl,O1',O2',g1⟩
def frzThen (r:Root) (c:Nat) (σ:AS) (K:AS->Prop):Prop:=match σ.cell r c with
 | some (.ow _ _ els)=>K (σ.setCell r c (.ro true els)).next
 | _=>False
theorem nZ (r:Root) (c:Nat) {x:Code} (h:frzThen r c σ fun σ'=>At O ts P C x σ' Q):At O ts P C x σ Q:=by
 unfold frzThen at h
 split at h
 ·rename_i hc
  exact ⟨fun hO ht a w hi=>h.go hO ht a w (Inv.freeze hi hc)⟩
 ·exact h.elim
end Go.Gv
/- A slice of bytes that is converted to its own type (as bytes out of a constant text are laid): its block gets a mark, the slice is shared; and a rule for regions with one operation that is shown by hand. -/
namespace Go.Av
theorem freeze_heap {w:World} {b n:Nat} {arr:Array Value} {ty:TypeId} {fz:Nat×Nat} (h:w.heap[b]?=some (.cells arr ty fz)):∃fz',(w.freeze ⟨b,n,none⟩ 1).heap[b]?=some (.cells arr ty fz'):=by
 obtain ⟨lo,hi⟩:=fz;unfold World.freeze;rw[if_neg (by decide)]
 exact ⟨_,by simp only[Array.getElem?_modify,if_true,h,Option.map_some];rfl⟩
theorem freeze_other {w:World} {b n x:Nat} (h:x≠b):(w.freeze ⟨b,n,none⟩ 1).heap[x]?=w.heap[x]?:=by
 unfold World.freeze;rw[if_neg (by decide)]
 simp only[Array.getElem?_modify,if_neg (Ne.symm h)]
theorem freeze_size {w:World} {b n:Nat}:(w.freeze ⟨b,n,none⟩ 1).heap.size=w.heap.size:=by
 unfold World.freeze;rw[if_neg (by decide)]
 simp
theorem Keeps.freeze {O:List Nat} {w0 w:World} {b n:Nat} (h:Keeps O w0 w) (hg:b∈O\/w0.heap.size<=b):Keeps O w0 (w.freeze ⟨b,n,none⟩ 1):=by
 refine ⟨?_,?_,?_,by rw[freeze_size];exact h.size,fun x hx hn=>?_⟩
 ·unfold World.freeze;rw[if_neg (by decide)];exact h.os
 ·unfold World.freeze;rw[if_neg (by decide)];exact h.tape
 ·unfold World.freeze;rw[if_neg (by decide)];exact h.output
 ·rw[freeze_other (by rintro rfl;rcases hg with hg | hg;exact hn hg;omega)]
  exact h.block x hx hn
section
variable {P:Program} {C:Ctx} {σ:AS} {i:Nat} {dst:Option Tmp}
theorem mark_ok {s e:TypeId} {x:Operand} {r:Root} {c k:Nat} {g:Stamp} {els:List (List T)} {ti te:TI} (hx:σ.ev x=some ⟨.one,[.sref r c g 0 els.length]⟩) (hat:σ.at? r c g=some (k,els)) (hs:tyOf P s=some ti) (hk:ti.tk=.slice e)
  (he:tyOf P e=some te) (hke:te.tk=.int .u8) (hne:els≠[]):OpOk P C i (.convert s s x) dst σ ⟨.one,[.ro true els]⟩ (σ.setCell r c (.ro true els)):=by
 rintro X a w ⟨S,L,bl,O1,O2,h⟩ hi type pos after guard;have h':=h.mono (fun x hx=>List.mem_cons_of_mem i hx);have hxe:=h.ev hx;have hc:=AS.at?_some hat;obtain ⟨hra,_⟩:=hxe.cell;obtain ⟨_,_,hra⟩:=hra;obtain ⟨_,ad,cap,xx,e1,e2,e3⟩:=hra k els hc;obtain ⟨u0,o,k1,k2,k3,k4,k5⟩:=h'.recell (i:=i) hc (h.fresh hi);rw[e1] at k1;simp only[Option.some.injEq] at k1;subst k1;obtain ⟨ad',cap',m1,m2,m3,m4⟩:=k2;simp only[Value.slice.injEq,true_and] at m1
 obtain ⟨rfl,rfl⟩:=m1;rcases m4 with ⟨_,h0,_⟩ | ⟨b,ob,arr,ty,fz,m5,m6,m7,m8,m9,m10⟩
 ·exact absurd h0 hne
 subst m5;subst m6;have hcap:0 < cap:=by
  have:0 < els.length:=List.length_pos_iff.2 hne;omega
 have hxx:xx=some ⟨b,ob,none⟩:=by
  have:=e3 hcap;simpa [Addr.add] using this
 subst hxx;have hnL:¬L b:=fun hS=>(h.stable b hS).2 (k4 b (by simp))
 have hnS:¬S b:=fun hS=>hnL (h.sl b hS);obtain ⟨w1,hw1⟩:∃w1,w1=w.freeze ⟨b,arr.size,none⟩ 1:=⟨_,rfl⟩;obtain ⟨fz',hfz⟩:=freeze_heap (n:=arr.size) m7;rw[<-hw1] at hfz;have hother:∀x,x≠b->w1.heap[x]?=w.heap[x]?:=fun x hx=>by rw[hw1];exact freeze_other hx
 have hcell:∀j,w1.cell? ⟨b,j,none⟩=w.cell? ⟨b,j,none⟩:=fun j=>by simp only[World.cell?,hfz,m7]
 have hrow:RepSE (fun x=>S x\/x∈[b]) w1 b ob els:=RepSE.of_get m3 fun i' e' hi'=>RepSC.of_get fun j t hj=>by
  obtain ⟨u,hu,hr⟩:=(m10.get m3 i' e' hi').get j t hj;exact ⟨u,by rw[hcell];exact hu,RepS.mono (fun _ hb=>.inl hb) (fun x hx=>hother x (by rintro rfl;exact hnS hx)) _ _ hr⟩
 have hro:RepS (fun x=>S x\/x∈[b]) w1 (.sl els) (.slice (some ⟨b,ob,none⟩) els.length cap):=by
  simp only[RepS];exact ⟨_,cap,rfl,m2,fun _=>⟨b,ob,rfl,.inr (by simp),hrow⟩⟩
 have hown:=h.own b (k4 b (by simp))
 obtain ⟨O1a,O2a,ha,hmem⟩:=k5 (fun x=>S x\/x∈[b]) (fun x=>L x\/x∈[b]) w1 (.ro true els) [] (fun _ hb=>.inl hb) (fun _ hb=>.inl hb) (fun x hb=>hb.imp (h.sl x) id) (fun x hb=>hb) (fun x hb=>hb) (by simp) (.inr rfl)
  (fun x hx _=>hother x (by simpa using hx)) (by rw[hw1];exact h.keeps.freeze hown) (by rw[hw1,freeze_size];exact Nat.le_refl _) ⟨hro,rfl⟩ (fun g hg=>by simp[A.stamp] at hg) (fun g k els' he=>by simp at he)
 refine ⟨_,.slice (some ⟨b,ob,none⟩) els.length cap,w1,?_,.inl rfl,?_⟩
 ·have hcv:(convert s s (a.eval x)).run P w=.ok (.slice (some ⟨b,ob,none⟩) els.length cap) w1:=by
   rw[e2];have hsh:w.shape? b=some (ty,arr.size):=by simp only[World.shape?,m7]
   simp only[convert,Sem.run_bind,run_under_slice hs w hk,Result.andThen,run_under_int he w hke,beq_self_eq_true,markStringish,run_shape,hsh,run_freeze,Sem.run_pure,hw1,Nat.sub_zero]
  simp only[execOp,Sem.run_bind,hcv,Result.andThen]
  rfl
 ·have hep:(σ.setCell r c (.ro true els)).epoch=σ.epoch:=epoch_setCell
  refine ha.done (i:=i) (o':=[]) (by rw[hep];exact (h.fresh hi).setDead rfl) ?_ (fun c' hc'=>by simp at hc';subst hc';exact .inl rfl) (fun c' hc' g' hg=>by simp at hc';subst hc';simp[A.stamp] at hg) (fun g' k' els' hm=>by simp at hm) List.nodup_nil (by simp)
  exact ⟨⟨rfl,rfl⟩,_,[],[],[],rfl,rfl,⟨hro,rfl⟩,rfl,rfl⟩
theorem aOps_then {base:Nat} {ops:Array Oper} {Q:Exit->Act->World->Prop} {K:AS->Prop} {l':List Nat}:∀(l:List Nat) (X:List Nat) (σ:AS) (a:Act) (w:World),l.Nodup->(∀i∈l,i∉X)->aOps P base ops l σ K->Inv C X σ a w->
  (∀X' σ' a' w',(∀j∈X',j∈X\/j∈l)->K σ'->Inv C X' σ' a' w'->wpOps P ops Q l' a' w')->wpOps P ops Q (l++l') a w
 | [],X,σ,a,w,_,_,hx,h,hK=>hK X σ a w (fun _ h=>.inl h) hx h
 | i::rest,X,σ,a,w,hn,hd,hx,h,hK=>by
  rw[List.cons_append,wpOps_cons];simp only[List.nodup_cons] at hn;refine wpOp_mono ?_ (aStep_ok hx h (hd i List.mem_cons_self));rintro a' w' ⟨σ',hK',h'⟩;refine aOps_then rest (i::X) σ' a' w' hn.2 (fun j hj hm=>?_) hK' h' fun X' σ2 a2 w2 hX=>hK X' σ2 a2 w2 fun j hj=>?_
  ·rcases List.mem_cons.1 hm with rfl | hm
   ·exact hn.1 hj
   ·exact hd j (List.mem_cons_of_mem _ hj) hm
  ·rcases hX j hj with h | h
   ·rcases List.mem_cons.1 h with rfl | h
    ·exact .inr List.mem_cons_self
    ·exact .inl h
   ·exact .inr (List.mem_cons_of_mem _ h)
end
end Go.Av
namespace Go.Gv
open Go.Av
variable {O:Ops} {ts:Nat->Option TI} {P:Program} {C:Ctx} {σ:AS} {Q:Exit->AS->Prop}
theorem GWp.regionX {base id:Nat} {ops:Array Oper} {pre post:List Nat} {j:Nat} {o:Oper} (hr:List.range ops.size=pre++j::post) (ho:ops[j]?=some o) (hg:o.guard=none) (K1:AS->Prop)
  (h:O=.std->(∀n ti,ts n=some ti->tyOf P n=some ti)->aOps P base ops pre σ K1)
  (h1:∀σ',K1 σ'->∃av σ1,OpOk P C j o.op o.dst σ' av σ1/\∀K:AS->Prop,(∀σ2,Q .normal σ2->K σ2)->gOps O ts P base ops post [] [] (σ1.putO o.dst av) K):GWp O ts P C (.region id ops false) σ Q:=by
 intro hO ht;subst hO;have hnd:(pre++j::post).Nodup:=hr ▸ List.nodup_range;obtain ⟨hn1,hn2,hn3⟩:=List.nodup_append.1 hnd;simp only[List.nodup_cons] at hn2;intro a w hi;refine wp_region ?_;rw[hr];refine aOps_then pre [] σ a w hn1 (by simp) (h rfl ht) hi fun X' σ' a' w' hX hK hi'=>?_
 obtain ⟨av,σ1,hop,hrest⟩:=h1 σ' hK;have hj:j∉X':=fun hm=>by
  rcases hX j hm with h | h
  ·simp at h
  ·exact hn3 j h j List.mem_cons_self rfl
 obtain ⟨dst,op,type,pos,after,guard⟩:=o;obtain ⟨n,v,w2,g1,g2,g3⟩:=hop X' a' w' hi' hj type pos after guard;simp only at hg;subst hg;rw[wpOps_cons];unfold wpOp;simp only[ho,Region.wanted,if_true];refine .inl ?_;unfold Oper.wp;rw[g1];have hpost:=gOps_ok ht (hrest (fun σ2=>Q .normal σ2) fun _ h=>h);have key:∀a2,Inv C (j::X') (σ1.putO dst av) a2 w2->wpOps P ops (fun e a' w'=>∃σ',Q e σ'/\Inv C [] σ' a' w') post a2 w2:=fun a2 hi2=>
  aOps_ok (Q:=fun e a' w'=>∃σ',Q e σ'/\Inv C [] σ' a' w') (fun _ _ _ _ hq hv=>⟨_,hq,hv.next⟩) post (j::X') _ _ _ hn2.2 (fun i hi hm=>by
   rcases List.mem_cons.1 hm with rfl | hm
   ·exact hn2.1 hi
   ·rcases hX i hm with h | h
    ·simp at h
    ·exact hn3 i h i (List.mem_cons_of_mem _ hi) rfl) hpost.2 hi2
 rcases g2 with rfl | ⟨rfl,rfl⟩
 ·exact key _ g3
 ·exact key _ g3
structure GHand (P:Program) (C:Ctx) (i:Nat) (op:Op) (dst:Option Tmp) (σ:AS) (K:AS->Prop):Prop where
 go:∃av σ1,OpOk P C i op dst σ av σ1/\K (σ1.putO dst av)
theorem xR {base id:Nat} {ops:Array Oper} {post:List Nat} {o:Oper} (hr:List.range ops.size=0::1::post) (ho:ops[1]?=some o) (hg:o.guard=none)
  (h:gStep O ts P base ops 0 [] [] σ fun acc _ σ'=>out acc (GHand P C 1 o.op o.dst σ' fun σ2=>∀K:AS->Prop,(∀σ3,Q .normal σ3->K σ3)->gOps O ts P base ops post [] [] σ2 K)):At O ts P C (.region id ops false) σ Q:=by
 refine ⟨GWp.regionX (base:=base) (pre:=[0]) hr ho hg (fun σ'=>GHand P C 1 o.op o.dst σ' fun σ2=>∀K:AS->Prop,(∀σ3,Q .normal σ3->K σ3)->gOps O ts P base ops post [] [] σ2 K) (fun hO ht=>?_) fun σ' hK=>?_⟩
 ·subst hO
  exact (gStep_ok ht (fun acc _ σ' hk=>out_iff.1 hk) h).2
 ·obtain ⟨av,σ1,h1,h2⟩:=hK.go
  exact ⟨av,σ1,h1,h2⟩
end Go.Gv
