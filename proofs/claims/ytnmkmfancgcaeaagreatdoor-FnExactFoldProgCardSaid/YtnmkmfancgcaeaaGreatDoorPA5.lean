/- Part PA5 of the proof: Avs, part 23: what a call takes along: shared, lent boxes that are handed over. / Avs, part 24: a function is called. / Avs, part 25: the rule for a call. / Avs, part 19a: bytes to a text. / Avs, part 19b: slices that are made. / Avs, part 26: a regions operations, one behind the other. / Avs, part 27: functions are entered and left. -/
import Derived.Test.YtnmkmfancgcaeaaGreatDoorPA4
import Derived.Laws.BytesString
import Derived.Laws.MakeOwn
set_option linter.all false
/- Avs, part 23: what a call takes along: shared, lent; boxes that are handed over. -/
namespace Go.Av
def erD (d:Bool) (els:List (List T)):List (List T):=match d with
 | false=>els
 | true=>erE els
theorem RepO.toR {S S':Nat->Prop} {w:World} {d:Bool} {k:Nat} {els:List (List T)} {u:Value} {own:List Nat} (hS:∀b,S b->S' b) (ho:∀b∈own,S' b) (h:RepO S w d k els u own):RepS S' w (.sl (erD d els)) u:=by
 cases d
 ·exact RepO.toS hS ho h
 ·exact RepO.toE hS ho h
def shC (sh:Root->Nat->Bool):List A->AS->List A×AS
 | [],σ=>([],σ)
 | c::cs,σ=>
  match c with
  | .sref r x g lo len=>
   if sh r x then
    match σ.ad? r x g with
    | some (d,_,els)=>(.ro true (erD d ((els.drop lo).take len))::(shC sh cs (σ.setCell r x (.ro true (erD d els)))).1,(shC sh cs (σ.setCell r x (.ro true (erD d els)))).2)
    | none=>(.dead::(shC sh cs σ).1,(shC sh cs σ).2)
   else (c::(shC sh cs σ).1,(shC sh cs σ).2)
  | _=>(c::(shC sh cs σ).1,(shC sh cs σ).2)
section
variable {P:Program} {C:Ctx} {X:List Nat} {σ:AS} {a:Act} {w:World} {S L:Nat->Prop} {bl O1 O2:List Nat}
def HD0 (C:Ctx) (X:List Nat) (a:Act) (w:World) (S L:Nat->Prop) (bl O1 O2:List Nat) (i:Nat) (us:List Value) (oa:List Nat) (σ:AS) (cs':List A) (σ':AS):Prop:=
 ∃S' L' O1' O2',InvAt C X σ' a w S' L' bl O1' O2'/\RpA ⟨S',L',bl,a,w,σ'.cell⟩ cs' us oa/\(∀b,S b->S' b)/\(∀b,L b->L' b)/\(∀b,L' b->L b\/b∈O1++O2)/\
  (∀b,b∈O1'++O2'->b∈O1++O2)/\Fresh σ' (σ.epoch,i)/\σ'.epoch=σ.epoch/\
  Env.Le none ⟨S,L,bl,a,w,σ.cell⟩ ⟨S',L',bl,a,w,σ'.cell⟩/\σ'.boxes.length=σ.boxes.length/\σ'.slots.length=σ.slots.length
theorem zY0 {c:A}:c.rstamp=none\/c.rstamp≠none:=by cases c.rstamp<;>simp
theorem vT0 (sh:Root->Nat->Bool) {i:Nat}:∀{cs:List A} {us:List Value} {S L:Nat->Prop} {σ:AS} {O1 O2 oa:List Nat},InvAt C X σ a w S L bl O1 O2->Fresh σ (σ.epoch,i)->
  RpA ⟨S,L,bl,a,w,σ.cell⟩ cs us oa->HD0 C X a w S L bl O1 O2 i us oa σ (shC sh cs σ).1 (shC sh cs σ).2
 | [],us,S,L,σ,O1,O2,oa,h,hf,hr=>⟨S,L,O1,O2,h,hr,fun _ h=>h,fun _ h=>h,fun _ h=>.inl h,fun _ h=>h,hf,rfl,.rfl',rfl,rfl⟩
 | c::cs,us,S,L,σ,O1,O2,oa,h,hf,hr=>by
  obtain ⟨u,us',o1,o2,rfl,rfl,h3,h4⟩:=hr;have plain:∀d,(d=c\/d=.dead/\o1=[])->HD0 C X a w S L bl O1 O2 i (u::us') (o1++o2) σ (d::(shC sh cs σ).1) (shC sh cs σ).2:=by
   intro d hd;obtain ⟨S',L',O1',O2',g1,g2,g3,g4,g5,g6,g7,g8,g9,g10,g11⟩:=vT0 sh (i:=i) h hf h4;refine ⟨S',L',O1',O2',g1,⟨u,us',o1,o2,rfl,rfl,?_,g2⟩,g3,g4,g5,g6,g7,g8,g9,g10,g11⟩;rcases hd with rfl | ⟨rfl,rfl⟩
   ·exact RepA.go g9 (fun _ _=>rfl) zY0 h3
   ·exact ⟨rfl,RepA.oneC h3⟩
  cases c with
  | sref r x g lo len=>
   have ho1:o1=[]:=h3.1;simp only[shC]
   split
   ·cases hat:σ.ad? r x g with
    | none=>exact plain .dead (.inr ⟨rfl,ho1⟩)
    | some p=>
     obtain ⟨d,k,els⟩:=p;simp only;have hcell:=AS.ad?_some hat;obtain ⟨hlo,ad,cap,xx,e1,e2,e3⟩:=h3.2.2 d k els hcell;obtain ⟨u0,o,k1,k2,k3,k4,k5⟩:=h.recell hcell hf;rw[e1] at k1;simp at k1;subst k1;have hS1:∀b,S b->(fun b=>S b\/b∈o) b:=fun b hb=>.inl hb;have hL1:∀b,L b->(fun b=>L b\/b∈o) b:=fun b hb=>.inl hb;obtain ⟨O1a,O2a,ha,hmem⟩:=k5 (fun b=>S b\/b∈o) (fun b=>L b\/b∈o) w (.ro true (erD d els)) [] hS1 hL1 (fun b hb=>hb.imp (h.sl b) id) (fun b hb=>hb) (fun b hb=>hb) (by simp) (.inr rfl) (fun _ _ _=>rfl) h.keeps (Nat.le_refl _)
      ⟨RepO.toR hS1 (fun b hb=>.inr hb) (show RepO S w d k els _ o from k2),rfl⟩ (fun g hg=>by simp[A.stamp] at hg) (fun g d k els' he=>by simp at he)
     have hle:=UZ0 (S:=S) (bl:=bl) (a:=a) (w:=w) (els:=erD d els) hS1 hL1 hcell;have hep:(σ.setCell r x (.ro true (erD d els))).epoch=σ.epoch:=yL0;have ih:=vT0 sh (i:=i) (cs:=cs) (us:=us') ha (by rw[hep];exact hf.setDead rfl) (RpA.go hle (fun _ _=>rfl) (fun y _=>zY0) h4)
     unfold HD0 at ih;rw[hep] at ih;obtain ⟨S',L',O1',O2',g1,g2,g3,g4,g5,g6,g7,g8,g9,g10,g11⟩:=ih;obtain ⟨own',s1,s2⟩:=RepO.sub (show RepO S w d k els _ o from k2) hlo e3
     have hSS:∀b,S b->S' b:=fun b hb=>g3 b (.inl hb);have hu:RepS S' w (.sl (erD d ((els.drop lo).take len))) u:=by
      rw[e2];exact RepO.toR hSS (fun b hb=>g3 b (.inr (s2.subset hb))) s1
     have hsub:∀b,b∈O1a++O2a->b∈O1++O2:=fun b hb=>by
      have:=(hmem b).1 hb;simp only[List.not_mem_nil,or_false] at this;exact this.1
     subst ho1;exact ⟨S',L',O1',O2',g1,⟨u,us',[],o2,rfl,rfl,⟨hu,rfl⟩,g2⟩,hSS,fun b hb=>g4 b (.inl hb),fun b hb=>(g5 b hb).elim (fun h=>h.imp id (k4 b)) (fun h=>.inr (hsub b h)),fun b hb=>hsub b (g6 b hb),g7,g8,hle.trans g9,g10.trans boxes_setCell.1,g11.trans boxes_setCell.2⟩
   ·exact plain _ (.inl rfl)
  | _=>exact plain _ (.inl rfl)
def AS.hide (σ:AS) (b:Nat):AS:={ σ with boxes:=σ.boxes.set b none }
def maskBoxes:List Nat->AS->Option (List (List A)×AS)
 | [],σ=>some ([],σ)
 | b::ids,σ=>match σ.boxes[b]? with
  | some (some cs)=>(maskBoxes ids (σ.hide b)).map fun q=>(cs::q.1,q.2)
  | _=>none
theorem MK0 {b:Nat}:Env.Le none ⟨S,L,bl,a,w,σ.cell⟩ ⟨S,L,bl,a,w,(σ.hide b).cell⟩:=by
 refine ⟨fun _ h=>h,fun _ h=>h,fun _ _=>rfl,fun _ _ h=>h,fun r c g d k els' _ he=>⟨d,els',?_,rfl,fun x hx=>by cases r<;>exact hx⟩⟩
 cases r with
 | slot t=>exact he
 | box b'=>
  simp only[AS.cell,AS.hide] at he |-
  by_cases hb:b=b'
  ·subst hb
   by_cases hlt:b < σ.boxes.length
   ·simp[List.getElem?_set_self hlt] at he
   ·rw[List.getElem?_eq_none (by simp;omega)] at he
    simp at he
  ·rw[List.getElem?_set_ne hb] at he
   exact he
theorem yE1 (h:InvAt C X σ a w S L bl O1 O2) {b:Nat} {cs:List A} (hb:σ.boxes[b]?=some (some cs)) :
  ∃blk p o q,bl[b]?=some blk/\O2=p++o++q/\RepBox ⟨S,L,bl,a,w,σ.cell⟩ (some cs) blk o/\InvAt C X (σ.hide b) a w S L bl O1 (p++q):=by
 obtain ⟨blk,p,o,q,g1,g2,g3,g4⟩:=RpB.split b _ h.boxes hb;refine ⟨blk,p,o,q,g1,g2,g3,?_⟩;have hle:=MK0 (S:=S) (L:=L) (bl:=bl) (a:=a) (w:=w) (σ:=σ) (b:=b);have hsub:∀x,x∈O1++(p++q)->x∈O1++O2:=fun x hx=>by
  subst g2;simp only[List.mem_append] at hx |-;rcases hx with hx | hx | hx<;>simp[hx]
 refine ⟨h.defers,RpS.go hle (fun _ _=>rfl) (fun _ _ _ _=>zY0) h.slots,?_,?_,h.sl,fun x hx=>⟨(h.stable x hx).1,fun hm=>(h.stable x hx).2 (hsub x hm)⟩,h.s0,h.keeps,fun x hx=>h.own x (hsub x hx),h.pre,h.stS,fun cs' hcs c hc=>?_⟩
 ·have:=g4 none [] rfl
  simp only[List.append_nil] at this;exact RpB.go hle (fun _ _=>rfl) (fun _ _ _ _ _ _=>zY0) this
 ·have hnd:=h.nodup
  subst g2;have hs:List.Sublist (O1++(p++q)) (O1++(p++o++q)):=
   List.Sublist.append (List.Sublist.refl _) (List.Sublist.append (List.sublist_append_left _ _) (List.Sublist.refl _))
  exact hnd.sublist hs
 ·rcases List.mem_or_eq_of_mem_set hcs with hcs | hcs
  ·exact h.stB cs' hcs c hc
  ·simp at hcs
theorem MC0:∀{ids:List Nat} {σ σ':AS} {O2:List Nat} {pcs:List (List A)},InvAt C X σ a w S L bl O1 O2->maskBoxes ids σ=some (pcs,σ')->
  ∃Or op blks,InvAt C X σ' a w S L bl O1 Or/\RpB ⟨S,L,bl,a,w,σ'.cell⟩ (pcs.map some) blks op/\(∀(j b:Nat),ids[j]?=some b->∃blk,blks[j]?=some blk/\bl[b]?=some blk)/\blks.length=ids.length/\
   (∀b∈op,b∈O2)/\(∀b∈Or,b∈O2)/\(Or++op).Nodup/\Env.Le none ⟨S,L,bl,a,w,σ.cell⟩ ⟨S,L,bl,a,w,σ'.cell⟩/\σ'.epoch=σ.epoch/\σ'.boxes.length=σ.boxes.length/\σ'.slots=σ.slots
 | [],σ,σ',O2,pcs,h,hx=>by
  simp[maskBoxes] at hx;obtain ⟨rfl,rfl⟩:=hx;exact ⟨O2,[],[],h,⟨rfl,rfl⟩,by simp,rfl,by simp,fun _ h=>h,by simpa using (List.nodup_append.1 h.nodup).2.1,.rfl',rfl,rfl,rfl⟩
 | b::ids,σ,σ',O2,pcs,h,hx=>by
  simp only[maskBoxes] at hx
  split at hx<;>try (simp at hx;done)
  rename_i cs hb;simp only[Option.map_eq_some_iff,Prod.mk.injEq] at hx;obtain ⟨⟨pcs',σ2⟩,hx,rfl,rfl⟩:=hx;obtain ⟨blk,p,o,q,g1,rfl,g3,g4⟩:=yE1 h hb;obtain ⟨Or,op,blks,k1,k2,k3,k4,k5,k6,k7,k8,k9,k10,k11⟩:=MC0 g4 hx;have hle:=MK0 (S:=S) (L:=L) (bl:=bl) (a:=a) (w:=w) (σ:=σ) (b:=b);have hnd:=(List.nodup_append.1 h.nodup).2.1;have hdis:∀x,x∈o->x∉p++q:=fun x hx hm=>by
   simp only[List.append_assoc,List.nodup_append,List.mem_append] at hnd hm;rcases hm with hm | hm
   ·exact hnd.2.2 x hm x (.inl hx) rfl
   ·exact hnd.2.1.2.2 x hx x hm rfl
  have hon:o.Nodup:=by
   simp only[List.append_assoc,List.nodup_append] at hnd;exact hnd.2.1.1
  refine ⟨Or,o++op,blk::blks,k1,⟨blk,blks,o,op,rfl,rfl,RepBox.go (hle.trans k8) (fun _ _=>rfl) (fun _ _ _ _=>zY0) g3,k2⟩,fun j b' hj=>?_,by simp[k4],fun x hx=>?_,fun x hx=>?_,?_,hle.trans k8,k9,by rw[k10];simp[AS.hide],k11⟩
  ·cases j with
   | zero=>simp at hj;subst hj;exact ⟨blk,rfl,g1⟩
   | succ j=>simp at hj;simpa using k3 j b' hj
  ·rcases List.mem_append.1 hx with hx | hx
   ·simp[hx]
   ·have:=k5 x hx;simp only[List.mem_append] at this |-;rcases this with h | h<;>simp[h]
  ·have:=k6 x hx;simp only[List.mem_append] at this |-;rcases this with h | h<;>simp[h]
  ·rw[List.nodup_append] at k7 |-
   refine ⟨k7.1,List.nodup_append.2 ⟨hon,k7.2.1,fun x hx y hy he=>hdis x hx (he ▸ k5 y hy)⟩,fun x hx y hy he=>?_⟩;rcases List.mem_append.1 hy with hy | hy
   ·exact hdis y hy (he ▸ k6 x hx)
   ·exact k7.2.2 x hx y hy he
def lendCells (σ:AS):List A->Option (List A)
 | []=>some []
 | .sref r x g lo len::cs=>match σ.ad? r x g with
  | some (d,_,els)=>(lendCells σ cs).map fun q=>.ro false (erD d ((els.drop lo).take len))::q
  | none=>none
 | .eptr ..::_=>none
 | c::cs=>(lendCells σ cs).map fun q=>c::q
theorem MH0 (h:InvAt C X σ a w S L bl O1 O2):∀{cs cs':List A} {us:List Value} {oa:List Nat},RpA ⟨S,L,bl,a,w,σ.cell⟩ cs us oa->lendCells σ cs=some cs'->
  RpA (Env.zero S (fun b=>L b\/b∈O1++O2) bl w) cs' us oa
 | [],cs',us,oa,hr,hx=>by simp[lendCells] at hx;subst hx;exact hr
 | c::cs,cs',us,oa,hr,hx=>by
  obtain ⟨u,us',o1,o2,rfl,rfl,h3,h4⟩:=hr;have ih:=fun q (hq:lendCells σ cs=some q)=>MH0 h h4 hq;have hLE:∀b,L b->(fun b=>L b\/b∈O1++O2) b:=fun b hb=>.inl hb;have up:∀c:A,c.rstamp=none->RepA ⟨S,L,bl,a,w,σ.cell⟩ c u o1->RepA (Env.zero S (fun b=>L b\/b∈O1++O2) bl w) c u o1:=by
   intro c hc hr;refine RepA.free (a:=a) (ca:=σ.cell) hc ?_;refine RepA.go (gn:=none) (E:=⟨S,L,bl,a,w,σ.cell⟩) (E':=⟨S,fun b=>L b\/b∈O1++O2,bl,a,w,σ.cell⟩) ⟨fun _ h=>h,hLE,fun _ _=>rfl,fun _ _ h=>h,fun r c g d k els' _ he=>⟨d,els',he,rfl,fun x hx=>?_⟩⟩ (fun _ _=>rfl) zY0 hr;cases r<;>exact hx
  cases c with
  | sref r x g lo len=>
   simp only[lendCells] at hx
   split at hx<;>try (simp at hx;done)
   rename_i d k els hat;simp only[Option.map_eq_some_iff] at hx;obtain ⟨q,hq,rfl⟩:=hx;have hcell:=AS.ad?_some hat;obtain ⟨ho1,_,h3⟩:=h3;obtain ⟨hlo,ad,cap,xx,e1,e2,e3⟩:=h3 d k els hcell;obtain ⟨u0,o,k1,k2,k3⟩:=h.peek hcell;rw[e1] at k1;simp at k1;subst k1;obtain ⟨own',s1,s2⟩:=RepO.sub (show RepO S w d k els _ o from k2) hlo e3
   subst ho1;refine ⟨u,us',[],o2,rfl,rfl,⟨?_,rfl⟩,ih q hq⟩;rw[e2];exact RepO.toR (fun b hb=>.inl (h.sl b hb)) (fun b hb=>.inr (k3 b (s2.subset hb))) s1
  | eptr r x g i off=>simp[lendCells] at hx
  | _=>
   simp only[lendCells,Option.map_eq_some_iff] at hx;obtain ⟨q,hq,rfl⟩:=hx;exact ⟨u,us',o1,o2,rfl,rfl,up _ rfl h3,ih q hq⟩
end
end Go.Av
/- Avs, part 24: a function is called. -/
namespace Go.Av
def mY0 (ids:List Nat):List (Nat×Nat)->Option (List (Nat×Nat))
 | []=>some []
 | c::cs=>(ids.idxOf? c.1).bind fun j=>(mY0 ids cs).map fun q=>(j,c.2)::q
def renP (ids:List Nat):A->Option A
 | .ptr b off=>(ids.idxOf? b).map fun j=>.ptr j off
 | .fn f caps=>(mY0 ids caps).map fun q=>.fn f q
 | c=>some c
def rR0 (ids:List Nat):List A->Option (List A)
 | []=>some []
 | c::cs=>(renP ids c).bind fun d=>(rR0 ids cs).map fun q=>d::q
def uR0 (ids:List Nat):List (List A)->Option (List (List A))
 | []=>some []
 | c::cs=>(rR0 ids c).bind fun d=>(uR0 ids cs).map fun q=>d::q
def HL0 (ids:List Nat) (nb j:Nat):Nat:=if j < ids.length then ids.getD j 0 else nb+(j - ids.length)
def unP (ids:List Nat) (nb:Nat) (g:zV0):A->A
 | .ptr j off=>.ptr (HL0 ids nb j) off
 | .fn f caps=>.fn f (caps.map fun c=>(HL0 ids nb c.1,c.2))
 | .ow _ d k els=>.ow g d k els
 | .sref .. | .eptr ..=>.dead
 | c=>c
def qC0 (σ:AS):List Operand->Option (List AV)
 | []=>some []
 | x::xs=>(σ.ev x).bind fun av=>match av.sh with
  | .any=>none
  | _=>(qC0 σ xs).map fun q=>av::q
def mJ0:List AV->List A->List AV
 | [],_=>[]
 | av::avs,cs=>⟨av.sh,cs.take av.cs.length⟩::mJ0 avs (cs.drop av.cs.length)
def zX0:List Nat->List (Option (List A))->List (Option (List A))->List (Option (List A))
 | b::ids,x::xs,bs=>zX0 ids xs (bs.set b x)
 | _,_,bs=>bs
structure Hint where
 mv:Root->Nat->Bool
 sh:Root->Nat->Bool
 ids:List Nat
def xD0 (caps:List (Nat×Nat)):List AV:=caps.map fun c=>one (.ptr c.1 c.2)
def wQ0 (h:Hint) (i:Nat) (σ:AS) (fop:Operand) (args:List Operand):Option (FuncId×List AV×List (Option (List A))×AS):=
 (σ.ev fop).bind fun fv=>match fv with
 | ⟨.one,[.fn f caps]⟩=>(qC0 σ args).bind fun avs=>
   let all:=avs++xD0 caps
   let q1:=tkC h.mv (σ.epoch,i) (all.flatMap (·.cs)) σ
   let q2:=shC h.sh q1.1 q1.2
   (maskBoxes h.ids q2.2).bind fun q3=>
    if q3.1.all (·.all fun c=>c.rstamp.isNone) then
     (lendCells q3.2 q2.1).bind fun cs=>(rR0 h.ids cs).bind fun cs=>(uR0 h.ids q3.1).map fun pcs=>
      (f,mJ0 all (cs.map A.reset),pcs.map (fun c=>some (c.map A.reset)),q3.2)
    else none
 | _=>none
def vF0 (ids:List Nat) (nb:Nat) (g:zV0) (o:Option (List A)):Option (List A):=o.map (·.map (unP ids nb g))
def zF0 (ids:List Nat) (i:Nat) (σ:AS) (res:AV) (bx:List (Option (List A))):AV×AS:=
 (⟨res.sh,res.cs.map (unP ids σ.boxes.length (σ.epoch,i))⟩,
  { σ with boxes:=zX0 ids ((bx.take ids.length).map (vF0 ids σ.boxes.length (σ.epoch,i))) σ.boxes++(bx.drop ids.length).map (vF0 ids σ.boxes.length (σ.epoch,i)) })
section
variable {P:Program} {C:Ctx} {X:List Nat} {σ:AS} {a:Act} {w:World} {S L:Nat->Prop} {bl O1 O2:List Nat}
theorem idxOf?_get {ids:List Nat} {b j:Nat} (h:ids.idxOf? b=some j):ids[j]?=some b:=by
 induction ids generalizing j with
 | nil=>simp at h
 | cons x ids ih=>
  rw[List.idxOf?_cons] at h
  split at h
  ·rename_i hx
   simp at h;subst h;simpa using hx
  ·simp only[Option.map_eq_some_iff] at h
   obtain ⟨j',h1,rfl⟩:=h;simpa using ih h1
def Lies (ids blks bl:List Nat):Prop:=∀(j b:Nat),ids[j]?=some b->∃blk,blks[j]?=some blk/\bl[b]?=some blk
theorem hZ0 {ids:List Nat}:∀{caps caps':List (Nat×Nat)},mY0 ids caps=some caps'->caps'.length=caps.length/\∀(j b' off:Nat),caps'[j]?=some (b',off)->∃b,caps[j]?=some (b,off)/\ids[b']?=some b
 | [],caps',h=>by simp[mY0] at h;subst h;simp
 | c::cs,caps',h=>by
  simp only[mY0,Option.bind_eq_some_iff,Option.map_eq_some_iff] at h;obtain ⟨j0,hj,q,hq,rfl⟩:=h;obtain ⟨h1,h2⟩:=hZ0 hq;refine ⟨by simp[h1],fun j b' off hj'=>?_⟩
  cases j with
  | zero=>simp at hj';obtain ⟨rfl,rfl⟩:=hj';exact ⟨c.1,rfl,idxOf?_get hj⟩
  | succ j=>simp at hj';simpa using h2 j b' off hj'
theorem RepA.ren {E:Env} {ids blks:List Nat} (hl:Lies ids blks E.bl) {c c':A} {u:Value} {own:List Nat} (hc:c.rstamp=none) (hx:renP ids c=some c') (h:RepA E c u own):RepA (Env.zero E.S E.L blks E.w) c' u own:=by
 cases c with
 | ptr b off=>
  simp only[renP,Option.map_eq_some_iff] at hx;obtain ⟨j,hj,rfl⟩:=hx;obtain ⟨h0,blk,h1,rfl⟩:=h;obtain ⟨blk',k1,k2⟩:=hl j b (idxOf?_get hj);rw[h1] at k2;simp at k2;subst k2;exact ⟨h0,blk,k1,rfl⟩
 | fn f caps=>
  simp only[renP,Option.map_eq_some_iff] at hx;obtain ⟨q,hq,rfl⟩:=hx;obtain ⟨q1,q2⟩:=hZ0 hq;obtain ⟨h0,vs,h1,h2,h3⟩:=h;refine ⟨h0,vs,h1,by rw[h2,q1],fun j b' off hj=>?_⟩
  obtain ⟨b,k1,k2⟩:=q2 j b' off hj;obtain ⟨blk,m1,m2⟩:=h3 j b off k1;obtain ⟨blk',n1,n2⟩:=hl b' b k2;rw[m1] at n2;simp at n2;subst n2;exact ⟨blk,n1,m2⟩
 | sref r c g lo len=>simp[A.rstamp] at hc
 | eptr r c g i off=>simp[A.rstamp] at hc
 | lit v=>simp only[renP,Option.some.injEq] at hx;subst hx;exact h
 | nil=>simp only[renP,Option.some.injEq] at hx;subst hx;exact h
 | ro st els=>simp only[renP,Option.some.injEq] at hx;subst hx;cases st<;>exact h
 | ow g d k els=>simp only[renP,Option.some.injEq] at hx;subst hx;exact h
 | rptr st cells=>simp only[renP,Option.some.injEq] at hx;subst hx;cases st<;>exact h
 | dead=>simp only[renP,Option.some.injEq] at hx;subst hx;exact h
theorem RpA.ren {E:Env} {ids blks:List Nat} (hl:Lies ids blks E.bl):∀{cs cs':List A} {us:List Value} {own:List Nat},(∀c∈cs,c.rstamp=none)->rR0 ids cs=some cs'->RpA E cs us own->RpA (Env.zero E.S E.L blks E.w) cs' us own
 | [],cs',us,own,_,hx,h=>by simp[rR0] at hx;subst hx;exact h
 | c::cs,cs',us,own,hc,hx,h=>by
  simp only[rR0,Option.bind_eq_some_iff,Option.map_eq_some_iff] at hx;obtain ⟨d,hd,q,hq,rfl⟩:=hx;obtain ⟨u,us',o1,o2,h1,h2,h3,h4⟩:=h;exact ⟨u,us',o1,o2,h1,h2,h3.ren hl (hc c List.mem_cons_self) hd,RpA.ren hl (fun x hx=>hc x (List.mem_cons_of_mem _ hx)) hq h4⟩
theorem RpB.ren {E:Env} {ids blks:List Nat} (hl:Lies ids blks E.bl):∀{pcs pcs':List (List A)} {bs own:List Nat},(∀cs∈pcs,∀c∈cs,c.rstamp=none)->uR0 ids pcs=some pcs'->RpB E (pcs.map some) bs own->
  RpB (Env.zero E.S E.L blks E.w) (pcs'.map fun c=>some (c.map A.reset)) bs own
 | [],pcs',us,own,_,hx,h=>by simp[uR0] at hx;subst hx;exact h
 | c::cs,pcs',us,own,hc,hx,h=>by
  simp only[uR0,Option.bind_eq_some_iff,Option.map_eq_some_iff] at hx;obtain ⟨d,hd,q,hq,rfl⟩:=hx;obtain ⟨b,bs',o1,o2,h1,h2,⟨o,arr,ty,k1,k2,k3⟩,h4⟩:=h;exact ⟨b,bs',o1,o2,h1,h2,⟨o,arr,ty,k1,k2,(RpA.ren hl (hc c List.mem_cons_self) hd k3).reset⟩,RpB.ren hl (fun x hx=>hc x (List.mem_cons_of_mem _ hx)) hq h4⟩
theorem RepA.un {S' L':Nat->Prop} {bl' blks new:List Nat} {w':World} {ca:Root->Nat->Option A} {ids:List Nat} {g:zV0} (hS:∀b,S' b->L' b) (hl:Lies ids blks bl) (hlen:blks.length=ids.length) (hbl:bl'=blks++new)
  {c:A} {u:Value} {own:List Nat} (h:RepA (Env.zero S' S' bl' w') c u own):RepA ⟨S',L',bl++new,a,w',ca⟩ (unP ids bl.length g c) u own:=by
 have key:∀(j blk:Nat),bl'[j]?=some blk->(bl++new)[HL0 ids bl.length j]?=some blk:=by
  intro j blk hj;subst hbl;unfold HL0
  split
  ·rename_i hlt
   rw[List.getElem?_append_left (by omega)] at hj
   have hb:ids[j]?=some (ids.getD j 0):=by simp[List.getElem?_eq_getElem hlt]
   obtain ⟨blk',k1,k2⟩:=hl j _ hb;rw[hj] at k1;simp at k1;subst k1;rw[List.getElem?_append_left (List.getElem?_eq_some_iff.1 k2).1];exact k2
  ·rename_i hge
   rw[List.getElem?_append_right (by omega)] at hj
   rw[List.getElem?_append_right (by omega),<-hj]
   congr 1
   omega
 cases c with
 | ptr b off=>
  obtain ⟨h0,blk,h1,rfl⟩:=h;exact ⟨h0,blk,key b blk h1,rfl⟩
 | fn f caps=>
  obtain ⟨h0,vs,h1,h2,h3⟩:=h;refine ⟨h0,vs,h1,by simpa using h2,fun j b off hj=>?_⟩
  simp only[List.getElem?_map,Option.map_eq_some_iff,Prod.mk.injEq] at hj;obtain ⟨⟨b0,off0⟩,hj,rfl,rfl⟩:=hj;obtain ⟨blk,m1,m2⟩:=h3 j b0 off0 hj;exact ⟨blk,key b0 blk m1,m2⟩
 | sref r c g lo len=>exact ⟨h.1,h.2.1⟩
 | eptr r c g i off=>exact ⟨h.1,h.2.1⟩
 | ro st els=>
  cases st with
  | true=>exact h
  | false=>exact ⟨RepS.mono hS (fun _ _=>rfl) _ _ h.1,h.2⟩
 | rptr st cells=>
  cases st with
  | true=>exact h
  | false=>
   obtain ⟨h0,b,o,h1,h2,h3⟩:=h;exact ⟨h0,b,o,h1,hS _ h2,RepSC.mono hS (fun _ _=>rfl) b rfl o _ h3⟩
 | _=>exact h
theorem RpA.un {S' L':Nat->Prop} {bl' blks new:List Nat} {w':World} {ca:Root->Nat->Option A} {ids:List Nat} {g:zV0} (hS:∀b,S' b->L' b) (hl:Lies ids blks bl) (hlen:blks.length=ids.length) (hbl:bl'=blks++new) :
  ∀{cs:List A} {us:List Value} {own:List Nat},RpA (Env.zero S' S' bl' w') cs us own->RpA ⟨S',L',bl++new,a,w',ca⟩ (cs.map (unP ids bl.length g)) us own
 | [],us,own,h=>h
 | c::cs,us,own,h=>by
  obtain ⟨u,us',o1,o2,h1,h2,h3,h4⟩:=h;exact ⟨u,us',o1,o2,h1,h2,h3.un hS hl hlen hbl,RpA.un hS hl hlen hbl h4⟩
theorem RpB.un {S' L':Nat->Prop} {bl' blks new:List Nat} {w':World} {ca:Root->Nat->Option A} {ids:List Nat} {g:zV0} (hS:∀b,S' b->L' b) (hl:Lies ids blks bl) (hlen:blks.length=ids.length) (hbl:bl'=blks++new) :
  ∀{bx:List (Option (List A))} {bs own:List Nat},RpB (Env.zero S' S' bl' w') bx bs own->RpB ⟨S',L',bl++new,a,w',ca⟩ (bx.map (vF0 ids bl.length g)) bs own
 | [],us,own,h=>h
 | x::bx,us,own,h=>by
  obtain ⟨b,bs',o1,o2,h1,h2,h3,h4⟩:=h;refine ⟨b,bs',o1,o2,h1,h2,?_,RpB.un hS hl hlen hbl h4⟩;cases x with
  | none=>exact h3
  | some cs=>
   obtain ⟨o,arr,ty,k1,k2,k3⟩:=h3;exact ⟨o,arr,ty,k1,k2,k3.un hS hl hlen hbl⟩
theorem RpB.split_append {E:Env}:∀{x y:List (Option (List A))} {bs own:List Nat},RpB E (x++y) bs own->∃b1 b2 o1 o2,bs=b1++b2/\own=o1++o2/\RpB E x b1 o1/\RpB E y b2 o2
 | [],y,bs,own,h=>⟨[],bs,[],own,rfl,rfl,⟨rfl,rfl⟩,h⟩
 | c::x,y,bs,own,h=>by
  obtain ⟨b,bs',o1,o2,rfl,rfl,h3,h4⟩:=h;obtain ⟨b1,b2,p1,p2,rfl,rfl,h5,h6⟩:=RpB.split_append h4;exact ⟨b::b1,b2,o1++p1,p2,rfl,by simp,⟨b,b1,o1,p1,rfl,rfl,h3,h5⟩,h6⟩
theorem RpB.join {E:Env}:∀{x y:List (Option (List A))} {b1 b2 o1 o2:List Nat},RpB E x b1 o1->RpB E y b2 o2->RpB E (x++y) (b1++b2) (o1++o2)
 | [],y,b1,b2,o1,o2,h,h'=>by obtain ⟨rfl,rfl⟩:=h;exact h'
 | c::x,y,b1,b2,o1,o2,h,h'=>by
  obtain ⟨b,bs',p1,p2,rfl,rfl,h3,h4⟩:=h;exact ⟨b,bs'++b2,p1,p2++o2,rfl,by simp,h3,RpB.join h4 h'⟩
theorem mZ0 {E:Env}:∀{ids blks:List Nat} {xs bs:List (Option (List A))} {bl O o:List Nat},Lies ids blks bl->RpB E bs bl O->RpB E xs blks o->(O++o).Nodup->
  ∃O',RpB E (zX0 ids xs bs) bl O'/\O'.Nodup/\∀b∈O',b∈O\/b∈o
 | [],blks,xs,bs,bl,O,o,hl,h,hx,hn=>by
  rw[show zX0 [] xs bs=bs by cases xs<;>rfl]
  exact ⟨O,h,(List.nodup_append.1 hn).1,fun b hb=>.inl hb⟩
 | b::ids,blks,[],bs,bl,O,o,hl,h,hx,hn=>⟨O,h,(List.nodup_append.1 hn).1,fun b hb=>.inl hb⟩
 | b::ids,blks,x::xs,bs,bl,O,o,hl,h,hx,hn=>by
  obtain ⟨blk,blks',o1,o2,rfl,rfl,h3,h4⟩:=hx;obtain ⟨blk',k1,k2⟩:=hl 0 b rfl;simp at k1;subst k1;have hlt:b < bs.length:=by rw[<-RpB.length h];exact (List.getElem?_eq_some_iff.1 k2).1
  obtain ⟨blk'',p,oo,q,g1,rfl,g3,g4⟩:=RpB.split b _ h (List.getElem?_eq_getElem hlt);rw[k2] at g1;simp at g1;subst g1;have hset:=g4 x o1 h3;have hn':((p++o1++q)++o2).Nodup:=by
   simp only[List.append_assoc,List.nodup_append,List.mem_append] at hn |-;obtain ⟨n1,⟨n2,⟨n3,⟨n4,n5,n6⟩,n7⟩,n8⟩,n9⟩:=hn;refine ⟨n1,⟨n4,⟨n3,n5,fun x hx y hy=>n7 x hx y (.inr hy)⟩,fun x hx y hy=>?_⟩,fun x hx y hy=>?_⟩
   ·rintro rfl
    rcases hy with hy | hy
    ·exact n7 x hy x (.inl hx) rfl
    ·exact n6 x hx x hy rfl
   ·rintro rfl
    rcases hy with hy | hy | hy
    ·exact n9 x hx x (.inr (.inr (.inl hy))) rfl
    ·exact n9 x hx x (.inr (.inl hy)) rfl
    ·exact n9 x hx x (.inr (.inr (.inr hy))) rfl
  obtain ⟨O',m1,m2,m3⟩:=mZ0 (fun j b' hj=>by simpa using hl (j+1) b' (by simpa using hj)) hset h4 hn'
  refine ⟨O',m1,m2,fun y hy=>?_⟩;rcases m3 y hy with hy | hy
  ·simp only[List.mem_append] at hy |-
   rcases hy with (hy | hy) | hy<;>simp[hy]
  ·simp[hy]
theorem TH0 (h:InvAt C X σ a w S L bl O1 O2):∀{xs:List Operand} {avs:List AV},qC0 σ xs=some avs->
  RpS ⟨S,L,bl,a,w,σ.cell⟩ avs (xs.map a.eval) []/\(∀av∈avs,av.sh≠.any)/\(∀av∈avs,∀c∈av.cs,stampIn X σ.epoch c)/\∀av∈avs,∀g d k els,A.ow g d k els∉av.cs
 | [],avs,hx=>by simp[qC0] at hx;subst hx;exact ⟨⟨rfl,rfl⟩,by simp,by simp,by simp⟩
 | x::xs,avs,hx=>by
  simp only[qC0,Option.bind_eq_some_iff] at hx;obtain ⟨av,hav,hx⟩:=hx;have hsh:av.sh≠.any/\(qC0 σ xs).map (fun q=>av::q)=some avs:=by
   cases hs:av.sh<;>simp only[hs,reduceCtorEq] at hx<;>exact ⟨by simp,hx⟩
  obtain ⟨hsh,hx⟩:=hsh;simp only[Option.map_eq_some_iff] at hx;obtain ⟨q,hq,rfl⟩:=hx;obtain ⟨g1,g2,g3,g4⟩:=TH0 h hq;have he:=h.ev hav;refine ⟨⟨a.eval x,xs.map a.eval,[],[],rfl,rfl,he.rep,g1⟩,fun y hy=>?_,fun y hy=>?_,fun y hy=>?_⟩<;>rcases List.mem_cons.1 hy with rfl | hy
  ·exact hsh
  ·exact g2 y hy
  ·exact he.st
  ·exact g3 y hy
  ·exact he.noOw
  ·exact g4 y hy
theorem RepV.cells {E:Env} {av:AV} {v:Value} {o:List Nat} (h:RepV E av v o) (hs:av.sh≠.any):shOk av.sh v/\RpA E av.cs (flat v) o:=by
 obtain ⟨sh,cs⟩:=av;cases sh with
 | any=>exact absurd rfl hs
 | one=>exact h
 | agg=>exact h
 | tup ns=>exact h
theorem RepV.ofCells {E:Env} {sh:Sh} {cs:List A} {v:Value} {o:List Nat} (hs:sh≠.any) (h1:shOk sh v) (h2:RpA E cs (flat v) o):RepV E ⟨sh,cs⟩ v o:=by
 cases sh with
 | any=>exact absurd rfl hs
 | one=>exact ⟨h1,h2⟩
 | agg=>exact ⟨h1,h2⟩
 | tup ns=>exact ⟨h1,h2⟩
theorem RpS.flatten {E:Env}:∀{avs:List AV} {vs:List Value} {o:List Nat},(∀av∈avs,av.sh≠.any)->RpS E avs vs o->RpA E (avs.flatMap (·.cs)) (vs.flatMap flat) o
 | [],vs,o,_,h=>by obtain ⟨rfl,rfl⟩:=h;exact ⟨rfl,rfl⟩
 | av::avs,vs,o,hs,h=>by
  obtain ⟨v,vs',o1,o2,rfl,rfl,h3,h4⟩:=h;simp only[List.flatMap_cons];exact RpA.append_iff.2 ⟨_,_,_,_,rfl,rfl,(h3.cells (hs av List.mem_cons_self)).2,RpS.flatten (fun x hx=>hs x (List.mem_cons_of_mem _ hx)) h4⟩
theorem RpS.split_cells {E E':Env}:∀{avs:List AV} {vs:List Value} {o o':List Nat} {cs:List A},(∀av∈avs,av.sh≠.any)->RpS E avs vs o->RpA E' cs (vs.flatMap flat) o'->RpS E' (mJ0 avs cs) vs o'
 | [],vs,o,o',cs,_,h,h'=>by
  obtain ⟨rfl,rfl⟩:=h;have:o'=[]:=by
   cases cs with
   | nil=>exact h'.2
   | cons c cs=>obtain ⟨u,us',_,_,h1,_⟩:=h';simp at h1
  exact ⟨rfl,this⟩
 | av::avs,vs,o,o',cs,hs,h,h'=>by
  obtain ⟨v,vs',o1,o2,rfl,rfl,h3,h4⟩:=h;obtain ⟨k1,k2⟩:=h3.cells (hs av List.mem_cons_self);simp only[List.flatMap_cons] at h';have hlen:=RpA.length k2;have hlen':=RpA.length h';rw[List.length_append,hlen] at hlen';rw[<-List.take_append_drop av.cs.length cs] at h';obtain ⟨u1,u2,p1,p2,e1,rfl,m1,m2⟩:=RpA.append_iff.1 h';have hl1:=RpA.length m1;rw[List.length_take,Nat.min_eq_left (by omega)] at hl1
  have hu:flat v=u1/\vs'.flatMap flat=u2:=List.append_inj e1 (by omega)
  obtain ⟨rfl,rfl⟩:=hu;exact ⟨v,vs',p1,p2,rfl,rfl,RepV.ofCells (hs av List.mem_cons_self) k1 m1,RpS.split_cells (fun x hx=>hs x (List.mem_cons_of_mem _ hx)) h4 m2⟩
theorem ZY0 {E:Env}:∀{caps:List (Nat×Nat)} {vs:List Value},vs.length=caps.length->(∀(j b off:Nat),caps[j]?=some (b,off)->∃blk,E.bl[b]?=some blk/\vs[j]?=some (.pointer (some ⟨blk,off,none⟩)))->RpS E (xD0 caps) vs []
 | [],vs,h,_=>by simp at h;subst h;exact ⟨rfl,rfl⟩
 | c::caps,[],h,_=>by simp at h
 | c::caps,v::vs,h,hc=>by
  obtain ⟨blk,k1,k2⟩:=hc 0 c.1 c.2 rfl;simp at k2;subst k2;exact ⟨_,vs,[],[],rfl,rfl,⟨⟨rfl,rfl⟩,_,[],[],[],rfl,rfl,⟨rfl,blk,k1,rfl⟩,rfl,rfl⟩,ZY0 (by simpa using h) fun j b off hj=>by simpa using hc (j+1) b off (by simpa using hj)⟩
end
end Go.Av
/- Avs, part 25: the rule for a call. -/
namespace Go.Av
def yP0 (P:Program) (f:FuncId):Bool:=match P.funcs[f]? with
 | some fn=>fn.name != "runtime.NumGoroutine" && fn.body.isSome
 | none=>false
theorem GA0 {P:Program} {f:FuncId} (he:yP0 P f=true) {ρ:Operand->Value} {fop:Operand} {vs:Array Value} (hf:ρ fop=.func (.func f) #[] vs) {args:Array Operand} {argTypes:Array TypeId} {dst:Option Tmp} {type:TypeId} {pos:String}
  {after:Array Edge} {guard:Option (Nat×Bool)} (w:World) :
  (execOp ρ ⟨dst,.call ⟨.value fop,args,argTypes⟩,type,pos,after,guard⟩).run P w=.ok (.enter f (args.map ρ++vs)) w:=by
 unfold yP0 at he;cases hfn:P.funcs[f]? with
 | none=>simp[hfn] at he
 | some fn=>
  simp only[hfn,Bool.and_eq_true,bne_iff_ne,ne_eq] at he;obtain ⟨h1,h2⟩:=he;simp[execOp,resolve,hf,Deferred.ofValue,invoke,callFunc,hfn,h1,Result.andThen];intro h0;simp[h0] at h2
theorem Fresh.mask {g:zV0}:∀{ids:List Nat} {σ σ':AS} {pcs:List (List A)},Fresh σ g->maskBoxes ids σ=some (pcs,σ')->Fresh σ' g
 | [],σ,σ',pcs,h,hx=>by simp[maskBoxes] at hx;obtain ⟨_,rfl⟩:=hx;exact h
 | b::ids,σ,σ',pcs,h,hx=>by
  simp only[maskBoxes] at hx
  split at hx<;>try (simp at hx;done)
  simp only[Option.map_eq_some_iff,Prod.mk.injEq] at hx;obtain ⟨⟨pcs',σ2⟩,hx,_,rfl⟩:=hx;refine Fresh.mask (σ:=σ.hide b) ⟨h.1,fun cs hcs=>?_⟩ hx;rcases List.mem_or_eq_of_mem_set hcs with hcs | hcs
  ·exact h.2 cs hcs
  ·simp at hcs
theorem ZD0 {σ:AS}:∀{cs cs':List A},lendCells σ cs=some cs'->∀c∈cs',c.rstamp=none
 | [],cs',hx=>by simp[lendCells] at hx;subst hx;simp
 | c::cs,cs',hx=>by
  have key:∀d:A,d.rstamp=none->(lendCells σ cs).map (fun q=>d::q)=some cs'->∀c∈cs',c.rstamp=none:=by
   intro d hd hx;simp only[Option.map_eq_some_iff] at hx;obtain ⟨q,hq,rfl⟩:=hx;intro y hy;rcases List.mem_cons.1 hy with rfl | hy
   ·exact hd
   ·exact ZD0 hq y hy
  cases c with
  | sref r x g lo len=>
   simp only[lendCells] at hx
   split at hx
   ·exact key _ rfl hx
   ·simp at hx
  | eptr r x g i off=>simp[lendCells] at hx
  | _=>exact key _ rfl hx
theorem tD0 (ids:List Nat) (nb:Nat) (g:zV0) (c:A):(unP ids nb g c).rstamp=none/\(∀g' d k els,unP ids nb g c=.ow g' d k els->g'=g)/\∀s,(unP ids nb g c).stamp=some s->s=g:=by
 cases c with
 | ow g0 d0 k0 els0=>exact ⟨rfl,fun g' d k els h=>by simp only[unP,A.ow.injEq] at h;exact h.1.symm,fun s h=>by simp only[unP,A.stamp,Option.some.injEq] at h;exact h.symm⟩
 | _=>simp[unP,A.rstamp,A.stamp]
theorem uV0:∀{ids:List Nat} {xs bs:List (Option (List A))} {y:Option (List A)},y∈zX0 ids xs bs->y∈bs\/y∈xs
 | [],xs,bs,y,h=>by rw[show zX0 [] xs bs=bs by cases xs<;>rfl] at h;exact .inl h
 | b::ids,[],bs,y,h=>.inl h
 | b::ids,x::xs,bs,y,h=>by
  rcases uV0 (ids:=ids) (xs:=xs) (bs:=bs.set b x) h with h | h
  ·rcases List.mem_or_eq_of_mem_set h with h | rfl
   ·exact .inl h
   ·exact .inr (by simp)
  ·exact .inr (by simp[h])
theorem getElem?_putBoxes:∀{ids:List Nat} {xs bs:List (Option (List A))} {b:Nat},b∉ids->(zX0 ids xs bs)[b]?=bs[b]?
 | [],xs,bs,b,h=>by rw[show zX0 [] xs bs=bs by cases xs<;>rfl]
 | c::ids,[],bs,b,h=>rfl
 | c::ids,x::xs,bs,b,h=>by
  simp only[List.mem_cons,not_or] at h
  show (zX0 ids xs (bs.set c x))[b]?=_
  rw[getElem?_putBoxes h.2,List.getElem?_set_ne (fun e=>h.1 e.symm)]
theorem xM0:∀{ids:List Nat} {xs bs:List (Option (List A))},(zX0 ids xs bs).length=bs.length
 | [],xs,bs=>by rw[show zX0 [] xs bs=bs by cases xs<;>rfl]
 | c::ids,[],bs=>rfl
 | c::ids,x::xs,bs=>by
  show (zX0 ids xs (bs.set c x)).length=_
  rw[xM0];simp
theorem pM0:∀{ids:List Nat} {xs bs:List (Option (List A))} {b:Nat},b∈ids->b < bs.length->xs.length=ids.length->∃y∈xs,(zX0 ids xs bs)[b]?=some y
 | [],xs,bs,b,h,_,_=>by simp at h
 | c::ids,[],bs,b,h,_,hl=>by simp at hl
 | c::ids,x::xs,bs,b,h,hb,hl=>by
  by_cases hm:b∈ids
  ·obtain ⟨y,hy,he⟩:=pM0 (xs:=xs) (bs:=bs.set c x) hm (by simpa using hb) (by simpa using hl)
   exact ⟨y,by simp[hy],he⟩
  ·have hbc:b=c:=by simpa [hm] using h
   subst hbc;refine ⟨x,by simp,?_⟩
   show (zX0 ids xs (bs.set b x))[b]?=_
   rw[getElem?_putBoxes hm,List.getElem?_set_self hb]
section
variable {P:Program} {C:Ctx} {X:List Nat} {σ:AS} {a:Act} {w:World} {Q:Exit->Act->World->Prop}
theorem yQ1 {h:Hint} {i:Nat} {fop:Operand} {args:Array Operand} {argTypes:Array TypeId} {dst:Option Tmp} {type:TypeId} {pos:String} {after:Array Edge} {guard:Option (Nat×Bool)} {f:FuncId} {cargs:List AV} {cbx:List (Option (List A))} {σm:AS}
  {R:AV->List (Option (List A))->Prop} {K:AS->Prop} (hx:wQ0 h i σ fop args.toList=some (f,cargs,cbx,σm)) (hent:yP0 P f=true) (hc:ACl P f cargs cbx R)
  (hK:∀res bx,R res bx->K ((zF0 h.ids i σm res bx).2.putO dst (zF0 h.ids i σm res bx).1)) (hinv:Inv C X σ a w) (hi:i∉X) :
  (⟨dst,.call ⟨.value fop,args,argTypes⟩,type,pos,after,guard⟩:Oper).wp P a w (fun a' w'=>∃σ',K σ'/\Inv C (i::X) σ' a' w') Q:=by
 obtain ⟨S,L,bl,O1,O2,hv⟩:=hinv;have hv':=hv.mono (fun x hx=>List.mem_cons_of_mem i hx);simp only[wQ0,Option.bind_eq_some_iff] at hx;obtain ⟨fv,hfv,hx⟩:=hx
 split at hx<;>try (simp at hx;done)
 rename_i f' caps;simp only[Option.bind_eq_some_iff] at hx;obtain ⟨avs,havs,⟨pcs,σ3⟩,hmask,hx⟩:=hx
 split at hx<;>try (simp at hx;done)
 rename_i hfree;simp only[Option.bind_eq_some_iff,Option.map_eq_some_iff,Prod.mk.injEq] at hx;obtain ⟨cs1,hlend,cs2,hren,pcs',hrens,rfl,rfl,rfl,rfl⟩:=hx;obtain ⟨⟨_,vs,hfun,hvsz,hcaps⟩,_⟩:=(hv.ev hfv).cell;obtain ⟨e1,e2,e3,e4⟩:=TH0 hv havs;have ecap:=ZY0 (E:=⟨S,L,bl,a,w,σ.cell⟩) (caps:=caps) (vs:=vs.toList) (by simpa using hvsz) (fun j b off hj=>by simpa using hcaps j b off hj)
 have eall:=e1.append ecap;have hany:∀av∈avs++xD0 caps,av.sh≠.any:=by
  intro av hav;rcases List.mem_append.1 hav with hav | hav
  ·exact e2 av hav
  ·simp only[xD0,List.mem_map] at hav
   obtain ⟨c,_,rfl⟩:=hav;simp[one]
 have hcapc:∀av∈xD0 caps,∀c∈av.cs,c.stamp=none/\isOw c=false:=by
  intro av hav c hcm;simp only[xD0,List.mem_map] at hav;obtain ⟨c0,_,rfl⟩:=hav;simp[one] at hcm;subst hcm;exact ⟨rfl,rfl⟩
 have eflat:=eall.flatten hany;have hst:∀c∈(avs++xD0 caps).flatMap (·.cs),stampIn X σ.epoch c:=by
  intro c hcm;simp only[List.mem_flatMap,List.mem_append] at hcm;obtain ⟨av,hav | hav,hcm⟩:=hcm
  ·exact e3 av hav c hcm
  ·intro g hg;rw[(hcapc av hav c hcm).1] at hg;simp at hg
 have hno:∀g d k els,A.ow g d k els∉(avs++xD0 caps).flatMap (·.cs):=by
  intro g d k els hcm;simp only[List.mem_flatMap,List.mem_append] at hcm;obtain ⟨av,hav | hav,hcm⟩:=hcm
  ·exact e4 av hav g d k els hcm
  ·have:=(hcapc av hav _ hcm).2;simp[isOw] at this
 obtain ⟨O1a,O2a,oa,a1,a2,a3,a4,a5,a6,a7,a8,a9,a10,a11,a12,a13,a14⟩:=yF0 h.mv hv' (i:=i) (by simp) (hv.fresh hi) eflat (vY0 hst) (fX0 hst hi) hno
 generalize hq1:tkC h.mv (σ.epoch,i) ((avs++xD0 caps).flatMap (·.cs)) σ=q1 at *
 obtain ⟨cA,σA⟩:=q1;simp only at a1 a2 a5 a6 a7 a8 a9 a12 a13 a14 hmask hlend;obtain ⟨S3,L3,O1b,O2b,b1,b2,b3,b4,b5,b6,b7,b8,b9,b10,b11⟩:=vT0 h.sh (i:=i) a1 (by rw[a9];exact a8) a2
 generalize hq2:shC h.sh cA σA=q2 at *;obtain ⟨cB,σB⟩:=q2;simp only at b1 b2 b7 b8 b9 b10 b11 hmask hlend;obtain ⟨Or,op,blks,m1,m2,m3,m4,m5,m6,m7,m8,m9,m10,m11⟩:=MC0 b1 hmask;have hlies:Lies h.ids blks bl:=m3;have hfr3:Fresh σ3 (σ3.epoch,i):=by rw[m9,b8,a9];rw[a9] at b7;exact b7.mask hmask
 have hrl:=MH0 m1 (RpA.go m8 (fun _ _=>rfl) (fun _ _=>zY0) b2) hlend;have hargs:=(RpA.ren (E:=Env.zero S3 (fun b=>L3 b\/b∈O1b++Or) bl w) hlies (ZD0 hlend) hren hrl).reset;have hslots:RpS (Env.zero S3 (fun b=>L3 b\/b∈O1b++Or) blks w) (mJ0 (avs++xD0 caps) (cs2.map A.reset)) (args.map a.eval++vs).toList oa:=by
  rw[show (args.map a.eval++vs).toList=args.toList.map a.eval++vs.toList by simp]
  exact RpS.split_cells hany eall hargs
 have hfreeP:∀cs∈pcs,∀c∈cs,c.rstamp=none:=by
  intro cs hcs c hcm;have:=List.all_eq_true.1 hfree cs hcs;have:=List.all_eq_true.1 this c hcm;simpa using this
 have hle4:Env.Le none ⟨S3,L3,bl,a,w,σ3.cell⟩ ⟨S3,fun b=>L3 b\/b∈O1b++Or,bl,a,w,σ3.cell⟩:=
  ⟨fun _ h=>h,fun b hb=>.inl hb,fun _ _=>rfl,fun _ _ h=>h,fun r c g d k els' _ he=>⟨d,els',he,rfl,fun x hx=>by cases r<;>exact hx⟩⟩
 have hboxes:=RpB.ren (E:=⟨S3,fun b=>L3 b\/b∈O1b++Or,bl,a,w,σ3.cell⟩) hlies hfreeP hrens (RpB.go hle4 (fun _ _=>rfl) (fun _ _ _ _ _ _=>zY0) m2);have hOb:∀b,b∈O1b++Or->b∈O1b++O2b:=fun b hb=>by
  rcases List.mem_append.1 hb with hb | hb
  ·simp[hb]
  ·simp[m6 b hb]
 have hopb:∀b,b∈op->b∈O1b++O2b:=fun b hb=>by simp[m5 b hb]
 have hOrop:∀b,b∈op->b∉O1b++Or:=fun b hb hm=>by
  rcases List.mem_append.1 hm with hm | hm
  ·exact (List.nodup_append.1 b1.nodup).2.2 b hm b (m5 b hb) rfl
  ·exact (List.nodup_append.1 m7).2.2 b hm b hb rfl
 have hoaL:∀b,b∈oa->¬L3 b:=fun b hb hL=>(b5 b hL).elim (a4 b hb).2.1 (a4 b hb).1;have hoaO:∀b,b∈oa->b∉O1b++O2b:=fun b hb hm=>(a4 b hb).1 (b6 b hm);have hopL:∀b,b∈op->¬L3 b:=fun b hb hL=>(b1.stable b hL).2 (hopb b hb);have hnd:(oa++op).Nodup:=List.nodup_append.2 ⟨a3,(List.nodup_append.1 m7).2.1,fun x hx y hy he=>hoaO x hx (by rw[he];exact hopb y hy)⟩
 have hown:∀b∈oa++op,b∈C.O0\/C.w0.heap.size<=b:=fun b hb=>by
  rcases List.mem_append.1 hb with hb | hb
  ·exact (a4 b hb).2.2
  ·exact b1.own b (hopb b hb)
 have hstab:∀b,(L3 b\/b∈O1b++Or)->b < w.heap.size/\b∉oa++op:=by
  intro b hb;rcases hb with hb | hb
  ·refine ⟨(b1.stable b hb).1,fun hm=>?_⟩
   rcases List.mem_append.1 hm with hm | hm
   ·exact hoaL b hm hb
   ·exact hopL b hm hb
  ·refine ⟨b1.own_lt (hOb b hb),fun hm=>?_⟩
   rcases List.mem_append.1 hm with hm | hm
   ·exact hoaO b hm (hOb b hb)
   ·exact hOrop b hm hb
 have hcalls:=hc w _ S3 (fun b=>L3 b\/b∈O1b++Or) blks oa op hslots hboxes hnd (fun b hb=>.inl (b1.sl b hb)) hstab (C.gd.keeps C.gs b1.keeps b1.s0.1);unfold Oper.wp;rw[GA0 hent hfun w];simp only[Oper.upon_enter];refine Calls.mono hcalls ?_;rintro e w' ⟨v,rfl,res,bx',S',bl',o1,o2,hR,r1,r2,r3,r4,r5,r6,r7,r8,r9⟩;obtain ⟨new,hnew⟩:=r9;refine ⟨_,hK res bx' hR,?_⟩;have hlbl:=RpB.length m1.boxes;have hlen2:=RpB.length r2
 have hge:h.ids.length<=bx'.length:=by rw[<-hlen2,<-hnew,List.length_append,m4];omega
 have hbx:bx'=bx'.take h.ids.length++bx'.drop h.ids.length:=(List.take_append_drop _ _).symm;have r2':=r2;rw[hbx] at r2';obtain ⟨c1,c2,p1,p2,hcc,rfl,s1,s2⟩:=RpB.split_append r2';have hc1:c1=blks/\c2=new:=by
  have hl1:=RpB.length s1;rw[List.length_take,Nat.min_eq_left hge] at hl1;have:=List.append_inj (hcc.symm.trans hnew.symm) (by omega)
  exact this
 obtain ⟨rfl,rfl⟩:=hc1;have hsize:w.heap.size<=w'.heap.size:=r7.size;have hblk:∀b,(L3 b\/b∈O1b++Or)->w'.heap[b]?=w.heap[b]?:=fun b hb=>r7.block b (hstab b hb).1 (hstab b hb).2;have hS':∀b,S' b->(fun b=>L3 b\/S' b) b:=fun b hb=>.inr hb
 let σ4:AS:=(zF0 h.ids i σ3 res bx').2
 let g:zV0:=(σ3.epoch,i)
 have hcell4:∀r c,(∀b,r=.box b->b∉h.ids/\b < σ3.boxes.length)->σ4.cell r c=σ3.cell r c:=by
  intro r c hr;cases r with
  | slot t=>rfl
  | box b=>
   obtain ⟨hb1,hb2⟩:=hr b rfl;simp only[σ4,zF0,AS.cell];rw[List.getElem?_append_left (by rw[xM0];exact hb2),getElem?_putBoxes hb1]
 have hcellg:∀b c g0 d k els,σ4.cell (.box b) c=some (.ow g0 d k els)->¬(b∉h.ids/\b < σ3.boxes.length)->g0=g:=by
  intro b c g0 d k els he hb;have huse:∀y:Option (List A),σ4.boxes[b]?=some (vF0 h.ids σ3.boxes.length g y)->g0=g:=by
   intro y hy;simp only[AS.cell,hy,Option.bind_some] at he;cases y with
   | none=>simp[vF0] at he
   | some cs=>
    simp only[vF0,Option.map_some,Option.bind_some,List.getElem?_map,Option.map_eq_some_iff] at he;obtain ⟨c0,_,hc0⟩:=he;exact (tD0 h.ids σ3.boxes.length g c0).2.1 _ _ _ _ hc0
  by_cases hb2:b < σ3.boxes.length
  ·have hbi:b∈h.ids:=Classical.byContradiction fun hbi=>hb ⟨hbi,hb2⟩
   obtain ⟨y,hy,hy2⟩:=pM0 (xs:=(bx'.take h.ids.length).map (vF0 h.ids σ3.boxes.length g)) hbi hb2 (by simp;omega)
   obtain ⟨y0,_,rfl⟩:=List.mem_map.1 hy;refine huse y0 ?_
   show (zX0 _ _ _++_)[b]?=_
   rw[List.getElem?_append_left (by rw[xM0];exact hb2)]
   exact hy2
  ·have hlp:(zX0 h.ids ((bx'.take h.ids.length).map (vF0 h.ids σ3.boxes.length g)) σ3.boxes).length=σ3.boxes.length:=xM0
   cases hy:σ4.boxes[b]? with
   | none=>simp[AS.cell,hy] at he
   | some y=>
    have hy':=hy
    change (zX0 h.ids ((bx'.take h.ids.length).map (vF0 h.ids σ3.boxes.length g)) σ3.boxes++(bx'.drop h.ids.length).map (vF0 h.ids σ3.boxes.length g))[b]?=_ at hy'
    rw[List.getElem?_append_right (by omega),List.getElem?_map,Option.map_eq_some_iff] at hy'
    obtain ⟨y0,_,rfl⟩:=hy';exact huse y0 hy
 have hE:Env.Le (some g) ⟨S3,L3,bl,a,w,σ3.cell⟩ ⟨S',fun b=>L3 b\/S' b,bl++c2,a,w',σ4.cell⟩:=by
  refine ⟨r5,fun b hb=>.inl hb,fun b hb=>hblk b (.inl (hb.elim (b1.sl b) id)),fun j blk hj=>by
   show (bl++c2)[j]?=some blk
   rw[List.getElem?_append_left (List.getElem?_eq_some_iff.1 hj).1];exact hj,fun r c g0 d k els' hg he=>?_⟩
  simp only at he;cases r with
  | slot t=>exact ⟨d,els',he,rfl,fun x hx=>hx⟩
  | box b=>
   by_cases hb:b∉h.ids/\b < σ3.boxes.length
   ·rw[hcell4 (.box b) c (fun b' hb'=>by cases hb';exact hb)] at he
    refine ⟨d,els',he,rfl,fun x hx=>?_⟩;simp only[Env.cv] at hx |-;simp only[AS.cell] at he;cases hb':σ3.boxes[b]? with
    | none=>simp[hb'] at he
    | some y=>
     cases y with
     | none=>simp[hb'] at he
     | some cs=>
      obtain ⟨blk,p,o,q,k1,k2,⟨o',arr,ty,k3,k4,k5⟩,_⟩:=RpB.split b _ m1.boxes hb';rw[List.getElem?_append_left (List.getElem?_eq_some_iff.1 k1).1];simp only[k1,Option.bind_some] at hx |-;rw[cell?_congr (hblk blk (.inr (by simp[k2,k3])))]
      exact hx
   ·exact absurd (congrArg some (hcellg b c g0 d k els' he hb)) hg
 have hdisj:∀b∈o1++(p1++p2),¬(L3 b\/b∈O1b++Or):=fun b hb hm=>by
  rcases r8 b hb with h1 | h1
  ·exact (hstab b hm).2 h1
  ·have:=(hstab b hm).1;omega
 have hnewOwn:∀b∈o1++(p1++p2),b∈C.O0\/C.w0.heap.size<=b:=fun b hb=>by
  rcases r8 b hb with h1 | h1
  ·exact hown b h1
  ·exact .inr (Nat.le_trans hv.keeps.size h1)
 obtain ⟨d1,d2,d3⟩:=List.nodup_append.1 r3;obtain ⟨d4,d5,d6⟩:=List.nodup_append.1 d2;obtain ⟨d7,d8,d9⟩:=List.nodup_append.1 m1.nodup;have t1:=RpS.go hE (fun b hb=>hblk b (.inr (by simp[hb]))) hfr3.1 m1.slots
 have t2:=RpB.go hE (fun b hb=>hblk b (.inr (by simp[hb]))) (fun c cs' hc he=>hfr3.2 cs' (he ▸ hc)) m1.boxes
 have u1:=RpB.un (L':=fun b=>L3 b\/S' b) (a:=a) (ca:=σ4.cell) (g:=g) hS' hlies m4 hnew.symm s1;have u2:=RpB.un (L':=fun b=>L3 b\/S' b) (a:=a) (ca:=σ4.cell) (g:=g) hS' hlies m4 hnew.symm s2;rw[hlbl] at u1 u2;obtain ⟨O',t3,t4,t5⟩:=mZ0 hlies t2 u1 (List.nodup_append.2 ⟨d8,d4,fun x hx y hy he=>hdisj y (by simp[hy]) (.inr (by simp[<-he,hx]))⟩)
 have t6:=t3.join u2;have hO':∀b,b∈O'++p2->b∈Or\/b∈p1++p2:=fun b hb=>by
  rcases List.mem_append.1 hb with hb | hb
  ·rcases t5 b hb with hb | hb
   ·exact .inl hb
   ·exact .inr (by simp[hb])
  ·exact .inr (by simp[hb])
 have hfin:InvAt C (i::X) σ4 a w' S' (fun b=>L3 b\/S' b) (bl++c2) O1b (O'++p2):=by
  refine ⟨m1.defers,t1,t6,?_,hS',?_,⟨fun b hb=>r5 b (m1.s0.1 b hb),fun b hb=>?_⟩,?_,?_,m1.pre.trans (List.prefix_append _ _),m1.stS,?_⟩
  ·refine List.nodup_append.2 ⟨d7,List.nodup_append.2 ⟨t4,d5,fun x hx y hy he=>?_⟩,fun x hx y hy he=>?_⟩
   ·rcases t5 x hx with hx | hx
    ·exact hdisj y (by simp[hy]) (.inr (by simp[<-he,hx]))
    ·exact d6 x hx y hy he
   ·rcases hO' y hy with hy | hy
    ·exact d9 x hx y hy he
    ·exact hdisj y (by simp only[List.mem_append] at hy |-;exact .inr hy) (.inr (by simp[<-he,hx]))
  ·intro b hb
   rcases hb with hb | hb
   ·refine ⟨Nat.lt_of_lt_of_le (hstab b (.inl hb)).1 hsize,fun hm=>?_⟩
    rcases List.mem_append.1 hm with hm | hm
    ·exact (m1.stable b hb).2 (by simp[hm])
    ·rcases hO' b hm with hm | hm
     ·exact (m1.stable b hb).2 (by simp[hm])
     ·exact hdisj b (by simp only[List.mem_append] at hm |-;exact .inr hm) (.inl hb)
   ·refine ⟨(r4 b hb).1,fun hm=>?_⟩
    have hold:b∉O1b++Or:=fun hm=>by
     rcases r6 b hb with h1 | h1 | h1
     ·exact (m1.stable b (b1.sl b h1)).2 hm
     ·exact (hstab b (.inr hm)).2 h1
     ·have:=(hstab b (.inr hm)).1;omega
    rcases List.mem_append.1 hm with hm | hm
    ·exact hold (by simp[hm])
    ·rcases hO' b hm with hm | hm
     ·exact hold (by simp[hm])
     ·exact (r4 b hb).2 (by simp only[List.mem_append] at hm |-;exact .inr hm)
  ·rcases r6 b hb with h1 | h1 | h1
   ·exact m1.s0.2 b h1
   ·exact .inr (hown b h1)
   ·exact .inr (.inr (Nat.le_trans hv.keeps.size h1))
  ·refine ⟨r7.os.trans hv.keeps.os,r7.tape.trans hv.keeps.tape,r7.output.trans hv.keeps.output,Nat.le_trans hv.keeps.size hsize,fun b hb hn=>?_⟩
   rw[r7.block b (Nat.lt_of_lt_of_le hb hv.keeps.size) (fun hm=>by
    rcases hown b hm with h1 | h1
    ·exact hn h1
    ·omega)]
   exact hv.keeps.block b hb hn
  ·intro b hb
   rcases List.mem_append.1 hb with hb | hb
   ·exact m1.own b (by simp[hb])
   ·rcases hO' b hb with hb | hb
    ·exact m1.own b (by simp[hb])
    ·exact hnewOwn b (by simp only[List.mem_append] at hb |-;exact .inr hb)
  ·intro cs hcs c hcm
   have hun:∀y:Option (List A),some cs=vF0 h.ids σ3.boxes.length g y->stampIn (i::X) σ4.epoch c:=by
    intro y hy s hs;cases y with
    | none=>simp[vF0] at hy
    | some cs0=>
     simp only[vF0,Option.map_some,Option.some.injEq] at hy;subst hy;obtain ⟨c0,_,rfl⟩:=List.mem_map.1 hcm;have:=(tD0 h.ids σ3.boxes.length g c0).2.2 s hs;subst this;exact .inr ⟨rfl,List.mem_cons_self⟩
   have hcs':some cs∈zX0 h.ids ((bx'.take h.ids.length).map (vF0 h.ids σ3.boxes.length g)) σ3.boxes++(bx'.drop h.ids.length).map (vF0 h.ids σ3.boxes.length g):=hcs;rcases List.mem_append.1 hcs' with hcs' | hcs'
   ·rcases uV0 hcs' with hcs' | hcs'
    ·exact m1.stB cs hcs' c hcm
    ·obtain ⟨y,_,hy⟩:=List.mem_map.1 hcs'
     exact hun y hy.symm
   ·obtain ⟨y,_,hy⟩:=List.mem_map.1 hcs'
    exact hun y hy.symm
 refine hfin.done (i:=i) (o':=o1) ?_ ?_ ?_ ?_ ?_ d1 ?_
 ·refine ⟨hfr3.1,fun cs hcs c hcm=>?_⟩
  have hcs':some cs∈zX0 h.ids ((bx'.take h.ids.length).map (vF0 h.ids σ3.boxes.length g)) σ3.boxes++(bx'.drop h.ids.length).map (vF0 h.ids σ3.boxes.length g):=hcs;have hun:∀y:Option (List A),some cs=vF0 h.ids σ3.boxes.length g y->c.rstamp=none:=by
   intro y hy;cases y with
   | none=>simp[vF0] at hy
   | some cs0=>
    simp only[vF0,Option.map_some,Option.some.injEq] at hy;subst hy;obtain ⟨c0,_,rfl⟩:=List.mem_map.1 hcm;exact (tD0 h.ids σ3.boxes.length g c0).1
  rcases List.mem_append.1 hcs' with hcs' | hcs'
  ·rcases uV0 hcs' with hcs' | hcs'
   ·exact hfr3.2 cs hcs' c hcm
   ·obtain ⟨y,_,hy⟩:=List.mem_map.1 hcs'
    exact .inl (hun y hy.symm)
  ·obtain ⟨y,_,hy⟩:=List.mem_map.1 hcs'
   exact .inl (hun y hy.symm)
 ·by_cases hsh:res.sh=.any
  ·obtain ⟨sh,cs⟩:=res
   simp only at hsh;subst hsh;obtain ⟨k1,k2⟩:=r1;simp only at k1;subst k1;exact ⟨rfl,k2⟩
  ·obtain ⟨k1,k2⟩:=r1.cells hsh
   have:=RpA.un (L':=fun b=>L3 b\/S' b) (a:=a) (ca:=σ4.cell) (g:=g) hS' hlies m4 hnew.symm k2;rw[hlbl] at this;exact RepV.ofCells hsh k1 this
 ·intro c hcm
  obtain ⟨c0,_,rfl⟩:=List.mem_map.1 hcm;exact .inl (tD0 h.ids σ3.boxes.length g c0).1
 ·intro c hcm s hs
  obtain ⟨c0,_,rfl⟩:=List.mem_map.1 hcm;have:=(tD0 h.ids σ3.boxes.length g c0).2.2 s hs;subst this;exact .inr ⟨rfl,List.mem_cons_self⟩
 ·intro g0 d k els hcm
  obtain ⟨c0,_,hc0⟩:=List.mem_map.1 hcm;exact (tD0 h.ids σ3.boxes.length g c0).2.1 _ _ _ _ hc0
 ·intro b hb
  have hdb:=hdisj b (by simp[hb])
  refine ⟨fun hm=>?_,fun hL=>?_,hnewOwn b (by simp[hb])⟩
  ·rcases List.mem_append.1 hm with hm | hm
   ·exact hdb (.inr (by simp[hm]))
   ·rcases hO' b hm with hm | hm
    ·exact hdb (.inr (by simp[hm]))
    ·exact d3 b hb b hm rfl
  ·rcases hL with hL | hL
   ·exact hdb (.inl hL)
   ·exact (r4 b hL).2 (by simp[hb])
end
end Go.Av
/- Avs, part 19a: bytes to a text. -/
namespace Go.Av
def bytesOf:List (List T)->Option (List Int)
 | []=>some []
 | e::es=>match e with
  | [.lit (.int .u8 n)]=>(bytesOf es).map (n::·)
  | _=>none
def textOf (ns:List Int):ByteArray:=ns.foldl (fun r n=>r.push (UInt8.ofNat n.toNat)) ByteArray.empty
def dW0 (P:Program) (σ:AS) (s d:TypeId) (x:Operand):Option AV:=
 (σ.ev x).bind fun x=>match x with
 | ⟨.one,[c]⟩=>opt2 (tyOf P s) (tyOf P d) fun ts td=>match ts.tk,td.tk with
  | .slice e,.str=>(tyOf P e).bind fun te=>match te.tk with
   | .int .u8=>(σ.els c).bind fun els=>(bytesOf els).map fun ns=>one (.lit (.string (textOf ns)))
   | _=>none
  | _,_=>none
 | _=>none
section
variable {P:Program} {C:Ctx} {X:List Nat} {σ:AS} {a:Act} {w:World} {S L:Nat->Prop} {bl O1 O2:List Nat}
theorem RP0 (h:InvAt C X σ a w S L bl O1 O2) {xo:Operand} {c:A} {els:List (List T)} (hxe:σ.ev xo=some ⟨.one,[c]⟩) (hxs:σ.els c=some els) :
  ∃ad cap,a.eval xo=.slice ad els.length cap/\(els≠[]->∃b o,ad=some ⟨b,o,none⟩/\RepSE L w b o els):=by
 obtain ⟨r1,_⟩:=(h.ev hxe).cell;cases c<;>simp only[AS.els,reduceCtorEq] at hxs
 ·simp at hxs;subst hxs;obtain ⟨⟨ad,hv⟩,_⟩:=r1;exact ⟨ad,0,by simpa using hv,by simp⟩
 ·simp only[Option.some.injEq] at hxs
  subst hxs;obtain ⟨r1,_⟩:=r1;simp only[RepS] at r1;obtain ⟨ad,cap,h1,h2,h3⟩:=r1;refine ⟨ad,cap,h1,fun hne=>?_⟩;obtain ⟨b,o,e1,e2,e3⟩:=h3 hne;refine ⟨b,o,e1,?_⟩
  rename Bool=>bst
  cases hst:bst with
  | true=>rw[hst] at e3;exact RepSE.mono h.sl (fun _ _=>rfl) b rfl o _ e3
  | false=>rw[hst] at e3;exact e3
 ·simp only[Option.map_eq_some_iff] at hxs
  obtain ⟨⟨k,els⟩,hat,rfl⟩:=hxs;have hcell:=AS.at?_some hat;obtain ⟨hlo,ad,cap,xx,e1,e2,e3⟩:=r1.2.2 false k els hcell;obtain ⟨u0,o,q1,q2,q3⟩:=h.peek hcell;rw[e1] at q1;simp at q1;subst q1;obtain ⟨own',s1,s2⟩:=RepO.sub (show RepO S w false k els _ o from q2) hlo e3
  obtain ⟨ad',cap',m1,m2,m3,m4⟩:=s1;rw[e2,m1];refine ⟨ad',cap',rfl,fun hne=>?_⟩;rcases m4 with ⟨_,h0,_⟩ | ⟨b,o,arr,ty,fz,rfl,_,_,_,_,g6⟩
  ·exact absurd h0 hne
  ·exact ⟨b,o,rfl,RepSE.mono h.sl (fun _ _=>rfl) b rfl o _ g6⟩
theorem pZ0 {S:Nat->Prop}:∀{els:List (List T)} {ns:List Int} {us:List Value},bytesOf els=some ns->RepTs S w els.flatten us->us=ns.map (Value.int .u8)/\els.length=ns.length
 | [],ns,us,h,hr=>by simp[bytesOf] at h;subst h;exact ⟨hr,rfl⟩
 | e::es,ns,us,h,hr=>by
  simp only[bytesOf] at h
  split at h<;>try (simp at h;done)
  rename_i n;simp only[Option.map_eq_some_iff] at h;obtain ⟨ns',h1,rfl⟩:=h;obtain ⟨u,us',rfl,h2,h3⟩:=hr;obtain ⟨k1,k2⟩:=pZ0 (us:=us') h1 (by simpa using h3)
  simp only[RepS] at h2;exact ⟨by simp[h2.1,k1],by simp[k2]⟩
theorem zH1 {i:Nat} {dst:Option Tmp} {s d:TypeId} {x:Operand} {av:AV} (hx:dW0 P σ s d x=some av):OpOk P C i (.convert s d x) dst σ av σ:=by
 rintro X a w ⟨S,L,bl,O1,O2,h⟩ hi type pos after guard;have h':=h.mono (fun x hx=>List.mem_cons_of_mem i hx);simp only[dW0,Option.bind_eq_some_iff] at hx;obtain ⟨x',hxe,hx⟩:=hx
 split at hx<;>try (simp at hx;done)
 rename_i c;obtain ⟨ts,td,hs,hd,hx⟩:=zQ0 hx
 split at hx<;>try (simp at hx;done)
 rename_i e hk1 hk2;simp only[Option.bind_eq_some_iff] at hx;obtain ⟨te,he,hx⟩:=hx
 split at hx<;>try (simp at hx;done)
 rename_i hk3;simp only[Option.bind_eq_some_iff,Option.map_eq_some_iff] at hx;obtain ⟨els,hels,ns,hns,rfl⟩:=hx;obtain ⟨ad,cap,hv,hne⟩:=RP0 h hxe hels;have hb:(Conv.bytesToString (a.eval x)).run P w=.ok (.string (textOf ns)) w:=by
  rw[hv];cases ad with
  | none=>
   have h0:els=[]:=Classical.byContradiction fun hn=>by obtain ⟨b,o,h1,_⟩:=hne hn;simp at h1
   subst h0;simp[bytesOf] at hns;subst hns
   rfl
  | some ad=>
   refine run_bytesToString w ad els.length cap ns ?_
   by_cases h0:els=[]
   ·subst h0
    simp[bytesOf] at hns;subst hns;exact run_loadCells_list (P:=P) (w:=w) ad [] (by simp)
   ·obtain ⟨b,o,h1,h2⟩:=hne h0
    simp at h1;subst h1;obtain ⟨us,p1,p2⟩:=h2.flat;obtain ⟨k1,k2⟩:=pZ0 hns p1;subst k1;have:=run_loadCells_list (P:=P) (w:=w) ⟨b,o,none⟩ (ns.map (Value.int .u8)) (fun j v hj=>by rw[yE0];exact p2 j v hj)
    rw[k2];simpa using this
 refine ⟨_,.string (textOf ns),w,?_,.inl rfl,h'.done (h.fresh hi) (o':=[]) (EvOk.lit (C:=C) (X:=X) (σ:=σ) (E:=⟨S,L,bl,a,w,σ.cell⟩) (v:=.string (textOf ns)) rfl).rep (fun c hc=>by simp[one] at hc;subst hc;exact .inl rfl) (fun c hc g hg=>by simp[one] at hc;subst hc;simp[A.stamp] at hg) (fun g d k els hm=>by simp[one] at hm) List.nodup_nil (by simp)⟩
 have hc:(convert s d (a.eval x)).run P w=.ok (.string (textOf ns)) w:=by
  rw[<-hb];rw[hv];simp only[convert,Sem.run_bind,yB0 hs w hk1,xB0 hd w hk2,Result.andThen,xC0 he w hk3]
 simp only[execOp,Sem.run_bind,hc,Result.andThen]
 rfl
end
end Go.Av
/- Avs, part 19b: slices that are made. -/
namespace Go.Av
theorem jY0 (z:List Value) (_h:0 < z.length) (n:Nat):(List.range z.length).map (fun j=>z.toArray[(n * z.length+j) % z.toArray.size]!)=z:=by
 apply List.ext_getElem?;intro j
 by_cases hj:j < z.length
 ·simp[hj,Nat.mod_eq_of_lt hj]
 ·simp[hj]
theorem rY0 (z:List Value) (_h:0 < z.length):∀n:Nat,(madeCells z.toArray (n * z.length)).toList=(List.replicate n z).flatten
 | 0=>by simp[madeCells]
 | n+1=>by
  have ih:=rY0 z _h n;simp only[madeCells,Array.toList_map,Array.toList_range] at ih |-;rw[Nat.succ_mul,List.range_add,List.map_append,ih,List.replicate_succ',List.flatten_append,List.map_map]
  congr 1
  simpa [Function.comp_def] using jY0 z _h n
def xY1:Value->Option T
 | .slice none 0 0=>some (.sl [])
 | v=>if isLit v then some (.lit v) else none
def nY0:List Value->Option (List T)
 | []=>some []
 | v::vs=>(xY1 v).bind fun t=>(nY0 vs).map fun q=>t::q
theorem nX0 {S:Nat->Prop} {w:World}:∀{vs:List Value} {ts:List T},nY0 vs=some ts->RepTs S w ts vs
 | [],ts,h=>by simp[nY0] at h;subst h;rfl
 | v::vs,ts,h=>by
  simp only[nY0,Option.bind_eq_some_iff,Option.map_eq_some_iff] at h;obtain ⟨t,h1,q,h2,rfl⟩:=h;refine ⟨v,vs,rfl,?_,nX0 h2⟩;unfold xY1 at h1
  split at h1
  ·simp at h1;subst h1;simp only[RepS];exact ⟨none,0,rfl,by simp,by simp⟩
  ·obtain ⟨h3,rfl⟩:=zP0 h1
   simp only[RepS];exact ⟨trivial,h3⟩
theorem NJ0 {S:Nat->Prop} {w:World} {vs:List Value} {ts:List T} (h:RepTs S w ts vs):∀n,RepTs S w (List.replicate n ts).flatten (List.replicate n vs).flatten
 | 0=>rfl
 | n+1=>by
  simp only[List.replicate_succ,List.flatten_cons];exact h.append (NJ0 h n)
def HA0 (P:Program) (g:zV0) (t:TypeId) (l c:Option AV):Option AV:=
 (tyOf P t).bind fun ti=>match ti.tk with
 | .slice e=>(tyOf P e).bind fun te=>opt2 l c fun l c=>match l.lit?,c.lit? with
  | some (.int _ l),some (.int _ c)=>if 0<=l/\l<=c/\(te.bytes:Int) * c<=281474976710656/\c<=9223372036854775807/\0 < te.size then
    (nY0 te.zero).map fun zs=>one (.ow g false te.size (List.replicate l.toNat zs)) else none
  | _,_=>none
 | _=>none
def XN0 (P:Program) (i:Nat) (σ:AS) (t:TypeId) (l c:Operand):Option (AV×AS):=(HA0 P (σ.epoch,i) t (σ.ev l) (σ.ev c)).map fun av=>(av,σ)
section
variable {P:Program} {C:Ctx} {X:List Nat} {σ:AS} {a:Act} {w:World} {S L:Nat->Prop} {bl O1 O2:List Nat}
theorem zZ1 {i:Nat} {dst:Option Tmp} {t:TypeId} {l c:Operand} {av:AV} {σ1:AS} (hx:XN0 P i σ t l c=some (av,σ1)):OpOk P C i (.makeSlice t l c) dst σ av σ1:=by
 rintro X a w ⟨S,L,bl,O1,O2,h⟩ hi type pos after guard;have h':=h.mono (fun x hx=>List.mem_cons_of_mem i hx);simp only[XN0,Option.map_eq_some_iff,Prod.mk.injEq] at hx;obtain ⟨av0,hx,rfl,rfl⟩:=hx;simp only[HA0,Option.bind_eq_some_iff] at hx;obtain ⟨ti,ht,hx⟩:=hx
 split at hx<;>try (simp at hx;done)
 rename_i e hk;simp only[Option.bind_eq_some_iff] at hx;obtain ⟨te,he,hx⟩:=hx;obtain ⟨l',c',hl,hc,hx'⟩:=zQ0 hx;clear hx
 split at hx'<;>try (simp at hx';done)
 rename_i kl l0 kc c0 hl0 hc0
 split at hx'<;>try (simp at hx';done)
 rename_i hcond;obtain ⟨q1,q2,q3,q4,q5⟩:=hcond;simp only[Option.map_eq_some_iff] at hx';obtain ⟨zs,hzs,rfl⟩:=hx';obtain ⟨e1,_,_⟩:=(h.ev hl).lit? hl0;obtain ⟨e2,_,_⟩:=(h.ev hc).lit? hc0;have hzero:=mG0 he;obtain ⟨ie,de,ze,k1,k2,k3,rfl⟩:=zK0 he;obtain ⟨it,dt,zt,m1,m2,m3,rfl⟩:=zK0 ht;simp only at hzs hzero q3 q5 hk |-;have hut:P.underlying t=some (.slice e):=by cases dt<;>simp[tkOf] at hk;subst hk;exact m2
 have hz0:0 < ze.cells.toList.length:=by rw[hzero];exact q5
 have hcells:madeCells ze.cells (c0.toNat * ie.size)=((List.replicate l0.toNat ze.cells.toList).flatten++(List.replicate (c0.toNat - l0.toNat) ze.cells.toList).flatten).toArray:=by
  have hm:=rY0 ze.cells.toList hz0 c0.toNat;rw[hzero,Array.toArray_toList] at hm;rw[<-List.flatten_append,List.replicate_append_replicate,show l0.toNat+(c0.toNat - l0.toNat)=c0.toNat by omega,<-hm]
 have hr:=run_make (P:=P) w t e ie ze hut k1 k3 kl kc l0 c0 q1 q2 q3 q4;rw[hcells] at hr;have hlen:∀x∈List.replicate l0.toNat zs,x.length=ie.size:=fun x hx=>by
  have:=List.eq_of_mem_replicate hx;subst this;rw[<-(nX0 (S:=S) (w:=w) hzs).length,hzero]
 have hfin:=kG0 (i:=i) (dst:=dst) (e:=e) (cap:=c0.toNat) (k:=ie.size) (els:=List.replicate l0.toNat zs) (rest:=(List.replicate (c0.toNat - l0.toNat) ze.cells.toList).flatten) h' (by simp) (h.fresh hi) hlen
  (NJ0 (nX0 hzs) l0.toNat) (by rw[List.length_replicate];omega) (by
   have hsz:((List.replicate l0.toNat ze.cells.toList).flatten++(List.replicate (c0.toNat - l0.toNat) ze.cells.toList).flatten).length=c0.toNat * ie.size:=by
    have:=congrArg Array.size hcells;rw[size_madeCells] at this;simpa using this.symm
   rw[List.length_append] at hsz;omega)
 rw[List.length_replicate] at hfin;refine ⟨_,.slice (some ⟨w.heap.size,0,none⟩) l0.toNat c0.toNat,_,?_,.inl rfl,hfin⟩;simp only[execOp,e1,e2,Sem.run_bind,hr,Result.andThen]
 rfl
end
end Go.Av
/- Avs, part 26: a region's operations, one behind the other. -/
namespace Go.Av
def aEff (P:Program) (base i:Nat) (dst:Option Tmp) (σ:AS):Op->Option (AV×AS)
 | .assign x=>wM0 i dst σ x
 | .box _ x=>aBox base i σ x
 | .alloc t=>nE0 P σ t
 | .store t p x=>(nC0 P base i σ t p x).map fun s=>(⟨.any,[]⟩,s)
 | .build t parts=>(nD0 P σ t parts).map fun av=>(av,σ)
 | .buildSlice t len parts=>yT0 P i σ t len parts
 | .call ⟨.builtin .append,args,argTypes⟩=>tB0 P i σ args argTypes
 | .makeSlice t l c=>XN0 P i σ t l c
 | .convert s d x=>((zA0 P σ (.convert s d x)).or (dW0 P σ s d x)).map fun av=>(av,σ)
 | op=>(zA0 P σ op).map fun av=>(av,σ)
theorem GB0 {P:Program} {C:Ctx} {i:Nat} {op:Op} {dst:Option Tmp} {σ σ1:AS} {av:AV} (hx:(zA0 P σ op).map (fun av=>(av,σ))=some (av,σ1)):OpOk P C i op dst σ av σ1:=by
 simp only[Option.map_eq_some_iff,Prod.mk.injEq] at hx;obtain ⟨av',h,rfl,rfl⟩:=hx;exact OpOk.pure h
theorem xR1 {P:Program} {C:Ctx} {base i:Nat} {op:Op} {dst:Option Tmp} {σ σ1:AS} {av:AV} (hx:aEff P base i dst σ op=some (av,σ1)):OpOk P C i op dst σ av σ1:=by
 unfold aEff at hx
 split at hx
 ·exact JP0 hx
 ·exact uF1 hx
 ·exact FZ0 hx
 ·simp only[Option.map_eq_some_iff,Prod.mk.injEq] at hx
  obtain ⟨s,h,rfl,rfl⟩:=hx;exact HR0 h
 ·simp only[Option.map_eq_some_iff,Prod.mk.injEq] at hx
  obtain ⟨s,h,rfl,rfl⟩:=hx;exact FT0 h
 ·exact dU0 hx
 ·exact JQ0 hx
 ·exact zZ1 hx
 ·simp only[Option.map_eq_some_iff,Prod.mk.injEq] at hx
  obtain ⟨av',h,rfl,rfl⟩:=hx;rw[Option.or_eq_some_iff] at h;rcases h with h | ⟨_,h⟩
  ·exact OpOk.pure h
  ·exact zH1 h
 ·exact GB0 hx
def aFork (b:Bool) (x y:Unit->Prop):Prop:=(b=true->x ())/\(b=false->y ())
def uK1 (P:Program) (f:FuncId) (cargs:List AV) (cbx:List (Option (List A))) (ids:List Nat) (i:Nat) (dst:Option Tmp) (σm:AS) (K:AS->Prop):Prop:=
 ∃R,yP0 P f=true/\ACl P f cargs cbx R/\∀res bx,R res bx->K ((zF0 ids i σm res bx).2.putO dst (zF0 ids i σm res bx).1)
def RC0 (P:Program) (h:Hint) (i:Nat) (fop:Operand) (args:Array Operand) (dst:Option Tmp) (σ:AS) (K:AS->Prop):Prop:=
 match wQ0 h i σ fop args.toList with
 | some (f,cargs,cbx,σm)=>uK1 P f cargs cbx h.ids i dst σm K
 | none=>False
def aCall (P:Program) (i:Nat) (fop:Operand) (args:Array Operand) (dst:Option Tmp) (σ:AS) (K:AS->Prop):Prop:=∃h,RC0 P h i fop args dst σ K
def jT0 (P:Program) (base:Nat) (i:Nat) (o:Oper) (σ:AS) (K:AS->Prop):Prop:=
 match o.op with
 | .call ⟨.value fop,args,_⟩=>aCall P i fop args o.dst σ K
 | op=>match aEff P base i o.dst σ op with
  | some r=>K (r.2.putO o.dst r.1)
  | none=>False
def AS.known (σ:AS) (ops:Array Oper) (g:Nat) (b:Bool):AS:=match (ops[g]?).bind (·.dst) with
 | some t=>{ σ with slots:=σ.slots.set t ⟨.one,[.lit (.bool b)]⟩ }
 | none=>σ
theorem AS.known_eq {σ:AS} {ops:Array Oper} {g:Nat} {b:Bool} (h:((ops[g]?).bind (·.dst)).bind (σ.slots[·]?)=some ⟨.one,[.lit (.bool b)]⟩):σ.known ops g b=σ:=by
 unfold AS.known;cases hd:(ops[g]?).bind (·.dst) with
 | none=>rfl
 | some t=>
  simp only[hd,Option.bind_some] at h;simp only;obtain ⟨hlt,he⟩:=List.getElem?_eq_some_iff.1 h;rw[<-he,List.set_getElem_self]
def nK0 (P:Program) (base:Nat) (ops:Array Oper) (i:Nat) (σ:AS) (K:AS->Prop):Prop:=
 match ops[i]? with
 | none=>K σ
 | some o=>match o.guard with
  | none=>jT0 P base i o σ K
  | some (g,want)=>match ((ops[g]?).bind (·.dst)).bind (σ.slots[·]?) with
   | some ⟨.one,[.lit (.bool b)]⟩=>aFork (b == want) (fun _=>jT0 P base i o (σ.known ops g want) K) (fun _=>K ((σ.known ops g !want).putO o.dst yM0))
   | some ⟨.tup [],[]⟩=>K (σ.putO o.dst yM0)
   | _=>False
def aOps (P:Program) (base:Nat) (ops:Array Oper):List Nat->AS->(AS->Prop)->Prop
 | [],σ,K=>K σ
 | i::rest,σ,K=>nK0 P base ops i σ fun σ'=>aOps P base ops rest σ' K
section
variable {P:Program} {C:Ctx} {X:List Nat} {σ:AS} {a:Act} {w:World} {base i:Nat} {ops:Array Oper} {Q:Exit->Act->World->Prop}
theorem Inv.putUndef (h:Inv C X σ a w) (hi:i∉X) (d:Option Tmp):Inv C (i::X) (σ.putO d yM0) (a.put d undef) w:=by
 obtain ⟨S,L,bl,O1,O2,h⟩:=h;exact (h.mono (fun x hx=>List.mem_cons_of_mem i hx)).done (h.fresh hi) (o':=[]) ⟨⟨#[],rfl,rfl,by simp⟩,rfl,rfl⟩ (fun c hc=>by simp[yM0] at hc) (fun c hc=>by simp[yM0] at hc) (fun g d k els hm=>by simp[yM0] at hm) List.nodup_nil (by simp)
theorem RA0 {o:Oper} {K:AS->Prop} (hx:jT0 P base i o σ K) (h:Inv C X σ a w) (hi:i∉X):o.wp P a w (fun a' w'=>∃σ',K σ'/\Inv C (i::X) σ' a' w') Q:=by
 unfold jT0 at hx
 split at hx
 ·rename_i fop args argTypes hop
  obtain ⟨dst,op,type,pos,after,guard⟩:=o;simp only at hop;subst hop;obtain ⟨hh,hx⟩:=hx;unfold RC0 at hx
  split at hx
  ·rename_i f cargs cbx σm hpre
   obtain ⟨R,he,hc,hK⟩:=hx;exact yQ1 hpre he hc hK h hi
  ·exact hx.elim
 split at hx
 ·rename_i r hr
  obtain ⟨dst,op,type,pos,after,guard⟩:=o;obtain ⟨n,v,w',h1,h2,h3⟩:=xR1 (av:=r.1) (σ1:=r.2) (C:=C) hr X a w h hi type pos after guard;unfold Oper.wp;rw[h1];rcases h2 with rfl | ⟨rfl,rfl⟩
  ·exact ⟨_,hx,h3⟩
  ·exact ⟨_,hx,h3⟩
 ·exact hx.elim
theorem HT0 (h:Inv C X σ a w) {t:Nat} {c:A} (hs:σ.slots[t]?=some ⟨.one,[c]⟩):∃v,a.tmps[t]?=some v/\∀x,c=.lit x->v=x:=by
 obtain ⟨S,L,bl,O1,O2,h⟩:=h;obtain ⟨v,p,o,q,g1,g2,g3,_⟩:=RpS.split t _ h.slots hs;rw[Array.getElem?_toList] at g1;refine ⟨v,g1,?_⟩;rintro x rfl;obtain ⟨h1,h2⟩:=g3;rw[yK0 h1] at h2;obtain ⟨u,us,o1,o2,e1,e2,h3,h4⟩:=h2;simp at e1;rw[e1.1];exact h3.1
theorem RN0 (h:Inv C X σ a w) {t:Nat} (hs:σ.slots[t]?=some ⟨.tup [],[]⟩):a.tmps[t]?=some undef:=by
 obtain ⟨S,L,bl,O1,O2,h⟩:=h;obtain ⟨v,p,o,q,g1,g2,g3,_⟩:=RpS.split t _ h.slots hs;rw[Array.getElem?_toList] at g1;obtain ⟨⟨vs,rfl,hv,_⟩,_⟩:=g3;have:vs=#[]:=by
  have hl:=congrArg List.length hv;simp at hl;exact hl
 subst this;exact g1
theorem nW0 {K:AS->Prop} (hx:nK0 P base ops i σ K) (h:Inv C X σ a w) (hi:i∉X):wpOp P ops Q i (fun a' w'=>∃σ',K σ'/\Inv C (i::X) σ' a' w') a w:=by
 unfold nK0 at hx;unfold wpOp;cases ho:ops[i]? with
 | none=>
  simp only[ho] at hx |-;obtain ⟨S,L,bl,O1,O2,h⟩:=h;exact ⟨σ,hx,S,L,bl,O1,O2,h.mono (fun x hx=>List.mem_cons_of_mem i hx)⟩
 | some o=>
  simp only[ho] at hx |-;cases hg:o.guard with
  | none=>
   simp only[hg] at hx;have hw:Region.wanted o (yielded ops a.tmps)=true:=by simp[Region.wanted,hg]
   rw[if_pos hw];exact .inl (RA0 hx h hi)
  | some gw=>
   obtain ⟨g,want⟩:=gw;simp only[hg] at hx
   split at hx
   ·rename_i b hb
    cases hd:(ops[g]?).bind (·.dst) with
    | none=>simp[hd] at hb
    | some t=>
     simp only[hd,Option.bind_some] at hb;obtain ⟨v,hv1,hv2⟩:=HT0 h hb;have hvb:=hv2 _ rfl;subst hvb;have hy:yielded ops a.tmps g=some b:=by simp[yielded,hd,hv1]
     obtain ⟨hx1,hx2⟩:=hx;have hkn:=AS.known_eq (σ:=σ) (ops:=ops) (g:=g) (b:=b) (by rw[hd];exact hb)
     cases hbw:(b == want) with
     | true=>
      have hw:Region.wanted o (yielded ops a.tmps)=true:=by simp only[Region.wanted,hg,hy];simpa using hbw
      rw[if_pos hw];have hbe:b=want:=by simpa using hbw
      subst hbe;have hx1:=hx1 hbw;rw[hkn] at hx1;exact .inl (RA0 hx1 h hi)
     | false=>
      have hw:¬Region.wanted o (yielded ops a.tmps)=true:=by simp only[Region.wanted,hg,hy];simpa using hbw
      rw[if_neg hw];have hbe:b=!want:=by cases b<;>cases want<;>simp_all
      subst hbe;have hx2:=hx2 hbw;rw[hkn] at hx2;exact ⟨_,hx2,h.putUndef hi o.dst⟩
   ·rename_i hb
    cases hd:(ops[g]?).bind (·.dst) with
    | none=>simp[hd] at hb
    | some t=>
     simp only[hd,Option.bind_some] at hb;have hv1:=RN0 h hb;have hy:yielded ops a.tmps g=none:=by simp[yielded,hd,hv1,undef]
     have hw:¬Region.wanted o (yielded ops a.tmps)=true:=by simp[Region.wanted,hg,hy]
     rw[if_neg hw];exact ⟨_,hx,h.putUndef hi o.dst⟩
   ·exact hx.elim
theorem VX0 {K:AS->Prop} (hK:∀X σ a w,K σ->Inv C X σ a w->Q .normal a w):∀(l:List Nat) (X:List Nat) (σ:AS) (a:Act) (w:World),l.Nodup->(∀i∈l,i∉X)->aOps P base ops l σ K->Inv C X σ a w->wpOps P ops Q l a w
 | [],X,σ,a,w,_,_,hx,h=>hK X σ a w hx h
 | i::rest,X,σ,a,w,hn,hd,hx,h=>by
  rw[wpOps_cons];simp only[List.nodup_cons] at hn;refine wpOp_mono ?_ (nW0 hx h (hd i List.mem_cons_self));rintro a' w' ⟨σ',hK',h'⟩;refine VX0 hK rest (i::X) σ' a' w' hn.2 (fun j hj hm=>?_) hK' h';rcases List.mem_cons.1 hm with rfl | hm
  ·exact hn.1 hj
  ·exact hd j (List.mem_cons_of_mem _ hj) hm
end
def AS.next (σ:AS):AS:={ σ with epoch:=σ.epoch+1 }
theorem Inv.next {C:Ctx} {X:List Nat} {σ:AS} {a:Act} {w:World} (h:Inv C X σ a w):Inv C [] σ.next a w:=by
 obtain ⟨S,L,bl,O1,O2,h⟩:=h;have key:∀c,stampIn X σ.epoch c->stampIn [] (σ.epoch+1) c:=fun c hc g hg=>by
  rcases hc g hg with h1 | ⟨h1,_⟩
  ·exact .inl (Nat.lt_succ_of_lt h1)
  ·exact .inl (by omega)
 exact ⟨S,L,bl,O1,O2,h.defers,h.slots,h.boxes,h.nodup,h.sl,h.stable,h.s0,h.keeps,h.own,h.pre,fun av hav c hc=>key c (h.stS av hav c hc),fun cs hcs c hc=>key c (h.stB cs hcs c hc)⟩
def AWp (P:Program) (C:Ctx) (c:Code) (σ:AS) (Q:Exit->AS->Prop):Prop:=
 ∀a w,Inv C [] σ a w->c.wp P (fun e a' w'=>∃σ',Q e σ'/\Inv C [] σ' a' w') a w
section
variable {P:Program} {C:Ctx} {σ:AS} {Q:Exit->AS->Prop}
theorem AWp.mono {c:Code} {Q':Exit->AS->Prop} (h:AWp P C c σ Q) (hq:∀e σ,Q e σ->Q' e σ):AWp P C c σ Q':=
 fun a w hi=>wp_mono (h a w hi) fun _ _ _ ⟨σ',h1,h2⟩=>⟨σ',hq _ _ h1,h2⟩
def uL0 (next:AS->Prop) (Q:Exit->AS->Prop):Exit->AS->Prop
 | .normal,σ=>next σ
 | e,σ=>Q e σ
theorem AWp.seq {x y:Code} (h:AWp P C x σ (uL0 (fun σ'=>AWp P C y σ' Q) Q)):AWp P C (.seq x y) σ Q:=by
 intro a w hi;refine wp_seq (wp_mono (h a w hi) ?_);rintro e a' w' ⟨σ',h1,h2⟩;cases e<;>first | exact h1 a' w' h2 | exact ⟨σ',h1,h2⟩
theorem AWp.skip (h:Q .normal σ):AWp P C .skip σ Q:=fun _ _ hi=>wp_skip ⟨σ,h,hi⟩
theorem AWp.ret (h:Q .ret σ):AWp P C .ret σ Q:=fun _ _ hi=>wp_ret ⟨σ,h,hi⟩
theorem AWp.exit {id:Nat} (h:Q (.exit id) σ):AWp P C (.exit id) σ Q:=fun _ _ hi=>wp_exit ⟨σ,h,hi⟩
theorem AWp.region {base:Nat} {id:Nat} {ops:Array Oper} (h:aOps P base ops (List.range ops.size) σ fun σ'=>Q .normal σ'.next):AWp P C (.region id ops false) σ Q:=
 fun _ _ hi=>wp_region (VX0 (fun _ _ _ _ hq hv=>⟨_,hq,hv.next⟩) _ [] _ _ _ List.nodup_range (by simp) h hi)
theorem AWp.cond {c:Operand} {x y:Code} {b:Bool} (hc:σ.ev c=some ⟨.one,[.lit (.bool b)]⟩) (h1:b=true->AWp P C x σ Q) (h2:b=false->AWp P C y σ Q):AWp P C (.cond c x y) σ Q:=by
 intro a w hi;obtain ⟨S,L,bl,O1,O2,h⟩:=id hi;obtain ⟨e,_,_⟩:=(h.ev hc).lit? (x:=.bool b) rfl;exact wp_cond_split e (fun hb=>h1 hb a w hi) (fun hb=>h2 hb a w hi)
def nT0 (id:Nat) (Q:Exit->AS->Prop):Exit->AS->Prop
 | .exit id',σ=>if id'=id then Q .normal σ else Q (.exit id') σ
 | e,σ=>Q e σ
theorem AWp.block {id:Nat} {c:Code} (h:AWp P C c σ (nT0 id Q)):AWp P C (.block id c) σ Q:=by
 intro a w hi;refine wp_block (wp_mono (h a w hi) ?_);rintro e a' w' ⟨σ',h1,h2⟩;cases e<;>first
  | exact ⟨σ',h1,h2⟩
  | (rename_i id';simp only[Exit.inBlock,nT0] at h1 |-;split at h1;(rename_i hid;subst hid;simp only[if_true];exact ⟨σ',h1,h2⟩);(rename_i hid;rw[if_neg hid];exact ⟨σ',h1,h2⟩))
theorem AWp.loop {c:Code} (I:Nat->AS->Prop) {n:Nat} (h0:I n σ) (round:∀n σ,I n σ->AWp P C c σ (uL0 (fun σ'=>∃m,m < n/\I m σ') Q)):AWp P C (.loop c) σ Q:=by
 have key:∀n σ,I n σ->∀a w,Inv C [] σ a w->∀(b:Frame) (k:List Item) (cs:List Frame),
   ∃e a' w',(∃σ',Q e σ'/\Inv C [] σ' a' w')/\Arrives P (lone (b.at a (.code c::.inLoop c::k)) cs w) b k cs e a' w':=by
  intro n
  induction n using Nat.strongRecOn with
  | _ n ih=>
   intro σ hI a w hi b k cs;obtain ⟨e,a₁,w₁,⟨σ',hq,hv⟩,harr⟩:=round n σ hI a w hi b (.inLoop c::k) cs;cases e with
   | normal=>
    obtain ⟨m,hlt,hI₁⟩:=hq;obtain ⟨e₂,a₂,w₂,hq₂,harr₂⟩:=ih m hlt σ' hI₁ a₁ w₁ hv b k cs;exact ⟨e₂,a₂,w₂,hq₂,.of_steps (Steps.trans harr (.one step_inLoop)) harr₂⟩
   | exit id=>exact ⟨_,a₁,w₁,⟨σ',hq,hv⟩,.pass (x:=.inLoop c) rfl (fun _ _=>.inl (by simp)) harr⟩
   | goto l=>exact ⟨_,a₁,w₁,⟨σ',hq,hv⟩,.pass (x:=.inLoop c) rfl (fun _ _=>.inl (by simp)) harr⟩
   | ret=>exact ⟨_,a₁,w₁,⟨σ',hq,hv⟩,.pass (x:=.inLoop c) rfl (fun _ _=>.inl (by simp)) harr⟩
   | panic ch=>exact ⟨_,a₁,w₁,⟨σ',hq,hv⟩,.pass (x:=.inLoop c) rfl (fun _ _=>.inl (by simp)) harr⟩
   | outgrown=>exact ⟨_,a₁,w₁,⟨σ',hq,hv⟩,.pass (x:=.inLoop c) rfl (fun _ _=>.inl (by simp)) harr⟩
 intro a w hi b k cs;obtain ⟨e,a',w',hq,harr⟩:=key n σ h0 a w hi b k cs;exact ⟨e,a',w',hq,.of_steps (.one step_loop) harr⟩
end
end Go.Av
/- Avs, part 27: functions are entered and left. -/
namespace Go.Av
section
variable {P:Program} {C:Ctx} {X:List Nat} {σ:AS} {a:Act} {w:World} {S L:Nat->Prop} {bl O1 O2:List Nat}
def JZ0 (P:Program) (base:Nat) (rs:List ResultVar) (R:AV->List (Option (List A))->Prop):Exit->AS->Prop
 | .normal,σ | .ret,σ=>match aRes P base rs σ with
  | some r=>R r.1 r.2
  | none=>False
 | _,_=>False
theorem PJ0 {base:Nat} {rs:List ResultVar} {R:AV->List (Option (List A))->Prop} {e:Exit} {σ:AS} (h:JZ0 P base rs R e σ):(e=.normal\/e=.ret)/\∃r,aRes P base rs σ=some r/\R r.1 r.2:=by
 unfold JZ0 at h
 split at h
 ·split at h
  ·rename_i r hr;exact ⟨.inl rfl,r,hr,h⟩
  ·exact h.elim
 ·split at h
  ·rename_i r hr;exact ⟨.inr rfl,r,hr,h⟩
  ·exact h.elim
 ·exact h.elim
theorem JW0 {f:FuncId} {fn:Func} {c:Code} {args:List AV} {bx:List (Option (List A))} {R:AV->List (Option (List A))->Prop} (hf:P.funcs[f]?=some fn) (hb:fn.body=some c)
  (hA:∀av∈args,yU0 av.cs) (hB:∀cs,some cs∈bx->yU0 cs)
  (h:∀C,C.bl0.length=bx.length->AWp P C c (uM0 args fn.ntmps bx) (JZ0 P bx.length fn.results.toList R)):ACl P f args bx R:=by
 intro w vals S L bl O1 O2 h1 h2 hn hsl hst hgd;refine calls_of_wp hf hb ?_;have hlen:=RpS.length h1;have hlen':vals.size=args.length:=by simpa using hlen
 have hinv:Inv ⟨w,O1++O2,S,bl,hgd,fun b hb=>hst b (hsl b hb)⟩ [] (uM0 args fn.ntmps bx) { tmps:=vals++Array.replicate (fn.ntmps - vals.size) undef,defers:=[] } w:=by
  refine ⟨S,L,bl,O1,O2,rfl,?_,?_,hn,hsl,hst,⟨fun _ h=>h,fun _ h=>.inl h⟩,.refl _ _,fun b hb=>.inl hb,List.prefix_rfl,?_,?_⟩
  ·have:=(RpS.free (a':={ tmps:=vals++Array.replicate (fn.ntmps - vals.size) undef,defers:=[] }) (ca':=(uM0 args fn.ntmps bx).cell) (fun av hav c hc=>(hA av hav c hc).2) h1).append (RpS.undef (fn.ntmps - args.length))
   simpa [uM0,qX0,hlen'] using this
  ·exact RpB.free (fun cs hcs c hc=>(hB cs hcs c hc).2) h2
  ·intro av hav c hc
   simp only[uM0,qX0,List.mem_append] at hav;rcases hav with hav | hav
   ·exact (hA av hav c hc).1
   ·have:=List.eq_of_mem_replicate hav
    subst this;simp[yM0] at hc
  ·intro cs hcs c hc
   exact (hB cs hcs c hc).1
 refine wp_mono (h ⟨w,O1++O2,S,bl,hgd,fun b hb=>hst b (hsl b hb)⟩ (RpB.length h2) _ w hinv) ?_;rintro e a' w' ⟨σ',hpost,S',L',bl',O1',O2',hv⟩;obtain ⟨he,r,hr,hR⟩:=PJ0 hpost;have fin:a'.defers=[]/\∃v,(results fn a'.tmps).run P w'=.ok v w'/\∃res bx' S' bl' o1 o2,R res bx'/\RepV (Env.zero S' S' bl' w') res v o1/\RpB (Env.zero S' S' bl' w') bx' bl' o2/\
   (o1++o2).Nodup/\(∀b,S' b->b < w'.heap.size/\b∉o1++o2)/\(∀b,S b->S' b)/\(∀b,S' b->S b\/b∈O1++O2\/w.heap.size<=b)/\Keeps (O1++O2) w w'/\
   (∀b∈o1++o2,b∈O1++O2\/w.heap.size<=b)/\bl <+: bl':=by
  refine ⟨hv.defers,?_⟩;simp only[aRes,Option.bind_eq_some_iff] at hr;obtain ⟨av,hav,hr⟩:=hr;generalize hnb:fF0 bx.length (tkC (GH0 bx.length) (σ'.epoch,0) av.cs σ')=nb at hr;obtain ⟨hl,rfl⟩:=zP0 hr;simp only[Bool.and_eq_true,List.all_eq_true,decide_eq_true_eq] at hl;obtain ⟨v,r1,r2,r3,r4,r5⟩:=PH0 (P:=P) hv hav;have hv0:=hv.mono (X':=[0]) (fun _ h=>by simp at h)
  have hrep:RpA ⟨S',L',bl',a',w',σ'.cell⟩ av.cs (flat v) []:=(r2.cells r5).2;have hF:Fresh σ' (σ'.epoch,0):=hv.fresh (by simp)
  obtain ⟨O1'',O2'',o',g1,g2,g3,g4,g5,g6,g7,g8,g9,g10,g11,g12,g13,g14⟩:=yF0 (GH0 bx.length) (i:=0) hv0 (by simp) hF hrep (fun c hc=>(r3 c hc).mono (fun _ h=>by simp at h)) (fun c hc=>(r3 c hc).ne (by simp)) r4
  obtain ⟨o2,k1,k2⟩:=RpB.leave (nb:=nb) nb g1.boxes;have hnd:=g1.nodup;rw[List.nodup_append] at hnd;refine ⟨v,r1,_,_,S',bl'.take nb,o',o2,hR,?_,k1,?_,?_,hv.s0.1,hv.s0.2,hv.keeps,?_,?_⟩
  ·exact RepV.ofCells r5 (r2.cells r5).1 (RpA.leave hl.1 g2)
  ·rw[List.nodup_append]
   exact ⟨g3,hnd.2.1.sublist k2,fun x hx y hy he=>(g4 x hx).1 (by rw[he];simp[k2.subset hy])⟩
  ·intro b hb
   have hLb:=hv.sl b hb;refine ⟨(hv.stable b hLb).1,fun hm=>?_⟩;rcases List.mem_append.1 hm with hm | hm
   ·exact (g4 b hm).2.1 hLb
   ·exact (g1.stable b hLb).2 (by simp[k2.subset hm])
  ·intro b hb
   rcases List.mem_append.1 hb with hb | hb
   ·exact (g4 b hb).2.2
   ·exact g1.own b (by simp[k2.subset hb])
  ·have hp:bl <+: bl':=hv.pre
   obtain ⟨r,hr⟩:=hp;have:=RpB.length h2;rw[<-hr,List.take_append,List.take_of_length_le (by omega)]
   exact List.prefix_append _ _
 rcases he with rfl | rfl
 ·obtain ⟨f1,v,f2,f3⟩:=fin
  exact ⟨f1,v,f2,v,rfl,f3⟩
 ·obtain ⟨f1,v,f2,f3⟩:=fin
  exact ⟨f1,v,f2,v,rfl,f3⟩
end
end Go.Av
