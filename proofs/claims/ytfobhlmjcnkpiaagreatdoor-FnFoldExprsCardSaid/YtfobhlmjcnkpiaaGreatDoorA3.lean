/- Part A3 of the proof: Avs, part 15: a box is made what is ones own is let go to be shared elements are written. / Avs, part 16: operations that turn more than the slot that they write. / Avs, part 17: stores. / Avs, part 18: append. -/
import Derived.Test.YtfobhlmjcnkpiaaGreatDoorA2
import Derived.Deep.AppendSrc
set_option linter.all false
/- Avs, part 15: a box is made; what is one's own is let go to be shared; elements are written. -/
namespace Go.Av
def AS.addBox (σ:AS) (cs:List A):AS:={ σ with boxes:=σ.boxes++[some cs] }
section
variable {P:Program} {C:Ctx} {X:List Nat} {σ:AS} {a:Act} {w:World} {S L:Nat->Prop} {bl:List Bk} {O1 O2:List Nat}
theorem zR0 (w:World) (o:Obj) (b:Nat) (h:b < w.heap.size):(w.alloc o).heap[b]?=w.heap[b]?:=Go.RowKit.Below.heap_alloc w o b h
theorem heap_alloc_new (w:World) (o:Obj):(w.alloc o).heap[w.heap.size]?=some o:=by
 show (w.heap.push o)[w.heap.size]?=some o
 simp
theorem Keeps.alloc {O:List Nat} {w0 w:World} (h:Keeps O w0 w) (o:Obj):Keeps O w0 (w.alloc o):=
 ⟨h.os,h.tape,h.output,by simp[World.size_alloc];exact Nat.le_succ_of_le h.size,fun b hb hn=>by rw[zR0 _ _ _ (Nat.lt_of_lt_of_le hb h.size)];exact h.block b hb hn⟩
theorem InvAt.own_lt (h:InvAt C X σ a w S L bl O1 O2) {b:Nat} (hb:b∈O1++O2):b < w.heap.size:=by
 have key1:∀{cs:List A} {us:List Value} {O:List Nat},RpA ⟨S,L,bl,a,w,σ.cell⟩ cs us O->∀b∈O,b < w.heap.size:=by
  intro cs
  induction cs with
  | nil=>intro us O h b hb;rw[h.2] at hb;simp at hb
  | cons c cs ih=>
   intro us O h b hb;obtain ⟨u,us',o1,o2,h1,rfl,h3,h4⟩:=h;rcases List.mem_append.1 hb with hb | hb
   ·exact RepA.own_lt h3 b hb
   ·exact ih h4 b hb
 have key2:∀{sl:List AV} {us:List Value} {O:List Nat},RpS ⟨S,L,bl,a,w,σ.cell⟩ sl us O->∀b∈O,b < w.heap.size:=by
  intro sl
  induction sl with
  | nil=>intro us O h b hb;rw[h.2] at hb;simp at hb
  | cons c cs ih=>
   intro us O h b hb;obtain ⟨u,us',o1,o2,h1,rfl,h3,h4⟩:=h;rcases List.mem_append.1 hb with hb | hb
   ·obtain ⟨sh,cs0⟩:=c
    cases sh with
    | any=>rw[h3.2] at hb;simp at hb
    | one=>exact key1 h3.2 b hb
    | agg=>exact key1 h3.2 b hb
    | tup ns=>exact key1 h3.2 b hb
   ·exact ih h4 b hb
 have key3:∀{bx:List (Option (List A))} {bs:List Bk} {O:List Nat},RpB ⟨S,L,bl,a,w,σ.cell⟩ bx bs O->∀b∈O,b < w.heap.size:=by
  intro bx
  induction bx with
  | nil=>intro us O h b hb;rw[h.2] at hb;simp at hb
  | cons c cs ih=>
   intro us O h b hb;obtain ⟨u,us',o1,o2,h1,rfl,h3,h4⟩:=h;rcases List.mem_append.1 hb with hb | hb
   ·cases c with
    | none=>rw[h3] at hb;simp at hb
    | some cs0=>
     obtain ⟨o,us3,rfl,e,hr⟩:=h3;rcases List.mem_cons.1 hb with rfl | hb
     ·exact e.lt
     ·exact key1 hr b hb
   ·exact ih h4 b hb
 rcases List.mem_append.1 hb with hb | hb
 ·exact key2 h.slots b hb
 ·exact key3 h.boxes b hb
theorem InvAt.newbox (h:InvAt C X σ a w S L bl O1 O2) {i:Nat} {cs':List A} {us:List Value} {o':List Nat} (t:TypeId) (hf:Fresh σ (σ.epoch,i))
  (hr:RpA ⟨S,L,bl,a,w,σ.cell⟩ cs' us o') (hne:zG0 (some (σ.epoch,i)) cs') (hst:∀c∈cs',stampIn X σ.epoch c)
  (hgn:∀g d k els,A.ow g d k els∈cs'->g=(σ.epoch,i)) (hn:o'.Nodup) (ho:∀b∈o',b < w.heap.size/\b∉O1++O2/\¬L b/\(b∈C.O0\/C.w0.heap.size<=b)) :
  ∃O2',InvAt C X (σ.addBox cs') a (w.alloc (.cells us.toArray t)) S L (bl++[⟨w.heap.size,0⟩]) O1 O2':=by
 have hlb:=RpB.length h.boxes;have hsame:∀b,b < w.heap.size->(w.alloc (.cells us.toArray t)).heap[b]?=w.heap[b]?:=fun b hb=>zR0 _ _ _ hb;have hblp:∀(j:Nat) (blk:Bk),bl[j]?=some blk->(bl++[(⟨w.heap.size,0⟩:Bk)])[j]?=some blk:=fun j blk hj=>by
  rw[List.getElem?_append_left (List.getElem?_eq_some_iff.1 hj).1];exact hj
 have hE:Env.Le (some (σ.epoch,i)) ⟨S,L,bl,a,w,σ.cell⟩ ⟨S,L,bl++[⟨w.heap.size,0⟩],a,w.alloc (.cells us.toArray t),(σ.addBox cs').cell⟩:=by
  refine ⟨fun _ h=>h,fun _ h=>h,fun b hb=>hsame b (h.stable b (hb.elim (h.sl b) id)).1,hblp,fun r c g d k els' hg he=>?_⟩;simp only at he;cases r with
  | slot s=>exact ⟨d,els',he,rfl,fun x hx=>hx⟩
  | box b=>
   simp only[AS.cell,AS.addBox] at he |-
   by_cases hb:b < σ.boxes.length
   ·rw[List.getElem?_append_left hb] at he
    refine ⟨d,els',he,rfl,fun x hx=>?_⟩;simp only[Env.cv] at hx |-;cases hbl:bl[b]? with
    | none=>simp[hbl] at hx
    | some blk=>
     rw[hblp b blk hbl];simp only[hbl,Option.bind_some] at hx |-;cases hb':σ.boxes[b]? with
     | none=>simp[hb'] at he
     | some y=>
      cases y with
      | none=>simp[hb'] at he
      | some cs=>rw[cell?_congr (hsame blk.b (h.blk_lt hb' hbl))];exact hx
   ·by_cases hb2:b=σ.boxes.length
    ·subst hb2
     simp at he;exact absurd (congrArg some (hgn g d k els' (List.mem_of_getElem? he))) hg
    ·rw[List.getElem?_eq_none (by simp;omega)] at he
     simp at he
 have hsO:∀b∈O1++O2,(w.alloc (.cells us.toArray t)).heap[b]?=w.heap[b]?:=fun b hb=>hsame b (h.own_lt hb);have t1:=RpS.go hE (fun b hb=>hsO b (by simp[hb])) hf.1 h.slots
 have t2:=RpB.go hE (fun b hb=>hsO b (by simp[hb])) (fun y ys hy he=>hf.2 ys (he ▸ hy)) h.boxes
 have t4:=RpA.go hE (fun b hb=>hsame b (ho b hb).1) hne hr;have t3:=RpB.append t2 (x:=some cs') (b:=⟨w.heap.size,0⟩) (o:=w.heap.size::o') ⟨o',us,rfl,⟨us.toArray,t,(0,0),heap_alloc_new _ _,by simp,fun _ _ _=>by omega,fun j u hj=>by simpa using hj⟩,t4⟩
 refine ⟨O2++(w.heap.size::o'),h.defers,t1,t3,?_,h.sl,?_,h.s0,h.keeps.alloc _,?_,?_,h.stS,?_⟩
 ·have hnd:=h.nodup
  rw[<-List.append_assoc,List.nodup_append];refine ⟨hnd,List.nodup_cons.2 ⟨fun hm=>by have:=(ho _ hm).1;omega,hn⟩,fun x hx y hy he=>?_⟩
  subst he;rcases List.mem_cons.1 hy with rfl | hy
  ·have:=h.own_lt hx;omega
  ·exact (ho _ hy).2.1 hx
 ·intro b hb
  have hsb:=h.stable b hb;refine ⟨by simp;omega,fun hm=>?_⟩
  rw[<-List.append_assoc] at hm;rcases List.mem_append.1 hm with hm | hm
  ·exact hsb.2 hm
  ·rcases List.mem_cons.1 hm with rfl | hm
   ·omega
   ·exact (ho b hm).2.2.1 hb
 ·intro b hm
  rw[<-List.append_assoc] at hm;rcases List.mem_append.1 hm with hm | hm
  ·exact h.own b hm
  ·rcases List.mem_cons.1 hm with rfl | hm
   ·exact .inr h.keeps.size
   ·exact (ho b hm).2.2.2
 ·exact h.pre.trans (List.prefix_append _ _)
 ·intro cs hcs c hc
  simp only[AS.addBox,List.mem_append,List.mem_singleton,Option.some.injEq] at hcs;rcases hcs with hcs | rfl
  ·exact h.stB cs hcs c hc
  ·exact hst c hc
def RepTs (S:Nat->Prop) (w:World):List T->List Value->Prop
 | [],us=>us=[]
 | t::ts,us=>∃u us',us=u::us'/\RepS S w t u/\RepTs S w ts us'
theorem RepTs.mono {S S':Nat->Prop} {w w':World} (hS:∀b,S b->S' b) (hw:∀b,S b->w'.heap[b]?=w.heap[b]?):∀{ts:List T} {us:List Value},RepTs S w ts us->RepTs S' w' ts us
 | [],_,h=>h
 | t::ts,us,h=>by
  obtain ⟨u,us',rfl,h2,h3⟩:=h;exact ⟨u,us',rfl,RepS.mono hS hw _ _ h2,RepTs.mono hS hw h3⟩
theorem RepTs.length {S:Nat->Prop} {w:World}:∀{ts:List T} {us:List Value},RepTs S w ts us->us.length=ts.length
 | [],_,h=>by subst h;rfl
 | t::ts,us,h=>by obtain ⟨u,us',rfl,h2,h3⟩:=h;simp[RepTs.length h3]
theorem RepTs.get {S:Nat->Prop} {w:World}:∀{ts:List T} {us:List Value},RepTs S w ts us->∀(j:Nat) (t:T),ts[j]?=some t->∃u,us[j]?=some u/\RepS S w t u
 | [],_,h,j,t,hj=>by simp at hj
 | t::ts,us,h,j,x,hj=>by
  obtain ⟨u,us',rfl,h2,h3⟩:=h;cases j with
  | zero=>simp at hj;subst hj;exact ⟨u,rfl,h2⟩
  | succ j=>simp at hj;simpa using RepTs.get h3 j x hj
def fzC:List A->AS->Option (List T×AS)
 | [],σ=>some ([],σ)
 | .lit v::cs,σ=>(fzC cs σ).map fun r=>(.lit v::r.1,r.2)
 | .nil::cs,σ=>(fzC cs σ).map fun r=>(.sl []::r.1,r.2)
 | .ro true els::cs,σ=>(fzC cs σ).map fun r=>(.sl els::r.1,r.2)
 | .sref r x g lo len::cs,σ=>match σ.at? r x g with
  | some (_,els)=>(fzC cs (σ.setCell r x (.ro true els))).map fun y=>(.sl ((els.drop lo).take len)::y.1,y.2)
  | none=>none
 | _::_,_=>none
def qV1 (C:Ctx) (X:List Nat) (a:Act) (w:World) (S L:Nat->Prop) (bl:List Bk) (O1 O2:List Nat) (i:Nat) (us:List Value) (σ:AS) (ts:List T) (σ':AS):Prop:=
 ∃S' L' O1' O2',InvAt C X σ' a w S' L' bl O1' O2'/\RepTs S' w ts us/\(∀b,S b->S' b)/\(∀b,L b->L' b)/\(∀b,b∈O1'++O2'->b∈O1++O2)/\Fresh σ' (σ.epoch,i)/\σ'.epoch=σ.epoch/\
  Env.Le none ⟨S,L,bl,a,w,σ.cell⟩ ⟨S',L',bl,a,w,σ'.cell⟩/\σ'.boxes.length=σ.boxes.length/\σ'.slots.length=σ.slots.length
theorem QG0 {S' L':Nat->Prop} {r:Root} {x:Nat} {c0:A} {els:List (List T)} (hS:∀b,S b->S' b) (hL:∀b,L b->L' b) (hc:σ.cell r x=some c0):Env.Le none ⟨S,L,bl,a,w,σ.cell⟩ ⟨S',L',bl,a,w,(σ.setCell r x (.ro true els)).cell⟩:=by
 refine ⟨hS,hL,fun _ _=>rfl,fun _ _ h=>h,fun r' c' g d k els' _ he=>?_⟩;simp only at he
 by_cases h:r'=r/\c'=x
 ·obtain ⟨rfl,rfl⟩:=h
  rw[vK0 hc] at he;simp at he
 ·have h':r'≠r\/c'≠x:=by
   by_cases hr:r'=r
   ·exact .inr fun e=>h ⟨hr,e⟩
   ·exact .inl hr
  rw[vJ0 h'] at he;exact ⟨d,els',he,rfl,fun y hy=>by cases r'<;>exact hy⟩
theorem RepO.toS {S S':Nat->Prop} {w:World} {k:Nat} {els:List (List T)} {u:Value} {own:List Nat} (hS:∀b,S b->S' b) (ho:∀b∈own,S' b) (h:RepO S w false k els u own):RepS S' w (.sl els) u:=by
 obtain ⟨ad,cap,e1,e2,e3,e4⟩:=h;simp only[RepS];refine ⟨ad,cap,e1,e2,fun hne=>?_⟩;rcases e4 with ⟨_,rfl,_⟩ | ⟨b,o,arr,ty,fz,rfl,rfl,g3,g4,g5,g6⟩
 ·exact absurd rfl hne
 ·exact ⟨b,o,rfl,ho b (by simp),RepSE.mono hS (fun _ _=>rfl) b rfl o els g6⟩
theorem RepO.toE {S S':Nat->Prop} {w:World} {k:Nat} {els:List (List T)} {u:Value} {own:List Nat} (hS:∀b,S b->S' b) (ho:∀b∈own,S' b) (h:RepO S w true k els u own):RepS S' w (.sl (erE els)) u:=by
 obtain ⟨ad,cap,e1,e2,e3,e4⟩:=h;simp only[RepS,nV0];refine ⟨ad,cap,e1,e2,fun hne=>?_⟩;rcases e4 with ⟨_,rfl,_⟩ | ⟨b,o,arr,ty,fz,n,rfl,rfl,g3,g4,g5,g6⟩
 ·exact absurd rfl hne
 ·exact ⟨b,o,rfl,ho b (by simp),RepLE.toS hS b o els n (fun x hx=>ho x (by simp[hx])) g6⟩
theorem RepO.toL {S:Nat->Prop} {w:World} {d:Bool} {k:Nat} {els:List (List T)} {u:Value} {own:List Nat} (h:RepO S w d k els u own):RepL S w (.own els) u own:=by
 simp only[RepL];cases d
 ·obtain ⟨ad,cap,e1,e2,e3,e4⟩:=h
  refine ⟨ad,cap,e1,e2,e4.imp (fun h=>⟨h.2.1,h.1⟩) ?_⟩;rintro ⟨b,o,arr,ty,fz,rfl,rfl,g3,g4,g5,g6⟩;exact ⟨b,o,arr,ty,fz,[],rfl,rfl,g3,⟨k,e3,g4,g5⟩,g6.toL⟩
 ·obtain ⟨ad,cap,e1,e2,e3,e4⟩:=h
  refine ⟨ad,cap,e1,e2,e4.imp (fun h=>⟨h.2.1,h.1⟩) ?_⟩;rintro ⟨b,o,arr,ty,fz,n,rfl,rfl,g3,g4,g5,g6⟩;exact ⟨b,o,arr,ty,fz,n,rfl,rfl,g3,⟨k,e3,g4,g5⟩,g6⟩
theorem RepO.deep {S:Nat->Prop} {w:World} {k:Nat} {els:List (List T)} {u:Value} {own:List Nat} (h:RepO S w false k els u own):RepO S w true k els u own:=by
 obtain ⟨ad,cap,e1,e2,e3,e4⟩:=h;refine ⟨ad,cap,e1,e2,e3,e4.imp id ?_⟩;rintro ⟨b,o,arr,ty,fz,rfl,rfl,g3,g4,g5,g6⟩;exact ⟨b,o,arr,ty,fz,[],rfl,rfl,g3,g4,g5,g6.toL⟩
def RepTL (S:Nat->Prop) (w:World):List T->List Value->List Nat->Prop
 | [],us,own=>us=[]/\own=[]
 | t::ts,us,own=>∃u us' o1 o2,us=u::us'/\own=o1++o2/\RepL S w t u o1/\RepTL S w ts us' o2
theorem RepTL.length {S:Nat->Prop} {w:World}:∀{ts:List T} {us:List Value} {own:List Nat},RepTL S w ts us own->us.length=ts.length
 | [],_,_,h=>by rw[h.1];rfl
 | t::ts,us,_,h=>by obtain ⟨u,us',o1,o2,rfl,_,h2,h3⟩:=h;simp[RepTL.length h3]
theorem RepTL.mono {S S':Nat->Prop} {w w':World} (hS:∀b,S b->S' b) (hw:∀b,S b->w'.heap[b]?=w.heap[b]?):∀{ts:List T} {us:List Value} {own:List Nat},(∀b∈own,w'.heap[b]?=w.heap[b]?)->RepTL S w ts us own->RepTL S' w' ts us own
 | [],_,_,_,h=>h
 | t::ts,us,_,ho,h=>by
  obtain ⟨u,us',o1,o2,rfl,rfl,h2,h3⟩:=h;exact ⟨u,us',o1,o2,rfl,rfl,RepL.mono hS hw _ _ _ (fun b hb=>ho b (by simp[hb])) h2,RepTL.mono hS hw (fun b hb=>ho b (by simp[hb])) h3⟩
def A.toOwn:A->Option T
 | .lit v=>some (.lit v)
 | .nil=>some (.sl [])
 | .ro true els=>some (.sl els)
 | .ow _ _ _ els=>some (.own els)
 | _=>none
theorem RepA.toOwn {E:Env} {c:A} {t:T} {u:Value} {own:List Nat} (h:RepA E c u own) (hx:c.toOwn=some t):RepL E.S E.w t u own:=by
 cases c with
 | lit v=>simp only[A.toOwn,Option.some.injEq] at hx;subst hx;simp only[RepL];exact h
 | nil=>
  simp only[A.toOwn,Option.some.injEq] at hx;subst hx;obtain ⟨⟨ad,rfl⟩,rfl⟩:=h;simp only[RepL,RepS];exact ⟨⟨ad,0,rfl,by simp,by simp⟩,trivial⟩
 | ro st els=>
  cases st with
  | true=>simp only[A.toOwn,Option.some.injEq] at hx;subst hx;simp only[RepL];exact h
  | false=>simp[A.toOwn] at hx
 | ow g d k els=>simp only[A.toOwn,Option.some.injEq] at hx;subst hx;exact RepO.toL h
 | _=>simp[A.toOwn] at hx
theorem RpA.toOwn {E:Env}:∀{cs:List A} {ts:List T} {us:List Value} {own:List Nat},RpA E cs us own->cs.mapM A.toOwn=some ts->RepTL E.S E.w ts us own
 | [],ts,us,own,h,hx=>by simp at hx;subst hx;exact h
 | c::cs,ts,us,own,h,hx=>by
  obtain ⟨u,us',o1,o2,rfl,rfl,h3,h4⟩:=h;simp only[List.mapM_cons,Option.bind_eq_bind,Option.bind_eq_some_iff,Option.pure_def,Option.some.injEq] at hx;obtain ⟨t,ht,ts',hts,rfl⟩:=hx;exact ⟨u,us',o1,o2,rfl,rfl,h3.toOwn ht,RpA.toOwn h4 hts⟩
theorem wN0 {i:Nat}:∀{cs:List A} {us:List Value} {S L:Nat->Prop} {σ σ':AS} {O1 O2:List Nat} {ts:List T},InvAt C X σ a w S L bl O1 O2->Fresh σ (σ.epoch,i)->
  RpA ⟨S,L,bl,a,w,σ.cell⟩ cs us []->fzC cs σ=some (ts,σ')->qV1 C X a w S L bl O1 O2 i us σ ts σ'
 | [],us,S,L,σ,σ',O1,O2,ts,h,hf,hr,hx=>by
  simp[fzC] at hx;obtain ⟨rfl,rfl⟩:=hx;exact ⟨S,L,O1,O2,h,hr.1,fun _ h=>h,fun _ h=>h,fun _ h=>h,hf,rfl,.rfl',rfl,rfl⟩
 | c::cs,us,S,L,σ,σ',O1,O2,ts,h,hf,hr,hx=>by
  obtain ⟨u,us',o1,o2,rfl,ho,h3,h4⟩:=hr;simp at ho;obtain ⟨rfl,rfl⟩:=ho;have plain:∀t:T,(fzC cs σ).map (fun r=>(t::r.1,r.2))=some (ts,σ')->RepS S w t u->qV1 C X a w S L bl O1 O2 i (u::us') σ ts σ':=by
   intro t hx ht;simp only[Option.map_eq_some_iff] at hx;obtain ⟨⟨ts',σ2⟩,h5,h6⟩:=hx;simp at h6;obtain ⟨rfl,rfl⟩:=h6;obtain ⟨S',L',O1',O2',g1,g2,g3,gL,g4,g5,g6,g7,g8,g9⟩:=wN0 h hf h4 h5;exact ⟨S',L',O1',O2',g1,⟨u,us',rfl,RepS.mono g3 (fun _ _=>rfl) _ _ ht,g2⟩,g3,gL,g4,g5,g6,g7,g8,g9⟩
  cases c with
  | lit v=>exact plain _ hx (by simp only[RepS];exact ⟨h3.1,h3.2.1⟩)
  | nil=>
   refine plain _ hx ?_;obtain ⟨⟨ad,hu⟩,_⟩:=h3;simp only[RepS];exact ⟨ad,0,by simpa using hu,by simp,by simp⟩
  | ro st els=>
   cases st with
   | true=>exact plain _ hx h3.1
   | false=>simp[fzC] at hx
  | sref r x g lo len=>
   simp only[fzC] at hx
   split at hx<;>try (simp at hx;done)
   rename_i k els hat;simp only[Option.map_eq_some_iff] at hx;obtain ⟨⟨ts',σ2⟩,h5,h6⟩:=hx;simp at h6;obtain ⟨rfl,rfl⟩:=h6;have hcell:=AS.at?_some hat;obtain ⟨hlo,ad,cap,xx,e1,e2,e3⟩:=h3.2.2 false k els hcell;obtain ⟨u0,o,k1,k2,k3,k4,k5⟩:=h.recell hcell hf;rw[e1] at k1;simp at k1;subst k1;have hS1:∀b,S b->(fun b=>S b\/b∈o) b:=fun b hb=>.inl hb;have hL1:∀b,L b->(fun b=>L b\/b∈o) b:=fun b hb=>.inl hb;obtain ⟨O1a,O2a,ha,hmem⟩:=k5 (fun b=>S b\/b∈o) (fun b=>L b\/b∈o) w (.ro true els) [] hS1 hL1 (fun b hb=>hb.imp (h.sl b) id) (fun b hb=>hb) (fun b hb=>hb) (by simp) (.inr rfl) (fun _ _ _=>rfl) h.keeps (Nat.le_refl _)
    ⟨RepO.toS hS1 (fun b hb=>.inr hb) k2,rfl⟩ (fun g hg=>by simp[A.stamp] at hg) (fun g d k els' he=>by simp at he)
   have hle:=QG0 (S:=S) (bl:=bl) (a:=a) (w:=w) (els:=els) hS1 hL1 hcell;have hep:(σ.setCell r x (.ro true els)).epoch=σ.epoch:=yR0;have ih:=wN0 (i:=i) (cs:=cs) (us:=us') ha (by rw[hep];exact hf.setDead rfl) (RpA.go hle (fun _ _=>rfl) (fun y _=>by cases y.rstamp<;>simp) h4) h5
   unfold qV1 at ih;rw[hep] at ih;obtain ⟨S',L',O1',O2',g1,g2,g3,gL,g4,g5,g6,g7,g8,g9⟩:=ih;obtain ⟨own',s1,s2⟩:=RepO.sub (show RepO S w false k els _ o from k2) hlo e3
   have hSS:∀b,S b->S' b:=fun b hb=>g3 b (.inl hb);have hu:RepS S' w (.sl ((els.drop lo).take len)) u:=by
    rw[e2];refine RepO.toS hSS (fun b hb=>g3 b (.inr ?_)) s1;exact s2.subset hb
   exact ⟨S',L',O1',O2',g1,⟨u,us',rfl,hu,g2⟩,hSS,fun b hb=>gL b (.inl hb),fun b hb=>((by simpa using (hmem b).1 (g4 b hb)):b∈O1++O2/\b∉o).1,g5,g6,hle.trans g7,g8.trans boxes_setCell.1,g9.trans boxes_setCell.2⟩
  | _=>simp[fzC] at hx
end
end Go.Av
/- Avs, part 16: operations that turn more than the slot that they write. -/
namespace Go.Av
def OpOk (P:Program) (C:Ctx) (i:Nat) (op:Op) (dst:Option Tmp) (σ:AS) (av:AV) (σ1:AS):Prop:=
 ∀X a w,Inv C X σ a w->i∉X->∀(type:TypeId) (pos:String) (after:Array Edge) (guard:Option (Nat×Bool)),
  ∃n v w',(execOp a.eval ⟨dst,op,type,pos,after,guard⟩).run P w=.ok n w'/\(n=.value v\/(n=.skip/\v=undef))/\Inv C (i::X) (σ1.putO dst av) (a.put dst v) w'
theorem bX0 {X:List Nat} {e i:Nat} {cs:List A} (h:∀c∈cs,stampIn X e c) (hi:i∉X):zG0 (some (e,i)) cs:=fun c hc=>(h c hc).ne hi
theorem uM0 {X:List Nat} {e i:Nat} {cs:List A} (h:∀c∈cs,stampIn X e c):∀c∈cs,stampIn (i::X) e c:=fun c hc=>(h c hc).mono fun _ hx=>List.mem_cons_of_mem _ hx
theorem OpOk.pure {P:Program} {C:Ctx} {i:Nat} {op:Op} {dst:Option Tmp} {σ:AS} {av:AV} (hx:zA0 P σ op=some av):OpOk P C i op dst σ av σ:=by
 rintro X a w ⟨S,L,bl,O1,O2,h⟩ hi type pos after guard;obtain ⟨v,hr,he⟩:=KG0 h hx dst type pos after guard;exact ⟨_,v,w,hr,.inl rfl,(h.mono (fun x hx=>List.mem_cons_of_mem i hx)).done (h.fresh hi) he.rep (bX0 he.st hi) (uM0 he.st) (fun g d k els hm=>absurd hm (he.noOw g d k els)) List.nodup_nil (by simp)⟩
def vA0 (i:Nat) (dst:Option Tmp) (σ:AS):Operand->Option (AV×AS)
 | .tmp t=>(σ.ev (.tmp t)).map fun av=>
   let r:=tkC (fun r _=>decide (r=.slot t) || decide (some r=dst.map Root.slot)) (σ.epoch,i) av.cs σ
   (⟨av.sh,r.1⟩,r.2)
 | x=>(σ.ev x).map fun av=>(av,σ)
theorem RepV.reshape {E E':Env} {av:AV} {v:Value} {o':List Nat} {cs':List A} (h:RepV E av v []) (hr:RpA E' cs' (flat v) o') (hany:av.sh=.any->cs'=[]/\o'=[]):RepV E' ⟨av.sh,cs'⟩ v o':=by
 obtain ⟨sh,cs⟩:=av;cases sh with
 | any=>exact hany rfl
 | one=>exact ⟨h.1,hr⟩
 | agg=>exact ⟨h.1,hr⟩
 | tup ns=>exact ⟨h.1,hr⟩
section
variable {P:Program} {C:Ctx} {i:Nat} {dst:Option Tmp} {σ σ1:AS} {av:AV}
theorem DT0 {x:Operand} (hx:vA0 i dst σ x=some (av,σ1)):OpOk P C i (.assign x) dst σ av σ1:=by
 rintro X a w ⟨S,L,bl,O1,O2,h⟩ hi type pos after guard;have hrun:(execOp a.eval ⟨dst,.assign x,type,pos,after,guard⟩).run P w=.ok (.value (a.eval x)) w:=rfl;have h':=h.mono (fun x hx=>List.mem_cons_of_mem i hx);have hplain:∀av0,σ.ev x=some av0->(av0,σ)=(av,σ1)->∃n v w',(execOp a.eval ⟨dst,.assign x,type,pos,after,guard⟩).run P w=.ok n w'/\(n=.value v\/(n=.skip/\v=undef))/\Inv C (i::X) (σ1.putO dst av) (a.put dst v) w':=by
  intro av0 hev he;simp at he;obtain ⟨rfl,rfl⟩:=he;have he:=h.ev hev;exact ⟨_,_,w,hrun,.inl rfl,h'.done (h.fresh hi) he.rep (bX0 he.st hi) (uM0 he.st) (fun g d k els hm=>absurd hm (he.noOw g d k els)) List.nodup_nil (by simp)⟩
 cases x with
 | tmp t=>
  simp only[vA0,Option.map_eq_some_iff] at hx;obtain ⟨av0,hev,hx⟩:=hx;simp only[Prod.mk.injEq] at hx;obtain ⟨rfl,rfl⟩:=hx;have he:=h.ev hev
  by_cases hany:av0.sh=.any
  ·have hr:=he.rep
   obtain ⟨sh,cs⟩:=av0;simp only at hany;subst hany;obtain ⟨h1,_⟩:=hr;simp only at h1;subst h1;simp only[tkC];refine ⟨_,_,w,hrun,.inl rfl,h'.done (h.fresh hi) ⟨rfl,rfl⟩ (fun c hc=>by simp at hc) (fun c hc=>by simp at hc) (fun g d k els hm=>by simp at hm) List.nodup_nil (by simp)⟩
  ·have hr:RpA ⟨S,L,bl,a,w,σ.cell⟩ av0.cs (flat (a.eval (.tmp t))) []:=by
    have hr:=he.rep;obtain ⟨sh,cs⟩:=av0;cases sh with
    | any=>exact absurd rfl hany
    | one=>exact hr.2
    | agg=>exact hr.2
    | tup ns=>exact hr.2
   obtain ⟨O1',O2',o',g1,g2,g3,g4,g5,g6,g7,g8,g9,g10,g11,g12,g13⟩:=yE0 (fun r _=>decide (r=.slot t) || decide (some r=dst.map Root.slot)) h' (i:=i) (by simp) (h.fresh hi) hr (uM0 he.st) (bX0 he.st hi) he.noOw
   refine ⟨_,_,w,hrun,.inl rfl,g1.done (i:=i) (by rw[g9];exact g8) (RepV.reshape he.rep g2 (fun e=>absurd e hany)) (by rw[g9];exact g6) (by rw[g9];exact g5) (by rw[g9];exact g7) g3 g4⟩
 | const v=>simp only[vA0,Option.map_eq_some_iff] at hx;obtain ⟨av0,h1,h2⟩:=hx;exact hplain av0 h1 h2
 | func f=>simp only[vA0,Option.map_eq_some_iff] at hx;obtain ⟨av0,h1,h2⟩:=hx;exact hplain av0 h1 h2
 | global g=>simp only[vA0,Option.map_eq_some_iff] at hx;obtain ⟨av0,h1,h2⟩:=hx;exact hplain av0 h1 h2
def rF0 (base:Nat) (r:Root) (_:Nat):Bool:=match r with | .slot _=>true | .box b=>decide (base<=b)
def aBox (base i:Nat) (σ:AS) (x:Operand):Option (AV×AS):=
 (σ.ev x).bind fun av=>match av.sh with
  | .one | .agg=>
   let r:=tkC (rF0 base) (σ.epoch,i) av.cs σ
   some (one (.ptr r.2.boxes.length 0),r.2.addBox r.1)
  | _=>none
def mU0 (P:Program) (σ:AS) (t:TypeId):Option (AV×AS):=
 (tyOf P t).bind fun ti=>(ti.zero.mapM xF0).map fun cs=>(one (.ptr σ.boxes.length 0),σ.addBox cs)
theorem uB0 {v:Value} (h:isTuple v=false):flat v=v.cells.toList:=by
 cases v<;>first | rfl | simp[isTuple] at h
theorem jV0 {X:List Nat} {a:Act} {w:World} {S L:Nat->Prop} {bl:List Bk} {O1 O2:List Nat} {cs':List A} {n:Nat} (h:InvAt C X (σ.addBox cs') a w S L (bl++[⟨n,0⟩]) O1 O2) (hb:σ.boxes.length=bl.length)
  (hf:Fresh (σ.addBox cs') (σ.epoch,i)):Inv C X ((σ.addBox cs').putO dst (one (.ptr σ.boxes.length 0))) (a.put dst (.pointer (some ⟨n,0,none⟩))) w:=
 h.done hf ⟨⟨rfl,rfl⟩,⟨_,[],[],[],rfl,rfl,⟨rfl,⟨n,0⟩,by simp[hb],rfl⟩,rfl,rfl⟩⟩ (fun c hc=>by simp[one] at hc;subst hc;exact .inl rfl)
  (fun c hc g hg=>by simp[one] at hc;subst hc;simp[A.stamp] at hg) (fun g d k els hm=>by simp[one] at hm) List.nodup_nil (by simp)
theorem Fresh.addBox {g:yA0} {cs':List A} (h:Fresh σ g) (h':zG0 (some g) cs'):Fresh (σ.addBox cs') g:=
 ⟨h.1,fun cs hcs=>by
  simp only[AS.addBox,List.mem_append,List.mem_singleton,Option.some.injEq] at hcs;rcases hcs with hcs | rfl
  ·exact h.2 cs hcs
  ·exact h'⟩
theorem mQ1 {base:Nat} {t:TypeId} {x:Operand} (hx:aBox base i σ x=some (av,σ1)):OpOk P C i (.box t x) dst σ av σ1:=by
 rintro X a w ⟨S,L,bl,O1,O2,h⟩ hi type pos after guard;have h':=h.mono (fun x hx=>List.mem_cons_of_mem i hx);simp only[aBox,Option.bind_eq_some_iff] at hx;obtain ⟨av0,hev,hx⟩:=hx;have he:=h.ev hev;have hsh:(av0.sh=.one\/av0.sh=.agg)/\(one (.ptr (tkC (rF0 base) (σ.epoch,i) av0.cs σ).2.boxes.length 0),(tkC (rF0 base) (σ.epoch,i) av0.cs σ).2.addBox (tkC (rF0 base) (σ.epoch,i) av0.cs σ).1)=(av,σ1):=by
  cases hs:av0.sh<;>simp only[hs,reduceCtorEq] at hx
  ·exact ⟨.inl rfl,by simpa using hx⟩
  ·exact ⟨.inr rfl,by simpa using hx⟩
 obtain ⟨hsh,hx⟩:=hsh;simp only[Prod.mk.injEq] at hx;obtain ⟨rfl,rfl⟩:=hx;have hr:RpA ⟨S,L,bl,a,w,σ.cell⟩ av0.cs (flat (a.eval x)) []/\isTuple (a.eval x)=false:=by
  have hr:=he.rep;obtain ⟨sh,cs⟩:=av0;rcases hsh with hs | hs<;>simp only at hs<;>subst hs
  ·exact ⟨hr.2,hr.1.1⟩
  ·refine ⟨hr.2,?_⟩
   have:=hr.1;simp only[shOk] at this;cases hv:a.eval x<;>first | rfl|(rw[hv] at this;simp[yV0] at this)
 obtain ⟨O1',O2',o',g1,g2,g3,g4,g5,g6,g7,g8,g9,g10,g11,g12,g13,g14⟩:=yE0 (rF0 base) h' (i:=i) (by simp) (h.fresh hi) hr.1 (uM0 he.st) (bX0 he.st hi) he.noOw
 have hlen:=RpB.length g1.boxes;obtain ⟨O2'',k1⟩:=g1.newbox (i:=i) t (by rw[g9];exact g8) g2 (by rw[g9];exact g6) (by rw[g9];exact g5) (by rw[g9];exact g7) g3 (fun b hb=>⟨h.own_lt (g11 b hb),g4 b hb⟩)
 refine ⟨_,.pointer (some ⟨w.heap.size,0,none⟩),w.alloc (.cells (flat (a.eval x)).toArray t),?_,.inl rfl,jV0 k1 hlen.symm (by rw[g9];exact g8.addBox g6)⟩
 rw[uB0 hr.2];simp[execOp,Instr.box,newVar,newRow]
theorem wU1 {t:TypeId} (hx:mU0 P σ t=some (av,σ1)):OpOk P C i (.alloc t) dst σ av σ1:=by
 rintro X a w ⟨S,L,bl,O1,O2,h⟩ hi type pos after guard;have h':=h.mono (fun x hx=>List.mem_cons_of_mem i hx);simp only[mU0,Option.bind_eq_some_iff,Option.map_eq_some_iff,Prod.mk.injEq] at hx;obtain ⟨ti,ht,cs,hcs,rfl,rfl⟩:=hx;obtain ⟨z,hz,hzc⟩:=jE0 ht w;obtain ⟨r1,r2⟩:=wP0 (E:=⟨S,L,bl,a,w,σ.cell⟩) hcs;have hst:∀c∈cs,c.rstamp=none:=fun c hc=>by
  have:=(r2 c hc).1;cases c<;>first | rfl | simp[A.stamp] at this
 have hlen:=RpB.length h.boxes;obtain ⟨O2'',k1⟩:=h'.newbox (i:=i) t (h.fresh hi) r1 (fun c hc=>.inl (hst c hc)) (fun c hc g hg=>by rw[(r2 c hc).1] at hg;simp at hg) (fun g d k els hm=>by have:=(r2 _ hm).2;simp[isOw] at this) List.nodup_nil (by simp)
 refine ⟨_,.pointer (some ⟨w.heap.size,0,none⟩),w.alloc (.cells ti.zero.toArray t),?_,.inl rfl,jV0 k1 hlen.symm ((h.fresh hi).addBox (fun c hc=>.inl (hst c hc)))⟩;rw[<-hzc];simp[execOp,Instr.alloc,newVar,newRow,hz,Result.andThen]
end
end Go.Av
/- Avs, part 17: stores. -/
namespace Go.Av
def xH0 (base b off n:Nat) (r:Root) (c:Nat):Bool:=match r with | .slot _=>decide (base < 1000) | .box b'=>decide (base<=b') || (decide (b'=b) && decide (off<=c) && decide (c < off+n))
def holdCells (base:Nat) (g:yA0) (cs:List A) (σ:AS):Option (List T×AS):=
 let r:=tkC (rF0 base) g cs σ
 (r.1.mapM A.toOwn).map fun ts=>(ts,r.2)
def mR0 (P:Program) (base i:Nat) (σ:AS) (t:TypeId) (p x:Operand):Option AS:=
 (tyOf P t).bind fun ti=>opt2 (σ.ev p) (σ.ev x) fun p x=>match p,x.sh with
  | ⟨.one,[.ptr b off]⟩,.one | ⟨.one,[.ptr b off]⟩,.agg=>
   if x.cs.length=ti.size then
    let r:=tkC (xH0 base b off ti.size) (σ.epoch,i) x.cs σ
    ((r.2.boxes[b]?).bind fun o=>o.bind fun cs0=>if off+ti.size<=cs0.length then some (r.2.setBox b (splice cs0 off r.1)) else none)
   else none
  | ⟨.one,[.eptr r c g n off]⟩,.one | ⟨.one,[.eptr r c g n off]⟩,.agg=>
   if x.cs.length=ti.size then
    match σ.ad? r c g with
    | some (true,_,_)=>(holdCells base (σ.epoch,i) x.cs σ).bind fun y=>(y.2.ad? r c g).bind fun q=>(q.2.2[n]?).bind fun e=>
     if q.1=true/\off+ti.size<=q.2.1 then some (y.2.setCell r c (.ow g true q.2.1 (q.2.2.set n (splice e off y.1)))) else none
    | _=>(fzC x.cs σ).bind fun y=>(y.2.at? r c g).bind fun q=>(q.2[n]?).bind fun e=>
     if off+ti.size<=q.1 then some (y.2.setCell r c (.ow g false q.1 (q.2.set n (splice e off y.1)))) else none
   else none
  | _,_=>none
section
variable {P:Program} {C:Ctx} {i:Nat} {dst:Option Tmp} {σ σ1:AS} {av:AV}
theorem nK0 {E:Env} {cs:List A} {us:List Value} {O:List Nat} (h:RpA E cs us O):∀u∈us,u.oneCell'=true:=by
 induction cs generalizing us O with
 | nil=>rw[h.1];simp
 | cons c cs ih=>
  obtain ⟨u,us',o1,o2,rfl,h2,h3,h4⟩:=h;intro x hx;rcases List.mem_cons.1 hx with rfl | hx
  ·exact RepA.oneCell h3
  ·exact ih h4 x hx
theorem tH0 {ti:TI} {t:TypeId} (ht:tyOf P t=some ti) {w:World} {g o:Nat} {cur:Array Value} {ty:TypeId} {fz:Nat×Nat} {v:Value} (hv:v.cells.toList.length=ti.size) (hg:w.heap[g]?=some (.cells cur ty fz)) (hl:o+ti.size<=cur.size)
  (hz:∀x,o<=x->x < o+ti.size->¬(fz.1<=x/\x < fz.2)) (h1:∀u∈v.cells.toList,u.oneCell'=true) :
  (storeVar t ⟨g,o,none⟩ v).run P w=.ok () (w.setRow g (splice cur.toList o v.cells.toList).toArray):=by
 have hst:=tX0 (P:=P) g o ty fz v.cells.toList 0 cur w hg (by rw[hv];simpa using hl) (by rw[hv];simpa using hz) h1
 have hsz:v.cells.size=ti.size:=by simpa using hv
 simp only[storeVar,Sem.run_bind,yJ0 ht,Result.andThen,hsz];simpa using hst
theorem xK0 {X:List Nat} {E:Env} {v:Value} (he:EvOk C X σ E av v) (hs:av.sh=.one\/av.sh=.agg):RpA E av.cs v.cells.toList []/\flat v=v.cells.toList/\v.cells.toList.length=av.cs.length:=by
 have hr:=he.rep;obtain ⟨sh,cs⟩:=av;have key:isTuple v=false/\RpA E cs (flat v) []:=by
  rcases hs with hs | hs<;>simp only at hs<;>subst hs
  ·exact ⟨hr.1.1,hr.2⟩
  ·refine ⟨?_,hr.2⟩
   have:=hr.1;simp only[shOk] at this;cases v<;>first | rfl|(simp[yV0] at this)
 rw[uB0 key.1] at key;exact ⟨key.2,uB0 key.1,RpA.length key.2⟩
theorem Fresh.setBox {g:yA0} {b:Nat} {cs:List A} (h:Fresh σ g) (h':zG0 (some g) cs):Fresh (σ.setBox b cs) g:=
 ⟨h.1,fun cs' hcs=>by
  rcases List.mem_or_eq_of_mem_set hcs with hcs | hcs
  ·exact h.2 cs' hcs
  ·simp at hcs;subst hcs;exact h'⟩
theorem jB0 {X:List Nat} {a:Act} {w:World} {S L:Nat->Prop} {bl:List Bk} {O1 O2:List Nat} (h:InvAt C X σ a w S L bl O1 O2) (hf:Fresh σ (σ.epoch,i)):Inv C X (σ.putO dst ⟨.any,[]⟩) (a.put dst undef) w:=
 h.done hf ⟨rfl,rfl⟩ (fun c hc=>by simp at hc) (fun c hc=>by simp at hc) (fun g d k els hm=>by simp at hm) List.nodup_nil (by simp)
theorem RepSE.set {S:Nat->Prop} {w:World} {b o k n off:Nat} {els:List (List T)} {arr:Array Value} {ty:TypeId} {fz:Nat×Nat} {e ts:List T} {us:List Value} (hb:¬S b)
  (hw:w.heap[b]?=some (.cells arr ty fz)) (h:RepSE S w b o els) (hk:∀e∈els,e.length=k) (hn:els[n]?=some e) (ho:off+ts.length<=k) (hfit:o+els.length * k<=arr.size) (ht:RepTs S w ts us) :
  RepSE S (w.setRow b (splice arr.toList (o+n * k+off) us).toArray) b o (els.set n (splice e off ts)):=by
 have hlen:=ht.length;have hnl:=(List.getElem?_eq_some_iff.1 hn).1;have hek:e.length=k:=hk e (List.mem_of_getElem? hn);have hSame:∀x,S x->(w.setRow b (splice arr.toList (o+n * k+off) us).toArray).heap[x]?=w.heap[x]?:=fun x hx=>setRow_other _ _ _ _ (fun e=>hb (e ▸ hx));have hmulle:n * k+k<=els.length * k:=by
  have:(n+1) * k<=els.length * k:=Nat.mul_le_mul_right k hnl;simpa [Nat.succ_mul] using this
 have hspl:o+n * k+off+us.length<=arr.toList.length:=by simp;omega
 have hcell:∀j,(w.setRow b (splice arr.toList (o+n * k+off) us).toArray).cell? ⟨b,j,none⟩=if o+n * k+off<=j/\j < o+n * k+off+us.length then us[j - (o+n * k+off)]? else w.cell? ⟨b,j,none⟩:=by
  intro j;simp only[World.cell?,setRow_heap w b arr _ ty fz hw,hw,Option.isSome_none,Bool.false_eq_true,if_false];rw[<-Array.getElem?_toList,<-Array.getElem?_toList];exact xN0 hspl j
 refine RepSE.of_get (k:=k) (fun x hx=>?_) fun i' e' hi'=>?_
 ·rcases List.mem_or_eq_of_mem_set hx with hx | rfl
  ·exact hk x hx
  ·rw[zX0 (by omega)];exact hek
 ·rw[List.getElem?_set] at hi'
  by_cases hin:n=i'
  ·subst hin
   simp[hnl] at hi';subst hi';refine RepSC.of_get fun j c hj=>?_;rw[xN0 (by omega)] at hj
   rw[hcell]
   split at hj
   ·rename_i hin
    obtain ⟨u,hu,hr⟩:=ht.get (j - off) c hj;refine ⟨u,?_,RepS.mono (fun _ h=>h) hSame _ _ hr⟩;rw[if_pos (by omega),<-hu]
    congr 1
    omega
   ·rename_i hout
    have hjk:j < k:=by rw[<-hek];exact (List.getElem?_eq_some_iff.1 hj).1
    obtain ⟨u,hu,hr⟩:=(h.get hk n e hn).get j c hj;refine ⟨u,?_,RepS.mono (fun _ h=>h) hSame _ _ hr⟩;rw[if_neg (by omega)]
    exact hu
  ·rw[if_neg hin] at hi'
   have hil:=(List.getElem?_eq_some_iff.1 hi').1;refine RepSC.of_get fun j c hj=>?_;have hjk:j < k:=by rw[<-hk e' (List.mem_of_getElem? hi')];exact (List.getElem?_eq_some_iff.1 hj).1
   obtain ⟨u,hu,hr⟩:=(h.get hk i' e' hi').get j c hj;refine ⟨u,?_,RepS.mono (fun _ h=>h) hSame _ _ hr⟩;rw[hcell,if_neg ?_]
   ·exact hu
   ·rcases Nat.lt_or_gt_of_ne hin with hlt | hgt
    ·have:n * k+k<=i' * k:=by have:=Nat.mul_le_mul_right k hlt;simpa [Nat.succ_mul] using this
     omega
    ·have:i' * k+k<=n * k:=by have:=Nat.mul_le_mul_right k hgt;simpa [Nat.succ_mul] using this
     omega
theorem RepLC.move {S:Nat->Prop} {w w':World} {b:Nat} (hS:∀x,S x->w'.heap[x]?=w.heap[x]?):∀{o:Nat} {cs:List T} {own:List Nat},(∀j,o<=j->j < o+cs.length->w'.cell? ⟨b,j,none⟩=w.cell? ⟨b,j,none⟩)->
  (∀x∈own,w'.heap[x]?=w.heap[x]?)->RepLC S w b o cs own->RepLC S w' b o cs own
 | _,[],_,_,_,h=>by simpa only [RepLC] using h
 | o,c::cs,_,hc,ho,h=>by
  simp only[RepLC] at h |-;obtain ⟨u,o1,o2,rfl,h1,h2,h3⟩:=h;exact ⟨u,o1,o2,rfl,by rw[hc o (Nat.le_refl _) (by simp)];exact h1,RepL.mono (fun _ h=>h) hS c u o1 (fun x hx=>ho x (by simp[hx])) h2,
   RepLC.move hS (fun j hj hj'=>hc j (by omega) (by simp;omega)) (fun x hx=>ho x (by simp[hx])) h3⟩
theorem RepLE.move {S:Nat->Prop} {w w':World} {b:Nat} (hS:∀x,S x->w'.heap[x]?=w.heap[x]?):∀{o:Nat} {es:List (List T)} {own:List Nat},(∀j,o<=j->j < o+es.flatten.length->w'.cell? ⟨b,j,none⟩=w.cell? ⟨b,j,none⟩)->
  (∀x∈own,w'.heap[x]?=w.heap[x]?)->RepLE S w b o es own->RepLE S w' b o es own
 | _,[],_,_,_,h=>by simpa only [RepLE] using h
 | o,e::es,_,hc,ho,h=>by
  simp only[RepLE] at h |-;simp only[List.flatten_cons,List.length_append] at hc;obtain ⟨o1,o2,rfl,h1,h2⟩:=h;exact ⟨o1,o2,rfl,RepLC.move hS (fun j hj hj'=>hc j hj (by omega)) (fun x hx=>ho x (by simp[hx])) h1,RepLE.move hS (fun j hj hj'=>hc j (by omega) (by omega)) (fun x hx=>ho x (by simp[hx])) h2⟩
theorem RepTL.toLC {S:Nat->Prop} {w:World} {b:Nat}:∀{o:Nat} {ts:List T} {us:List Value} {own:List Nat},(∀j u,us[j]?=some u->w.cell? ⟨b,o+j,none⟩=some u)->RepTL S w ts us own->RepLC S w b o ts own
 | _,[],_,_,_,h=>by simp only[RepLC];exact h.2
 | o,t::ts,_,_,hc,h=>by
  obtain ⟨u,us',o1,o2,rfl,rfl,h2,h3⟩:=h;simp only[RepLC];refine ⟨u,o1,o2,rfl,by simpa using hc 0 u rfl,h2,RepTL.toLC (fun j v hj=>?_) h3⟩
  have:=hc (j+1) v (by simpa using hj)
  rwa[Nat.add_assoc,Nat.add_comm 1 j]
theorem XZ0 {α:Type} {k:Nat} {es:List (List α)} (h:∀e∈es,e.length=k) {n:Nat} (hn:n<=es.length):(es.take n).flatten.length=n * k:=by
 rw[zF0 fun e he=>h e (List.mem_of_mem_take he),List.length_take,Nat.min_eq_left hn]
theorem YT0 {α:Type}:∀{l:List α} {n:Nat} {x:α},n < l.length->l.set n x=l.take n++x::l.drop (n+1)
 | [],_,_,h=>by simp at h
 | a::l,0,x,_=>by simp
 | a::l,n+1,x,h=>by simp only[List.set_cons_succ,List.take_succ_cons,List.drop_succ_cons,List.cons_append];rw[YT0 (by simpa using h)]
theorem RepLE.set {S:Nat->Prop} {w:World} {b o k n off:Nat} {els:List (List T)} {arr:Array Value} {ty:TypeId} {fz:Nat×Nat} {e ts:List T} {us:List Value} {own own':List Nat} (hb:¬S b)
  (hbo:b∉own) (hbo':b∉own') (hw:w.heap[b]?=some (.cells arr ty fz)) (h:RepLE S w b o els own) (hk:∀e∈els,e.length=k) (hn:els[n]?=some e) (ho:off+ts.length<=k) (hfit:o+els.length * k<=arr.size) (ht:RepTL S w ts us own') :
  ∃own2,RepLE S (w.setRow b (splice arr.toList (o+n * k+off) us).toArray) b o (els.set n (splice e off ts)) own2/\(∀x∈own2,x∈own\/x∈own')/\(own.Nodup->own'.Nodup->(∀x∈own',x∉own)->own2.Nodup):=by
 have hlen:=ht.length;have hnl:=(List.getElem?_eq_some_iff.1 hn).1;have hek:e.length=k:=hk e (List.mem_of_getElem? hn);have hother:∀x,x≠b->(w.setRow b (splice arr.toList (o+n * k+off) us).toArray).heap[x]?=w.heap[x]?:=fun x hx=>setRow_other _ _ _ _ hx;have hSame:∀x,S x->(w.setRow b (splice arr.toList (o+n * k+off) us).toArray).heap[x]?=w.heap[x]?:=fun x hx=>hother x (fun e=>hb (e ▸ hx));have hmulle:n * k+k<=els.length * k:=by
  have:(n+1) * k<=els.length * k:=Nat.mul_le_mul_right k hnl;simpa [Nat.succ_mul] using this
 have hspl:o+n * k+off+us.length<=arr.toList.length:=by simp;omega
 have hcell:∀j,(w.setRow b (splice arr.toList (o+n * k+off) us).toArray).cell? ⟨b,j,none⟩=if o+n * k+off<=j/\j < o+n * k+off+us.length then us[j - (o+n * k+off)]? else w.cell? ⟨b,j,none⟩:=by
  intro j;simp only[World.cell?,setRow_heap w b arr _ ty fz hw,hw,Option.isSome_none,Bool.false_eq_true,if_false];rw[<-Array.getElem?_toList,<-Array.getElem?_toList];exact xN0 hspl j
 obtain ⟨p,q,r,rfl,h1,h2,h3⟩:=RepLE.get h hk n e hn;have e1:e=e.take off++((e.drop off).take ts.length++e.drop (off+ts.length)):=by
  rw[<-List.drop_drop,List.take_append_drop,List.take_append_drop]
 rw[e1] at h2;obtain ⟨q1,q',rfl,h4,h5⟩:=RepLC.append.1 h2;obtain ⟨q2,q3,rfl,h6,h7⟩:=RepLC.append.1 h5;have l1:(e.take off).length=off:=by simp;omega
 have l2:((e.drop off).take ts.length).length=ts.length:=by simp;omega
 rw[l1] at h7;rw[l2] at h7;have mem:∀x,x∈p++(q1++(q2++q3))++r->(w.setRow b (splice arr.toList (o+n * k+off) us).toArray).heap[x]?=w.heap[x]?:=fun x hx=>hother x (fun e=>hbo (e ▸ hx));have lt:=XZ0 hk (Nat.le_of_lt hnl);refine ⟨p++((q1++(own'++q3))++r),?_,?_,?_⟩
 ·rw[YT0 hnl]
  refine RepLE.append.2 ⟨p,(q1++(own'++q3))++r,rfl,RepLE.move hSame (fun j hj hj'=>?_) (fun x hx=>mem x (by simp[hx])) h1,?_⟩
  ·rw[hcell,if_neg (by rw[lt] at hj';omega)]
  ·rw[lt]
   simp only[RepLE];refine ⟨q1++(own'++q3),r,rfl,?_,?_⟩
   ·show RepLC S _ b _ (e.take off++ts++e.drop (off+ts.length)) _
    rw[List.append_assoc];refine RepLC.append.2 ⟨q1,own'++q3,rfl,RepLC.move hSame (fun j hj hj'=>?_) (fun x hx=>mem x (by simp[hx])) h4,?_⟩
    ·rw[hcell,if_neg (by rw[l1] at hj';omega)]
    ·rw[l1]
     refine RepLC.append.2 ⟨own',q3,rfl,?_,?_⟩
     ·refine RepTL.toLC (us:=us) (fun j u hj=>?_) (RepTL.mono (fun _ h=>h) hSame (fun x hx=>hother x (fun e=>hbo' (e ▸ hx))) ht)
      have hjl:=(List.getElem?_eq_some_iff.1 hj).1;rw[hcell,if_pos ⟨by omega,by omega⟩,<-hj]
      congr 1
      omega
     ·refine RepLC.move hSame (fun j hj hj'=>?_) (fun x hx=>mem x (by simp[hx])) h7
      rw[hcell,if_neg (by omega)]
   ·rw[zX0 (by omega),hek]
    rw[Nat.succ_mul,<-Nat.add_assoc] at h3;refine RepLE.move hSame (fun j hj hj'=>?_) (fun x hx=>mem x (by simp[hx])) h3
    rw[hcell,if_neg (by omega)]
 ·intro x hx
  simp only[List.mem_append] at hx |-;rcases hx with h|(h | h | h) | h<;>simp[h]
 ·intro hn1 hn2 hd
  have:=jU0 (p:=p++q1) (o:=q2) (q:=q3++r) (o':=own') (by simpa using hn1) hn2 (fun x hx=>.inr (by have:=hd x hx;simpa using this))
  simpa using this
theorem yA1 {base:Nat} {t:TypeId} {p x:Operand} (hx:mR0 P base i σ t p x=some σ1):OpOk P C i (.store t p x) dst σ ⟨.any,[]⟩ σ1:=by
 rintro X a w ⟨S,L,bl,O1,O2,h⟩ hi type pos after guard;have h':=h.mono (fun x hx=>List.mem_cons_of_mem i hx);simp only[mR0,Option.bind_eq_some_iff] at hx;obtain ⟨ti,ht,hx⟩:=hx;obtain ⟨p',x',hp,hxe,hx'⟩:=zU0 hx;clear hx;have he:=h.ev hxe;have hpe:=h.ev hp;have boxcase:∀b off,p'=⟨.one,[.ptr b off]⟩->(x'.sh=.one\/x'.sh=.agg)->x'.cs.length=ti.size->
   (((tkC (xH0 base b off ti.size) (σ.epoch,i) x'.cs σ).2.boxes[b]?).bind fun o=>o.bind fun cs0=>if off+ti.size<=cs0.length then some ((tkC (xH0 base b off ti.size) (σ.epoch,i) x'.cs σ).2.setBox b (splice cs0 off (tkC (xH0 base b off ti.size) (σ.epoch,i) x'.cs σ).1)) else none)=some σ1->
   ∃n v w',(execOp a.eval ⟨dst,.store t p x,type,pos,after,guard⟩).run P w=.ok n w'/\(n=.value v\/(n=.skip/\v=undef))/\Inv C (i::X) (σ1.putO dst ⟨.any,[]⟩) (a.put dst v) w':=by
  intro b off hpp hsh hsz hx;subst hpp;obtain ⟨r1,r2,r3⟩:=xK0 he hsh;simp only[Option.bind_eq_some_iff] at hx;obtain ⟨_,hb,cs0,rfl,hx⟩:=hx;obtain ⟨hfit,rfl⟩:=zQ0 hx;obtain ⟨O1',O2',o',g1,g2,g3,g4,g5,g6,g7,g8,g9,g10,g11,g12,g13,g14⟩:=yE0 (xH0 base b off ti.size) h' (i:=i) (by simp) (h.fresh hi) r1 (uM0 he.st) (bX0 he.st hi) he.noOw
  have hcl:=RpA.length g2;have hcl':(tkC (xH0 base b off ti.size) (σ.epoch,i) x'.cs σ).1.length=ti.size:=by rw[<-hcl,r3,hsz]
  obtain ⟨blk,arr,ty,fzb,O2'',k1,k2,k3,k5,k4⟩:=g1.boxput (i:=i) (off:=off) hb (by rw[g9];exact g8) g2 (by rw[hcl'];exact hfit) (by rw[g9];exact g6) (by rw[g9];exact g5) (by rw[g9];exact g7) g3 g4
  obtain ⟨⟨_,blk',q1,q2⟩,_⟩:=hpe.cell;simp only at q1;rw[k1] at q1;simp at q1;subst q1;have hst:=tH0 (P:=P) ht (w:=w) (g:=blk.b) (o:=blk.o+off) (v:=a.eval x) (by rw[r3,hsz]) k2 (by omega) (fun y y1 y2=>k5 y (by omega) (by omega)) (nK0 r1)
  refine ⟨.skip,undef,_,?_,.inr ⟨rfl,rfl⟩,jB0 (i:=i) k4 ?_⟩
  ·simp only[execOp,q2,Instr.storeAt,Instr.sureAddr,pure_bind]
   simp only[Sem.run_bind,hst]
   rfl
  ·show Fresh _ ((tkC (xH0 base b off ti.size) (σ.epoch,i) x'.cs σ).2.epoch,i)
   rw[g9];refine g8.setBox fun c hc=>?_;simp only[splice,List.mem_append] at hc;rcases hc with (hc | hc) | hc
   ·exact g8.2 cs0 (List.mem_of_getElem? hb) c (List.mem_of_mem_take hc)
   ·exact g6 c hc
   ·exact g8.2 cs0 (List.mem_of_getElem? hb) c (List.mem_of_mem_drop hc)
 have elcase:∀r c g n off,p'=⟨.one,[.eptr r c g n off]⟩->(x'.sh=.one\/x'.sh=.agg)->x'.cs.length=ti.size->
   ((fzC x'.cs σ).bind fun y=>(y.2.at? r c g).bind fun q=>(q.2[n]?).bind fun e=>if off+ti.size<=q.1 then some (y.2.setCell r c (.ow g false q.1 (q.2.set n (splice e off y.1)))) else none)=some σ1->
   ∃n v w',(execOp a.eval ⟨dst,.store t p x,type,pos,after,guard⟩).run P w=.ok n w'/\(n=.value v\/(n=.skip/\v=undef))/\Inv C (i::X) (σ1.putO dst ⟨.any,[]⟩) (a.put dst v) w':=by
  intro r c g n off hpp hsh hsz hx;subst hpp;obtain ⟨r1,r2,r3⟩:=xK0 he hsh;simp only[Option.bind_eq_some_iff] at hx;obtain ⟨⟨ts,σ'⟩,hfz,⟨k,els⟩,hat,e,hn,hx⟩:=hx;obtain ⟨hfit,rfl⟩:=zQ0 hx;simp only at hat hn hfit;obtain ⟨S',L',O1',O2',g1,g2,g3,gL,g4,g5,g6,g7,g8,g9⟩:=wN0 h' (i:=i) (h.fresh hi) r1 hfz;have hcell:=AS.at?_some hat;obtain ⟨u,o,k1,k2,k3,k4,k5⟩:=g1.recell (i:=i) hcell (by rw[g6];exact g5)
  obtain ⟨hpa,_⟩:=hpe.cell;have hpa':=RepA.go g7 (fun _ hb=>by simp at hb) (.inr (by simp[A.rstamp])) hpa
  obtain ⟨_,_,hpa'⟩:=hpa';obtain ⟨hnl,b,ob,cap,e1,e2⟩:=hpa' false k els hcell;rw[e1] at k1;simp at k1;subst k1;obtain ⟨ad,cap',m1,m2,m3,m4⟩:=k2;simp at m1;obtain ⟨rfl,rfl⟩:=m1;rcases m4 with ⟨_,rfl,_⟩ | ⟨b',o',arr,ty,fz,m5,m6,m7,m8,m9,m10⟩
  ·simp at hnl
  ·simp at m5
   obtain ⟨rfl,rfl⟩:=m5;subst m6;have hts:ts.length=ti.size:=by rw[<-hsz,<-r3];exact g2.length.symm
   have hmulle:n * k+k<=cap * k:=by
    have:(n+1) * k<=cap * k:=Nat.mul_le_mul_right k (by omega)
    simpa [Nat.succ_mul] using this
   have hnL:¬L' b:=fun hS=>(g1.stable b hS).2 (k4 b (by simp))
   have hnS:¬S' b:=fun hS=>hnL (g1.sl b hS);have hset:=RepSE.set (off:=off) hnS m7 m10 m3 hn (by omega) (by have:=Nat.mul_le_mul_right k m2;omega) g2
   have hst:=tH0 (P:=P) ht (w:=w) (g:=b) (o:=ob+n * k+off) (v:=a.eval x) (by rw[r3,hsz]) m7 (by omega) (fun y hy hy'=>m9 y (by omega) (by omega)) (nK0 r1)
   have hown:=g1.own b (k4 b (by simp))
   obtain ⟨O1'',O2'',q1,q2⟩:=k5 S' L' (w.setRow b (splice arr.toList (ob+n * k+off) (a.eval x).cells.toList).toArray) (.ow g false k (els.set n (splice e off ts))) [b] (fun _ h=>h) (fun _ h=>h) g1.sl (fun b hb=>.inl hb) (fun b hb=>.inl hb)
    (fun x hx hS=>by simp at hx;subst hx;exact hnL hS) (.inl rfl) (fun y hy hy'=>setRow_other _ _ _ _ (by simpa using hy)) (g1.keeps.setRow hown) (by rw[setRow_size];exact Nat.le_refl _)
    ⟨some ⟨b,ob,none⟩,cap,by simp,by simpa using m2,fun x hx=>by
      rcases List.mem_or_eq_of_mem_set hx with hx | rfl
      ·exact m3 x hx
      ·have:=m3 e (List.mem_of_getElem? hn)
       rw[zX0 (by omega)];exact this,.inr ⟨b,ob,_,ty,fz,rfl,rfl,setRow_heap w b arr _ ty fz m7,by
        have hspl:ob+n * k+off+(a.eval x).cells.toList.length<=arr.toList.length:=by rw[r3,hsz];simp;omega
        have:=zX0 hspl;simpa [this] using m8,m9,hset⟩⟩
    (by
     have:=g1.stS;have:=g1.stB;intro g' hg';simp[A.stamp] at hg';subst hg';have hm:∃cs:List A,A.ow g false k els∈cs/\((∃av∈σ'.slots,av.cs=cs)\/some cs∈σ'.boxes):=by
      cases r with
      | slot t=>
       simp only[AS.cell,Option.bind_eq_some_iff] at hcell;obtain ⟨av,h1,h2⟩:=hcell;exact ⟨av.cs,List.mem_of_getElem? h2,.inl ⟨av,List.mem_of_getElem? h1,rfl⟩⟩
      | box t=>
       simp only[AS.cell,Option.bind_eq_some_iff] at hcell;obtain ⟨_,h1,cs,rfl,h2⟩:=hcell;exact ⟨cs,List.mem_of_getElem? h2,.inr (List.mem_of_getElem? h1)⟩
     obtain ⟨cs,hm1,hm2⟩:=hm;rcases hm2 with ⟨av,hav,rfl⟩ | hm2
     ·exact g1.stS av hav _ hm1 g rfl
     ·exact g1.stB cs hm2 _ hm1 g rfl)
    (fun g' d' k' els' he'=>by
     simp at he';obtain ⟨rfl,rfl,rfl,rfl⟩:=he';exact .inr ⟨_,els,rfl,by simp⟩)
   refine ⟨.skip,undef,_,?_,.inr ⟨rfl,rfl⟩,jB0 (i:=i) q1 ?_⟩
   ·simp only[execOp,e2,Instr.storeAt,Instr.sureAddr,pure_bind]
    simp only[Sem.run_bind,hst]
    rfl
   ·rw[yR0,g6]
    exact g5.setDead rfl
 have elcaseD:∀r c g n off,p'=⟨.one,[.eptr r c g n off]⟩->(x'.sh=.one\/x'.sh=.agg)->x'.cs.length=ti.size->
   ((holdCells base (σ.epoch,i) x'.cs σ).bind fun y=>(y.2.ad? r c g).bind fun q=>(q.2.2[n]?).bind fun e=>if q.1=true/\off+ti.size<=q.2.1 then some (y.2.setCell r c (.ow g true q.2.1 (q.2.2.set n (splice e off y.1)))) else none)=some σ1->
   ∃n v w',(execOp a.eval ⟨dst,.store t p x,type,pos,after,guard⟩).run P w=.ok n w'/\(n=.value v\/(n=.skip/\v=undef))/\Inv C (i::X) (σ1.putO dst ⟨.any,[]⟩) (a.put dst v) w':=by
  intro r c g n off hpp hsh hsz hx;subst hpp;obtain ⟨r1,r2,r3⟩:=xK0 he hsh;simp only[Option.bind_eq_some_iff] at hx;obtain ⟨⟨ts,σ'⟩,hfz,⟨d,k,els⟩,hat,e,hn,hx⟩:=hx;obtain ⟨⟨hd,hfit⟩,rfl⟩:=zQ0 hx;simp only at hat hn hfit hd;subst hd;simp only[holdCells,Option.map_eq_some_iff,Prod.mk.injEq] at hfz;obtain ⟨ts',hts',rfl,rfl⟩:=hfz;obtain ⟨O1',O2',own',g1,g2,g3,g4,g5,g6,g7,g8,g9,g10,g11,g12,g13,g14⟩:=yE0 (rF0 base) h' (i:=i) (by simp) (h.fresh hi) r1 (uM0 he.st) (bX0 he.st hi) he.noOw
  have g2:=g2.toOwn hts';have hcell:=AS.ad?_some hat;obtain ⟨u,o,k1,k2,k3,k4,k5⟩:=g1.recellG (i:=i) hcell (by rw[g9];exact g8)
  obtain ⟨hpa,_⟩:=hpe.cell;have hpa':=RepA.go g12 (fun _ hb=>by simp at hb) (.inr (by simp[A.rstamp])) hpa
  obtain ⟨_,_,hpa'⟩:=hpa';obtain ⟨hnl,b,ob,cap,e1,e2⟩:=hpa' true k els hcell;rw[e1] at k1;simp at k1;subst k1;obtain ⟨ad,cap',m1,m2,m3,m4⟩:=k2;simp at m1;obtain ⟨rfl,rfl⟩:=m1;rcases m4 with ⟨_,rfl,_⟩ | ⟨b',o',arr,ty,fz,nn,m5,m6,m7,m8,m9,m10⟩
  ·simp at hnl
  ·simp at m5
   obtain ⟨rfl,rfl⟩:=m5;subst m6;have hts:ts'.length=ti.size:=by rw[<-hsz,<-r3];exact g2.length.symm
   have hmulle:n * k+k<=cap * k:=by
    have:(n+1) * k<=cap * k:=Nat.mul_le_mul_right k (by omega)
    simpa [Nat.succ_mul] using this
   have hb0:=k4 b (by simp)
   have hnL:¬L b:=fun hS=>(g1.stable b hS).2 hb0;have hnS:¬S b:=fun hS=>hnL (g1.sl b hS);have hbn:b∉nn/\nn.Nodup:=List.nodup_cons.1 k3;have hbo':b∉own':=fun hm=>(g4 b hm).1 hb0;have hdis:∀x∈own',x∉nn:=fun x hx hm=>(g4 x hx).1 (k4 x (by simp[hm]))
   obtain ⟨own2,hset,hmem,hnd⟩:=RepLE.set (off:=off) hnS hbn.1 hbo' m7 m10 m3 hn (by omega) (by have:=Nat.mul_le_mul_right k m2;omega) g2
   have hst:=tH0 (P:=P) ht (w:=w) (g:=b) (o:=ob+n * k+off) (v:=a.eval x) (by rw[r3,hsz]) m7 (by omega) (fun y hy hy'=>m9 y (by omega) (by omega)) (nK0 r1)
   have hown:=g1.own b hb0;have hb2:b∉own2:=fun hm=>(hmem b hm).elim hbn.1 hbo';obtain ⟨O1'',O2'',q1,q2⟩:=k5 S L (w.setRow b (splice arr.toList (ob+n * k+off) (a.eval x).cells.toList).toArray) (.ow g true k (els.set n (splice e off ts'))) (b::own2) (fun _ h=>h) (fun _ h=>h) g1.sl (fun b hb=>.inl hb) (fun b hb=>.inl hb)
    (fun x hx hS=>by
     rcases List.mem_cons.1 hx with rfl | hx
     ·exact hnL hS
     ·rcases hmem x hx with hx | hx
      ·exact (g1.stable x hS).2 (k4 x (by simp[hx]))
      ·exact (g4 x hx).2.1 hS)
    (List.nodup_cons.2 ⟨hb2,hnd hbn.2 g3 hdis⟩)
    (fun x hx=>by
     rcases List.mem_cons.1 hx with rfl | hx
     ·exact .inl (by simp)
     ·rcases hmem x hx with hx | hx
      ·exact .inl (by simp[hx])
      ·exact .inr ⟨(g4 x hx).1,(g4 x hx).2.2⟩)
    (fun y hy hy'=>setRow_other _ _ _ _ (fun e=>hy (by simp[e]))) (g1.keeps.setRow hown) (by rw[setRow_size];exact Nat.le_refl _)
    ⟨some ⟨b,ob,none⟩,cap,by simp,by simpa using m2,fun x hx=>by
      rcases List.mem_or_eq_of_mem_set hx with hx | rfl
      ·exact m3 x hx
      ·have:=m3 e (List.mem_of_getElem? hn)
       rw[zX0 (by omega)];exact this,.inr ⟨b,ob,_,ty,fz,own2,rfl,rfl,setRow_heap w b arr _ ty fz m7,by
        have hspl:ob+n * k+off+(a.eval x).cells.toList.length<=arr.toList.length:=by rw[r3,hsz];simp;omega
        have:=zX0 hspl;simpa [this] using m8,m9,hset⟩⟩
    (by
     have:=g1.stS;have:=g1.stB;intro g' hg';simp[A.stamp] at hg';subst hg';have hm:∃cs:List A,A.ow g true k els∈cs/\((∃av∈(tkC (rF0 base) (σ.epoch,i) x'.cs σ).2.slots,av.cs=cs)\/some cs∈(tkC (rF0 base) (σ.epoch,i) x'.cs σ).2.boxes):=by
      cases r with
      | slot t=>
       simp only[AS.cell,Option.bind_eq_some_iff] at hcell;obtain ⟨av,h1,h2⟩:=hcell;exact ⟨av.cs,List.mem_of_getElem? h2,.inl ⟨av,List.mem_of_getElem? h1,rfl⟩⟩
      | box t=>
       simp only[AS.cell,Option.bind_eq_some_iff] at hcell;obtain ⟨_,h1,cs,rfl,h2⟩:=hcell;exact ⟨cs,List.mem_of_getElem? h2,.inr (List.mem_of_getElem? h1)⟩
     obtain ⟨cs,hm1,hm2⟩:=hm;rcases hm2 with ⟨av,hav,rfl⟩ | hm2
     ·exact g1.stS av hav _ hm1 g rfl
     ·exact g1.stB cs hm2 _ hm1 g rfl)
    (fun g' d' k' els' he'=>by
     simp at he';obtain ⟨rfl,rfl,rfl,rfl⟩:=he';exact .inr ⟨_,els,rfl,by simp⟩)
   refine ⟨.skip,undef,_,?_,.inr ⟨rfl,rfl⟩,jB0 (i:=i) q1 ?_⟩
   ·simp only[execOp,e2,Instr.storeAt,Instr.sureAddr,pure_bind]
    simp only[Sem.run_bind,hst]
    rfl
   ·rw[yR0,g9]
    exact g8.setDead rfl
 have elboth:∀r c g n off,p'=⟨.one,[.eptr r c g n off]⟩->(x'.sh=.one\/x'.sh=.agg)->x'.cs.length=ti.size->
   (match σ.ad? r c g with
    | some (true,_,_)=>(holdCells base (σ.epoch,i) x'.cs σ).bind fun y=>(y.2.ad? r c g).bind fun q=>(q.2.2[n]?).bind fun e=>if q.1=true/\off+ti.size<=q.2.1 then some (y.2.setCell r c (.ow g true q.2.1 (q.2.2.set n (splice e off y.1)))) else none
    | _=>(fzC x'.cs σ).bind fun y=>(y.2.at? r c g).bind fun q=>(q.2[n]?).bind fun e=>if off+ti.size<=q.1 then some (y.2.setCell r c (.ow g false q.1 (q.2.set n (splice e off y.1)))) else none)=some σ1->
   ∃n v w',(execOp a.eval ⟨dst,.store t p x,type,pos,after,guard⟩).run P w=.ok n w'/\(n=.value v\/(n=.skip/\v=undef))/\Inv C (i::X) (σ1.putO dst ⟨.any,[]⟩) (a.put dst v) w':=by
  intro r c g n off hpp hsh hsz hx
  split at hx
  ·exact elcaseD r c g n off hpp hsh hsz hx
  ·exact elcase r c g n off hpp hsh hsz hx
 split at hx'
 ·rename_i b off hs
  split at hx'<;>try (simp at hx';done)
  rename_i hsz;exact boxcase b off rfl (.inl hs) hsz hx'
 ·rename_i b off hs
  split at hx'<;>try (simp at hx';done)
  rename_i hsz;exact boxcase b off rfl (.inr hs) hsz hx'
 ·rename_i r c g n off hs
  split at hx'<;>try (simp at hx';done)
  rename_i hsz;exact elboth r c g n off rfl (.inl hs) hsz hx'
 ·rename_i r c g n off hs
  split at hx'<;>try (simp at hx';done)
  rename_i hsz;exact elboth r c g n off rfl (.inr hs) hsz hx'
 ·simp at hx'
end
end Go.Av
/- Avs, part 18: append. -/
namespace Go.Av
theorem RepTs.append {S:Nat->Prop} {w:World}:∀{t1 t2:List T} {u1 u2:List Value},RepTs S w t1 u1->RepTs S w t2 u2->RepTs S w (t1++t2) (u1++u2)
 | [],t2,u1,u2,h1,h2=>by subst h1;exact h2
 | t::t1,t2,u1,u2,h1,h2=>by
  obtain ⟨u,us',rfl,h3,h4⟩:=h1;exact ⟨u,us'++u2,rfl,h3,RepTs.append h4 h2⟩
theorem RepTs.split {S:Nat->Prop} {w:World}:∀{t1 t2:List T} {us:List Value},RepTs S w (t1++t2) us->∃u1 u2,us=u1++u2/\RepTs S w t1 u1/\RepTs S w t2 u2
 | [],t2,us,h=>⟨[],us,rfl,rfl,h⟩
 | t::t1,t2,us,h=>by
  obtain ⟨u,us',rfl,h3,h4⟩:=h;obtain ⟨u1,u2,rfl,h5,h6⟩:=RepTs.split h4;exact ⟨u::u1,u2,rfl,⟨u,u1,rfl,h3,h5⟩,h6⟩
theorem RepSC.flat {S:Nat->Prop} {w:World} {b:Nat}:∀{o:Nat} {cs:List T},RepSC S w b o cs->∃us,RepTs S w cs us/\∀j u,us[j]?=some u->w.cell? ⟨b,o+j,none⟩=some u
 | o,[],_=>⟨[],rfl,by simp⟩
 | o,c::cs,h=>by
  simp only[RepSC] at h;obtain ⟨⟨u,h1,h2⟩,h3⟩:=h;obtain ⟨us,h4,h5⟩:=RepSC.flat h3;refine ⟨u::us,⟨u,us,rfl,h2,h4⟩,fun j v hj=>?_⟩;cases j with
  | zero=>simp at hj;subst hj;exact h1
  | succ j=>simp at hj;have:=h5 j v hj;rwa[Nat.add_assoc,Nat.add_comm 1 j] at this
theorem RepSE.flat {S:Nat->Prop} {w:World} {b:Nat}:∀{o:Nat} {es:List (List T)},RepSE S w b o es->∃us,RepTs S w es.flatten us/\∀j u,us[j]?=some u->w.cell? ⟨b,o+j,none⟩=some u
 | o,[],_=>⟨[],rfl,by simp⟩
 | o,e::es,h=>by
  simp only[RepSE] at h;obtain ⟨u1,h1,h2⟩:=RepSC.flat h.1;obtain ⟨u2,h3,h4⟩:=RepSE.flat h.2;refine ⟨u1++u2,h1.append h3,fun j v hj=>?_⟩
  by_cases hlt:j < u1.length
  ·rw[List.getElem?_append_left hlt] at hj
   exact h2 j v hj
  ·rw[List.getElem?_append_right (by omega)] at hj
   have:=h4 _ v hj;rw[<-h1.length] at this;rwa[show o+u1.length+(j - u1.length)=o+j by omega] at this
theorem RepSC.ofFlat {S:Nat->Prop} {w:World} {b:Nat}:∀{o:Nat} {cs:List T} {us:List Value},RepTs S w cs us->(∀j u,us[j]?=some u->w.cell? ⟨b,o+j,none⟩=some u)->RepSC S w b o cs
 | o,[],_,_,_=>by simp only[RepSC]
 | o,c::cs,us,h,hc=>by
  obtain ⟨u,us',rfl,h3,h4⟩:=h;simp only[RepSC];refine ⟨⟨u,hc 0 u rfl,h3⟩,RepSC.ofFlat h4 fun j v hj=>?_⟩;have:=hc (j+1) v (by simpa using hj)
  rwa[Nat.add_comm j 1,<-Nat.add_assoc] at this
theorem RepSE.ofFlat {S:Nat->Prop} {w:World} {b:Nat}:∀{o:Nat} {es:List (List T)} {us:List Value},RepTs S w es.flatten us->(∀j u,us[j]?=some u->w.cell? ⟨b,o+j,none⟩=some u)->RepSE S w b o es
 | o,[],_,_,_=>by simp only[RepSE]
 | o,e::es,us,h,hc=>by
  rw[List.flatten_cons] at h;obtain ⟨u1,u2,rfl,h1,h2⟩:=h.split;simp only[RepSE];refine ⟨RepSC.ofFlat h1 fun j v hj=>hc j v (by rw[List.getElem?_append_left (List.getElem?_eq_some_iff.1 hj).1];exact hj),RepSE.ofFlat h2 fun j v hj=>?_⟩
  have:=hc (u1.length+j) v (by rw[List.getElem?_append_right (by omega)];simpa using hj)
  rw[<-h1.length];rwa[<-Nat.add_assoc] at this
theorem RepS.oneCell {S:Nat->Prop} {w:World} {t:T} {u:Value} (h:RepS S w t u):u.oneCell'=true:=by
 cases t with
 | lit v=>simp only[RepS] at h;obtain ⟨rfl,hl⟩:=h;cases u<;>first | rfl | simp[isLit] at hl
 | sl els=>simp only[RepS] at h;obtain ⟨ad,cap,rfl,_⟩:=h;rfl
 | own els=>simp only[RepS] at h
theorem RepTs.one {S:Nat->Prop} {w:World}:∀{ts:List T} {us:List Value},RepTs S w ts us->∀u∈us,u.oneCell'=true
 | [],_,h=>by subst h;simp
 | t::ts,us,h=>by
  obtain ⟨u,us',rfl,h2,h3⟩:=h;intro x hx;rcases List.mem_cons.1 hx with rfl | hx
  ·exact RepS.oneCell h2
  ·exact RepTs.one h3 x hx
section
variable {P:Program}
theorem TV0 {S:Nat->Prop} {w:World} {t tx e ty:TypeId} {ti te:TI} (ht:tyOf P t=some ti) (hk:ti.tk=.slice e) (he:tyOf P e=some te)
  {sub xs:List (List T)} {v x:Value} {own:List Nat} {news:List Value} (hv:RepO S w false te.size sub v own) (hS:∀b∈own,¬S b) (hSz:∀b,S b->b < w.heap.size)
  (hx:Src P te.size tx x xs.length news w) (hxs:∀y∈xs,y.length=te.size) (hn:RepTs S w xs.flatten news)
  (hsz:(sub.length+xs.length) * te.bytes<=140737488355328) (h63:sub.length+xs.length<=9223372036854775807) :
  ∃v' w' own',(Builtin.append_ #[t,tx] ty #[v,x]).run P w=.ok v' w'/\RepO S w' false te.size (sub++xs) v' own'/\(own'=own\/own'=[w.heap.size])/\
   (∀b,b < w.heap.size->b∉own->w'.heap[b]?=w.heap[b]?)/\w'.os=w.os/\w'.tape=w.tape/\w'.output=w.output/\w.heap.size<=w'.heap.size/\(own'=[w.heap.size]->w.heap.size < w'.heap.size):=by
 have hzero:=kX0 he;obtain ⟨i,d,z,h1,h2,h3,rfl⟩:=zM0 he;obtain ⟨it,dt,zt,k1,k2,k3,rfl⟩:=zM0 ht;simp only at hv hx hxs hsz hk hzero |-;have hut:P.underlying t=some (.slice e):=by cases dt<;>simp[tkOf] at hk;subst hk;exact k2
 obtain ⟨ad,cap,rfl,c1,c2,c3⟩:=hv;have hall:∀y∈sub++xs,y.length=i.size:=fun y hy=>by rcases List.mem_append.1 hy with hy | hy;exact c2 y hy;exact hxs y hy
 have hnl:=hx.newsLen
 by_cases hroom:sub.length+xs.length<=cap
 ·
  rcases c3 with ⟨rfl,rfl,rfl⟩ | ⟨b,o,arr,tyb,fz,rfl,rfl,g3,g4,g5,g6⟩
  ·simp at hroom
   subst hroom;simp at hnl;refine ⟨.slice ad 0 0,w,[],?_,⟨ad,0,rfl,Nat.le_refl _,by simp,.inl ⟨rfl,rfl,rfl⟩⟩,.inl rfl,fun _ _ _=>rfl,rfl,rfl,rfl,Nat.le_refl _,by simp⟩
   subst hnl;have hc0:(Builtin.firstCells i.size 0 x).run P w=.ok #[] w:=by simpa using hx.cells
   rcases hx.kind with ⟨e',hk'⟩ | hk'<;>(simp[Builtin.append_,run_underlying hut,run_underlying hk',sizeOf,typeInfo,h1,hx.len,hc0];cases ad<;>simp[storeCells])
  ·have hmul:(sub.length+xs.length) * i.size<=cap * i.size:=Nat.mul_le_mul_right _ hroom
   rw[Nat.add_mul] at hmul;have hst:=tX0 (P:=P) b (o+sub.length * i.size) tyb fz news 0 arr w g3 (by rw[hnl];omega) (fun y hy hy'=>g5 y (by omega) (by rw[hnl] at hy';omega)) hx.one
   simp only[Nat.add_zero] at hst;have hspl:o+sub.length * i.size+news.length<=arr.toList.length:=by rw[hnl];simp;omega
   have hcell:∀j,(w.setRow b (splice arr.toList (o+sub.length * i.size) news).toArray).cell? ⟨b,j,none⟩=if o+sub.length * i.size<=j/\j < o+sub.length * i.size+news.length then news[j - (o+sub.length * i.size)]? else w.cell? ⟨b,j,none⟩:=by
    intro j;simp only[World.cell?,setRow_heap w b arr _ tyb fz g3,g3,Option.isSome_none,Bool.false_eq_true,if_false];rw[<-Array.getElem?_toList,<-Array.getElem?_toList];exact xN0 hspl j
   have hSame:∀y,S y->(w.setRow b (splice arr.toList (o+sub.length * i.size) news).toArray).heap[y]?=w.heap[y]?:=fun y hy=>setRow_other _ _ _ _ (fun e=>hS b (by simp) (e ▸ hy))
   obtain ⟨olds,p1,p2⟩:=g6.flat;have hol:olds.length=sub.length * i.size:=by rw[p1.length,zF0 c2]
   refine ⟨.slice (some ⟨b,o,none⟩) (sub.length+xs.length) cap,w.setRow b (splice arr.toList (o+sub.length * i.size) news).toArray,[b],?_,⟨_,cap,by simp,by simpa using hroom,hall,.inr ⟨b,o,_,tyb,fz,rfl,rfl,setRow_heap w b arr _ tyb fz g3,?_,g5,?_⟩⟩,.inl rfl,
    fun y _ hy=>setRow_other _ _ _ _ (by simpa using hy),rfl,rfl,rfl,by rw[setRow_size];exact Nat.le_refl _,fun e=>?_⟩
   ·rcases hx.kind with ⟨e',hk'⟩ | hk'<;>simp[Builtin.append_,run_underlying hut,run_underlying hk',sizeOf,typeInfo,h1,hx.len,hroom,hx.cells,Addr.add_lit,hst]
   ·have:=zX0 hspl
    simpa [this] using g4
   ·refine RepSE.ofFlat (us:=olds++news) (by rw[List.flatten_append];exact (p1.mono (fun _ h=>h) hSame).append (hn.mono (fun _ h=>h) hSame)) fun j u hj=>?_
    rw[hcell]
    by_cases hlt:j < olds.length
    ·rw[List.getElem?_append_left hlt] at hj
     rw[if_neg (by omega)]
     exact p2 j u hj
    ·rw[List.getElem?_append_right (by omega)] at hj
     have:=(List.getElem?_eq_some_iff.1 hj).1;rw[if_pos (by omega),<-hj]
     congr 1
     omega
   ·simp at e
    have:=(Array.getElem?_eq_some_iff.1 g3).1;omega
 ·
  obtain ⟨olds,p1,p2⟩:∃olds,RepTs S w sub.flatten olds/\(Builtin.firstCells i.size sub.length (.slice ad sub.length cap)).run P w.drew=.ok olds.toArray w.drew:=by
   rcases c3 with ⟨rfl,rfl,rfl⟩ | ⟨b,o,arr,tyb,fz,rfl,rfl,g3,g4,g5,g6⟩
   ·refine ⟨[],rfl,?_⟩
    cases ad<;>simp[Builtin.firstCells,loadCells,loadCellsFrom]
   ·obtain ⟨olds,p1,p2⟩:=g6.flat
    exact ⟨olds,p1,run_firstCells_some w.drew i.size sub.length _ _ _ olds (by rw[p1.length,zF0 c2]) (fun j u hj=>by rw[xB0];simpa using p2 j u hj)⟩
  have hol:olds.length=sub.length * i.size:=by rw[p1.length,zF0 c2]
  have hrun:=run_append_grow_src (P:=P) w t tx ty e i z hut h1 h3 ad sub.length cap olds p2 x xs.length news hx (by omega) (by omega) (growslice_fits (by omega) hsz)
  have hge:=grownCap_ge w (sub.length+xs.length) cap e;have hnewSize:(w.drew.alloc (.cells ((olds++news).toArray++Builtin.zeroCells z.cells (grownCap w (sub.length+xs.length) cap e - (sub.length+xs.length))) e)).heap[w.heap.size]?=some (.cells ((olds++news).toArray++Builtin.zeroCells z.cells (grownCap w (sub.length+xs.length) cap e - (sub.length+xs.length))) e):=heap_alloc_new w.drew _;have hold:∀y,y < w.heap.size->(w.drew.alloc (.cells ((olds++news).toArray++Builtin.zeroCells z.cells (grownCap w (sub.length+xs.length) cap e - (sub.length+xs.length))) e)).heap[y]?=w.heap[y]?:=fun y hy=>zR0 w.drew _ y hy
  refine ⟨_,_,[w.heap.size],hrun,⟨some ⟨w.heap.size,0,none⟩,grownCap w (sub.length+xs.length) cap e,by simp,by simpa using hge,hall,.inr ⟨w.heap.size,0,_,e,(0,0),rfl,rfl,hnewSize,?_,fun y _ _=>by omega,?_⟩⟩,.inr rfl,fun y hy _=>hold y hy,rfl,rfl,rfl,by simp,fun _=>by simp⟩
  ·simp only[Array.size_append,List.size_toArray,List.length_append,size_zeroCells,hol,hnl,Nat.zero_add]
   have hz:z.cells.size=i.size:=by simpa using hzero
   rw[hz,<-Nat.add_mul,<-Nat.add_mul];have:sub.length+xs.length+(grownCap w (sub.length+xs.length) cap e - (sub.length+xs.length))=grownCap w (sub.length+xs.length) cap e:=by omega
   rw[this];exact Nat.le_refl _
  ·refine RepSE.ofFlat (us:=olds++news) (by rw[List.flatten_append];exact (p1.mono (fun _ h=>h) fun y hy=>hold y (hSz y hy)).append (hn.mono (fun _ h=>h) fun y hy=>hold y (hSz y hy))) fun j u hj=>?_
   simp only[World.cell?,hnewSize,Nat.zero_add,Option.isSome_none,Bool.false_eq_true,if_false];have:=(List.getElem?_eq_some_iff.1 hj).1;rw[Array.getElem?_append_left (by simpa using this)]
   simpa using hj
theorem RepL.oneCell {S:Nat->Prop} {w:World} {t:T} {u:Value} {own:List Nat} (h:RepL S w t u own):u.oneCell'=true:=by
 cases t with
 | lit v=>simp only[RepL] at h;obtain ⟨rfl,hl,_⟩:=h;cases u<;>first | rfl | simp[isLit] at hl
 | sl els=>simp only[RepL,RepS] at h;obtain ⟨⟨ad,cap,rfl,_⟩,_⟩:=h;rfl
 | own els=>simp only[RepL] at h;obtain ⟨ad,cap,rfl,_⟩:=h;rfl
theorem RepTL.one {S:Nat->Prop} {w:World}:∀{ts:List T} {us:List Value} {own:List Nat},RepTL S w ts us own->∀u∈us,u.oneCell'=true
 | [],_,_,h=>by rw[h.1];simp
 | t::ts,us,_,h=>by
  obtain ⟨u,us',o1,o2,rfl,_,h2,h3⟩:=h;intro x hx;rcases List.mem_cons.1 hx with rfl | hx
  ·exact RepL.oneCell h2
  ·exact RepTL.one h3 x hx
theorem RepTL.append {S:Nat->Prop} {w:World}:∀{t1 t2:List T} {u1 u2:List Value} {o1 o2:List Nat},RepTL S w t1 u1 o1->RepTL S w t2 u2 o2->RepTL S w (t1++t2) (u1++u2) (o1++o2)
 | [],t2,u1,u2,o1,o2,h1,h2=>by obtain ⟨rfl,rfl⟩:=h1;exact h2
 | t::t1,t2,u1,u2,o1,o2,h1,h2=>by
  obtain ⟨u,us',p1,p2,rfl,rfl,h3,h4⟩:=h1;exact ⟨u,us'++u2,p1,p2++o2,rfl,by simp,h3,RepTL.append h4 h2⟩
theorem RepTL.split {S:Nat->Prop} {w:World}:∀{t1 t2:List T} {us:List Value} {own:List Nat},RepTL S w (t1++t2) us own->∃u1 u2 o1 o2,us=u1++u2/\own=o1++o2/\RepTL S w t1 u1 o1/\RepTL S w t2 u2 o2
 | [],t2,us,own,h=>⟨[],us,[],own,rfl,rfl,⟨rfl,rfl⟩,h⟩
 | t::t1,t2,us,own,h=>by
  obtain ⟨u,us',p1,p2,rfl,rfl,h3,h4⟩:=h;obtain ⟨u1,u2,o1,o2,rfl,rfl,h5,h6⟩:=RepTL.split h4;exact ⟨u::u1,u2,p1++o1,o2,rfl,by simp,⟨u,u1,p1,o1,rfl,rfl,h3,h5⟩,h6⟩
theorem RepTs.toL {S:Nat->Prop} {w:World}:∀{ts:List T} {us:List Value},RepTs S w ts us->RepTL S w ts us []
 | [],_,h=>⟨h,rfl⟩
 | t::ts,us,h=>by
  obtain ⟨u,us',rfl,h2,h3⟩:=h;exact ⟨u,us',[],[],rfl,rfl,h2.toL,h3.toL⟩
theorem RepLC.flat {S:Nat->Prop} {w:World} {b:Nat}:∀{o:Nat} {cs:List T} {own:List Nat},RepLC S w b o cs own->∃us,RepTL S w cs us own/\∀j u,us[j]?=some u->w.cell? ⟨b,o+j,none⟩=some u
 | o,[],own,h=>⟨[],⟨rfl,by simpa only [RepLC] using h⟩,by simp⟩
 | o,c::cs,_,h=>by
  simp only[RepLC] at h;obtain ⟨u,o1,o2,rfl,h1,h2,h3⟩:=h;obtain ⟨us,h4,h5⟩:=RepLC.flat h3;refine ⟨u::us,⟨u,us,o1,o2,rfl,rfl,h2,h4⟩,fun j v hj=>?_⟩;cases j with
  | zero=>simp at hj;subst hj;exact h1
  | succ j=>simp at hj;have:=h5 j v hj;rwa[Nat.add_assoc,Nat.add_comm 1 j] at this
theorem RepLE.flat {S:Nat->Prop} {w:World} {b:Nat}:∀{o:Nat} {es:List (List T)} {own:List Nat},RepLE S w b o es own->∃us,RepTL S w es.flatten us own/\∀j u,us[j]?=some u->w.cell? ⟨b,o+j,none⟩=some u
 | o,[],own,h=>⟨[],⟨rfl,by simpa only [RepLE] using h⟩,by simp⟩
 | o,e::es,_,h=>by
  simp only[RepLE] at h;obtain ⟨o1,o2,rfl,h0,h9⟩:=h;obtain ⟨u1,h1,h2⟩:=RepLC.flat h0;obtain ⟨u2,h3,h4⟩:=RepLE.flat h9;refine ⟨u1++u2,h1.append h3,fun j v hj=>?_⟩
  by_cases hlt:j < u1.length
  ·rw[List.getElem?_append_left hlt] at hj
   exact h2 j v hj
  ·rw[List.getElem?_append_right (by omega)] at hj
   have:=h4 _ v hj;rw[<-h1.length] at this;rwa[show o+u1.length+(j - u1.length)=o+j by omega] at this
theorem RepLE.ofFlat {S:Nat->Prop} {w:World} {b:Nat}:∀{o:Nat} {es:List (List T)} {us:List Value} {own:List Nat},RepTL S w es.flatten us own->(∀j u,us[j]?=some u->w.cell? ⟨b,o+j,none⟩=some u)->RepLE S w b o es own
 | o,[],_,_,h,_=>by simp only[RepLE];exact h.2
 | o,e::es,us,_,h,hc=>by
  rw[List.flatten_cons] at h;obtain ⟨u1,u2,o1,o2,rfl,rfl,h1,h2⟩:=h.split;simp only[RepLE];refine ⟨o1,o2,rfl,RepTL.toLC (fun j v hj=>hc j v (by rw[List.getElem?_append_left (List.getElem?_eq_some_iff.1 hj).1];exact hj)) h1,RepLE.ofFlat h2 fun j v hj=>?_⟩
  have:=hc (u1.length+j) v (by rw[List.getElem?_append_right (by omega)];simpa using hj)
  rw[<-h1.length];rwa[<-Nat.add_assoc] at this
theorem mQ0 {S:Nat->Prop} {w:World} {t tx e ty:TypeId} {ti te:TI} (ht:tyOf P t=some ti) (hk:ti.tk=.slice e) (he:tyOf P e=some te)
  {sub xs:List (List T)} {v x:Value} {own:List Nat} {news:List Value} (hv:RepO S w true te.size sub v own) {ownx:List Nat} (hdis:∀b∈own,b∉ownx) (hS:∀b∈own,¬S b) (hSz:∀b,S b->b < w.heap.size) (hnd:own.Nodup) (hnx:ownx.Nodup) (hoz:∀b∈own,b < w.heap.size) (hxz:∀b∈ownx,b < w.heap.size)
  (hx:Src P te.size tx x xs.length news w) (hxs:∀y∈xs,y.length=te.size) (hn:RepTL S w xs.flatten news ownx)
  (hsz:(sub.length+xs.length) * te.bytes<=140737488355328) (h63:sub.length+xs.length<=9223372036854775807) :
  ∃v' w' own',(Builtin.append_ #[t,tx] ty #[v,x]).run P w=.ok v' w'/\RepO S w' true te.size (sub++xs) v' own'/\(∀b∈own',b∈own\/b∈ownx\/b=w.heap.size)/\own'.Nodup/\
   (∀b,b < w.heap.size->b∉own->w'.heap[b]?=w.heap[b]?)/\w'.os=w.os/\w'.tape=w.tape/\w'.output=w.output/\w.heap.size<=w'.heap.size/\(w.heap.size∈own'->w.heap.size < w'.heap.size):=by
 have hzero:=kX0 he;obtain ⟨i,d,z,h1,h2,h3,rfl⟩:=zM0 he;obtain ⟨it,dt,zt,k1,k2,k3,rfl⟩:=zM0 ht;simp only at hv hx hxs hsz hk hzero |-;have hut:P.underlying t=some (.slice e):=by cases dt<;>simp[tkOf] at hk;subst hk;exact k2
 obtain ⟨ad,cap,rfl,c1,c2,c3⟩:=hv;have hall:∀y∈sub++xs,y.length=i.size:=fun y hy=>by rcases List.mem_append.1 hy with hy | hy;exact c2 y hy;exact hxs y hy
 have hnl:=hx.newsLen
 by_cases hroom:sub.length+xs.length<=cap
 ·
  rcases c3 with ⟨rfl,rfl,rfl⟩ | ⟨b,o,arr,tyb,fz,n,rfl,rfl,g3,g4,g5,g6⟩
  ·simp at hroom
   subst hroom;simp at hnl;refine ⟨.slice ad 0 0,w,[],?_,⟨ad,0,rfl,Nat.le_refl _,by simp,.inl ⟨rfl,rfl,rfl⟩⟩,by simp,List.nodup_nil,fun _ _ _=>rfl,rfl,rfl,rfl,Nat.le_refl _,by simp⟩
   subst hnl;have hc0:(Builtin.firstCells i.size 0 x).run P w=.ok #[] w:=by simpa using hx.cells
   rcases hx.kind with ⟨e',hk'⟩ | hk'<;>(simp[Builtin.append_,run_underlying hut,run_underlying hk',sizeOf,typeInfo,h1,hx.len,hc0];cases ad<;>simp[storeCells])
  ·have hmul:(sub.length+xs.length) * i.size<=cap * i.size:=Nat.mul_le_mul_right _ hroom
   rw[Nat.add_mul] at hmul;have hst:=tX0 (P:=P) b (o+sub.length * i.size) tyb fz news 0 arr w g3 (by rw[hnl];omega) (fun y hy hy'=>g5 y (by omega) (by rw[hnl] at hy';omega)) hx.one
   simp only[Nat.add_zero] at hst;have hspl:o+sub.length * i.size+news.length<=arr.toList.length:=by rw[hnl];simp;omega
   have hcell:∀j,(w.setRow b (splice arr.toList (o+sub.length * i.size) news).toArray).cell? ⟨b,j,none⟩=if o+sub.length * i.size<=j/\j < o+sub.length * i.size+news.length then news[j - (o+sub.length * i.size)]? else w.cell? ⟨b,j,none⟩:=by
    intro j;simp only[World.cell?,setRow_heap w b arr _ tyb fz g3,g3,Option.isSome_none,Bool.false_eq_true,if_false];rw[<-Array.getElem?_toList,<-Array.getElem?_toList];exact xN0 hspl j
   have hother:∀y,y≠b->(w.setRow b (splice arr.toList (o+sub.length * i.size) news).toArray).heap[y]?=w.heap[y]?:=fun y hy=>setRow_other _ _ _ _ hy;have hSame:∀y,S y->(w.setRow b (splice arr.toList (o+sub.length * i.size) news).toArray).heap[y]?=w.heap[y]?:=fun y hy=>hother y (fun e=>hS b (by simp) (e ▸ hy))
   have hbn:=List.nodup_cons.1 hnd;have hbx:b∉ownx:=hdis b (by simp)
   obtain ⟨olds,p1,p2⟩:=g6.flat;have hol:olds.length=sub.length * i.size:=by rw[p1.length,zF0 c2]
   refine ⟨.slice (some ⟨b,o,none⟩) (sub.length+xs.length) cap,w.setRow b (splice arr.toList (o+sub.length * i.size) news).toArray,b::(n++ownx),?_,⟨_,cap,by simp,by simpa using hroom,hall,.inr ⟨b,o,_,tyb,fz,n++ownx,rfl,rfl,setRow_heap w b arr _ tyb fz g3,?_,g5,?_⟩⟩,?_,?_,
    fun y _ hy=>hother y (fun e=>hy (by simp[e])),rfl,rfl,rfl,by rw[setRow_size];exact Nat.le_refl _,fun e=>?_⟩
   ·rcases hx.kind with ⟨e',hk'⟩ | hk'<;>simp[Builtin.append_,run_underlying hut,run_underlying hk',sizeOf,typeInfo,h1,hx.len,hroom,hx.cells,Addr.add_lit,hst]
   ·have:=zX0 hspl
    simpa [this] using g4
   ·refine RepLE.ofFlat (us:=olds++news) (by rw[List.flatten_append];exact (p1.mono (fun _ h=>h) hSame (fun x hx=>hother x (fun e=>hbn.1 (e ▸ hx)))).append (hn.mono (fun _ h=>h) hSame (fun x hx=>hother x (fun e=>hbx (e ▸ hx))))) fun j u hj=>?_
    rw[hcell]
    by_cases hlt:j < olds.length
    ·rw[List.getElem?_append_left hlt] at hj
     rw[if_neg (by omega)]
     exact p2 j u hj
    ·rw[List.getElem?_append_right (by omega)] at hj
     have:=(List.getElem?_eq_some_iff.1 hj).1;rw[if_pos (by omega),<-hj]
     congr 1
     omega
   ·intro x h
    simp only[List.mem_cons,List.mem_append] at h |-;rcases h with h | h | h<;>simp[h]
   ·exact List.nodup_cons.2 ⟨fun h=>(List.mem_append.1 h).elim hbn.1 hbx,List.nodup_append.2 ⟨hbn.2,hnx,fun x hx y hy e=>hdis x (by simp[hx]) (e ▸ hy)⟩⟩
   ·rcases List.mem_cons.1 e with e | e
    ·have:=hoz b (by simp)
     omega
    ·rcases List.mem_append.1 e with e | e
     ·have:=hoz _ (List.mem_cons_of_mem _ e);omega
     ·have:=hxz _ e;omega
 ·
  obtain ⟨olds,n,p1,hn1,hn2,p2⟩:∃olds n,RepTL S w sub.flatten olds n/\(∀b∈n,b∈own)/\n.Nodup/\(Builtin.firstCells i.size sub.length (.slice ad sub.length cap)).run P w.drew=.ok olds.toArray w.drew:=by
   rcases c3 with ⟨rfl,rfl,rfl⟩ | ⟨b,o,arr,tyb,fz,n,rfl,rfl,g3,g4,g5,g6⟩
   ·refine ⟨[],[],⟨rfl,rfl⟩,by simp,List.nodup_nil,?_⟩
    cases ad<;>simp[Builtin.firstCells,loadCells,loadCellsFrom]
   ·obtain ⟨olds,p1,p2⟩:=g6.flat
    exact ⟨olds,n,p1,fun x hx=>by simp[hx],(List.nodup_cons.1 hnd).2,run_firstCells_some w.drew i.size sub.length _ _ _ olds (by rw[p1.length,zF0 c2]) (fun j u hj=>by rw[xB0];simpa using p2 j u hj)⟩
  have hol:olds.length=sub.length * i.size:=by rw[p1.length,zF0 c2]
  have hrun:=run_append_grow_src (P:=P) w t tx ty e i z hut h1 h3 ad sub.length cap olds p2 x xs.length news hx (by omega) (by omega) (growslice_fits (by omega) hsz)
  have hge:=grownCap_ge w (sub.length+xs.length) cap e;have hnewSize:(w.drew.alloc (.cells ((olds++news).toArray++Builtin.zeroCells z.cells (grownCap w (sub.length+xs.length) cap e - (sub.length+xs.length))) e)).heap[w.heap.size]?=some (.cells ((olds++news).toArray++Builtin.zeroCells z.cells (grownCap w (sub.length+xs.length) cap e - (sub.length+xs.length))) e):=heap_alloc_new w.drew _;have hold:∀y,y < w.heap.size->(w.drew.alloc (.cells ((olds++news).toArray++Builtin.zeroCells z.cells (grownCap w (sub.length+xs.length) cap e - (sub.length+xs.length))) e)).heap[y]?=w.heap[y]?:=fun y hy=>zR0 w.drew _ y hy
  refine ⟨_,_,w.heap.size::(n++ownx),hrun,⟨some ⟨w.heap.size,0,none⟩,grownCap w (sub.length+xs.length) cap e,by simp,by simpa using hge,hall,.inr ⟨w.heap.size,0,_,e,(0,0),n++ownx,rfl,rfl,hnewSize,?_,fun y _ _=>by omega,?_⟩⟩,?_,?_,fun y hy _=>hold y hy,rfl,rfl,rfl,by simp,fun _=>by simp⟩
  ·simp only[Array.size_append,List.size_toArray,List.length_append,size_zeroCells,hol,hnl,Nat.zero_add]
   have hz:z.cells.size=i.size:=by simpa using hzero
   rw[hz,<-Nat.add_mul,<-Nat.add_mul];have:sub.length+xs.length+(grownCap w (sub.length+xs.length) cap e - (sub.length+xs.length))=grownCap w (sub.length+xs.length) cap e:=by omega
   rw[this];exact Nat.le_refl _
  ·refine RepLE.ofFlat (us:=olds++news) (by rw[List.flatten_append];exact (p1.mono (fun _ h=>h) (fun y hy=>hold y (hSz y hy)) (fun x hx=>hold x (hoz x (hn1 x hx)))).append (hn.mono (fun _ h=>h) (fun y hy=>hold y (hSz y hy)) (fun x hx=>hold x (hxz x hx)))) fun j u hj=>?_
   simp only[World.cell?,hnewSize,Nat.zero_add,Option.isSome_none,Bool.false_eq_true,if_false];have:=(List.getElem?_eq_some_iff.1 hj).1;rw[Array.getElem?_append_left (by simpa using this)]
   simpa using hj
  ·intro x h
   simp only[List.mem_cons,List.mem_append] at h |-;rcases h with h | h | h
   ·simp[h]
   ·exact .inl (hn1 x h)
   ·simp[h]
  ·refine List.nodup_cons.2 ⟨fun h=>?_,List.nodup_append.2 ⟨hn2,hnx,fun x hx y hy e=>hdis x (hn1 x hx) (e ▸ hy)⟩⟩
   rcases List.mem_append.1 h with h | h
   ·have:=hoz _ (hn1 _ h);omega
   ·have:=hxz _ h;omega
def isL:T->Bool | .lit _=>true | _=>false
def vV1:A->Bool | .ro false _=>true | _=>false
theorem RepSC.lits {S S':Nat->Prop} {w:World} {b:Nat}:∀{o:Nat} {cs:List T},(∀t∈cs,isL t=true)->RepSC S w b o cs->RepSC S' w b o cs
 | _,[],_,_=>by simp only[RepSC]
 | o,c::cs,hl,h=>by
  simp only[RepSC] at h |-;obtain ⟨⟨u,h1,h2⟩,h3⟩:=h;have hc:=hl c (List.mem_cons_self);refine ⟨⟨u,h1,?_⟩,RepSC.lits (fun t ht=>hl t (List.mem_cons_of_mem _ ht)) h3⟩;cases c with
  | lit v=>simpa only [RepS] using h2
  | sl els=>simp[isL] at hc
  | own els=>simp[isL] at hc
theorem RepSE.lits {S S':Nat->Prop} {w:World} {b:Nat}:∀{o:Nat} {es:List (List T)},(∀y∈es,∀t∈y,isL t=true)->RepSE S w b o es->RepSE S' w b o es
 | _,[],_,_=>by simp only[RepSE]
 | o,e::es,hl,h=>by
  simp only[RepSE] at h |-;exact ⟨RepSC.lits (hl e (List.mem_cons_self)) h.1,RepSE.lits (fun y hy=>hl y (List.mem_cons_of_mem _ hy)) h.2⟩
def rG0 (P:Program) (σ:AS) (tx:TypeId) (size:Nat) (x:AV):Option (List (List T)):=
 (tyOf P tx).bind fun ti=>match ti.tk,x with
  | .slice _,⟨.one,[c]⟩=>(σ.els c).bind fun xs=>if (∀y∈xs,y.length=size)/\(vV1 c=true->∀y∈xs,∀t∈y,isL t=true) then some xs else none
  | .str,⟨.one,[.lit (.string s)]⟩=>if size=1 then some (s.data.toList.map fun b=>[T.lit (.int .u8 b.toNat)]) else none
  | _,_=>none
def yN0 (σ:AS) (size:Nat):A->Option ((Bool×List (List T))×AS)
 | .nil=>some ((false,[]),σ)
 | .sref r c g lo len=>(σ.ad? r c g).bind fun p=>if p.2.1=size then some ((p.1,(p.2.2.drop lo).take len),σ.setCell r c .dead) else none
 | _=>none
def wH0 (P:Program) (σ:AS) (tx:TypeId) (size:Nat):AV->Option (List (List T)×AS)
 | ⟨.one,[.sref r c g lo len]⟩=>match σ.ad? r c g with
  | some (true,k,els)=>(tyOf P tx).bind fun ti=>match ti.tk with
   | .slice _=>if k=size then some ((els.drop lo).take len,σ.setCell r c .dead) else none
   | _=>none
  | _=>none
 | _=>none
def tU0 (P:Program) (i:Nat) (σ:AS) (args:Array Operand) (argTypes:Array TypeId):Option (AV×AS):=
 match args.toList,argTypes.toList with
 | [s,x],[t,tx]=>(tyOf P t).bind fun ti=>match ti.tk with
  | .slice e=>(tyOf P e).bind fun te=>opt2 (σ.ev s) (σ.ev x) fun s x=>match s with
   | ⟨.one,[c]⟩=>match wH0 P σ tx te.size x with
    | some y=>(yN0 y.2 te.size c).bind fun b=>
     if (b.1.2.length+y.1.length) * te.bytes<=140737488355328/\b.1.2.length+y.1.length<=9223372036854775807 then some (one (.ow (σ.epoch,i) true te.size (b.1.2++y.1)),b.2) else none
    | none=>opt2 (rG0 P σ tx te.size x) (yN0 σ te.size c) fun xs b=>
     if (b.1.2.length+xs.length) * te.bytes<=140737488355328/\b.1.2.length+xs.length<=9223372036854775807 then some (one (.ow (σ.epoch,i) b.1.1 te.size (b.1.2++xs)),b.2) else none
   | _=>none
  | _=>none
 | _,_=>none
theorem src_ok {C:Ctx} {X:List Nat} {σ:AS} {a:Act} {w:World} {S L:Nat->Prop} {bl:List Bk} {O1 O2:List Nat} (h:InvAt C X σ a w S L bl O1 O2) {tx:TypeId} {size:Nat} {xo:Operand} {x:AV} {xs:List (List T)}
  (hxe:σ.ev xo=some x) (hs:rG0 P σ tx size x=some xs):(∀y∈xs,y.length=size)/\∃news,Src P size tx (a.eval xo) xs.length news w/\RepTs S w xs.flatten news:=by
 simp only[rG0,Option.bind_eq_some_iff] at hs;obtain ⟨ti,ht,hs⟩:=hs;obtain ⟨it,dt,zt,k1,k2,k3,rfl⟩:=zM0 ht;have he:=h.ev hxe
 split at hs<;>try (simp at hs;done)
 ·rename_i e' c hk
  simp only[Option.bind_eq_some_iff] at hs;obtain ⟨xs',hxs,hs⟩:=hs;obtain ⟨⟨hall,hlent⟩,rfl⟩:=zQ0 hs;have hut:P.underlying tx=some (.slice e'):=by simp only at hk;cases dt<;>simp[tkOf] at hk;subst hk;exact k2
  refine ⟨hall,?_⟩;obtain ⟨r1,_⟩:=he.cell;have hslice:∃ad cap,a.eval xo=.slice ad xs'.length cap/\(xs'≠[]->∃b o,ad=some ⟨b,o,none⟩/\RepSE S w b o xs'):=by
   cases c<;>simp only[AS.els,reduceCtorEq] at hxs
   ·simp at hxs;subst hxs;obtain ⟨⟨ad,hv⟩,_⟩:=r1;exact ⟨ad,0,by simpa using hv,by simp⟩
   ·rename_i st els
    simp only[Option.some.injEq] at hxs;subst hxs;obtain ⟨r1,_⟩:=r1;simp only[RepS] at r1;obtain ⟨ad,cap,h1,h2,h3⟩:=r1;refine ⟨ad,cap,h1,fun hne=>?_⟩;obtain ⟨b,o,e1,e2,e3⟩:=h3 hne;refine ⟨b,o,e1,?_⟩
    rename Bool=>bst
    cases hst:bst with
    | true=>rw[hst] at e3;exact e3
    | false=>rw[hst] at e3 hlent;exact RepSE.lits (hlent rfl) e3
   ·simp only[Option.map_eq_some_iff] at hxs
    obtain ⟨⟨k,els⟩,hat,rfl⟩:=hxs;have hcell:=AS.at?_some hat;obtain ⟨hlo,ad,cap,xx,e1,e2,e3⟩:=r1.2.2 false k els hcell;obtain ⟨u0,o,q1,q2,q3⟩:=h.peek hcell;rw[e1] at q1;simp at q1;subst q1;obtain ⟨own',s1,s2⟩:=RepO.sub (show RepO S w false k els _ o from q2) hlo e3
    obtain ⟨ad',cap',m1,m2,m3,m4⟩:=s1;rw[e2,m1];refine ⟨ad',cap',rfl,fun hne=>?_⟩;rcases m4 with ⟨_,h0,_⟩ | ⟨b,o,arr,ty,fz,rfl,_,_,_,_,g6⟩
    ·exact absurd h0 hne
    ·exact ⟨b,o,rfl,g6⟩
  obtain ⟨ad,cap,hv,hne⟩:=hslice
  by_cases h0:xs'=[]
  ·subst h0
   refine ⟨[],?_,rfl⟩;rw[hv];cases ad with
   | none=>exact Src.ofNil w hut cap
   | some ad=>exact Src.ofSlice w hut ad 0 cap [] (by simp) (by simp) (by simp)
  ·obtain ⟨b,o,rfl,hE⟩:=hne h0
   obtain ⟨us,p1,p2⟩:=hE.flat;refine ⟨us,?_,p1⟩;rw[hv];exact Src.ofSlice w hut ⟨b,o,none⟩ xs'.length cap us (by rw[p1.length,zF0 hall]) (fun j u hj=>by rw[xB0];exact p2 j u hj) p1.one
 ·rename_i s hk
  obtain ⟨rfl,rfl⟩:=zQ0 hs;have hut:P.underlying tx=some .string:=by simp only at hk;cases dt<;>simp[tkOf] at hk;exact k2
  obtain ⟨ex,_,_⟩:=he.lit? (x:=.string s) rfl;refine ⟨by simp,byteCells s,?_,?_⟩
  ·rw[ex]
   have:=Src.ofString (P:=P) w hut s;have hl:(s.data.toList.map fun b=>[T.lit (.int .u8 b.toNat)]).length=s.size:=by rw[List.length_map,Array.length_toList];rfl
   rw[hl];exact this
  ·unfold byteCells
   generalize s.data.toList=l
   induction l with
   | nil=>rfl
   | cons b l ih=>exact ⟨_,_,rfl,by simp[RepS,isLit],ih⟩
theorem kY0 {C:Ctx} {X:List Nat} {σ σ':AS} {a:Act} {w:World} {S L:Nat->Prop} {bl:List Bk} {O1 O2:List Nat} {i:Nat} (h:InvAt C X σ a w S L bl O1 O2) (hf:Fresh σ (σ.epoch,i)) {size:Nat} {c:A} {v:Value} {d:Bool} {sub:List (List T)}
  (hr:RepA ⟨S,L,bl,a,w,σ.cell⟩ c v []) (hs:yN0 σ size c=some ((d,sub),σ')) :
  ∃O1' O2' own,InvAt C X σ' a w S L bl O1' O2'/\RepO S w d size sub v own/\Fresh σ' (σ.epoch,i)/\σ'.epoch=σ.epoch/\own.Nodup/\(∀b∈own,b∈O1++O2/\b∉O1'++O2'/\¬L b/\(b∈C.O0\/C.w0.heap.size<=b))/\(∀b∈O1'++O2',b∈O1++O2):=by
 cases c<;>simp only[yN0,reduceCtorEq] at hs
 ·simp at hs
  obtain ⟨⟨rfl,rfl⟩,rfl⟩:=hs;obtain ⟨⟨ad,rfl⟩,_⟩:=hr;exact ⟨O1,O2,[],h,⟨ad,0,by simp,by simp,by simp,.inl ⟨rfl,rfl,rfl⟩⟩,hf,rfl,List.nodup_nil,by simp,fun _ h=>h⟩
 ·rename_i r x g lo len
  simp only[Option.bind_eq_some_iff] at hs;obtain ⟨⟨d',k,els⟩,hat,hs1⟩:=hs;obtain ⟨hk,hs2⟩:=zQ0 hs1;clear hs1;simp only[Prod.mk.injEq] at hk hs2;subst hk;obtain ⟨⟨rfl,rfl⟩,rfl⟩:=hs2;have hcell:=AS.ad?_some hat;obtain ⟨hlo,ad,cap,xx,e1,e2,e3⟩:=hr.2.2 d' k els hcell;obtain ⟨u0,o,k1,k2,k3,k4,k5⟩:=h.recell hcell hf;rw[e1] at k1;simp at k1;subst k1;obtain ⟨O1a,O2a,ha,hmem⟩:=k5 S L w .dead [] (fun _ h=>h) (fun _ h=>h) h.sl (fun b hb=>.inl hb) (fun b hb=>.inl hb) (by simp) (.inr rfl) (fun _ _ _=>rfl) h.keeps (Nat.le_refl _) ⟨rfl,RepA.oneC k2⟩
   (fun g hg=>by simp[A.stamp] at hg) (fun g d k els' he=>by simp at he)
  obtain ⟨own',s1,s2⟩:=RepO.sub (show RepO S w d' k els _ o from k2) hlo e3
  have hown:∀b∈own',b∈o:=fun b hb=>s2.subset hb;refine ⟨O1a,O2a,own',ha,by rw[e2];exact s1,hf.setDead rfl,yR0,k3.sublist s2,fun b hb=>⟨k4 b (hown b hb),fun hx=>?_,fun hS=>(h.stable b hS).2 (k4 b (hown b hb)),h.own b (k4 b (hown b hb))⟩,fun b hb=>?_⟩
  ·have:=(hmem b).1 hx
   simp at this;exact this.2 (hown b hb)
  ·have:=(hmem b).1 hb
   simp at this;simpa using this.1
theorem NE0 {C:Ctx} {X:List Nat} {σ σ':AS} {a:Act} {w:World} {S L:Nat->Prop} {bl:List Bk} {O1 O2:List Nat} {i:Nat} (h:InvAt C X σ a w S L bl O1 O2) (hf:Fresh σ (σ.epoch,i)) {tx:TypeId} {size:Nat} {xo:Operand} {x:AV} {xs:List (List T)}
  (hxe:σ.ev xo=some x) (hs:wH0 P σ tx size x=some (xs,σ')) :
  (∀y∈xs,y.length=size)/\∃O1' O2' own news,InvAt C X σ' a w S L bl O1' O2'/\Src P size tx (a.eval xo) xs.length news w/\RepTL S w xs.flatten news own/\Fresh σ' (σ.epoch,i)/\σ'.epoch=σ.epoch/\own.Nodup/\
   (∀b∈own,b∈O1++O2/\b∉O1'++O2'/\¬L b/\(b∈C.O0\/C.w0.heap.size<=b))/\(∀b∈O1'++O2',b∈O1++O2)/\Env.Le none ⟨S,L,bl,a,w,σ.cell⟩ ⟨S,L,bl,a,w,σ'.cell⟩:=by
 unfold wH0 at hs
 split at hs<;>try (simp at hs;done)
 rename_i r c g lo len
 split at hs<;>try (simp at hs;done)
 rename_i k els hat;simp only[Option.bind_eq_some_iff] at hs;obtain ⟨ti,ht,hs⟩:=hs
 split at hs<;>try (simp at hs;done)
 rename_i e hk;obtain ⟨rfl,hs2⟩:=zQ0 hs;simp only[Prod.mk.injEq] at hs2;obtain ⟨rfl,rfl⟩:=hs2;obtain ⟨it,dt,zt,t1,t2,t3,rfl⟩:=zM0 ht;have hut:P.underlying tx=some (.slice e):=by simp only at hk;cases dt<;>simp[tkOf] at hk;subst hk;exact t2
 have hcell:=AS.ad?_some hat;obtain ⟨hr,_⟩:=(h.ev hxe).cell;obtain ⟨hlo,ad,cap,xx,e1,e2,e3⟩:=hr.2.2 true k els hcell;obtain ⟨u0,o,k1,k2,k3,k4,k5⟩:=h.recell hcell hf;rw[e1] at k1;simp at k1;subst k1;obtain ⟨O1a,O2a,ha,hmem⟩:=k5 S L w .dead [] (fun _ h=>h) (fun _ h=>h) h.sl (fun b hb=>.inl hb) (fun b hb=>.inl hb) (by simp) (.inr rfl) (fun _ _ _=>rfl) h.keeps (Nat.le_refl _) ⟨rfl,RepA.oneC k2⟩
  (fun g hg=>by simp[A.stamp] at hg) (fun g d k els' he=>by simp at he)
 obtain ⟨own',s1,s2⟩:=RepO.sub (show RepO S w true k els _ o from k2) hlo e3
 obtain ⟨ad',cap',m1,m2,m3,m4⟩:=s1;have hx:∃own news,(∀b∈own,b∈own')/\own.Nodup/\Src P k tx (a.eval xo) ((els.drop lo).take len).length news w/\RepTL S w ((els.drop lo).take len).flatten news own:=by
  rw[e2,m1];rcases m4 with ⟨_,h0,_⟩ | ⟨b,ob,arr,ty,fz,n,rfl,rfl,_,_,_,g6⟩
  ·rw[h0]
   refine ⟨[],[],by simp,List.nodup_nil,?_,⟨rfl,rfl⟩⟩
   cases ad' with
   | none=>exact Src.ofNil w hut cap'
   | some ad'=>exact Src.ofSlice w hut ad' 0 cap' [] (by simp) (by simp) (by simp)
  ·obtain ⟨us,p1,p2⟩:=g6.flat
   exact ⟨n,us,fun x hx=>by simp[hx],((List.nodup_cons.1 (k3.sublist s2))).2,Src.ofSlice w hut ⟨b,ob,none⟩ _ cap' us (by rw[p1.length,zF0 m3]) (fun j u hj=>by rw[xB0];exact p2 j u hj) p1.one,p1⟩
 obtain ⟨own,news,q1,q2,q3,q4⟩:=hx;have hown:∀b∈own,b∈o:=fun b hb=>s2.subset (q1 b hb);refine ⟨m3,O1a,O2a,own,news,ha,q3,q4,hf.setDead rfl,yR0,q2,fun b hb=>⟨k4 b (hown b hb),fun hx=>?_,fun hS=>(h.stable b hS).2 (k4 b (hown b hb)),h.own b (k4 b (hown b hb))⟩,fun b hb=>?_,fQ0 hcell⟩
 ·have:=(hmem b).1 hx
  simp at this;exact this.2 (hown b hb)
 ·have:=(hmem b).1 hb
  simp at this;simpa using this.1
theorem DU0 {C:Ctx} {i:Nat} {dst:Option Tmp} {σ σ1:AS} {av:AV} {args:Array Operand} {argTypes:Array TypeId} (hx:tU0 P i σ args argTypes=some (av,σ1)) :
  OpOk P C i (.call { callee:=.builtin .append,args,argTypes }) dst σ av σ1:=by
 rintro X a w ⟨S,L,bl,O1,O2,h⟩ hi type pos after guard;have h':=h.mono (fun x hx=>List.mem_cons_of_mem i hx);unfold tU0 at hx
 split at hx<;>try (simp at hx;done)
 rename_i s x t tx hargs htys;simp only[Option.bind_eq_some_iff] at hx;obtain ⟨ti,ht,hx⟩:=hx
 split at hx<;>try (simp at hx;done)
 rename_i e hk;simp only[Option.bind_eq_some_iff] at hx;obtain ⟨te,he,hx⟩:=hx;obtain ⟨s',x',hse,hxe,hx'⟩:=zU0 hx;clear hx
 split at hx'<;>try (simp at hx';done)
 rename_i c;have hargs':args=#[s,x]:=by cases args;simp at hargs;subst hargs;rfl
 have htys':argTypes=#[t,tx]:=by cases argTypes;simp at htys;subst htys;rfl
 have fin:∀(σ':AS) (O1' O2' gone own':List Nat) (v':Value) (w':World) (d:Bool) (els:List (List T)),InvAt C (i::X) σ' a w S L bl O1' O2'->Fresh σ' (σ.epoch,i)->σ'.epoch=σ.epoch->(∀b∈gone,b∈O1++O2/\b∉O1'++O2'/\¬L b/\(b∈C.O0\/C.w0.heap.size<=b))->(∀b∈O1'++O2',b∈O1++O2)->
   (Builtin.append_ #[t,tx] type #[a.eval s,a.eval x]).run P w=.ok v' w'->RepO S w' d te.size els v' own'->(∀b∈own',b∈gone\/b=w.heap.size)->own'.Nodup->(∀b,b < w.heap.size->b∉gone->w'.heap[b]?=w.heap[b]?)->w'.os=w.os->w'.tape=w.tape->w'.output=w.output->w.heap.size<=w'.heap.size->
   ∃n v w',(execOp a.eval ⟨dst,.call { callee:=.builtin .append,args,argTypes },type,pos,after,guard⟩).run P w=.ok n w'/\(n=.value v\/(n=.skip/\v=undef))/\Inv C (i::X) (σ'.putO dst (one (.ow (σ.epoch,i) d te.size els))) (a.put dst v) w':=by
  intro σ' O1' O2' gone own' v' w' d els g1 g3 g4 g6 g7 r1 r2 r3 rn r4 r5 r6 r7 r8;have hlt:∀b∈O1'++O2',b < w.heap.size:=fun b hb=>h.own_lt (g7 b hb);have g1':=g1.world (w':=w') (fun b hb=>by
    rcases hb with hb | hb
    ·exact r4 b (h.stable b hb).1 (fun hm=>(g6 b hm).2.2.1 hb)
    ·exact r4 b (hlt b hb) (fun hm=>(g6 b hm).2.1 hb))
   ⟨r5.trans h.keeps.os,r6.trans h.keeps.tape,r7.trans h.keeps.output,Nat.le_trans h.keeps.size r8,fun b hb hn=>by
    rw[r4 b (Nat.lt_of_lt_of_le hb h.keeps.size) (fun hm=>by rcases (g6 b hm).2.2.2 with h1 | h1;exact hn h1;omega)]
    exact h.keeps.block b hb hn⟩ r8
  have hv1:isTuple v'=false/\yV0 v'=false:=by obtain ⟨ad,cap,rfl,_⟩:=RepO.head r2;exact ⟨rfl,rfl⟩
  refine ⟨_,v',w',?_,.inl rfl,g1'.done (i:=i) (o':=own') (by rw[g4];exact g3) ⟨hv1,by rw[yQ0 hv1];exact ⟨v',[],own',[],rfl,by simp,r2,rfl,rfl⟩⟩ (fun c hc=>by simp[one] at hc;subst hc;exact .inl rfl)
   (fun c hc g hg=>by simp[one] at hc;subst hc;simp[A.stamp] at hg;subst hg;rw[g4];exact .inr ⟨rfl,by simp⟩) (fun g d k els hm=>by simp[one] at hm;rw[g4];exact hm.1) rn ?_⟩
  ·subst hargs';subst htys'
   simp only[execOp,resolve,pure_bind,invoke,builtin,Sem.run_bind];simp[r1]
  ·intro b hb
   rcases r3 b hb with hb | rfl
   ·exact (g6 b hb).2
   ·exact ⟨fun hm=>by have:=hlt _ hm;omega,fun hS=>by have:=(h.stable _ hS).1;omega,.inr h.keeps.size⟩
 split at hx'
 ·rename_i y hsrc
  obtain ⟨xs,σs⟩:=y;simp only[Option.bind_eq_some_iff] at hx';obtain ⟨⟨⟨d,sub⟩,σ'⟩,hbase,hx⟩:=hx';obtain ⟨⟨hsz,h63⟩,hx⟩:=zQ0 hx;simp only[Prod.mk.injEq] at hx;obtain ⟨rfl,rfl⟩:=hx;obtain ⟨hall,O1s,O2s,ownx,news,s1,hnews,hts,s2,s3,s4,s5,s6,s7⟩:=NE0 (P:=P) h' (h.fresh hi) hxe hsrc;obtain ⟨O1',O2',own,g1,g2,g3,g4,g5,g6,g7⟩:=kY0 s1 (i:=i) (by rw[s3];exact s2) (RepA.go s7 (fun _ hb=>by simp at hb) (by cases c.rstamp<;>simp) (h.ev hse).cell.1) hbase
  have g2':RepO S w true te.size sub (a.eval s) own:=by
   cases d
   ·exact RepO.deep g2
   ·exact g2
  obtain ⟨v',w',own',r1,r2,r3,rn,r4,r5,r6,r7,r8,r9⟩:=mQ0 (P:=P) (ty:=type) ht hk he g2' (fun b hb hm=>(s5 b hm).2.1 (g6 b hb).1) (fun b hb hS=>(g6 b hb).2.2.1 (h.sl b hS)) (fun b hb=>(h.stable b (h.sl b hb)).1) g5 s4 (fun b hb=>s1.own_lt (g6 b hb).1) (fun b hb=>h.own_lt (s5 b hb).1) hnews hall hts hsz h63;exact fin σ' O1' O2' (own++ownx) own' v' w' true (sub++xs) g1 (by rw[<-s3];exact g3) (g4.trans s3) (fun b hb=>by
   rcases List.mem_append.1 hb with hb | hb
   ·exact ⟨s6 b (g6 b hb).1,(g6 b hb).2⟩
   ·exact ⟨(s5 b hb).1,fun hm=>(s5 b hb).2.1 (g7 b hm),(s5 b hb).2.2⟩) (fun b hb=>s6 b (g7 b hb)) r1 r2 (fun b hb=>by
   rcases r3 b hb with h | h | h<;>simp[h]) rn (fun b hb hn=>r4 b hb (fun hm=>hn (by simp[hm]))) r5 r6 r7 r8
 ·obtain ⟨xs,⟨⟨d,sub⟩,σ'⟩,hsrc,hbase,hx⟩:=zU0 hx'
  obtain ⟨⟨hsz,h63⟩,hx⟩:=zQ0 hx;simp only[Prod.mk.injEq] at hx;obtain ⟨rfl,rfl⟩:=hx;obtain ⟨hall,news,hnews,hts⟩:=src_ok (P:=P) h' hxe hsrc;obtain ⟨O1',O2',own,g1,g2,g3,g4,g5,g6,g7⟩:=kY0 h' (i:=i) (h.fresh hi) (h.ev hse).cell.1 hbase;cases d
  ·obtain ⟨v',w',own',r1,r2,r3,r4,r5,r6,r7,r8,r9⟩:=TV0 (P:=P) (ty:=type) ht hk he g2 (fun b hb hS=>(g6 b hb).2.2.1 (h.sl b hS)) (fun b hb=>(h.stable b (h.sl b hb)).1) hnews hall hts hsz h63
   exact fin σ' O1' O2' own own' v' w' false (sub++xs) g1 g3 g4 g6 g7 r1 r2 (fun b hb=>by
    rcases r3 with rfl | rfl
    ·exact .inl hb
    ·exact .inr (by simpa using hb)) (by rcases r3 with rfl | rfl;exact g5;simp) (fun b hb hn=>r4 b hb hn) r5 r6 r7 r8
  ·obtain ⟨v',w',own',r1,r2,r3,rn,r4,r5,r6,r7,r8,r9⟩:=mQ0 (P:=P) (ty:=type) ht hk he g2 (ownx:=[]) (by simp) (fun b hb hS=>(g6 b hb).2.2.1 (h.sl b hS)) (fun b hb=>(h.stable b (h.sl b hb)).1) g5 List.nodup_nil (fun b hb=>h.own_lt (g6 b hb).1) (by simp) hnews hall hts.toL hsz h63
   exact fin σ' O1' O2' own own' v' w' true (sub++xs) g1 g3 g4 g6 g7 r1 r2 (fun b hb=>by
    rcases r3 b hb with h | h | h
    ·exact .inl h
    ·simp at h
    ·exact .inr h) rn (fun b hb hn=>r4 b hb hn) r5 r6 r7 r8
end
end Go.Av
