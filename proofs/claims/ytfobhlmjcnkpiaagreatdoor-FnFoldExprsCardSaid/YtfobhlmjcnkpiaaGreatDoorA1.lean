/- Part A1 of the proof: Avs, part 1: pure data trees and how they stand in the heap. / Avs, part 2: abstract states and how they stand in a frame and the heap. / Which blocks hold tables of Gos library by the seat: the powers of ten. / Avs, part 3: the invariant of a frame, and the changes under which it stands. / Avs, part 4: a roots cell is changed in place. / Avs, part 5: types as the abstract operations see them operands. / Avs, part 6: operations that turn nothing but the slot that they write. / Avs, part 7: readi -/
import Derived.Calls
import Derived.Orders
import Derived.RowKit3
import Derived.Laws.OwnMore
import Derived.Below
import Derived.Lib.ItoaNum
import Derived.ChangeKeysEq
import Derived.Laws.StructEq
set_option linter.all false
/- Avs, part 1: pure data trees and how they stand in the heap. -/
namespace Go.Av
def isLit:Value->Bool
 | .bool _ | .int _ _ | .float _ _ | .complex _ _ _ | .string _ | .nilFunc | .nilIface | .pointer none | .map none | .chan none=>true
 | _=>false
inductive T where
 | lit (v:Value)
 | sl (els:List (List T))
 | own (els:List (List T))
 deriving Inhabited
mutual
def RepS (S:Nat->Prop) (w:World):T->Value->Prop
 | .lit v,u=>u=v/\isLit v=true
 | .sl els,u=>∃ad cap,u=.slice ad els.length cap/\els.length<=cap/\
   (els≠[]->∃b o,ad=some ⟨b,o,none⟩/\S b/\RepSE S w b o els)
 | .own _,_=>False
def RepSC (S:Nat->Prop) (w:World) (b:Nat):Nat->List T->Prop
 | _,[]=>True
 | o,c::cs=>(∃u,w.cell? ⟨b,o,none⟩=some u/\RepS S w c u)/\RepSC S w b (o+1) cs
def RepSE (S:Nat->Prop) (w:World) (b:Nat):Nat->List (List T)->Prop
 | _,[]=>True
 | o,e::es=>RepSC S w b o e/\RepSE S w b (o+e.length) es
end
theorem cell?_congr {w w':World} {b:Nat} (h:w'.heap[b]?=w.heap[b]?) (o:Nat):w'.cell? ⟨b,o,none⟩=w.cell? ⟨b,o,none⟩:=
 World.cell?_of_block (w:=w) h
mutual
theorem RepS.mono {S S':Nat->Prop} {w w':World} (hS:∀b,S b->S' b) (hw:∀b,S b->w'.heap[b]?=w.heap[b]?) :
  ∀(t:T) (u:Value),RepS S w t u->RepS S' w' t u
 | .lit v,u,h=>by simpa only [RepS] using h
 | .sl els,u,h=>by
  simp only[RepS] at h |-;obtain ⟨ad,cap,h1,h2,h3⟩:=h;refine ⟨ad,cap,h1,h2,fun hne=>?_⟩;obtain ⟨b,o,hb,hs,hr⟩:=h3 hne;exact ⟨b,o,hb,hS b hs,RepSE.mono hS hw b (hw b hs) o els hr⟩
 | .own _,_,h=>by simp only[RepS] at h
theorem RepSC.mono {S S':Nat->Prop} {w w':World} (hS:∀b,S b->S' b) (hw:∀b,S b->w'.heap[b]?=w.heap[b]?) (b:Nat) (hb:w'.heap[b]?=w.heap[b]?) :
  ∀(o:Nat) (cs:List T),RepSC S w b o cs->RepSC S' w' b o cs
 | _,[],_=>by simp only[RepSC]
 | o,c::cs,h=>by
  simp only[RepSC] at h |-;obtain ⟨⟨u,h1,h2⟩,h3⟩:=h;exact ⟨⟨u,by rw[cell?_congr hb];exact h1,RepS.mono hS hw c u h2⟩,RepSC.mono hS hw b hb (o+1) cs h3⟩
theorem RepSE.mono {S S':Nat->Prop} {w w':World} (hS:∀b,S b->S' b) (hw:∀b,S b->w'.heap[b]?=w.heap[b]?) (b:Nat) (hb:w'.heap[b]?=w.heap[b]?) :
  ∀(o:Nat) (es:List (List T)),RepSE S w b o es->RepSE S' w' b o es
 | _,[],_=>by simp only[RepSE]
 | o,e::es,h=>by
  simp only[RepSE] at h |-;exact ⟨RepSC.mono hS hw b hb o e h.1,RepSE.mono hS hw b hb (o+e.length) es h.2⟩
end
theorem RepSC.get {S:Nat->Prop} {w:World} {b:Nat}:∀{o:Nat} {cs:List T},RepSC S w b o cs->∀(j:Nat) (c:T),cs[j]?=some c->
  ∃u,w.cell? ⟨b,o+j,none⟩=some u/\RepS S w c u
 | _,[],_,j,c,hj=>by simp at hj
 | o,d::cs,h,j,c,hj=>by
  simp only[RepSC] at h;cases j with
  | zero=>simp at hj;subst hj;simpa using h.1
  | succ j=>simp at hj;have:=RepSC.get h.2 j c hj;simpa [Nat.add_assoc,Nat.add_comm 1 j] using this
theorem RepSC.of_get {S:Nat->Prop} {w:World} {b:Nat}:∀{o:Nat} {cs:List T},(∀(j:Nat) (c:T),cs[j]?=some c->
  ∃u,w.cell? ⟨b,o+j,none⟩=some u/\RepS S w c u)->RepSC S w b o cs
 | _,[],_=>by simp only[RepSC]
 | o,d::cs,h=>by
  simp only[RepSC];refine ⟨by simpa using h 0 d rfl,RepSC.of_get fun j c hj=>?_⟩
  have:=h (j+1) c (by simpa using hj)
  simpa [Nat.add_assoc,Nat.add_comm 1 j] using this
theorem RepSE.get {S:Nat->Prop} {w:World} {b k:Nat}:∀{o:Nat} {es:List (List T)},RepSE S w b o es->(∀e∈es,e.length=k)->
  ∀(i:Nat) (e:List T),es[i]?=some e->RepSC S w b (o+i * k) e
 | _,[],_,_,i,e,hi=>by simp at hi
 | o,d::es,h,hk,i,e,hi=>by
  simp only[RepSE] at h;cases i with
  | zero=>simp at hi;subst hi;simpa using h.1
  | succ i=>
   simp at hi;have:=RepSE.get h.2 (fun e he=>hk e (List.mem_cons_of_mem _ he)) i e hi;rw[hk d (List.mem_cons_self)] at this;rw[Nat.succ_mul,Nat.add_comm (i * k) k,<-Nat.add_assoc];exact this
theorem RepSE.of_get {S:Nat->Prop} {w:World} {b k:Nat}:∀{o:Nat} {es:List (List T)},(∀e∈es,e.length=k)->
  (∀(i:Nat) (e:List T),es[i]?=some e->RepSC S w b (o+i * k) e)->RepSE S w b o es
 | _,[],_,_=>by simp only[RepSE]
 | o,d::es,hk,h=>by
  simp only[RepSE];refine ⟨by simpa using h 0 d rfl,RepSE.of_get (fun e he=>hk e (List.mem_cons_of_mem _ he)) fun i e hi=>?_⟩
  have:=h (i+1) e (by simpa using hi)
  rw[Nat.succ_mul,Nat.add_comm (i * k) k,<-Nat.add_assoc] at this;rw[hk d (List.mem_cons_self)];exact this
theorem zF0 {α:Type} {k:Nat}:∀{es:List (List α)},(∀e∈es,e.length=k)->es.flatten.length=es.length * k
 | [],_=>by simp
 | d::es,h=>by
  rw[List.flatten_cons,List.length_append,h d (List.mem_cons_self),zF0 (fun e he=>h e (List.mem_cons_of_mem _ he)),List.length_cons,Nat.succ_mul,Nat.add_comm]
def Room (els:List (List T)) (o cap size:Nat) (fz:Nat×Nat):Prop:=∃k,(∀e∈els,e.length=k)/\o+cap * k<=size/\∀x,o<=x->x < o+cap * k->¬(fz.1<=x/\x < fz.2)
mutual
def RepL (S:Nat->Prop) (w:World):T->Value->List Nat->Prop
 | .lit v,u,own=>u=v/\isLit v=true/\own=[]
 | .sl els,u,own=>RepS S w (.sl els) u/\own=[]
 | .own els,u,own=>∃ad cap,u=.slice ad els.length cap/\els.length<=cap/\((els=[]/\own=[])\/
   ∃b o arr ty fz own',ad=some ⟨b,o,none⟩/\own=b::own'/\w.heap[b]?=some (.cells arr ty fz)/\Room els o cap arr.size fz/\RepLE S w b o els own')
def RepLC (S:Nat->Prop) (w:World) (b:Nat):Nat->List T->List Nat->Prop
 | _,[],own=>own=[]
 | o,c::cs,own=>∃u o1 o2,own=o1++o2/\w.cell? ⟨b,o,none⟩=some u/\RepL S w c u o1/\RepLC S w b (o+1) cs o2
def RepLE (S:Nat->Prop) (w:World) (b:Nat):Nat->List (List T)->List Nat->Prop
 | _,[],own=>own=[]
 | o,e::es,own=>∃o1 o2,own=o1++o2/\RepLC S w b o e o1/\RepLE S w b (o+e.length) es o2
end
mutual
theorem RepL.mono {S S':Nat->Prop} {w w':World} (hS:∀b,S b->S' b) (hw:∀b,S b->w'.heap[b]?=w.heap[b]?) :
  ∀(t:T) (u:Value) (own:List Nat),(∀b∈own,w'.heap[b]?=w.heap[b]?)->RepL S w t u own->RepL S' w' t u own
 | .lit v,u,own,_,h=>by simpa only [RepL] using h
 | .sl els,u,own,_,h=>by
  simp only[RepL] at h |-;exact ⟨RepS.mono hS hw _ _ h.1,h.2⟩
 | .own els,u,own,ho,h=>by
  simp only[RepL] at h |-;obtain ⟨ad,cap,h1,h2,h3⟩:=h;refine ⟨ad,cap,h1,h2,h3.imp id ?_⟩;rintro ⟨b,o,arr,ty,fz,own',rfl,rfl,g3,g4,g5⟩;have hb:=ho b (by simp)
  exact ⟨b,o,arr,ty,fz,own',rfl,rfl,by rw[hb];exact g3,g4,RepLE.mono hS hw b hb o els own' (fun x hx=>ho x (by simp[hx])) g5⟩
theorem RepLC.mono {S S':Nat->Prop} {w w':World} (hS:∀b,S b->S' b) (hw:∀b,S b->w'.heap[b]?=w.heap[b]?) (b:Nat) (hb:w'.heap[b]?=w.heap[b]?) :
  ∀(o:Nat) (cs:List T) (own:List Nat),(∀b∈own,w'.heap[b]?=w.heap[b]?)->RepLC S w b o cs own->RepLC S' w' b o cs own
 | _,[],own,_,h=>by simpa only [RepLC] using h
 | o,c::cs,own,ho,h=>by
  simp only[RepLC] at h |-;obtain ⟨u,o1,o2,rfl,h1,h2,h3⟩:=h;exact ⟨u,o1,o2,rfl,by rw[cell?_congr hb];exact h1,RepL.mono hS hw c u o1 (fun x hx=>ho x (by simp[hx])) h2,RepLC.mono hS hw b hb (o+1) cs o2 (fun x hx=>ho x (by simp[hx])) h3⟩
theorem RepLE.mono {S S':Nat->Prop} {w w':World} (hS:∀b,S b->S' b) (hw:∀b,S b->w'.heap[b]?=w.heap[b]?) (b:Nat) (hb:w'.heap[b]?=w.heap[b]?) :
  ∀(o:Nat) (es:List (List T)) (own:List Nat),(∀b∈own,w'.heap[b]?=w.heap[b]?)->RepLE S w b o es own->RepLE S' w' b o es own
 | _,[],own,_,h=>by simpa only [RepLE] using h
 | o,e::es,own,ho,h=>by
  simp only[RepLE] at h |-;obtain ⟨o1,o2,rfl,h1,h2⟩:=h;exact ⟨o1,o2,rfl,RepLC.mono hS hw b hb o e o1 (fun x hx=>ho x (by simp[hx])) h1,RepLE.mono hS hw b hb (o+e.length) es o2 (fun x hx=>ho x (by simp[hx])) h2⟩
end
mutual
def T.er:T->T
 | .lit v=>.lit v
 | .sl els=>.sl els
 | .own els=>.sl (erE els)
def erC:List T->List T
 | []=>[]
 | c::cs=>c.er::erC cs
def erE:List (List T)->List (List T)
 | []=>[]
 | e::es=>erC e::erE es
end
theorem dE0:∀(cs:List T),(erC cs).length=cs.length
 | []=>rfl
 | c::cs=>by simp only[erC,List.length_cons,dE0 cs]
theorem nV0:∀(es:List (List T)),(erE es).length=es.length
 | []=>rfl
 | e::es=>by simp only[erE,List.length_cons,nV0 es]
mutual
theorem RepL.toS {S S':Nat->Prop} {w:World} (hS:∀b,S b->S' b):∀(t:T) (u:Value) (own:List Nat),(∀b∈own,S' b)->RepL S w t u own->RepS S' w t.er u
 | .lit v,u,own,_,h=>by simp only[RepL] at h;simp only[T.er,RepS];exact ⟨h.1,h.2.1⟩
 | .sl els,u,own,_,h=>by simp only[RepL] at h;simp only[T.er];exact RepS.mono hS (fun _ _=>rfl) _ _ h.1
 | .own els,u,own,ho,h=>by
  simp only[RepL] at h;simp only[T.er,RepS,nV0];obtain ⟨ad,cap,h1,h2,h3⟩:=h;refine ⟨ad,cap,h1,h2,fun hne=>?_⟩;rcases h3 with ⟨rfl,_⟩ | ⟨b,o,arr,ty,fz,own',rfl,rfl,g3,g4,g5⟩
  ·exact absurd rfl hne
  ·exact ⟨b,o,rfl,ho b (by simp),RepLE.toS hS b o els own' (fun x hx=>ho x (by simp[hx])) g5⟩
theorem RepLC.toS {S S':Nat->Prop} {w:World} (hS:∀b,S b->S' b) (b:Nat):∀(o:Nat) (cs:List T) (own:List Nat),(∀b∈own,S' b)->RepLC S w b o cs own->RepSC S' w b o (erC cs)
 | _,[],own,_,h=>by simp only[erC,RepSC]
 | o,c::cs,own,ho,h=>by
  simp only[RepLC] at h;simp only[erC,RepSC];obtain ⟨u,o1,o2,rfl,h1,h2,h3⟩:=h;exact ⟨⟨u,h1,RepL.toS hS c u o1 (fun x hx=>ho x (by simp[hx])) h2⟩,RepLC.toS hS b (o+1) cs o2 (fun x hx=>ho x (by simp[hx])) h3⟩
theorem RepLE.toS {S S':Nat->Prop} {w:World} (hS:∀b,S b->S' b) (b:Nat):∀(o:Nat) (es:List (List T)) (own:List Nat),(∀b∈own,S' b)->RepLE S w b o es own->RepSE S' w b o (erE es)
 | _,[],own,_,h=>by simp only[erE,RepSE]
 | o,e::es,own,ho,h=>by
  simp only[RepLE] at h;simp only[erE,RepSE,dE0];obtain ⟨o1,o2,rfl,h1,h2⟩:=h;exact ⟨RepLC.toS hS b o e o1 (fun x hx=>ho x (by simp[hx])) h1,RepLE.toS hS b (o+e.length) es o2 (fun x hx=>ho x (by simp[hx])) h2⟩
end
theorem RepS.toL {S:Nat->Prop} {w:World} {t:T} {u:Value} (h:RepS S w t u):RepL S w t u []:=by
 cases t with
 | lit v=>simp only[RepS] at h;simp only[RepL];exact ⟨h.1,h.2,trivial⟩
 | sl els=>simp only[RepL];exact ⟨h,trivial⟩
 | own els=>simp only[RepS] at h
theorem RepSC.toL {S:Nat->Prop} {w:World} {b:Nat}:∀{o:Nat} {cs:List T},RepSC S w b o cs->RepLC S w b o cs []
 | _,[],_=>by simp only[RepLC]
 | o,c::cs,h=>by
  simp only[RepSC] at h;simp only[RepLC];obtain ⟨⟨u,h1,h2⟩,h3⟩:=h;exact ⟨u,[],[],rfl,h1,h2.toL,RepSC.toL h3⟩
theorem RepSE.toL {S:Nat->Prop} {w:World} {b:Nat}:∀{o:Nat} {es:List (List T)},RepSE S w b o es->RepLE S w b o es []
 | _,[],_=>by simp only[RepLE]
 | o,e::es,h=>by
  simp only[RepSE] at h;simp only[RepLE];exact ⟨[],[],rfl,h.1.toL,RepSE.toL h.2⟩
theorem RepLE.append {S:Nat->Prop} {w:World} {b:Nat}:∀{o:Nat} {es fs:List (List T)} {own:List Nat},RepLE S w b o (es++fs) own↔∃o1 o2,own=o1++o2/\RepLE S w b o es o1/\RepLE S w b (o+es.flatten.length) fs o2
 | o,[],fs,own=>by
  simp only[List.nil_append,RepLE,List.flatten_nil,List.length_nil,Nat.add_zero]
  constructor
  ·exact fun h=>⟨[],own,rfl,rfl,h⟩
  ·rintro ⟨o1,o2,rfl,rfl,h⟩;exact h
 | o,d::es,fs,own=>by
  simp only[List.cons_append,RepLE,List.flatten_cons,List.length_append]
  constructor
  ·rintro ⟨o1,o2,rfl,h1,h2⟩
   obtain ⟨p1,p2,rfl,h3,h4⟩:=RepLE.append.1 h2;exact ⟨o1++p1,p2,by simp,⟨o1,p1,rfl,h1,h3⟩,by rw[<-Nat.add_assoc];exact h4⟩
  ·rintro ⟨_,p2,rfl,⟨o1,p1,rfl,h1,h3⟩,h4⟩
   exact ⟨o1,p1++p2,by simp,h1,RepLE.append.2 ⟨p1,p2,rfl,h3,by rw[<-Nat.add_assoc] at h4;exact h4⟩⟩
theorem RepLC.append {S:Nat->Prop} {w:World} {b:Nat}:∀{o:Nat} {es fs:List T} {own:List Nat},RepLC S w b o (es++fs) own↔∃o1 o2,own=o1++o2/\RepLC S w b o es o1/\RepLC S w b (o+es.length) fs o2
 | o,[],fs,own=>by
  simp only[List.nil_append,RepLC,List.length_nil,Nat.add_zero]
  constructor
  ·exact fun h=>⟨[],own,rfl,rfl,h⟩
  ·rintro ⟨o1,o2,rfl,rfl,h⟩;exact h
 | o,d::es,fs,own=>by
  simp only[List.cons_append,RepLC,List.length_cons]
  constructor
  ·rintro ⟨u,o1,o2,rfl,h0,h1,h2⟩
   obtain ⟨p1,p2,rfl,h3,h4⟩:=RepLC.append.1 h2;exact ⟨o1++p1,p2,by simp,⟨u,o1,p1,rfl,h0,h1,h3⟩,by rw[show o+(es.length+1)=o+1+es.length by omega];exact h4⟩
  ·rintro ⟨_,p2,rfl,⟨u,o1,p1,rfl,h0,h1,h3⟩,h4⟩
   exact ⟨u,o1,p1++p2,by simp,h0,h1,RepLC.append.2 ⟨p1,p2,rfl,h3,by rw[show o+(es.length+1)=o+1+es.length by omega] at h4;exact h4⟩⟩
end Go.Av
/- Avs, part 2: abstract states and how they stand in a frame and the heap. -/
namespace Go.Av
inductive Root where
 | slot (t:Nat)
 | box (b:Nat)
 deriving DecidableEq,Inhabited
abbrev yA0:=Nat×Nat
inductive A where
 | lit (v:Value)
 | nil
 | ro (st:Bool) (els:List (List T))
 | ow (g:yA0) (d:Bool) (k:Nat) (els:List (List T))
 | sref (r:Root) (c:Nat) (g:yA0) (lo len:Nat)
 | ptr (b off:Nat)
 | bsl (b k len:Nat)
 | eptr (r:Root) (c:Nat) (g:yA0) (i off:Nat)
 | rptr (st:Bool) (cells:List T)
 | fn (f:FuncId) (caps:List (Nat×Nat))
 | dead
 deriving Inhabited
inductive Sh where
 | any | one | agg
 | tup (ns:List (Bool×Nat))
 deriving Inhabited
structure AV where
 sh:Sh
 cs:List A
 deriving Inhabited
structure AS where
 slots:List AV
 boxes:List (Option (List A))
 epoch:Nat
def AS.cell (σ:AS):Root->Nat->Option A
 | .slot t,c=>(σ.slots[t]?).bind (·.cs[c]?)
 | .box b,c=>(σ.boxes[b]?).bind fun x=>x.bind (·[c]?)
def A.stamp:A->Option yA0
 | .ow g _ _ _ | .sref _ _ g _ _ | .eptr _ _ g _ _=>some g
 | _=>none
def A.rstamp:A->Option yA0
 | .sref _ _ g _ _ | .eptr _ _ g _ _=>some g
 | _=>none
def flat:Value->List Value
 | .agg cs=>cs.toList
 | .tuple vs=>vs.toList.flatMap (·.cells.toList)
 | v=>[v]
structure Bk where
 b:Nat
 o:Nat
 deriving Inhabited
structure Env where
 S:Nat->Prop
 L:Nat->Prop
 bl:List Bk
 a:Act
 w:World
 ca:Root->Nat->Option A
def Env.LS (E:Env) (st:Bool):Nat->Prop:=if st then E.S else E.L
def Env.cv (E:Env):Root->Nat->Option Value
 | .slot t,c=>(E.a.tmps[t]?).bind fun v=>(flat v)[c]?
 | .box b,c=>(E.bl[b]?).bind fun k=>E.w.cell? ⟨k.b,k.o+c,none⟩
def uP1 (ad:Option Addr) (lo k cap:Nat) (x:Option Addr):Prop:=lo < cap->x=ad.map (·.add (lo * k))
theorem Addr.add_add (a:Addr) (n m:Nat):(a.add n).add m=a.add (n+m):=by
 obtain ⟨b,o,s⟩:=a;unfold Addr.add
 by_cases hn:n=0
 ·subst hn;simp
 ·by_cases hm:m=0
  ·subst hm;simp[hn]
  ·simp[hn,hm,Nat.add_assoc]
def RepO0 (S:Nat->Prop) (w:World) (k:Nat) (els:List (List T)) (u:Value) (own:List Nat):Prop:=
 ∃ad cap,u=.slice ad els.length cap/\els.length<=cap/\(∀e∈els,e.length=k)/\
  ((own=[]/\els=[]/\cap=0)\/
   ∃b o arr ty fz,ad=some ⟨b,o,none⟩/\own=[b]/\w.heap[b]?=some (.cells arr ty fz)/\o+cap * k<=arr.size/\
    (∀x,o<=x->x < o+cap * k->¬(fz.1<=x/\x < fz.2))/\RepSE S w b o els)
def qR1 (S:Nat->Prop) (w:World) (k:Nat) (els:List (List T)) (u:Value) (own:List Nat):Prop:=
 ∃ad cap,u=.slice ad els.length cap/\els.length<=cap/\(∀e∈els,e.length=k)/\
  ((own=[]/\els=[]/\cap=0)\/
   ∃b o arr ty fz n,ad=some ⟨b,o,none⟩/\own=b::n/\w.heap[b]?=some (.cells arr ty fz)/\o+cap * k<=arr.size/\
    (∀x,o<=x->x < o+cap * k->¬(fz.1<=x/\x < fz.2))/\RepLE S w b o els n)
def RepO (S:Nat->Prop) (w:World) (d:Bool) (k:Nat) (els:List (List T)) (u:Value) (own:List Nat):Prop:=match d with
 | false=>RepO0 S w k els u own
 | true=>qR1 S w k els u own
def isTuple:Value->Bool | .tuple _=>true | _=>false
def yV0:Value->Bool | .agg _=>true | _=>false
def OneC (u:Value):Prop:=isTuple u=false/\yV0 u=false
def RepA (E:Env):A->Value->List Nat->Prop
 | .lit v,u,own=>u=v/\isLit v=true/\own=[]
 | .nil,u,own=>(∃ad,u=.slice ad 0 0)/\own=[]
 | .ro st els,u,own=>RepS (E.LS st) E.w (.sl els) u/\own=[]
 | .ow _ d k els,u,own=>RepO E.S E.w d k els u own
 | .sref r c g lo len,u,own=>own=[]/\(∃x cp,u=.slice x len cp/\len<=cp)/\∀d k els,E.ca r c=some (.ow g d k els)->
   lo+len<=els.length/\∃ad cap x,E.cv r c=some (.slice ad els.length cap)/\u=.slice x len (cap - lo)/\uP1 ad lo k cap x
 | .ptr b off,u,own=>own=[]/\∃blk,E.bl[b]?=some blk/\u=.pointer (some ⟨blk.b,blk.o+off,none⟩)
 | .bsl b k len,u,own=>own=[]/\∃blk cap,E.bl[b]?=some blk/\u=.slice (some ⟨blk.b,blk.o,none⟩) len cap/\len<=cap
 | .eptr r c g i off,u,own=>own=[]/\OneC u/\∀d k els,E.ca r c=some (.ow g d k els)->
   i < els.length/\∃b o cap,E.cv r c=some (.slice (some ⟨b,o,none⟩) els.length cap)/\u=.pointer (some ⟨b,o+i * k+off,none⟩)
 | .rptr st cells,u,own=>own=[]/\∃b o,u=.pointer (some ⟨b,o,none⟩)/\E.LS st b/\RepSC (E.LS st) E.w b o cells
 | .fn f caps,u,own=>own=[]/\∃vs,u=.func (.func f) #[] vs/\vs.size=caps.length/\
   ∀(j:Nat) (b off:Nat),caps[j]?=some (b,off)->∃blk,E.bl[b]?=some blk/\vs[j]?=some (.pointer (some ⟨blk.b,blk.o+off,none⟩))
 | .dead,u,own=>own=[]/\OneC u
def RpA (E:Env):List A->List Value->List Nat->Prop
 | [],us,own=>us=[]/\own=[]
 | c::cs,us,own=>∃u us' o1 o2,us=u::us'/\own=o1++o2/\RepA E c u o1/\RpA E cs us' o2
theorem RepA.oneC {E:Env} {c:A} {u:Value} {own:List Nat} (h:RepA E c u own):OneC u:=by
 cases c<;>simp only[RepA] at h
 ·obtain ⟨rfl,hl,_⟩:=h;cases u<;>simp[isLit] at hl<;>exact ⟨rfl,rfl⟩
 ·obtain ⟨⟨ad,rfl⟩,_⟩:=h;exact ⟨rfl,rfl⟩
 ·obtain ⟨h,_⟩:=h;simp only[RepS] at h;obtain ⟨ad,cap,rfl,_⟩:=h;exact ⟨rfl,rfl⟩
 ·rename_i d _ _;cases d<;>(obtain ⟨ad,cap,rfl,_⟩:=h;exact ⟨rfl,rfl⟩)
 ·obtain ⟨_,⟨x,cp,rfl,_⟩,_⟩:=h;exact ⟨rfl,rfl⟩
 ·obtain ⟨_,blk,_,rfl⟩:=h;exact ⟨rfl,rfl⟩
 ·obtain ⟨_,blk,cap,_,rfl,_⟩:=h;exact ⟨rfl,rfl⟩
 ·exact h.2.1
 ·obtain ⟨_,b,o,rfl,_⟩:=h;exact ⟨rfl,rfl⟩
 ·obtain ⟨_,vs,rfl,_⟩:=h;exact ⟨rfl,rfl⟩
 ·exact h.2
def shapeOf (v:Value):Bool×Nat:=match v with | .agg cs=>(true,cs.size) | _=>(false,1)
def shOk:Sh->Value->Prop
 | .any,_=>True
 | .one,v=>isTuple v=false/\yV0 v=false
 | .agg,v=>yV0 v=true
 | .tup ns,v=>∃vs:Array Value,v=.tuple vs/\vs.toList.map shapeOf=ns/\∀x∈vs.toList,isTuple x=false
def RepV (E:Env) (av:AV) (v:Value) (own:List Nat):Prop:=
 match av.sh with
 | .any=>av.cs=[]/\own=[]
 | sh=>shOk sh v/\RpA E av.cs (flat v) own
def RpS (E:Env):List AV->List Value->List Nat->Prop
 | [],us,own=>us=[]/\own=[]
 | c::cs,us,own=>∃u us' o1 o2,us=u::us'/\own=o1++o2/\RepV E c u o1/\RpS E cs us' o2
def Win (w:World) (blk:Bk) (us:List Value):Prop:=∃arr ty fz,w.heap[blk.b]?=some (.cells arr ty fz)/\blk.o+us.length<=arr.size/\(∀x,blk.o<=x->x < blk.o+us.length->¬(fz.1<=x/\x < fz.2))/\∀j u,us[j]?=some u->arr[blk.o+j]?=some u
def RepBox (E:Env):Option (List A)->Bk->List Nat->Prop
 | none,_,own=>own=[]
 | some cs,blk,own=>∃o us,own=blk.b::o/\Win E.w blk us/\RpA E cs us o
theorem Win.go {w w':World} {blk:Bk} {us:List Value} (h:Win w blk us) (e:w'.heap[blk.b]?=w.heap[blk.b]?):Win w' blk us:=by
 obtain ⟨arr,ty,fz,h1,h2⟩:=h;exact ⟨arr,ty,fz,e.trans h1,h2⟩
theorem Win.cell {w:World} {blk:Bk} {us:List Value} (h:Win w blk us) (j:Nat) (u:Value) (hj:us[j]?=some u):w.cell? ⟨blk.b,blk.o+j,none⟩=some u:=by
 obtain ⟨arr,ty,fz,h1,h2,h3,h4⟩:=h;simp only[World.cell?,h1];simpa using h4 j u hj
theorem Win.lt {w:World} {blk:Bk} {us:List Value} (h:Win w blk us):blk.b < w.heap.size:=by
 obtain ⟨arr,ty,fz,h1,h2⟩:=h;exact (Array.getElem?_eq_some_iff.1 h1).1
def RpB (E:Env):List (Option (List A))->List Bk->List Nat->Prop
 | [],bs,own=>bs=[]/\own=[]
 | c::cs,bs,own=>∃b bs' o1 o2,bs=b::bs'/\own=o1++o2/\RepBox E c b o1/\RpB E cs bs' o2
structure Env.Le (gn:Option yA0) (E E':Env):Prop where
 S:∀b,E.S b->E'.S b
 L:∀b,E.L b->E'.L b
 heap:∀b,E.S b\/E.L b->E'.w.heap[b]?=E.w.heap[b]?
 bl:∀(i:Nat) (blk:Bk),E.bl[i]?=some blk->E'.bl[i]?=some blk
 head:∀r c g d k els',some g≠gn->E'.ca r c=some (.ow g d k els')->
  ∃d0 els,E.ca r c=some (.ow g d0 k els)/\els.length=els'.length/\∀x,E.cv r c=some x->E'.cv r c=some x
variable {gn:Option yA0} {E E':Env}
theorem RepO.mono {S S':Nat->Prop} {w w':World} {d:Bool} {k:Nat} {els:List (List T)} {u:Value} {own:List Nat} (hS:∀b,S b->S' b) (hw:∀b,S b->w'.heap[b]?=w.heap[b]?)
  (ho:∀b∈own,w'.heap[b]?=w.heap[b]?) (h:RepO S w d k els u own):RepO S' w' d k els u own:=by
 cases d
 ·obtain ⟨ad,cap,h1,h2,h3,h4⟩:=h
  refine ⟨ad,cap,h1,h2,h3,?_⟩;rcases h4 with h4 | ⟨b,o,arr,ty,fz,g1,g2,g3,g4,g5,g6⟩
  ·exact Or.inl h4
  ·have hb:=ho b (by simp[g2])
   exact Or.inr ⟨b,o,arr,ty,fz,g1,g2,by rw[hb];exact g3,g4,g5,RepSE.mono hS hw b hb o els g6⟩
 ·obtain ⟨ad,cap,h1,h2,h3,h4⟩:=h
  refine ⟨ad,cap,h1,h2,h3,?_⟩;rcases h4 with h4 | ⟨b,o,arr,ty,fz,n,g1,g2,g3,g4,g5,g6⟩
  ·exact Or.inl h4
  ·have hb:=ho b (by simp[g2])
   exact Or.inr ⟨b,o,arr,ty,fz,n,g1,g2,by rw[hb];exact g3,g4,g5,RepLE.mono hS hw b hb o els n (fun x hx=>ho x (by simp[g2,hx])) g6⟩
theorem Env.Le.LS (h:Env.Le gn E E') (st:Bool):∀b,E.LS st b->E'.LS st b:=by
 cases st
 ·exact h.L
 ·exact h.S
theorem Env.Le.heapLS (h:Env.Le gn E E') (st:Bool):∀b,E.LS st b->E'.w.heap[b]?=E.w.heap[b]?:=by
 cases st
 ·exact fun b hb=>h.heap b (.inr hb)
 ·exact fun b hb=>h.heap b (.inl hb)
theorem Env.Le.heapS (h:Env.Le gn E E'):∀b,E.S b->E'.w.heap[b]?=E.w.heap[b]?:=fun b hb=>h.heap b (.inl hb)
theorem RepA.go (h:Env.Le gn E E') {c:A} {u:Value} {own:List Nat} (ho:∀b∈own,E'.w.heap[b]?=E.w.heap[b]?) (hg:c.rstamp=none\/c.rstamp≠gn)
  (hc:RepA E c u own):RepA E' c u own:=by
 cases c with
 | lit v=>exact hc
 | nil=>exact hc
 | ro st els=>exact ⟨RepS.mono (h.LS st) (h.heapLS st) _ _ hc.1,hc.2⟩
 | ow g d k els=>exact RepO.mono h.S h.heapS ho hc
 | sref r c g lo len=>
  refine ⟨hc.1,hc.2.1,fun d k els' he=>?_⟩;have hg':some g≠gn:=by simpa [A.rstamp] using hg
  obtain ⟨d0,els,h1,h2,h3⟩:=h.head r c g d k els' hg' he;obtain ⟨g1,ad,cap,x,g2,g3⟩:=hc.2.2 d0 k els h1;exact ⟨by omega,ad,cap,x,by rw[<-h2];exact h3 _ g2,g3⟩
 | ptr b off=>obtain ⟨h0,blk,h1,h2⟩:=hc;exact ⟨h0,blk,h.bl _ _ h1,h2⟩
 | bsl b k len=>obtain ⟨h0,blk,cap,h1,h2⟩:=hc;exact ⟨h0,blk,cap,h.bl _ _ h1,h2⟩
 | eptr r c g i off=>
  refine ⟨hc.1,hc.2.1,fun d k els' he=>?_⟩;have hg':some g≠gn:=by simpa [A.rstamp] using hg
  obtain ⟨d0,els,h1,h2,h3⟩:=h.head r c g d k els' hg' he;obtain ⟨g1,b,o,cap,g2,g3⟩:=hc.2.2 d0 k els h1;exact ⟨by omega,b,o,cap,by rw[<-h2];exact h3 _ g2,g3⟩
 | rptr st cells=>
  obtain ⟨h0,b,o,h1,h2,h3⟩:=hc;exact ⟨h0,b,o,h1,h.LS st _ h2,RepSC.mono (h.LS st) (h.heapLS st) b (h.heapLS st b h2) o _ h3⟩
 | fn f caps=>
  obtain ⟨h0,vs,h1,h2,h3⟩:=hc;refine ⟨h0,vs,h1,h2,fun j b off hj=>?_⟩;obtain ⟨blk,g1,g2⟩:=h3 j b off hj;exact ⟨blk,h.bl _ _ g1,g2⟩
 | dead=>exact hc
def zG0 (gn:Option yA0) (cs:List A):Prop:=∀c∈cs,c.rstamp=none\/c.rstamp≠gn
theorem RpA.go (h:Env.Le gn E E'):∀{cs:List A} {us:List Value} {own:List Nat},(∀b∈own,E'.w.heap[b]?=E.w.heap[b]?)->zG0 gn cs->
  RpA E cs us own->RpA E' cs us own
 | [],us,own,_,_,hc=>hc
 | c::cs,us,own,ho,hg,hc=>by
  obtain ⟨u,us',o1,o2,h1,h2,h3,h4⟩:=hc;subst h2;exact ⟨u,us',o1,o2,h1,rfl,RepA.go h (fun b hb=>ho b (by simp[hb])) (hg c (List.mem_cons_self)) h3,
   RpA.go h (fun b hb=>ho b (by simp[hb])) (fun x hx=>hg x (List.mem_cons_of_mem _ hx)) h4⟩
theorem RepV.go (h:Env.Le gn E E') {av:AV} {v:Value} {own:List Nat} (ho:∀b∈own,E'.w.heap[b]?=E.w.heap[b]?) (hg:zG0 gn av.cs)
  (hc:RepV E av v own):RepV E' av v own:=by
 obtain ⟨sh,cs⟩:=av;cases sh with
 | any=>exact hc
 | one=>exact ⟨hc.1,RpA.go h ho hg hc.2⟩
 | agg=>exact ⟨hc.1,RpA.go h ho hg hc.2⟩
 | tup ns=>exact ⟨hc.1,RpA.go h ho hg hc.2⟩
theorem RpS.go (h:Env.Le gn E E'):∀{cs:List AV} {us:List Value} {own:List Nat},(∀b∈own,E'.w.heap[b]?=E.w.heap[b]?)->(∀c∈cs,zG0 gn c.cs)->
  RpS E cs us own->RpS E' cs us own
 | [],us,own,_,_,hc=>hc
 | c::cs,us,own,ho,hg,hc=>by
  obtain ⟨u,us',o1,o2,h1,h2,h3,h4⟩:=hc;subst h2;exact ⟨u,us',o1,o2,h1,rfl,RepV.go h (fun b hb=>ho b (by simp[hb])) (hg c (List.mem_cons_self)) h3,
   RpS.go h (fun b hb=>ho b (by simp[hb])) (fun x hx=>hg x (List.mem_cons_of_mem _ hx)) h4⟩
theorem RepBox.go (h:Env.Le gn E E') {c:Option (List A)} {b:Bk} {own:List Nat} (ho:∀b∈own,E'.w.heap[b]?=E.w.heap[b]?) (hg:∀cs,c=some cs->zG0 gn cs)
  (hc:RepBox E c b own):RepBox E' c b own:=by
 cases c with
 | none=>exact hc
 | some cs=>
  obtain ⟨o,us,h1,h2,h3⟩:=hc;subst h1;exact ⟨o,us,rfl,h2.go (ho b.b (by simp)),RpA.go h (fun x hx=>ho x (by simp[hx])) (hg cs rfl) h3⟩
theorem RpB.go (h:Env.Le gn E E'):∀{cs:List (Option (List A))} {bs:List Bk} {own:List Nat},(∀b∈own,E'.w.heap[b]?=E.w.heap[b]?)->(∀c cs',c∈cs->c=some cs'->zG0 gn cs')->
  RpB E cs bs own->RpB E' cs bs own
 | [],bs,own,_,_,hc=>hc
 | c::cs,bs,own,ho,hg,hc=>by
  obtain ⟨b,bs',o1,o2,h1,h2,h3,h4⟩:=hc;subst h2;exact ⟨b,bs',o1,o2,h1,rfl,RepBox.go h (fun b hb=>ho b (by simp[hb])) (fun cs' hcs=>hg c cs' (List.mem_cons_self) hcs) h3,
   RpB.go h (fun b hb=>ho b (by simp[hb])) (fun x cs' hx=>hg x cs' (List.mem_cons_of_mem _ hx)) h4⟩
end Go.Av
/- Which blocks hold tables of Go's library (by the seat): the powers of ten. -/
namespace Go.Av
def glb:List Nat:=[0]
def glbP (_:Nat) (o:Option Obj):Prop:=∃cs t z,o=some (.cells cs t z)/\cs=(Lib.pow10Tab.map fun n=>Value.int .u64 n).toArray
end Go.Av
/- Avs, part 3: the invariant of a frame, and the changes under which it stands. -/
namespace Go.Av
structure Keeps (O:List Nat) (w w':World):Prop where
 os:w'.os=w.os
 tape:w'.tape=w.tape
 output:w'.output=w.output
 size:w.heap.size<=w'.heap.size
 block:∀b,b < w.heap.size->b∉O->w'.heap[b]?=w.heap[b]?
theorem Keeps.refl (O:List Nat) (w:World):Keeps O w w:=⟨rfl,rfl,rfl,Nat.le_refl _,fun _ _ _=>rfl⟩
def Gd (w:World) (S:Nat->Prop):Prop:=∀x∈glb,S x/\glbP x w.heap[x]?
theorem Gd.keeps {w w':World} {S S':Nat->Prop} {O:List Nat} (h:Gd w S) (hs:∀b,S b->b < w.heap.size/\b∉O) (hk:Keeps O w w') (hS:∀b,S b->S' b):Gd w' S':=fun x hx=>by
 obtain ⟨h1,h2⟩:=h x hx;obtain ⟨h3,h4⟩:=hs x h1;exact ⟨hS x h1,by rw[hk.block x h3 h4];exact h2⟩
structure Ctx where
 w0:World
 O0:List Nat
 S0:Nat->Prop
 bl0:List Bk
 gd:Gd w0 S0
 gs:∀b,S0 b->b < w0.heap.size/\b∉O0
def stampIn (X:List Nat) (e:Nat) (c:A):Prop:=∀g,c.stamp=some g->g.1 < e\/g.1=e/\g.2∈X
structure InvAt (C:Ctx) (X:List Nat) (σ:AS) (a:Act) (w:World) (S L:Nat->Prop) (bl:List Bk) (O1 O2:List Nat):Prop where
 defers:a.defers=[]
 slots:RpS ⟨S,L,bl,a,w,σ.cell⟩ σ.slots a.tmps.toList O1
 boxes:RpB ⟨S,L,bl,a,w,σ.cell⟩ σ.boxes bl O2
 nodup:(O1++O2).Nodup
 sl:∀b,S b->L b
 stable:∀b,L b->b < w.heap.size/\b∉O1++O2
 s0:(∀b,C.S0 b->S b)/\∀b,S b->C.S0 b\/b∈C.O0\/C.w0.heap.size<=b
 keeps:Keeps C.O0 C.w0 w
 own:∀b∈O1++O2,b∈C.O0\/C.w0.heap.size<=b
 pre:C.bl0 <+: bl
 stS:∀av∈σ.slots,∀c∈av.cs,stampIn X σ.epoch c
 stB:∀cs,some cs∈σ.boxes->∀c∈cs,stampIn X σ.epoch c
def Inv (C:Ctx) (X:List Nat) (σ:AS) (a:Act) (w:World):Prop:=∃S L bl O1 O2,InvAt C X σ a w S L bl O1 O2
theorem RpS.length {E:Env}:∀{sl:List AV} {vs:List Value} {O:List Nat},RpS E sl vs O->vs.length=sl.length
 | [],_,_,h=>by simp[h.1]
 | _::_,_,_,h=>by obtain ⟨u,us',o1,o2,h1,h2,h3,h4⟩:=h;simp[h1,RpS.length h4]
theorem RpA.length {E:Env}:∀{cs:List A} {vs:List Value} {O:List Nat},RpA E cs vs O->vs.length=cs.length
 | [],_,_,h=>by simp[h.1]
 | _::_,_,_,h=>by obtain ⟨u,us',o1,o2,h1,h2,h3,h4⟩:=h;simp[h1,RpA.length h4]
theorem RpB.length {E:Env}:∀{cs:List (Option (List A))} {bs:List Bk} {O:List Nat},RpB E cs bs O->bs.length=cs.length
 | [],_,_,h=>by simp[h.1]
 | _::_,_,_,h=>by obtain ⟨u,us',o1,o2,h1,h2,h3,h4⟩:=h;simp[h1,RpB.length h4]
theorem RpS.split {E:Env}:∀{sl:List AV} {vs:List Value} {O:List Nat} (d:Nat) (av:AV),RpS E sl vs O->sl[d]?=some av->
  ∃v p o q,vs[d]?=some v/\O=p++o++q/\RepV E av v o/\∀av' v' o',RepV E av' v' o'->RpS E (sl.set d av') (vs.set d v') (p++o'++q)
 | [],_,_,d,av,_,h=>by simp at h
 | c::cs,vs,O,0,av,h,hd=>by
  obtain ⟨u,us',o1,o2,h1,h2,h3,h4⟩:=h;subst h1;subst h2;simp at hd;subst hd;exact ⟨u,[],o1,o2,rfl,by simp,h3,fun av' v' o' h'=>⟨v',us',o',o2,rfl,by simp,h',h4⟩⟩
 | c::cs,vs,O,d+1,av,h,hd=>by
  obtain ⟨u,us',o1,o2,h1,h2,h3,h4⟩:=h;subst h1;subst h2;simp at hd;obtain ⟨v,p,o,q,g1,g2,g3,g4⟩:=RpS.split d av h4 hd;subst g2;exact ⟨v,o1++p,o,q,by simpa using g1,by simp,g3,fun av' v' o' h'=>⟨u,us'.set d v',o1,p++o'++q,rfl,by simp,h3,g4 av' v' o' h'⟩⟩
theorem RpA.split {E:Env}:∀{cs:List A} {vs:List Value} {O:List Nat} (d:Nat) (x:A),RpA E cs vs O->cs[d]?=some x->
  ∃v p o q,vs[d]?=some v/\O=p++o++q/\RepA E x v o/\∀x' v' o',RepA E x' v' o'->RpA E (cs.set d x') (vs.set d v') (p++o'++q)
 | [],_,_,d,x,_,h=>by simp at h
 | c::cs,vs,O,0,x,h,hd=>by
  obtain ⟨u,us',o1,o2,h1,h2,h3,h4⟩:=h;subst h1;subst h2;simp at hd;subst hd;exact ⟨u,[],o1,o2,rfl,by simp,h3,fun x' v' o' h'=>⟨v',us',o',o2,rfl,by simp,h',h4⟩⟩
 | c::cs,vs,O,d+1,x,h,hd=>by
  obtain ⟨u,us',o1,o2,h1,h2,h3,h4⟩:=h;subst h1;subst h2;simp at hd;obtain ⟨v,p,o,q,g1,g2,g3,g4⟩:=RpA.split d x h4 hd;subst g2;exact ⟨v,o1++p,o,q,by simpa using g1,by simp,g3,fun x' v' o' h'=>⟨u,us'.set d v',o1,p++o'++q,rfl,by simp,h3,g4 x' v' o' h'⟩⟩
theorem RpB.split {E:Env}:∀{cs:List (Option (List A))} {bs:List Bk} {O:List Nat} (d:Nat) (x:Option (List A)),RpB E cs bs O->cs[d]?=some x->
  ∃b p o q,bs[d]?=some b/\O=p++o++q/\RepBox E x b o/\∀x' o',RepBox E x' b o'->RpB E (cs.set d x') bs (p++o'++q)
 | [],_,_,d,x,_,h=>by simp at h
 | c::cs,bs,O,0,x,h,hd=>by
  obtain ⟨u,us',o1,o2,h1,h2,h3,h4⟩:=h;subst h1;subst h2;simp at hd;subst hd;exact ⟨u,[],o1,o2,rfl,by simp,h3,fun x' o' h'=>⟨u,us',o',o2,rfl,by simp,h',h4⟩⟩
 | c::cs,bs,O,d+1,x,h,hd=>by
  obtain ⟨u,us',o1,o2,h1,h2,h3,h4⟩:=h;subst h1;subst h2;simp at hd;obtain ⟨v,p,o,q,g1,g2,g3,g4⟩:=RpB.split d x h4 hd;subst g2;exact ⟨v,o1++p,o,q,by simpa using g1,by simp,g3,fun x' o' h'=>⟨u,us',o1,p++o'++q,rfl,by simp,h3,g4 x' o' h'⟩⟩
theorem RpB.append {E:Env}:∀{cs:List (Option (List A))} {bs:List Bk} {O:List Nat} {x:Option (List A)} {b:Bk} {o:List Nat},RpB E cs bs O->RepBox E x b o->
  RpB E (cs++[x]) (bs++[b]) (O++o)
 | [],bs,O,x,b,o,h,hx=>by obtain ⟨rfl,rfl⟩:=h;exact ⟨b,[],o,[],rfl,by simp,hx,rfl,rfl⟩
 | c::cs,bs,O,x,b,o,h,hx=>by
  obtain ⟨u,us',o1,o2,h1,h2,h3,h4⟩:=h;subst h1;subst h2;exact ⟨u,us'++[b],o1,o2++o,rfl,by simp,h3,RpB.append h4 hx⟩
def AS.put (σ:AS) (d:Nat) (av:AV):AS:={ σ with slots:=σ.slots.set d av }
def AS.setCell (σ:AS) (r:Root) (c:Nat) (x:A):AS:=
 match r with
 | .slot t=>{ σ with slots:=σ.slots.modify t fun av=>{ av with cs:=av.cs.set c x } }
 | .box b=>{ σ with boxes:=σ.boxes.modify b fun o=>o.map (·.set c x) }
theorem stampIn.mono {X X':List Nat} {e:Nat} {c:A} (h:stampIn X e c) (hX:∀i∈X,i∈X'):stampIn X' e c:=
 fun g hg=>(h g hg).imp id fun ⟨h1,h2⟩=>⟨h1,hX _ h2⟩
theorem stampIn.ne {X:List Nat} {e i:Nat} {c:A} (h:stampIn X e c) (hi:i∉X):c.rstamp=none\/c.rstamp≠some (e,i):=by
 have key:∀g,c.rstamp=some g->c.stamp=some g:=by cases c<;>simp[A.rstamp,A.stamp]
 cases hc:c.rstamp with
 | none=>exact .inl rfl
 | some g=>
  refine .inr fun he=>?_;simp at he;subst he;rcases h _ (key _ hc) with h1 | ⟨_,h2⟩
  ·simp at h1
  ·exact hi h2
def Fresh (σ:AS) (g:yA0):Prop:=(∀av∈σ.slots,zG0 (some g) av.cs)/\∀cs,some cs∈σ.boxes->zG0 (some g) cs
theorem InvAt.fresh {C:Ctx} {X:List Nat} {σ:AS} {a:Act} {w:World} {S L:Nat->Prop} {bl:List Bk} {O1 O2:List Nat} (h:InvAt C X σ a w S L bl O1 O2) {i:Nat} (hi:i∉X):Fresh σ (σ.epoch,i):=
 ⟨fun av hav c hc=>(h.stS av hav c hc).ne hi,fun cs hcs c hc=>(h.stB cs hcs c hc).ne hi⟩
theorem InvAt.mono {C:Ctx} {X X':List Nat} {σ:AS} {a:Act} {w:World} {S L:Nat->Prop} {bl:List Bk} {O1 O2:List Nat} (h:InvAt C X σ a w S L bl O1 O2) (hX:∀i∈X,i∈X'):InvAt C X' σ a w S L bl O1 O2:=
 ⟨h.defers,h.slots,h.boxes,h.nodup,h.sl,h.stable,h.s0,h.keeps,h.own,h.pre,fun av hav c hc=>(h.stS av hav c hc).mono hX,fun cs hcs c hc=>(h.stB cs hcs c hc).mono hX⟩
theorem InvAt.world {C:Ctx} {X:List Nat} {σ:AS} {a:Act} {w w':World} {S L:Nat->Prop} {bl:List Bk} {O1 O2:List Nat} (h:InvAt C X σ a w S L bl O1 O2)
  (hh:∀b,L b\/b∈O1++O2->w'.heap[b]?=w.heap[b]?) (hk:Keeps C.O0 C.w0 w') (hz:w.heap.size<=w'.heap.size):InvAt C X σ a w' S L bl O1 O2:=by
 have hE:Env.Le none ⟨S,L,bl,a,w,σ.cell⟩ ⟨S,L,bl,a,w',σ.cell⟩:=by
  refine ⟨fun _ h=>h,fun _ h=>h,fun b hb=>hh b (.inl (hb.elim (h.sl b) id)),fun _ _ h=>h,fun r c g d k els' _ he=>⟨d,els',he,rfl,fun x hx=>?_⟩⟩;cases r with
  | slot t=>exact hx
  | box b=>
   simp only[Env.cv] at hx |-;simp only[AS.cell] at he;cases hb:σ.boxes[b]? with
   | none=>simp[hb] at he
   | some y=>
    cases y with
    | none=>simp[hb] at he
    | some cs=>
     obtain ⟨blk,p,o,q,g1,g2,⟨o',us',g3,g4,g5⟩,_⟩:=RpB.split b _ h.boxes hb;simp only[g1,Option.bind_some] at hx |-;rw[cell?_congr (hh blk.b (.inr (by simp[g2,g3])))]
     exact hx
 refine ⟨h.defers,RpS.go hE (fun b hb=>hh b (.inr (by simp[hb]))) ?_ h.slots,RpB.go hE (fun b hb=>hh b (.inr (by simp[hb]))) ?_ h.boxes,h.nodup,h.sl,
  fun b hb=>⟨Nat.lt_of_lt_of_le (h.stable b hb).1 hz,(h.stable b hb).2⟩,h.s0,hk,h.own,h.pre,h.stS,h.stB⟩
 ·intro c _ x _;cases x.rstamp<;>simp
 ·intro c cs' _ _ x _;cases x.rstamp<;>simp
theorem pN1 {α:Type} {l:List α} {d:Nat} {x:α} (h:l.length<=d):l.set d x=l:=List.set_eq_of_length_le h
theorem UU0 {σ:AS} {d:Nat} {av:AV} {r:Root} {c:Nat} (h:r≠.slot d):(σ.put d av).cell r c=σ.cell r c:=by
 cases r with
 | slot t=>
  have:d≠t:=fun e=>h (by rw[e])
  simp[AS.cell,AS.put,List.getElem?_set_ne this]
 | box b=>rfl
theorem UV0 {σ:AS} {d:Nat} {av:AV} {c:Nat} (h:d < σ.slots.length):(σ.put d av).cell (.slot d) c=av.cs[c]?:=by
 simp[AS.cell,AS.put,List.getElem?_set_self h]
theorem InvAt.put {C:Ctx} {X:List Nat} {σ:AS} {a:Act} {w:World} {S L:Nat->Prop} {bl:List Bk} {O1 O2:List Nat} (h:InvAt C X σ a w S L bl O1 O2)
  {d i:Nat} {av:AV} {v:Value} {o':List Nat} (hf:Fresh σ (σ.epoch,i))
  (hv:RepV ⟨S,L,bl,a,w,σ.cell⟩ av v o') (hne:zG0 (some (σ.epoch,i)) av.cs)
  (hst:∀c∈av.cs,stampIn X σ.epoch c) (hgn:∀g d k els,A.ow g d k els∈av.cs->g=(σ.epoch,i))
  (hn:o'.Nodup) (ho:∀b∈o',b∉O1++O2/\¬L b/\(b∈C.O0\/C.w0.heap.size<=b)) :
  ∃O1',InvAt C X (σ.put d av) (a.put (some d) v) w S L bl O1' O2:=by
 by_cases hd:d < σ.slots.length
 ·have hlen:=RpS.length h.slots
  have hE:Env.Le (some (σ.epoch,i)) ⟨S,L,bl,a,w,σ.cell⟩ ⟨S,L,bl,a.put (some d) v,w,(σ.put d av).cell⟩:=by
   refine ⟨fun _ h=>h,fun _ h=>h,fun b hb=>rfl,fun _ _ h=>h,fun r c g d' k els' hg he=>?_⟩;simp only at he
   by_cases hr:r=.slot d
   ·subst hr
    rw[UV0 hd] at he;exact absurd (congrArg some (hgn g d' k els' (List.mem_of_getElem? he))) hg
   ·rw[UU0 hr] at he
    refine ⟨d',els',he,rfl,fun x hx=>?_⟩;cases r with
    | slot t=>
     have hne:d≠t:=fun e=>hr (by rw[e])
     simpa [Env.cv,Act.put,Array.getElem?_setIfInBounds_ne hne] using hx
    | box b=>exact hx
  have hs:=RpS.go hE (fun _ _=>rfl) hf.1 h.slots;have hb:=RpB.go hE (fun _ _=>rfl) (fun c cs' hc he=>hf.2 cs' (he ▸ hc)) h.boxes;obtain ⟨old,hold⟩:∃x,σ.slots[d]?=some x:=⟨_,List.getElem?_eq_getElem hd⟩;obtain ⟨u,p,o,q,g1,g2,g3,g4⟩:=RpS.split d old hs hold;have g5:=g4 av v o' (RepV.go hE (fun _ _=>rfl) hne hv);refine ⟨p++o'++q,?_,?_,hb,?_,h.sl,?_,h.s0,h.keeps,?_,h.pre,?_,?_⟩
  ·simpa [Act.put] using h.defers
  ·simpa [Act.put,AS.put] using g5
  ·have hnd:=h.nodup
   subst g2;simp only[List.append_assoc,List.nodup_append,List.mem_append] at hnd |-;obtain ⟨n1,⟨n2,⟨n3,n4,n5⟩,n6⟩,n7⟩:=hnd;refine ⟨n1,⟨hn,⟨n3,n4,n5⟩,fun x hx y hy=>?_⟩,fun x hx y hy=>?_⟩
   ·have:=(ho x hx).1
    simp only[List.mem_append,not_or] at this;rintro rfl;rcases hy with hy | hy
    ·exact this.1.2 hy
    ·exact this.2 hy
   ·rcases hy with hy | hy | hy
    ·have:=(ho y hy).1
     simp only[List.mem_append,not_or] at this;rintro rfl;exact this.1.1.1 hx
    ·exact n7 x hx y (.inr (.inl hy))
    ·exact n7 x hx y (.inr (.inr hy))
  ·intro b hb'
   refine ⟨(h.stable b hb').1,?_⟩;have:=(h.stable b hb').2;subst g2;simp only[List.mem_append,not_or] at this |-;exact ⟨⟨⟨this.1.1.1,fun hx=>(ho b hx).2.1 hb'⟩,this.1.2⟩,this.2⟩
  ·intro b hb'
   subst g2;simp only[List.mem_append] at hb';rcases hb' with ((hb' | hb') | hb') | hb'
   ·exact h.own b (by simp[hb'])
   ·exact (ho b hb').2.2
   ·exact h.own b (by simp[hb'])
   ·exact h.own b (by simp[hb'])
  ·intro x hx c hc
   rcases List.mem_or_eq_of_mem_set hx with hx | rfl
   ·exact h.stS x hx c hc
   ·exact hst c hc
  ·intro cs hcs c hc
   exact h.stB cs hcs c hc
 ·have hd':σ.slots.length<=d:=Nat.le_of_not_lt hd
  have hlen:=RpS.length h.slots;have e1:σ.put d av=σ:=by simp[AS.put,pN1 hd']
  have e2:a.put (some d) v=a:=by
   have:a.tmps.size<=d:=by simpa [<-hlen] using hd'
   simp[Act.put,Array.setIfInBounds,Nat.not_lt.2 this]
  rw[e1,e2];exact ⟨O1,h⟩
def AS.putO (σ:AS) (d:Option Nat) (av:AV):AS:=match d with | some d=>σ.put d av | none=>σ
theorem InvAt.done {C:Ctx} {X:List Nat} {σ:AS} {a:Act} {w:World} {S L:Nat->Prop} {bl:List Bk} {O1 O2:List Nat} (h:InvAt C X σ a w S L bl O1 O2)
  {d:Option Nat} {i:Nat} {av:AV} {v:Value} {o':List Nat} (hf:Fresh σ (σ.epoch,i))
  (hv:RepV ⟨S,L,bl,a,w,σ.cell⟩ av v o') (hne:zG0 (some (σ.epoch,i)) av.cs)
  (hst:∀c∈av.cs,stampIn X σ.epoch c) (hgn:∀g d k els,A.ow g d k els∈av.cs->g=(σ.epoch,i))
  (hn:o'.Nodup) (ho:∀b∈o',b∉O1++O2/\¬L b/\(b∈C.O0\/C.w0.heap.size<=b)) :
  Inv C X (σ.putO d av) (a.put d v) w:=by
 cases d with
 | none=>exact ⟨S,L,bl,O1,O2,h⟩
 | some d=>obtain ⟨O1',h'⟩:=h.put (d:=d) hf hv hne hst hgn hn ho;exact ⟨S,L,bl,O1',O2,h'⟩
end Go.Av
/- Avs, part 4: a root's cell is changed in place. -/
namespace Go.Av
theorem jU0 {p o q o':List Nat} (h:(p++o++q).Nodup) (hn:o'.Nodup) (ho:∀b∈o',b∈o\/b∉p++o++q):(p++o'++q).Nodup:=by
 simp only[List.append_assoc,List.nodup_append,List.mem_append] at h |-;simp only[List.append_assoc,List.mem_append,not_or] at ho;obtain ⟨h1,⟨_,h3,h4⟩,h5⟩:=h;refine ⟨h1,⟨hn,h3,fun x hx y hy e=>?_⟩,fun x hx y hy e=>?_⟩
 ·subst e
  rcases ho x hx with h | h
  ·exact h4 x h x hy rfl
  ·exact h.2.2 hy
 ·subst e
  rcases hy with hy | hy
  ·rcases ho x hy with h | h
   ·exact h5 x hx x (.inl h) rfl
   ·exact h.1 hx
  ·exact h5 x hx x (.inr hy) rfl
theorem bJ0 {p o q o':List Nat} (h:(p++o++q).Nodup) (b:Nat):b∈p++o'++q↔(b∈p++o++q/\b∉o)\/b∈o':=by
 simp only[List.append_assoc,List.nodup_append,List.mem_append] at h |-;obtain ⟨_,⟨_,_,h4⟩,h5⟩:=h
 constructor
 ·rintro (hb | hb | hb)
  ·exact .inl ⟨.inl hb,fun ho=>h5 b hb b (.inl ho) rfl⟩
  ·exact .inr hb
  ·exact .inl ⟨.inr (.inr hb),fun ho=>h4 b ho b hb rfl⟩
 ·rintro (⟨hb | hb | hb,hn⟩ | hb)
  ·exact .inl hb
  ·exact absurd hb hn
  ·exact .inr (.inr hb)
  ·exact .inr (.inl hb)
theorem vJ0 {σ:AS} {r r':Root} {c c':Nat} {x:A} (h:r'≠r\/c'≠c):(σ.setCell r c x).cell r' c'=σ.cell r' c':=by
 cases r with
 | slot t=>
  cases r' with
  | slot t'=>
   by_cases ht:t=t'
   ·subst ht
    have hc:c≠c':=fun e=>by rcases h with h | h<;>simp_all
    simp only[AS.cell,AS.setCell,List.getElem?_modify];cases σ.slots[t]?<;>simp[List.getElem?_set_ne hc]
   ·simp[AS.cell,AS.setCell,ht]
  | box b=>rfl
 | box t=>
  cases r' with
  | box t'=>
   by_cases ht:t=t'
   ·subst ht
    have hc:c≠c':=fun e=>by rcases h with h | h<;>simp_all
    simp only[AS.cell,AS.setCell,List.getElem?_modify];cases σ.boxes[t]? with
    | none=>simp
    | some y=>cases y<;>simp[List.getElem?_set_ne hc]
   ·simp[AS.cell,AS.setCell,ht]
  | slot b=>rfl
theorem vK0 {σ:AS} {r:Root} {c:Nat} {x y:A} (h:σ.cell r c=some y):(σ.setCell r c x).cell r c=some x:=by
 cases r with
 | slot t=>
  simp only[AS.cell,AS.setCell,List.getElem?_modify] at h |-;cases hs:σ.slots[t]? with
  | none=>simp[hs] at h
  | some av=>
   simp[hs] at h |-;obtain ⟨hl,_⟩:=List.getElem?_eq_some_iff.1 h;simp[List.getElem?_set_self hl]
 | box t=>
  simp only[AS.cell,AS.setCell,List.getElem?_modify] at h |-;cases hs:σ.boxes[t]? with
  | none=>simp[hs] at h
  | some o=>
   cases o with
   | none=>simp[hs] at h
   | some cs=>
    simp[hs] at h |-;obtain ⟨hl,_⟩:=List.getElem?_eq_some_iff.1 h;simp[List.getElem?_set_self hl]
theorem modify_eq_set {α:Type} {l:List α} {t:Nat} {f:α->α} {x:α} (h:l[t]?=some x):l.modify t f=l.set t (f x):=by
 apply List.ext_getElem?;intro j;rw[List.getElem?_modify,List.getElem?_set];obtain ⟨hl,hx⟩:=List.getElem?_eq_some_iff.1 h
 by_cases ht:t=j
 ·subst ht;simp[hl,hx]
 ·simp[ht]
theorem yG1 {α:Type} {l:List α} {t:Nat} {x:α} (h:l[t]?=some x):l.set t x=l:=by
 obtain ⟨hl,hx⟩:=List.getElem?_eq_some_iff.1 h;subst hx;exact List.set_getElem_self hl
theorem RepV.cellAt {E:Env} {av:AV} {v:Value} {O:List Nat} {c:Nat} {x:A} (h:RepV E av v O) (hc:av.cs[c]?=some x) :
  RpA E av.cs (flat v) O/\∀(E':Env) cs' O',RpA E' cs' (flat v) O'->RepV E' { av with cs:=cs' } v O':=by
 obtain ⟨sh,cs⟩:=av;cases sh with
 | any=>have h1:cs=[]:=h.1;subst h1;simp at hc
 | one=>exact ⟨h.2,fun E' cs' O' h'=>⟨h.1,h'⟩⟩
 | agg=>exact ⟨h.2,fun E' cs' O' h'=>⟨h.1,h'⟩⟩
 | tup ns=>exact ⟨h.2,fun E' cs' O' h'=>⟨h.1,h'⟩⟩
theorem RpA.reput {E:Env}:∀{cs:List A} {us:List Value} {O:List Nat} {c:Nat} {x:A},RpA E cs us O->cs[c]?=some x->
  ∃u p o q,us[c]?=some u/\O=p++o++q/\RepA E x u o/\∀(gn:Option yA0) (E':Env),Env.Le gn E E'->zG0 gn cs->∀x' o',
   (∀b∈p++q,E'.w.heap[b]?=E.w.heap[b]?)->RepA E' x' u o'->RpA E' (cs.set c x') us (p++o'++q)
 | [],_,_,c,x,_,h=>by simp at h
 | d::cs,us,O,0,x,h,hc=>by
  obtain ⟨u,us',o1,o2,h1,h2,h3,h4⟩:=h;subst h1;subst h2;simp at hc;subst hc;exact ⟨u,[],o1,o2,rfl,by simp,h3,fun gn E' hE hg x' o' hh hx=>⟨u,us',o',o2,rfl,by simp,hx,RpA.go hE (fun b hb=>hh b (by simp[hb])) (fun y hy=>hg y (List.mem_cons_of_mem _ hy)) h4⟩⟩
 | d::cs,us,O,c+1,x,h,hc=>by
  obtain ⟨u,us',o1,o2,h1,h2,h3,h4⟩:=h;subst h1;subst h2;simp at hc;obtain ⟨v,p,o,q,g1,g2,g3,g4⟩:=RpA.reput h4 hc;subst g2;refine ⟨v,o1++p,o,q,by simpa using g1,by simp,g3,fun gn E' hE hg x' o' hh hx=>⟨u,us',o1,p++o'++q,rfl,by simp,RepA.go hE (fun b hb=>hh b (by simp[hb])) (hg d (List.mem_cons_self)) h3,?_⟩⟩
  exact g4 gn E' hE (fun y hy=>hg y (List.mem_cons_of_mem _ hy)) x' o' (fun b hb=>hh b (by simp at hb |-;rcases hb with hb | hb<;>simp[hb])) hx
theorem RpS.reput {E:Env}:∀{cs:List AV} {us:List Value} {O:List Nat} {c:Nat} {x:AV},RpS E cs us O->cs[c]?=some x->
  ∃u p o q,us[c]?=some u/\O=p++o++q/\RepV E x u o/\∀(gn:Option yA0) (E':Env),Env.Le gn E E'->(∀y∈cs,zG0 gn y.cs)->∀x' o',
   (∀b∈p++q,E'.w.heap[b]?=E.w.heap[b]?)->RepV E' x' u o'->RpS E' (cs.set c x') us (p++o'++q)
 | [],_,_,c,x,_,h=>by simp at h
 | d::cs,us,O,0,x,h,hc=>by
  obtain ⟨u,us',o1,o2,h1,h2,h3,h4⟩:=h;subst h1;subst h2;simp at hc;subst hc;exact ⟨u,[],o1,o2,rfl,by simp,h3,fun gn E' hE hg x' o' hh hx=>⟨u,us',o',o2,rfl,by simp,hx,RpS.go hE (fun b hb=>hh b (by simp[hb])) (fun y hy=>hg y (List.mem_cons_of_mem _ hy)) h4⟩⟩
 | d::cs,us,O,c+1,x,h,hc=>by
  obtain ⟨u,us',o1,o2,h1,h2,h3,h4⟩:=h;subst h1;subst h2;simp at hc;obtain ⟨v,p,o,q,g1,g2,g3,g4⟩:=RpS.reput h4 hc;subst g2;refine ⟨v,o1++p,o,q,by simpa using g1,by simp,g3,fun gn E' hE hg x' o' hh hx=>⟨u,us',o1,p++o'++q,rfl,by simp,RepV.go hE (fun b hb=>hh b (by simp[hb])) (hg d (List.mem_cons_self)) h3,?_⟩⟩
  exact g4 gn E' hE (fun y hy=>hg y (List.mem_cons_of_mem _ hy)) x' o' (fun b hb=>hh b (by simp at hb |-;rcases hb with hb | hb<;>simp[hb])) hx
theorem RpB.blk_mem {E:Env}:∀{cs:List (Option (List A))} {us:List Bk} {O:List Nat} {b:Nat} {blk:Bk} {x:List A},RpB E cs us O->cs[b]?=some (some x)->us[b]?=some blk->blk.b∈O
 | [],_,_,b,blk,x,_,h,_=>by simp at h
 | d::cs,us,O,0,blk,x,h,hc,hu=>by
  obtain ⟨u,us',o1,o2,h1,h2,h3,h4⟩:=h;subst h1;subst h2;simp at hc hu;subst hc;subst hu;obtain ⟨o,us5,h5,_⟩:=h3;simp[h5]
 | d::cs,us,O,b+1,blk,x,h,hc,hu=>by
  obtain ⟨u,us',o1,o2,h1,h2,h3,h4⟩:=h;subst h1;subst h2;simp at hc hu;have:=RpB.blk_mem h4 hc hu;simp[this]
theorem RpB.reput {E:Env}:∀{cs:List (Option (List A))} {us:List Bk} {O:List Nat} {c:Nat} {x:Option (List A)},RpB E cs us O->cs[c]?=some x->
  ∃u p o q,us[c]?=some u/\O=p++o++q/\RepBox E x u o/\(∀(b:Nat) (blk:Bk) (y:List A),b≠c->cs[b]?=some (some y)->us[b]?=some blk->blk.b∈p++q)/\∀(gn:Option yA0) (E':Env),Env.Le gn E E'->(∀y ys,y∈cs->y=some ys->zG0 gn ys)->∀x' o',
   (∀b∈p++q,E'.w.heap[b]?=E.w.heap[b]?)->RepBox E' x' u o'->RpB E' (cs.set c x') us (p++o'++q)
 | [],_,_,c,x,_,h=>by simp at h
 | d::cs,us,O,0,x,h,hc=>by
  obtain ⟨u,us',o1,o2,h1,h2,h3,h4⟩:=h;subst h1;subst h2;simp at hc;subst hc;refine ⟨u,[],o1,o2,rfl,by simp,h3,fun b blk y hb hy hu=>?_,fun gn E' hE hg x' o' hh hx=>⟨u,us',o',o2,rfl,by simp,hx,RpB.go hE (fun b hb=>hh b (by simp[hb])) (fun y ys hy=>hg y ys (List.mem_cons_of_mem _ hy)) h4⟩⟩
  cases b with
  | zero=>exact absurd rfl hb
  | succ b=>simp at hy hu;simpa using RpB.blk_mem h4 hy hu
 | d::cs,us,O,c+1,x,h,hc=>by
  obtain ⟨u,us',o1,o2,h1,h2,h3,h4⟩:=h;subst h1;subst h2;simp at hc;obtain ⟨v,p,o,q,g1,g2,g3,g5,g4⟩:=RpB.reput h4 hc;subst g2;refine ⟨v,o1++p,o,q,by simpa using g1,by simp,g3,fun b blk y hb hy hu=>?_,fun gn E' hE hg x' o' hh hx=>⟨u,us',o1,p++o'++q,rfl,by simp,RepBox.go hE (fun b hb=>hh b (by simp[hb])) (fun ys hy=>hg d ys (List.mem_cons_self) hy) h3,?_⟩⟩
  ·cases b with
   | zero=>
    simp at hy hu;subst hy;subst hu;obtain ⟨o,us5,h5,_⟩:=h3;simp[h5]
   | succ b=>
    simp at hy hu;have:=g5 b blk y (by omega) hy hu
    simp only[List.mem_append] at this |-;rcases this with h | h<;>simp[h]
  ·exact g4 gn E' hE (fun y ys hy=>hg y ys (List.mem_cons_of_mem _ hy)) x' o' (fun b hb=>hh b (by simp at hb |-;rcases hb with hb | hb<;>simp[hb])) hx
mutual
theorem RepL.lt {S:Nat->Prop} {w:World}:∀(t:T) (u:Value) (own:List Nat),RepL S w t u own->∀b∈own,b < w.heap.size
 | .lit _,_,_,h=>by simp only[RepL] at h;simp[h.2.2]
 | .sl _,_,_,h=>by simp only[RepL] at h;simp[h.2]
 | .own els,_,_,h=>by
  simp only[RepL] at h;obtain ⟨_,_,_,_,⟨_,rfl⟩ | ⟨b,o,arr,ty,fz,n,_,rfl,g3,_,g5⟩⟩:=h
  ·simp
  ·intro x hx
   rcases List.mem_cons.1 hx with rfl | hx
   ·exact (Array.getElem?_eq_some_iff.1 g3).1
   ·exact RepLE.lt o els n g5 x hx
theorem RepLC.lt {S:Nat->Prop} {w:World} {b:Nat}:∀(o:Nat) (cs:List T) (own:List Nat),RepLC S w b o cs own->∀b∈own,b < w.heap.size
 | _,[],_,h=>by simp only[RepLC] at h;simp[h]
 | o,c::cs,_,h=>by
  simp only[RepLC] at h;obtain ⟨u,o1,o2,rfl,_,h2,h3⟩:=h;exact fun x hx=>(List.mem_append.1 hx).elim (RepL.lt c u o1 h2 x) (RepLC.lt (o+1) cs o2 h3 x)
theorem RepLE.lt {S:Nat->Prop} {w:World} {b:Nat}:∀(o:Nat) (es:List (List T)) (own:List Nat),RepLE S w b o es own->∀b∈own,b < w.heap.size
 | _,[],_,h=>by simp only[RepLE] at h;simp[h]
 | o,e::es,_,h=>by
  simp only[RepLE] at h;obtain ⟨o1,o2,rfl,h2,h3⟩:=h;exact fun x hx=>(List.mem_append.1 hx).elim (RepLC.lt o e o1 h2 x) (RepLE.lt (o+e.length) es o2 h3 x)
end
theorem RepO.lt {S:Nat->Prop} {w:World} {d:Bool} {k:Nat} {els:List (List T)} {u:Value} {own:List Nat} (h:RepO S w d k els u own):∀b∈own,b < w.heap.size:=by
 cases d
 ·obtain ⟨ad,cap,_,_,_,h4⟩:=h
  rcases h4 with ⟨rfl,_,_⟩ | ⟨b,o,arr,ty,fz,_,rfl,g3,_⟩
  ·simp
  ·intro x hx
   simp at hx;subst hx;exact (Array.getElem?_eq_some_iff.1 g3).1
 ·obtain ⟨ad,cap,_,_,_,h4⟩:=h
  rcases h4 with ⟨rfl,_,_⟩ | ⟨b,o,arr,ty,fz,n,_,rfl,g3,_,_,g5⟩
  ·simp
  ·intro x hx
   rcases List.mem_cons.1 hx with rfl | hx
   ·exact (Array.getElem?_eq_some_iff.1 g3).1
   ·exact RepLE.lt o els n g5 x hx
theorem RepA.own_lt {E:Env} {c:A} {u:Value} {o:List Nat} (h:RepA E c u o) (b:Nat) (hb:b∈o):b < E.w.heap.size:=by
 cases c<;>simp only[RepA] at h<;>first
  | (obtain ⟨_,_,rfl⟩:=h;simp at hb;done)
  | (obtain ⟨_,rfl⟩:=h;simp at hb;done)
  | (obtain ⟨rfl,_⟩:=h;simp at hb;done)
  | (subst h;simp at hb;done)
  | skip
 exact RepO.lt h b hb
theorem InvAt.peek {C:Ctx} {X:List Nat} {σ:AS} {a:Act} {w:World} {S L:Nat->Prop} {bl:List Bk} {O1 O2:List Nat} (h:InvAt C X σ a w S L bl O1 O2)
  {r:Root} {c:Nat} {c0:A} (hc:σ.cell r c=some c0) :
  ∃u o,Env.cv ⟨S,L,bl,a,w,σ.cell⟩ r c=some u/\RepA ⟨S,L,bl,a,w,σ.cell⟩ c0 u o/\(∀b∈o,b∈O1++O2):=by
 cases r with
 | slot t=>
  simp only[AS.cell] at hc;cases hs:σ.slots[t]? with
  | none=>simp[hs] at hc
  | some av=>
   simp only[hs,Option.bind_some] at hc;obtain ⟨v,p,o,q,g1,g2,g3,g4⟩:=RpS.reput h.slots hs;obtain ⟨r1,r2⟩:=RepV.cellAt g3 hc;obtain ⟨u,p2,o2,q2,s1,s2,s3,s4⟩:=RpA.reput r1 hc;refine ⟨u,o2,?_,s3,fun b hb=>by simp[g2,s2,hb]⟩
   rw[Array.getElem?_toList] at g1;simp[Env.cv,g1,s1]
 | box t=>
  simp only[AS.cell] at hc;cases hs:σ.boxes[t]? with
  | none=>simp[hs] at hc
  | some ocs=>
  cases ocs with
  | none=>simp[hs] at hc
  | some cs=>
   simp only[hs,Option.bind_some] at hc;obtain ⟨blk,p,o,q,g1,g2,g3,g5,g4⟩:=RpB.reput h.boxes hs;obtain ⟨oi,usi,b1,b2,r1⟩:=g3;obtain ⟨u,p2,o2,q2,s1,s2,s3,s4⟩:=RpA.reput r1 hc;refine ⟨u,o2,?_,s3,fun b hb=>by simp[g2,b1,s2,hb]⟩
   simp only[Env.cv,g1,Option.bind_some];exact b2.cell _ _ s1
theorem InvAt.recellG {C:Ctx} {X:List Nat} {σ:AS} {a:Act} {w:World} {S L:Nat->Prop} {bl:List Bk} {O1 O2:List Nat} (h:InvAt C X σ a w S L bl O1 O2)
  {r:Root} {c i:Nat} {c0:A} (hc:σ.cell r c=some c0) (hf:Fresh σ (σ.epoch,i)) :
  ∃u o,Env.cv ⟨S,L,bl,a,w,σ.cell⟩ r c=some u/\RepA ⟨S,L,bl,a,w,σ.cell⟩ c0 u o/\o.Nodup/\(∀b∈o,b∈O1++O2)/\
   ∀(S' L':Nat->Prop) (w':World) (c1:A) (o':List Nat),(∀b,S b->S' b)->(∀b,L b->L' b)->(∀b,S' b->L' b)->(∀b,S' b->S b\/b∈o)->(∀b,L' b->L b\/b∈o)->(∀b∈o',¬L' b)->o'.Nodup->(∀b∈o',b∈o\/b∉O1++O2/\(b∈C.O0\/C.w0.heap.size<=b))->
    (∀b,b∉o->(L b\/b∈O1++O2)->w'.heap[b]?=w.heap[b]?)->Keeps C.O0 C.w0 w'->w.heap.size<=w'.heap.size->
    RepA ⟨S',L',bl,a,w',(σ.setCell r c c1).cell⟩ c1 u o'->stampIn X σ.epoch c1->
    (∀g d k els',c1=.ow g d k els'->g=(σ.epoch,i)\/∃d0 els,c0=.ow g d0 k els/\els.length=els'.length)->
    ∃O1' O2',InvAt C X (σ.setCell r c c1) a w' S' L' bl O1' O2'/\∀b,b∈O1'++O2'↔(b∈O1++O2/\b∉o)\/b∈o':=by
 have head:∀(u:Value) (o:List Nat) (S' L':Nat->Prop) (w':World) (c1:A),(∀b,S b->S' b)->(∀b,L b->L' b)->(∀b,L b->b∉o)->
   (∀b,b∉o->(L b\/b∈O1++O2)->w'.heap[b]?=w.heap[b]?)->
   (∀(b:Nat) (blk:Bk) (cs:List A),σ.boxes[b]?=some (some cs)->bl[b]?=some blk->blk.b∉o)->
   (∀g d k els',c1=.ow g d k els'->g=(σ.epoch,i)\/∃d0 els,c0=.ow g d0 k els/\els.length=els'.length)->
   Env.Le (some (σ.epoch,i)) ⟨S,L,bl,a,w,σ.cell⟩ ⟨S',L',bl,a,w',(σ.setCell r c c1).cell⟩:=by
  intro u o S' L' w' c1 hS hL hSo hh hbo hg;refine ⟨hS,hL,fun b hb=>have hb:=hb.elim (h.sl b) id;hh b (hSo b hb) (.inl hb),fun _ _ h=>h,fun r' c' g d k els' hne he=>?_⟩;have hcv:∀x,σ.cell r' c'≠none->Env.cv ⟨S,L,bl,a,w,σ.cell⟩ r' c'=some x->Env.cv ⟨S',L',bl,a,w',(σ.setCell r c c1).cell⟩ r' c'=some x:=by
   intro x hx' hx;cases r' with
   | slot t=>exact hx
   | box b=>
    simp only[Env.cv] at hx |-;cases hb:σ.boxes[b]? with
    | none=>simp[AS.cell,hb] at hx'
    | some y=>
     cases y with
     | none=>simp[AS.cell,hb] at hx'
     | some cs=>
      obtain ⟨blk,p,o2,q,g1,g2,⟨o3,us3,g3,g4,g5⟩,_⟩:=RpB.split b _ h.boxes hb;simp only[g1,Option.bind_some] at hx |-;rw[cell?_congr (hh blk.b (hbo b blk cs hb g1) (.inr (by simp[g2,g3])))]
      exact hx
  by_cases hrc:r'=r/\c'=c
  ·obtain ⟨rfl,rfl⟩:=hrc
   simp only at he;rw[vK0 hc] at he;simp at he;rcases hg g d k els' he with rfl | ⟨d0,els,h1,h2⟩
   ·exact absurd rfl hne
   ·exact ⟨d0,els,by simpa [h1] using hc,h2,fun x hx=>hcv x (by simp[hc]) hx⟩
  ·have hrc':r'≠r\/c'≠c:=by
    by_cases hr:r'=r
    ·exact .inr fun e=>hrc ⟨hr,e⟩
    ·exact .inl hr
   simp only at he;rw[vJ0 hrc'] at he;exact ⟨d,els',he,rfl,fun x hx=>hcv x (by simp[he]) hx⟩
 have hS0:∀b,L b->b∉O1++O2:=fun b hb=>(h.stable b hb).2;cases r with
 | slot t=>
  simp only[AS.cell] at hc;cases hs:σ.slots[t]? with
  | none=>simp[hs] at hc
  | some av=>
   simp only[hs,Option.bind_some] at hc;obtain ⟨v,p,o,q,g1,g2,g3,g4⟩:=RpS.reput h.slots hs;obtain ⟨r1,r2⟩:=RepV.cellAt g3 hc;obtain ⟨u,p2,o2,q2,s1,s2,s3,s4⟩:=RpA.reput r1 hc;have hsub:∀b∈o2,b∈O1++O2:=fun b hb=>by simp[g2,s2,hb]
   have hnd:=h.nodup;have hnd':((p++p2)++o2++(q2++q++O2)).Nodup:=by simpa [g2,s2] using hnd
   refine ⟨u,o2,?_,s3,?_,hsub,?_⟩
   ·rw[Array.getElem?_toList] at g1
    simp[Env.cv,g1,s1]
   ·rw[List.append_assoc,List.nodup_append] at hnd'
    exact (List.nodup_append.1 hnd'.2.1).1
   ·intro S' L' w' c1 o' hS hL hSL hSU hS' ho' hno hoo hh hk hz hr hst hg
    have hbo:∀(b:Nat) (blk:Bk) (cs:List A),σ.boxes[b]?=some (some cs)->bl[b]?=some blk->blk.b∉o2:=by
     intro b blk cs hb hblk hmem;obtain ⟨blk',p',o3,q',k1,k2,⟨o4,us4,k3,k4,k5⟩,_⟩:=RpB.split b _ h.boxes hb;rw[hblk] at k1;simp at k1;subst k1;have hx:blk.b∈O2:=by simp[k2,k3]
     have hy:blk.b∈O1:=by simp[g2,s2,hmem]
     exact (List.nodup_append.1 hnd).2.2 blk.b hy blk.b hx rfl
    have hE:=head u o2 S' L' w' c1 hS hL (fun b hb hm=>hS0 b hb (hsub b hm)) hh hbo hg;have hso:∀b∈p++p2++q2++q++O2,b∉o2:=by
     intro b hb hm;have:=(bJ0 (o':=[]) hnd' b).1;simp only[List.append_nil,List.not_mem_nil,or_false] at this;exact (this (by simp only[List.mem_append] at hb |-;rcases hb with (((hb | hb) | hb) | hb) | hb<;>simp[hb])).2 hm
    have hmem:∀b∈p++p2++q2++q++O2,w'.heap[b]?=w.heap[b]?:=fun b hb=>hh b (hso b hb) (.inr (by
     simp only[List.mem_append] at hb |-;subst g2;subst s2;simp only[List.mem_append];rcases hb with (((hb | hb) | hb) | hb) | hb<;>simp[hb]))
    have hneS:∀y∈σ.slots,zG0 (some (σ.epoch,i)) y.cs:=hf.1;have hneB:∀(y:Option (List A)) (ys:List A),y∈σ.boxes->y=some ys->zG0 (some (σ.epoch,i)) ys:=fun y ys hy he=>hf.2 ys (he ▸ hy);have t1:=s4 _ _ hE (hneS av (List.mem_of_getElem? hs)) c1 o' (fun b hb=>hmem b (by simp only[List.mem_append] at hb |-;rcases hb with hb | hb<;>simp[hb])) hr
    have t2:=g4 _ _ hE hneS _ _ (fun b hb=>hmem b (by simp only[List.mem_append] at hb |-;rcases hb with hb | hb<;>simp[hb])) (r2 _ _ _ t1)
    have t3:=RpB.go hE (fun b hb=>hmem b (by simp[hb])) hneB h.boxes
    have hmd:σ.setCell (.slot t) c c1={ σ with slots:=σ.slots.set t { av with cs:=av.cs.set c c1 } }:=by
     simp[AS.setCell,modify_eq_set hs]
    have hnn:=jU0 hnd' hno (fun b hb=>(hoo b hb).imp id fun h=>by have h1:=h.1;simpa [g2,s2] using h1)
    have hmm:=fun b=>bJ0 (o':=o') hnd' b;have e1:p++(p2++o'++q2)++q++O2=(p++p2)++o'++(q2++q++O2):=by simp
    have e2:O1++O2=(p++p2)++o2++(q2++q++O2):=by simp[g2,s2]
    refine ⟨p++(p2++o'++q2)++q,O2,⟨h.defers,?_,?_,?_,hSL,?_,⟨fun b hb=>hS b (h.s0.1 b hb),fun b hb=>(hSU b hb).elim (h.s0.2 b) (fun hm=>.inr (h.own b (by rw[e2];simp[hm])))⟩,hk,?_,h.pre,?_,?_⟩,?_⟩
    ·rw[hmd] at t2 |-;exact t2
    ·rw[hmd] at t3 |-;exact t3
    ·rw[e1];exact hnn
    ·intro b hb
     rw[e1,hmm b,<-e2];rcases hS' b hb with hb' | hb'
     ·have:=h.stable b hb'
      exact ⟨Nat.lt_of_lt_of_le this.1 hz,fun hx=>hx.elim (fun hx=>this.2 hx.1) (fun hx=>ho' b hx hb)⟩
     ·refine ⟨?_,fun hx=>hx.elim (fun hx=>hx.2 hb') (fun hx=>ho' b hx hb)⟩
      have hlt:b < w.heap.size:=RepA.own_lt s3 b hb';omega
    ·intro b hb
     rw[e1,hmm b,<-e2] at hb;rcases hb with hb | hb
     ·exact h.own b hb.1
     ·exact (hoo b hb).elim (fun hm=>h.own b (hsub b hm)) And.right
    ·rw[hmd]
     intro x hx y hy;rcases List.mem_or_eq_of_mem_set hx with hx | rfl
     ·exact h.stS x hx y hy
     ·rcases List.mem_or_eq_of_mem_set hy with hy | rfl
      ·exact h.stS av (List.mem_of_getElem? hs) y hy
      ·exact hst
    ·rw[hmd]
     intro cs hcs y hy;exact h.stB cs hcs y hy
    ·intro b
     rw[e1,hmm b,<-e2]
 | box t=>
  simp only[AS.cell] at hc;cases hs:σ.boxes[t]? with
  | none=>simp[hs] at hc
  | some ocs=>
  cases ocs with
  | none=>simp[hs] at hc
  | some cs=>
   simp only[hs,Option.bind_some] at hc;obtain ⟨blk,p,o,q,g1,g2,g3,g5,g4⟩:=RpB.reput h.boxes hs;obtain ⟨oi,usi,b1,b2,r1⟩:=g3;obtain ⟨u,p2,o2,q2,s1,s2,s3,s4⟩:=RpA.reput r1 hc;have hsub:∀b∈o2,b∈O1++O2:=fun b hb=>by simp[g2,b1,s2,hb]
   have hnd:=h.nodup;have hnd':((O1++p++[blk.b]++p2)++o2++(q2++q)).Nodup:=by simpa [g2,b1,s2] using hnd
   refine ⟨u,o2,?_,s3,?_,hsub,?_⟩
   ·simp only[Env.cv,g1,Option.bind_some]
    exact b2.cell _ _ s1
   ·rw[List.append_assoc,List.nodup_append] at hnd'
    exact (List.nodup_append.1 hnd'.2.1).1
   ·intro S' L' w' c1 o' hS hL hSL hSU hS' ho' hno hoo hh hk hz hr hst hg
    have hso:∀b∈O1++p++[blk.b]++p2++q2++q,b∉o2:=by
     intro b hb hm;have:=(bJ0 (o':=[]) hnd' b).1;simp only[List.append_nil,List.not_mem_nil,or_false] at this;exact (this (by simp only[List.mem_append] at hb |-;rcases hb with ((((hb | hb) | hb) | hb) | hb) | hb<;>simp[hb])).2 hm
    have hbo:∀(b:Nat) (blk':Bk) (cs:List A),σ.boxes[b]?=some (some cs)->bl[b]?=some blk'->blk'.b∉o2:=by
     intro b blk' cs' hb hblk
     by_cases hbt:b=t
     ·subst hbt
      rw[hblk] at g1;simp at g1;subst g1;exact hso blk'.b (by simp)
     ·have:=g5 b blk' cs' hbt hb hblk
      exact hso blk'.b (by simp only[List.mem_append] at this |-;rcases this with h | h<;>simp[h])
    have hE:=head u o2 S' L' w' c1 hS hL (fun b hb hm=>hS0 b hb (hsub b hm)) hh hbo hg;have hmem:∀b∈O1++p++[blk.b]++p2++q2++q,w'.heap[b]?=w.heap[b]?:=fun b hb=>hh b (hso b hb) (.inr (by
     simp only[List.mem_append] at hb |-;subst g2;subst b1;subst s2;simp only[List.mem_append,List.mem_cons];rcases hb with ((((hb | hb) | hb) | hb) | hb) | hb<;>simp_all))
    have hneS:∀y∈σ.slots,zG0 (some (σ.epoch,i)) y.cs:=hf.1;have hneB:∀(y:Option (List A)) (ys:List A),y∈σ.boxes->y=some ys->zG0 (some (σ.epoch,i)) ys:=fun y ys hy he=>hf.2 ys (he ▸ hy);have t1:=s4 _ _ hE (hneB _ cs (List.mem_of_getElem? hs) rfl) c1 o' (fun b hb=>hmem b (by simp only[List.mem_append] at hb |-;rcases hb with hb | hb<;>simp[hb])) hr
    have t2:=g4 _ _ hE hneB (some (cs.set c c1)) (blk.b::(p2++o'++q2)) (fun b hb=>hmem b (by simp only[List.mem_append] at hb |-;rcases hb with hb | hb<;>simp[hb]))
     ⟨_,usi,rfl,b2.go (hmem blk.b (by simp)),t1⟩
    have t3:=RpS.go hE (fun b hb=>hmem b (by simp[hb])) hneS h.slots
    have hmd:σ.setCell (.box t) c c1={ σ with boxes:=σ.boxes.set t (some (cs.set c c1)) }:=by
     simp[AS.setCell,modify_eq_set hs]
    have hnn:=jU0 hnd' hno (fun b hb=>(hoo b hb).imp id fun h=>by have h1:=h.1;simpa [g2,b1,s2] using h1)
    have hmm:=fun b=>bJ0 (o':=o') hnd' b;have e1:O1++(p++(blk.b::(p2++o'++q2))++q)=(O1++p++[blk.b]++p2)++o'++(q2++q):=by simp
    have e2:O1++O2=(O1++p++[blk.b]++p2)++o2++(q2++q):=by simp[g2,b1,s2]
    refine ⟨O1,p++(blk.b::(p2++o'++q2))++q,⟨h.defers,?_,?_,?_,hSL,?_,⟨fun b hb=>hS b (h.s0.1 b hb),fun b hb=>(hSU b hb).elim (h.s0.2 b) (fun hm=>.inr (h.own b (by rw[e2];simp[hm])))⟩,hk,?_,h.pre,?_,?_⟩,?_⟩
    ·rw[hmd] at t3 |-;exact t3
    ·rw[hmd] at t2 |-;exact t2
    ·rw[e1];exact hnn
    ·intro b hb
     rw[e1,hmm b,<-e2];rcases hS' b hb with hb' | hb'
     ·have:=h.stable b hb'
      exact ⟨Nat.lt_of_lt_of_le this.1 hz,fun hx=>hx.elim (fun hx=>this.2 hx.1) (fun hx=>ho' b hx hb)⟩
     ·refine ⟨?_,fun hx=>hx.elim (fun hx=>hx.2 hb') (fun hx=>ho' b hx hb)⟩
      have hlt:b < w.heap.size:=RepA.own_lt s3 b hb';omega
    ·intro b hb
     rw[e1,hmm b,<-e2] at hb;rcases hb with hb | hb
     ·exact h.own b hb.1
     ·exact (hoo b hb).elim (fun hm=>h.own b (hsub b hm)) And.right
    ·rw[hmd]
     intro cs hcs y hy;exact h.stS cs hcs y hy
    ·rw[hmd]
     intro x hx y hy;rcases List.mem_or_eq_of_mem_set hx with hx | hx
     ·exact h.stB x hx y hy
     ·simp at hx;subst hx
      rcases List.mem_or_eq_of_mem_set hy with hy | rfl
      ·exact h.stB cs (List.mem_of_getElem? hs) y hy
      ·exact hst
    ·intro b
     rw[e1,hmm b,<-e2]
theorem InvAt.recell {C:Ctx} {X:List Nat} {σ:AS} {a:Act} {w:World} {S L:Nat->Prop} {bl:List Bk} {O1 O2:List Nat} (h:InvAt C X σ a w S L bl O1 O2)
  {r:Root} {c i:Nat} {c0:A} (hc:σ.cell r c=some c0) (hf:Fresh σ (σ.epoch,i)) :
  ∃u o,Env.cv ⟨S,L,bl,a,w,σ.cell⟩ r c=some u/\RepA ⟨S,L,bl,a,w,σ.cell⟩ c0 u o/\o.Nodup/\(∀b∈o,b∈O1++O2)/\
   ∀(S' L':Nat->Prop) (w':World) (c1:A) (o':List Nat),(∀b,S b->S' b)->(∀b,L b->L' b)->(∀b,S' b->L' b)->(∀b,S' b->S b\/b∈o)->(∀b,L' b->L b\/b∈o)->(∀b∈o',¬L' b)->(o'=o\/o'=[])->
    (∀b,b∉o->(L b\/b∈O1++O2)->w'.heap[b]?=w.heap[b]?)->Keeps C.O0 C.w0 w'->w.heap.size<=w'.heap.size->
    RepA ⟨S',L',bl,a,w',(σ.setCell r c c1).cell⟩ c1 u o'->stampIn X σ.epoch c1->
    (∀g d k els',c1=.ow g d k els'->g=(σ.epoch,i)\/∃d0 els,c0=.ow g d0 k els/\els.length=els'.length)->
    ∃O1' O2',InvAt C X (σ.setCell r c c1) a w' S' L' bl O1' O2'/\∀b,b∈O1'++O2'↔(b∈O1++O2/\b∉o)\/b∈o':=by
 obtain ⟨u,o,k1,k2,k3,k4,k5⟩:=h.recellG hc hf;refine ⟨u,o,k1,k2,k3,k4,fun S' L' w' c1 o' hS hL hSL hSU hS' ho' hoo=>k5 S' L' w' c1 o' hS hL hSL hSU hS' ho' ?_ ?_⟩
 ·rcases hoo with rfl | rfl
  ·exact k3
  ·exact List.nodup_nil
 ·rcases hoo with rfl | rfl
  ·exact fun b hb=>.inl hb
  ·simp
end Go.Av
/- Avs, part 5: types as the abstract operations see them; operands. -/
namespace Go.Av
inductive TK where
 | bool | str | other
 | int (k:IntKind)
 | slice (e:TypeId)
 | struct (fs:List (Nat×TypeId))
 | array (n:Nat) (e:TypeId)
 | ptr (e:TypeId)
structure TI where
 tk:TK
 size:Nat
 bytes:Nat
 zero:List Value
 eq:Bool
def tkOf:TypeDesc->TK
 | .bool=>.bool
 | .string=>.str
 | .int k=>.int k
 | .slice e=>.slice e
 | .struct fs=>.struct (fs.toList.map fun f=>(f.offset,f.type))
 | .array n e=>.array n e
 | .pointer e=>.ptr e
 | _=>.other
def TI.agg (t:TI):Bool:=match t.tk with | .struct _ | .array _ _=>true | _=>false
def eqT (P:Program) (t:TypeId):Bool:=match P.underlying t with
 | some (.struct fs)=>fs.toList.all (fun f=>f.name != "_") && !P.stoodInHeld t && !P.eqGuardType P.depth t
 | _=>true
def tyOf (P:Program) (t:TypeId):Option TI:=
 match P.info? t,P.underlying t with
 | some i,some d=>match i.zero with
  | some z=>if z.cells.size=i.size then some { tk:=tkOf d,size:=i.size,bytes:=i.bytes,zero:=z.cells.toList,eq:=eqT P t } else none
  | none=>none
 | _,_=>none
theorem zM0 {P:Program} {t:TypeId} {ti:TI} (h:tyOf P t=some ti):∃i d z,P.info? t=some i/\P.underlying t=some d/\i.zero=some z/\
  ti={ tk:=tkOf d,size:=i.size,bytes:=i.bytes,zero:=z.cells.toList,eq:=eqT P t }:=by
 unfold tyOf at h;cases h1:P.info? t with
 | none=>simp[h1] at h
 | some i=>
  cases h2:P.underlying t with
  | none=>simp[h1,h2] at h
  | some d=>
   cases h3:i.zero with
   | none=>simp[h1,h2,h3] at h
   | some z=>simp[h1,h2,h3] at h;exact ⟨i,d,z,rfl,rfl,h3,h.2.symm⟩
theorem kX0 {P:Program} {t:TypeId} {ti:TI} (h:tyOf P t=some ti):ti.zero.length=ti.size:=by
 unfold tyOf at h;cases h1:P.info? t with
 | none=>simp[h1] at h
 | some i=>
  cases h2:P.underlying t with
  | none=>simp[h1,h2] at h
  | some d=>
   cases h3:i.zero with
   | none=>simp[h1,h2,h3] at h
   | some z=>
    simp[h1,h2,h3] at h;obtain ⟨h4,rfl⟩:=h;simpa using h4
section
variable {P:Program} {t:TypeId} {ti:TI} (h:tyOf P t=some ti) (w:World)
include h
theorem yJ0:(sizeOf t).run P w=.ok ti.size w:=by
 obtain ⟨i,d,z,h1,h2,h3,rfl⟩:=zM0 h;simp[sizeOf,run_typeInfo (w:=w) h1,Result.andThen]
theorem tY0:(isAgg t).run P w=.ok ti.agg w:=by
 obtain ⟨i,d,z,h1,h2,h3,rfl⟩:=zM0 h;simp only[isAgg,Sem.run_bind,run_underlying h2,Result.andThen];cases d<;>rfl
theorem jE0:∃z:Value,(zeroValue t).run P w=.ok z w/\z.cells.toList=ti.zero:=by
 obtain ⟨i,d,z,h1,h2,h3,rfl⟩:=zM0 h;exact ⟨z,by simp[zeroValue,run_typeInfo (w:=w) h1,Result.andThen,h3],rfl⟩
theorem yH0 {e:TypeId} (hk:ti.tk=.slice e):(underlying t).run P w=.ok (.slice e) w:=by
 obtain ⟨i,d,z,h1,h2,h3,rfl⟩:=zM0 h;cases d<;>simp[tkOf] at hk
 subst hk;exact run_underlying h2 w
theorem xP0 (hk:ti.tk=.str):(underlying t).run P w=.ok .string w:=by
 obtain ⟨i,d,z,h1,h2,h3,rfl⟩:=zM0 h;cases d<;>simp[tkOf] at hk
 exact run_underlying h2 w
theorem xQ0 {k:IntKind} (hk:ti.tk=.int k):(underlying t).run P w=.ok (.int k) w:=by
 obtain ⟨i,d,z,h1,h2,h3,rfl⟩:=zM0 h;cases d<;>simp[tkOf] at hk
 subst hk;exact run_underlying h2 w
theorem jF0 {n:Nat} {e:TypeId} (hk:ti.tk=.array n e):(underlying t).run P w=.ok (.array n e) w:=by
 obtain ⟨i,d,z,h1,h2,h3,rfl⟩:=zM0 h;cases d<;>simp[tkOf] at hk
 obtain ⟨rfl,rfl⟩:=hk;exact run_underlying h2 w
theorem uW0 {fs:List (Nat×TypeId)} (hk:ti.tk=.struct fs):∃ff:Array Field,(underlying t).run P w=.ok (.struct ff) w/\
  ∀(j o:Nat) (u:TypeId),fs[j]?=some (o,u)->∃f,ff[j]?=some f/\f.offset=o/\f.type=u:=by
 obtain ⟨i,d,z,h1,h2,h3,rfl⟩:=zM0 h;cases d<;>simp[tkOf] at hk
 rename_i ff;subst hk;refine ⟨ff,run_underlying h2 w,fun j o u hj=>?_⟩;simp at hj;obtain ⟨f,hf,h5,h6⟩:=hj;exact ⟨f,hf,h5,h6⟩
end
def yB0 (r:Root):Nat->List A->List A
 | _,[]=>[]
 | j,.ow g _ _ els::cs=>.sref r j g 0 els.length::yB0 r (j+1) cs
 | j,c::cs=>c::yB0 r (j+1) cs
def AV.view (r:Root) (av:AV):AV:={ av with cs:=yB0 r 0 av.cs }
def xF0:Value->Option A
 | .slice none 0 0=>some .nil
 | v=>if isLit v then some (.lit v) else none
def UT0:Value->Option AV
 | .agg vs=>(vs.toList.mapM xF0).map fun cs=>⟨.agg,cs⟩
 | v=>(xF0 v).map fun c=>⟨.one,[c]⟩
def AS.ev (σ:AS):Operand->Option AV
 | .tmp t=>(σ.slots[t]?).map (·.view (.slot t))
 | .const v=>UT0 v
 | .func f=>some ⟨.one,[.fn f []]⟩
 | .global _=>none
theorem NF0 (ad:Option Addr) (k cap:Nat):uP1 ad 0 k cap ad:=by
 intro _;cases ad<;>simp[Addr.add]
def isOw:A->Bool | .ow _ _ _ _=>true | _=>false
theorem RepO.head {S:Nat->Prop} {w:World} {d:Bool} {k:Nat} {els:List (List T)} {u:Value} {own:List Nat} (h:RepO S w d k els u own):∃ad cap,u=.slice ad els.length cap/\els.length<=cap:=by
 cases d<;>(obtain ⟨ad,cap,e1,e2,_⟩:=h;exact ⟨ad,cap,e1,e2⟩)
theorem RepO.addr {S:Nat->Prop} {w:World} {d:Bool} {k:Nat} {els:List (List T)} {u:Value} {own:List Nat} (h:RepO S w d k els u own):∃ad cap,u=.slice ad els.length cap/\els.length<=cap/\(els=[]\/∃b o,ad=some ⟨b,o,none⟩):=by
 cases d
 ·obtain ⟨ad,cap,e1,e2,_,h⟩:=h
  exact ⟨ad,cap,e1,e2,h.imp (fun h=>h.2.1) fun ⟨b,o,_,_,_,h,_⟩=>⟨b,o,h⟩⟩
 ·obtain ⟨ad,cap,e1,e2,_,h⟩:=h
  exact ⟨ad,cap,e1,e2,h.imp (fun h=>h.2.1) fun ⟨b,o,_,_,_,_,h,_⟩=>⟨b,o,h⟩⟩
theorem tC0 {E:Env} {r:Root}:∀{cs:List A} {vs:List Value} {O:List Nat} (j:Nat),RpA E cs vs O->
  (∀c d k els g,cs[c]?=some (.ow g d k els)->∀g' d' k' els',E.ca r (j+c)=some (.ow g' d' k' els')->k'=k/\els'=els)->
  (∀c u,vs[c]?=some u->E.cv r (j+c)=some u)->RpA E (yB0 r j cs) vs []
 | [],vs,O,j,h,_,_=>by simp only[yB0,RpA] at h |-;exact ⟨h.1,trivial⟩
 | c::cs,vs,O,j,h,h1,h2=>by
  obtain ⟨u,us',o1,o2,rfl,rfl,h5,h6⟩:=h;have rest:=tC0 (r:=r) (j+1) h6 (fun c' d k els g hc=>by have:=h1 (c' + 1) d k els g (by simpa using hc);simpa [Nat.add_assoc,Nat.add_comm 1 c'] using this)
   (fun c' u' hu=>by have:=h2 (c' + 1) u' (by simpa using hu);simpa [Nat.add_assoc,Nat.add_comm 1 c'] using this)
  by_cases hc:isOw c
  ·cases c<;>simp[isOw] at hc
   rename_i g d k els;simp only[yB0];obtain ⟨ad,cap,e1,e2⟩:=RepO.head h5;refine ⟨u,us',[],[],rfl,rfl,⟨rfl,⟨ad,cap,e1,e2⟩,fun d' k' els' he=>?_⟩,rest⟩;obtain ⟨rfl,rfl⟩:=h1 0 d k els g rfl g d' k' els' he;exact ⟨by omega,ad,cap,ad,by rw[<-e1];exact h2 0 u rfl,by simpa using e1,NF0 _ _ _⟩
  ·have ho:o1=[]:=by
    cases c<;>simp[isOw] at hc<;>simp only[RepA] at h5<;>first | exact h5.2.2 | exact h5.2 | exact h5.1 | exact h5
   have hv:yB0 r j (c::cs)=c::yB0 r (j+1) cs:=by cases c<;>first | rfl | simp[isOw] at hc
   rw[hv];subst ho;exact ⟨u,us',[],[],rfl,rfl,h5,rest⟩
theorem uG0 (r:Root):∀(cs:List A) (j:Nat) (g:yA0) (d:Bool) (k:Nat) (els:List (List T)),A.ow g d k els∉yB0 r j cs
 | [],j,g,d,k,els=>by simp[yB0]
 | c::cs,j,g,d,k,els=>by
  have:=uG0 r cs (j+1) g d k els;cases c<;>simp[yB0,this]
theorem vT0 {r:Root} {X:List Nat} {e:Nat}:∀(cs:List A) (j:Nat),(∀c∈cs,stampIn X e c)->∀c∈yB0 r j cs,stampIn X e c
 | [],j,h,c,hc=>by simp[yB0] at hc
 | d::cs,j,h,c,hc=>by
  have ih:=vT0 (r:=r) cs (j+1) (fun x hx=>h x (List.mem_cons_of_mem _ hx)) c;have h0:=h d (List.mem_cons_self);cases d<;>simp only[yB0,List.mem_cons] at hc<;>rcases hc with rfl | hc<;>first | exact ih hc | exact h0 | skip
theorem pF0 {E:Env} {v:Value} {c:A} (h:xF0 v=some c):RepA E c v []/\c.stamp=none/\isOw c=false:=by
 unfold xF0 at h
 split at h
 ·simp at h;subst h;exact ⟨⟨⟨_,rfl⟩,rfl⟩,rfl,rfl⟩
 ·split at h
  ·simp at h;subst h;exact ⟨⟨rfl,by assumption,rfl⟩,rfl,rfl⟩
  ·simp at h
theorem wP0 {E:Env}:∀{vs:List Value} {cs:List A},vs.mapM xF0=some cs->RpA E cs vs []/\∀c∈cs,c.stamp=none/\isOw c=false
 | [],cs,h=>by simp at h;subst h;exact ⟨⟨rfl,rfl⟩,by simp⟩
 | v::vs,cs,h=>by
  simp only[List.mapM_cons,Option.bind_eq_bind,Option.bind_eq_some_iff] at h;obtain ⟨c,h1,cs',h2,h3⟩:=h;simp at h3;subst h3;obtain ⟨r1,r2⟩:=pF0 (E:=E) h1;obtain ⟨s1,s2⟩:=wP0 (E:=E) h2;refine ⟨⟨v,vs,[],[],rfl,rfl,r1,s1⟩,?_⟩;intro x hx;rcases List.mem_cons.1 hx with rfl | hx
  ·exact r2
  ·exact s2 x hx
structure EvOk (C:Ctx) (X:List Nat) (σ:AS) (E:Env) (av:AV) (v:Value):Prop where
 rep:RepV E av v []
 st:∀c∈av.cs,stampIn X σ.epoch c
 noOw:∀g d k els,A.ow g d k els∉av.cs
theorem yQ0 {v:Value} (h:isTuple v=false/\yV0 v=false):flat v=[v]:=by
 cases v<;>simp[isTuple,yV0] at h<;>rfl
theorem tQ0 {v:Value} (h:isLit v=true):isTuple v=false/\yV0 v=false:=by
 cases v<;>simp[isLit] at h<;>exact ⟨rfl,rfl⟩
theorem InvAt.ev {C:Ctx} {X:List Nat} {σ:AS} {a:Act} {w:World} {S L:Nat->Prop} {bl:List Bk} {O1 O2:List Nat} (h:InvAt C X σ a w S L bl O1 O2)
  {x:Operand} {av:AV} (hx:σ.ev x=some av):EvOk C X σ ⟨S,L,bl,a,w,σ.cell⟩ av (a.eval x):=by
 cases x with
 | tmp t=>
  simp only[AS.ev,Option.map_eq_some_iff] at hx;obtain ⟨av0,h0,rfl⟩:=hx;obtain ⟨v,p,o,q,g1,g2,g3,_⟩:=RpS.split t av0 h.slots h0;have hev:a.eval (.tmp t)=v:=by
   rw[Array.getElem?_toList] at g1;simp[Act.eval,g1]
  rw[hev];have key:RpA ⟨S,L,bl,a,w,σ.cell⟩ av0.cs (flat v) o->RpA ⟨S,L,bl,a,w,σ.cell⟩ (yB0 (.slot t) 0 av0.cs) (flat v) []:=by
   intro hr;refine tC0 0 hr (fun c d k els g hc g' d' k' els' hc'=>?_) (fun c u hu=>?_)
   ·simp[AS.cell,h0,hc] at hc'
    exact ⟨hc'.2.2.1.symm,hc'.2.2.2.symm⟩
   ·rw[Array.getElem?_toList] at g1
    simpa [Env.cv,g1] using hu
  refine ⟨?_,vT0 _ 0 (h.stS av0 (List.mem_of_getElem? h0)),uG0 _ _ 0⟩;obtain ⟨sh,cs⟩:=av0;cases sh with
  | any=>obtain ⟨h1,h2⟩:=g3;simp only at h1;subst h1;exact ⟨rfl,rfl⟩
  | one=>exact ⟨g3.1,key g3.2⟩
  | agg=>exact ⟨g3.1,key g3.2⟩
  | tup ns=>exact ⟨g3.1,key g3.2⟩
 | const v=>
  simp only[AS.ev] at hx
  show EvOk C X σ _ av v
  by_cases hag:yV0 v
  ·cases v<;>simp[yV0] at hag
   rename_i vs;simp only[UT0,Option.map_eq_some_iff] at hx;obtain ⟨cs,h1,rfl⟩:=hx;obtain ⟨r1,r2⟩:=wP0 (E:=⟨S,L,bl,a,w,σ.cell⟩) h1;exact ⟨⟨rfl,r1⟩,fun c hc g hg=>by simp[(r2 c hc).1] at hg,fun g d k els hc=>by simpa [isOw] using (r2 _ hc).2⟩
  ·have hx':(xF0 v).map (fun c=>(⟨.one,[c]⟩:AV))=some av:=by
    cases v<;>first | exact hx | simp[yV0] at hag
   simp only[Option.map_eq_some_iff] at hx';obtain ⟨c,h1,rfl⟩:=hx';obtain ⟨r1,r2,r3⟩:=pF0 (E:=⟨S,L,bl,a,w,σ.cell⟩) h1;have ht:isTuple v=false:=by cases v<;>simp[xF0,isLit] at h1<;>rfl
   have hone:isTuple v=false/\yV0 v=false:=⟨ht,by simpa using hag⟩
   refine ⟨⟨hone,?_⟩,fun c' hc g hg=>by simp at hc;subst hc;simp[r2] at hg,fun g d k els hc=>by simp at hc;subst hc;simp[isOw] at r3⟩
   rw[yQ0 hone];exact ⟨v,[],[],[],rfl,rfl,r1,rfl,rfl⟩
 | func f=>
  simp only[AS.ev,Option.some.injEq] at hx;subst hx;refine ⟨⟨⟨rfl,rfl⟩,?_⟩,fun c hc g hg=>by simp at hc;subst hc;simp[A.stamp] at hg,fun g d k els hc=>by simp at hc⟩
  exact ⟨_,[],[],[],rfl,rfl,⟨rfl,#[],rfl,rfl,by simp⟩,rfl,rfl⟩
 | global g=>simp[AS.ev] at hx
end Go.Av
/- Avs, part 6: operations that turn nothing but the slot that they write. -/
namespace Go.Av
def AV.lit?:AV->Option Value
 | ⟨.one,[.lit v]⟩=>some v
 | _=>none
def one (c:A):AV:=⟨.one,[c]⟩
def wR0 (P:Program) (op:BinOp) (t:TypeId):Value->Value->Option Value
 | .int k a,.int k' b=>
  match op with
  | .shl=>if 0<=b then some (.int k (k.wrap (a * 2 ^ (min b.toNat k.bits)))) else none
  | .shr=>if 0<=b then some (.int k (a.fdiv (2 ^ (min b.toNat k.bits)))) else none
  | .add=>if k=k' then some (.int k (k.wrap (a+b))) else none
  | .sub=>if k=k' then some (.int k (k.wrap (a - b))) else none
  | .mul=>if k=k' then some (.int k (k.wrap (a * b))) else none
  | .quo=>if k=k'/\b≠0 then some (.int k (k.wrap (a.tdiv b))) else none
  | .rem=>if k=k'/\b≠0 then some (.int k (a.tmod b)) else none
  | .and=>if k=k' then some (.int k (k.wrap (BitVec.ofInt k.bits a &&& BitVec.ofInt k.bits b).toNat)) else none
  | .or=>if k=k' then some (.int k (k.wrap (BitVec.ofInt k.bits a ||| BitVec.ofInt k.bits b).toNat)) else none
  | .xor=>if k=k' then some (.int k (k.wrap (BitVec.ofInt k.bits a ^^^ BitVec.ofInt k.bits b).toNat)) else none
  | .eql=>if k=k' then some (.bool (a == b)) else none
  | .neq=>if k=k' then some (.bool (a != b)) else none
  | .lss=>if k=k' then some (.bool (decide (a < b))) else none
  | .leq=>if k=k' then some (.bool (decide (a<=b))) else none
  | .gtr=>if k=k' then some (.bool (decide (a > b))) else none
  | .geq=>if k=k' then some (.bool (decide (a≥b))) else none
  | _=>none
 | .string a,.string b=>
  match op with
  | .add=>if a.size+b.size<=9223372036854775807 then some (.string (a++b)) else none
  | .eql=>some (.bool (a.toList == b.toList))
  | .neq=>some (.bool !(a.toList == b.toList))
  | .lss=>some (.bool (Op.bytesLess a.toList b.toList))
  | .leq=>some (.bool (Op.bytesLess a.toList b.toList || (a.toList == b.toList)))
  | .gtr=>some (.bool !(Op.bytesLess a.toList b.toList || (a.toList == b.toList)))
  | .geq=>some (.bool !(Op.bytesLess a.toList b.toList))
  | _=>none
 | .bool a,.bool b=>
  match op with
  | .eql=>if (tyOf P t).any (fun ti=>match ti.tk with | .bool=>true | _=>false) then some (.bool (a == b)) else none
  | .neq=>if (tyOf P t).any (fun ti=>match ti.tk with | .bool=>true | _=>false) then some (.bool !(a == b)) else none
  | _=>none
 | _,_=>none
theorem rJ0 {P:Program} {t:TypeId} {ti:TI} (h:tyOf P t=some ti) (w:World) (hk:ti.tk=.bool):(underlying t).run P w=.ok .bool w:=by
 obtain ⟨i,d,z,h1,h2,h3,rfl⟩:=zM0 h;cases d<;>simp[tkOf] at hk
 exact run_underlying h2 w
theorem run_equalIn_bool {P:Program} {t:TypeId} {w:World} (hu:(underlying t).run P w=.ok .bool w) (d:Nat) (a b:Bool):(Op.equalIn (d+1) t (.bool a) (.bool b)).run P w=.ok (a == b) w:=by
 simp[Op.equalIn,hu,Result.andThen]
theorem run_equal_bool {P:Program} {t:TypeId} {w:World} (hu:(underlying t).run P w=.ok .bool w) (a b:Bool):(Op.equal t (.bool a) (.bool b)).run P w=.ok (a == b) w:=
 run_equalIn_bool hu 9999 a b
theorem yX0 {P:Program} {w:World} (op:BinOp) (t:TypeId) (ox oy:Operand) (a b:Value) (h:yV0 a=false/\(∀(_:a=.nilIface),b≠.nilIface)) :
  (eqGuard op t ox oy a b).run P w=.ok () w:=by
 unfold eqGuard;cases op<;>first | rfl | skip
 all_goals
  cases a<;>cases b<;>first | rfl|(simp[yV0] at h;done)
theorem zQ0 {α:Type} {c:Prop} [Decidable c] {x y:α} (h:(if c then some x else none)=some y):c/\x=y:=by
 split at h
 ·rename_i hc;exact ⟨hc,by simpa using h⟩
 ·simp at h
theorem KC0 {P:Program} {op:BinOp} {t:TypeId} {x y v:Value} (h:wR0 P op t x y=some v) (w:World) (ox oy:Operand) :
  (do eqGuard op t ox oy x y;binOp op t x y:Sem Value).run P w=.ok v w/\isLit v=true:=by
 cases x<;>try (simp[wR0] at h;done)
 ·rename_i a
  cases y<;>try (simp[wR0] at h;done)
  rename_i b;cases op<;>try (simp[wR0] at h;done)
  all_goals
   simp only[wR0] at h;obtain ⟨hc,rfl⟩:=zQ0 h;cases ht:tyOf P t with
   | none=>simp[ht] at hc
   | some ti=>
    simp only[ht,Option.any_some] at hc;have hk:ti.tk=.bool:=by cases hk:ti.tk<;>simp[hk] at hc<;>rfl
    have hu:=rJ0 ht w hk;refine ⟨?_,rfl⟩;rw[Sem.run_bind,yX0 _ _ _ _ _ _ ⟨rfl,fun e=>by cases e⟩]
    simp only[Result.andThen,binOp,Sem.run_bind,run_equal_bool hu]
    rfl
 ·rename_i k a
  cases y<;>try (simp[wR0] at h;done)
  rename_i k' b;cases op<;>try (simp[wR0] at h;done)
  all_goals
   simp only[wR0] at h;obtain ⟨hc,rfl⟩:=zQ0 h;refine ⟨?_,rfl⟩
  all_goals first
   | (obtain ⟨rfl,hb⟩:=hc;rw[Sem.run_bind,yX0 _ _ _ _ _ _ ⟨rfl,fun e=>by cases e⟩];simp[binOp,Op.intDiv,hb,Result.andThen];done)
   | (subst hc;rw[Sem.run_bind,yX0 _ _ _ _ _ _ ⟨rfl,fun e=>by cases e⟩];simp[binOp,Op.intArith,Op.intBits,Op.intCmp,Result.andThen];done)
   | (rw[Sem.run_bind,yX0 _ _ _ _ _ _ ⟨rfl,fun e=>by cases e⟩];simp[binOp,Op.shift,Int.not_lt.2 hc,Result.andThen];done)
 ·rename_i a
  cases y<;>try (simp[wR0] at h;done)
  rename_i b;cases op<;>try (simp[wR0] at h;done)
  all_goals simp only[wR0] at h
  case add=>
   obtain ⟨hc,rfl⟩:=zQ0 h;refine ⟨?_,rfl⟩;have e:IntKind.i64.max=9223372036854775807:=by decide
   have:¬((a.size:Int)+(b.size:Int) > 9223372036854775807):=by omega
   rw[Sem.run_bind,yX0 _ _ _ _ _ _ ⟨rfl,fun e=>by cases e⟩]
   simp only[Result.andThen,binOp,Op.stringOp,e,Int.natCast_add,if_neg this]
   rfl
  all_goals
   simp at h;subst h;exact ⟨by rw[Sem.run_bind,yX0 _ _ _ _ _ _ ⟨rfl,fun e=>by cases e⟩];simp[binOp,Op.stringOp,Result.andThen],rfl⟩
def KX0 (op:UnOp):Value->Option Value
 | .bool b=>match op with | .not=>some (.bool !b) | _=>none
 | .int k n=>match op with
  | .neg=>some (.int k (k.wrap (0 - n)))
  | .xor=>some (.int k (k.wrap (BitVec.ofInt k.bits (if k.signed then -1 else k.max) ^^^ BitVec.ofInt k.bits n).toNat))
  | _=>none
 | _=>none
theorem KW0 {P:Program} {op:UnOp} {x v:Value} (h:KX0 op x=some v) (w:World):(Op.unary op x).run P w=.ok v w/\isLit v=true:=by
 cases x<;>try (simp[KX0] at h;done)
 all_goals
  cases op<;>simp[KX0] at h
  all_goals
   subst h;exact ⟨by simp[Op.unary,Op.intArith,Op.intBits],rfl⟩
def qA0 (P:Program) (src dst:TypeId):Value->Option Value
 | .int _ n=>match tyOf P src,tyOf P dst with
  | some s,some d=>match s.tk,d.tk with
   | .int _,.int k'=>some (.int k' (k'.wrap n))
   | .int _,.str=>some (.string (Utf8.encode n))
   | _,_=>none
  | _,_=>none
 | .string s=>match tyOf P src,tyOf P dst with
  | some i,some d=>match i.tk,d.tk with
   | .str,.str=>some (.string s)
   | _,_=>none
  | _,_=>none
 | _=>none
theorem UR0 {P:Program} {src dst:TypeId} {x v:Value} (h:qA0 P src dst x=some v) (w:World):(convert src dst x).run P w=.ok v w/\isLit v=true:=by
 cases x<;>try (simp[qA0] at h;done)
 ·rename_i _ n
  simp only[qA0] at h
  split at h<;>try (simp at h;done)
  rename_i s d hs hd
  split at h<;>try (simp at h;done)
  ·rename_i ks kd h1 h2
   simp at h;subst h;exact ⟨by simp[convert,xQ0 hs w h1,xQ0 hd w h2,Result.andThen,Conv.intToInt],rfl⟩
  ·rename_i ks h1 h2
   simp at h;subst h;exact ⟨by simp[convert,xQ0 hs w h1,xP0 hd w h2,Result.andThen,Conv.intToString],rfl⟩
 ·rename_i s
  simp only[qA0] at h
  split at h<;>try (simp at h;done)
  rename_i i d hs hd
  split at h<;>try (simp at h;done)
  rename_i h1 h2;simp at h;subst h;exact ⟨by simp[convert,xP0 hs w h1,xP0 hd w h2,Result.andThen],rfl⟩
end Go.Av
/- Avs, part 7: reading memory: pointers, fields, elements. -/
namespace Go.Av
def tA (st:Bool):T->A
 | .lit v=>.lit v
 | .sl els=>.ro st els
 | .own _=>.dead
theorem kD0 (st:Bool) (t:T):(tA st t).stamp=none/\isOw (tA st t)=false:=by cases t<;>exact ⟨rfl,rfl⟩
theorem RepS.toA {E:Env} {t:T} {u:Value} (st:Bool) (h:RepS (E.LS st) E.w t u):RepA E (tA st t) u []:=by
 cases t with
 | lit v=>simp only[RepS] at h;exact ⟨h.1,h.2,rfl⟩
 | sl els=>exact ⟨h,rfl⟩
 | own els=>simp only[RepS] at h
def RowAt (E:Env) (b o:Nat) (cs:List A):Prop:=∃us,RpA E cs us []/\∀j u,us[j]?=some u->E.w.cell? ⟨b,o+j,none⟩=some u
theorem RowAt.ofT {E:Env} {b:Nat} (st:Bool):∀{cs:List T} {o:Nat},RepSC (E.LS st) E.w b o cs->RowAt E b o (cs.map (tA st))
 | [],o,_=>⟨[],⟨rfl,rfl⟩,by simp⟩
 | c::cs,o,h=>by
  simp only[RepSC] at h;obtain ⟨⟨u,h1,h2⟩,h3⟩:=h;obtain ⟨us,h4,h5⟩:=RowAt.ofT st h3;refine ⟨u::us,⟨u,us,[],[],rfl,rfl,h2.toA st,h4⟩,fun j v hj=>?_⟩;cases j with
  | zero=>simp at hj;subst hj;exact h1
  | succ j=>simp at hj;have:=h5 j v hj;rwa[Nat.add_assoc,Nat.add_comm 1 j] at this
theorem RepL.toA {E:Env} {t:T} {u:Value} {own:List Nat} (st:Bool) (h:RepL (E.LS st) E.w t u own):RepA E (tA st t) u []:=by
 cases t with
 | lit v=>simp only[RepL] at h;exact ⟨h.1,h.2.1,rfl⟩
 | sl els=>simp only[RepL] at h;exact ⟨h.1,rfl⟩
 | own els=>
  simp only[RepL] at h;obtain ⟨ad,cap,rfl,_⟩:=h;exact ⟨rfl,rfl,rfl⟩
theorem RowAt.ofL {E:Env} {b:Nat} (st:Bool):∀{cs:List T} {o:Nat} {own:List Nat},RepLC (E.LS st) E.w b o cs own->RowAt E b o (cs.map (tA st))
 | [],o,_,_=>⟨[],⟨rfl,rfl⟩,by simp⟩
 | c::cs,o,_,h=>by
  simp only[RepLC] at h;obtain ⟨u,o1,o2,rfl,h1,h2,h3⟩:=h;obtain ⟨us,h4,h5⟩:=RowAt.ofL st h3;refine ⟨u::us,⟨u,us,[],[],rfl,rfl,h2.toA st,h4⟩,fun j v hj=>?_⟩;cases j with
  | zero=>simp at hj;subst hj;exact h1
  | succ j=>simp at hj;have:=h5 j v hj;rwa[Nat.add_assoc,Nat.add_comm 1 j] at this
theorem RepLE.get {S:Nat->Prop} {w:World} {b k:Nat}:∀{o:Nat} {es:List (List T)} {own:List Nat},RepLE S w b o es own->(∀e∈es,e.length=k)->∀(i:Nat) (e:List T),es[i]?=some e->
  ∃p q r,own=p++q++r/\RepLE S w b o (es.take i) p/\RepLC S w b (o+i * k) e q/\RepLE S w b (o+(i+1) * k) (es.drop (i+1)) r
 | _,[],_,_,_,i,e,hi=>by simp at hi
 | o,d::es,own,h,hk,i,e,hi=>by
  simp only[RepLE] at h;obtain ⟨o1,o2,rfl,h1,h2⟩:=h;have hd:=hk d List.mem_cons_self;cases i with
  | zero=>simp at hi;subst hi;exact ⟨[],o1,o2,rfl,by simp only[List.take_zero,RepLE],by simpa using h1,by simpa [hd] using h2⟩
  | succ i=>
   simp at hi;obtain ⟨p,q,r,rfl,k1,k2,k3⟩:=RepLE.get h2 (fun e he=>hk e (List.mem_cons_of_mem _ he)) i e hi;refine ⟨o1++p,q,r,by simp,?_,?_,?_⟩
   ·simp only[List.take_succ_cons,RepLE]
    exact ⟨o1,p,rfl,h1,k1⟩
   ·rw[hd] at k2;rw[Nat.succ_mul,Nat.add_comm (i * k) k,<-Nat.add_assoc];exact k2
   ·rw[hd] at k3;rw[Nat.succ_mul (i+1),Nat.add_comm ((i+1) * k) k,<-Nat.add_assoc];simpa using k3
theorem RpA.take {E:Env}:∀{cs:List A} {us:List Value} (n:Nat),RpA E cs us []->RpA E (cs.take n) (us.take n) []
 | [],us,n,h=>by obtain ⟨rfl,_⟩:=h;simp[RpA]
 | c::cs,us,0,h=>by simp[RpA]
 | c::cs,us,n+1,h=>by
  obtain ⟨u,us',o1,o2,rfl,h2,h3,h4⟩:=h;simp at h2;obtain ⟨rfl,rfl⟩:=h2;exact ⟨u,us'.take n,[],[],rfl,rfl,h3,RpA.take n h4⟩
theorem RpA.drop {E:Env}:∀{cs:List A} {us:List Value} (n:Nat),RpA E cs us []->RpA E (cs.drop n) (us.drop n) []
 | [],us,n,h=>by obtain ⟨rfl,_⟩:=h;simp[RpA]
 | c::cs,us,0,h=>by simpa using h
 | c::cs,us,n+1,h=>by
  obtain ⟨u,us',o1,o2,rfl,h2,h3,h4⟩:=h;simp at h2;obtain ⟨rfl,rfl⟩:=h2;simpa using RpA.drop n h4
theorem RowAt.take {E:Env} {b o:Nat} {cs:List A} (n:Nat) (h:RowAt E b o cs):RowAt E b o (cs.take n):=by
 obtain ⟨us,h1,h2⟩:=h;refine ⟨us.take n,h1.take n,fun j u hj=>h2 j u ?_⟩;rw[List.getElem?_take] at hj
 split at hj
 ·exact hj
 ·simp at hj
theorem RowAt.drop {E:Env} {b o:Nat} {cs:List A} (n:Nat) (h:RowAt E b o cs):RowAt E b (o+n) (cs.drop n):=by
 obtain ⟨us,h1,h2⟩:=h;refine ⟨us.drop n,h1.drop n,fun j u hj=>?_⟩;rw[List.getElem?_drop] at hj;have:=h2 (n+j) u hj;rwa[<-Nat.add_assoc] at this
theorem xB0 (b o j:Nat):Addr.add ⟨b,o,none⟩ j=⟨b,o+j,none⟩:=by
 unfold Addr.add
 split
 ·rename_i h;simp[h]
 ·rfl
def tJ0 (ti:TI) (cs:List A):Option AV:=
 if cs.length=ti.size then (if ti.agg then some ⟨.agg,cs⟩ else match cs with | [c]=>some ⟨.one,[c]⟩ | _=>none) else none
theorem jH0 {P:Program} {E:Env} {t:TypeId} {ti:TI} (ht:tyOf P t=some ti) {b o:Nat} {cs:List A} {av:AV} (hr:RowAt E b o cs) (hav:tJ0 ti cs=some av) :
  ∃v,(loadVar t ⟨b,o,none⟩).run P E.w=.ok v E.w/\RepV E av v []/\av.cs=cs:=by
 obtain ⟨us,h1,h2⟩:=hr;have hl:=RpA.length h1;unfold tJ0 at hav
 split at hav
 ·rename_i hlen
  split at hav
  ·rename_i hagg
   simp at hav;subst hav;refine ⟨.agg us.toArray,?_,⟨rfl,by simpa [flat] using h1⟩,rfl⟩
   simp only[loadVar,Sem.run_bind,tY0 ht,Result.andThen,hagg,if_true,yJ0 ht];rw[<-hlen,<-hl,run_loadCells_list E.w ⟨b,o,none⟩ us (fun j v hj=>by rw[xB0];exact h2 j v hj)]
   rfl
  ·rename_i hagg
   split at hav
   ·rename_i c
    simp at hav;subst hav;obtain ⟨u,us',o1,o2,rfl,h4,h5,h6⟩:=h1;simp at h4;obtain ⟨rfl,rfl⟩:=h4;obtain ⟨rfl,_⟩:=h6;have h0:=h2 0 u rfl;have hno:=RepA.oneC h5;refine ⟨u,?_,⟨hno,by rw[yQ0 hno];exact ⟨u,[],[],[],rfl,rfl,h5,rfl,rfl⟩⟩,rfl⟩
    simp only[Nat.add_zero] at h0;simp[loadVar,Sem.run_bind,tY0 ht,Result.andThen,hagg,h0]
   ·simp at hav
 ·simp at hav
end Go.Av
