/- Part C1 of the proof: Avs, part 30: states that agree where an operation looks. / Avs, part 31: states that are alike but for some slots. / Avs, part 32: operations in states that are alike. / Avs, part 33: calls in states that are alike. / Avs, part 33: the same evaluator over primitives that stay out of sight they are variables, with what is to be shown collected. / Avs, part 34: over the primitives as they are, the evaluator is the old one. / Avs, part 35: the same, for what reads. / Avs, part 36: the same, for wh -/
import Derived.Test.YtfobhlmjcnkpiaaGreatDoorA5
set_option linter.all false
/- Avs, part 30: states that agree where an operation looks. -/
namespace Go.Av
theorem an?_ad (σ:AS) (r:Root) (c:Nat) (g:yA0):σ.an? r c g=(σ.ad? r c g).map (·.2):=by
 unfold AS.an? AS.ad?;cases hc:σ.cell r c with
 | none=>rfl
 | some x=>
  cases x with
  | ow g' d k els=>by_cases h:g'=g<;>simp[h]
  | _=>rfl
theorem at?_ad (σ:AS) (r:Root) (c:Nat) (g:yA0):σ.at? r c g=(σ.ad? r c g).bind fun p=>if p.1=false then some p.2 else none:=by
 unfold AS.at? AS.ad?;cases hc:σ.cell r c with
 | none=>rfl
 | some x=>
  cases x with
  | ow g' d k els=>cases d<;>by_cases h:g'=g<;>simp[h]
  | _=>rfl
structure Agree (σ τ:AS):Prop where
 ad':∀r c g,τ.ad? r c g=σ.ad? r c g
 boxes:τ.boxes=σ.boxes
 epoch:τ.epoch=σ.epoch
variable {P:Program} {σ τ:AS}
theorem Agree.at' (h:Agree σ τ) (r:Root) (c:Nat) (g:yA0):τ.at? r c g=σ.at? r c g:=by rw[at?_ad,at?_ad,h.ad']
theorem Agree.an' (h:Agree σ τ) (r:Root) (c:Nat) (g:yA0):τ.an? r c g=σ.an? r c g:=by rw[an?_ad,an?_ad,h.ad']
theorem Agree.row (h:Agree σ τ) (c:A):τ.row c=σ.row c:=by
 cases c<;>simp only[AS.row,h.at',h.an',h.boxes]
theorem Agree.els (h:Agree σ τ) (c:A):τ.els c=σ.els c:=by
 cases c<;>simp only[AS.els,h.at',h.an']
theorem Agree.slen (h:Agree σ τ) (c:A):τ.slen c=σ.slen c:=by
 cases c<;>simp only[AS.slen,h.at',h.an']
theorem Agree.load (h:Agree σ τ) (t:TypeId) (c:A):YE0 P τ t c=YE0 P σ t c:=by
 simp only[YE0,h.row]
theorem Agree.field (h:Agree σ τ) (s:TypeId) (c:A) (f:Nat):gH0 P τ s c f=gH0 P σ s c f:=by
 unfold gH0;cases c<;>simp only[h.at',h.an']
theorem Agree.indexAddr (h:Agree σ τ) (t:TypeId) (c:A) (i:Int):wL0 P τ t c i=wL0 P σ t c i:=by
 unfold wL0;cases c<;>simp only[h.at',h.an']
theorem Agree.slice (h:Agree σ τ) (t:TypeId) (x:AV) (lo hi mx:Option AV):gE0 P τ t x lo hi mx=gE0 P σ t x lo hi mx:=by
 unfold gE0;simp only[h.slen,h.at',h.an']
theorem mapM_ev {lo:Option Operand} (h:∀x∈lo,τ.ev x=σ.ev x):lo.mapM τ.ev=lo.mapM σ.ev:=by
 cases lo with
 | none=>rfl
 | some x=>simp[h x rfl]
theorem pV0 (h:Agree σ τ) {op:Op} (hev:∀x∈op.operands,τ.ev x=σ.ev x):zA0 P τ op=zA0 P σ op:=by
 cases op with
 | slice t x lo hi mx=>
  have h1:=hev x (by cases lo<;>cases hi<;>cases mx<;>simp[Op.operands])
  have h2:lo.mapM τ.ev=lo.mapM σ.ev:=mapM_ev fun y hy=>hev y (by cases hi<;>cases mx<;>simp_all [Op.operands])
  have h3:hi.mapM τ.ev=hi.mapM σ.ev:=mapM_ev fun y hy=>hev y (by cases lo<;>cases mx<;>simp_all [Op.operands])
  have h4:mx.mapM τ.ev=mx.mapM σ.ev:=mapM_ev fun y hy=>hev y (by cases lo<;>cases hi<;>simp_all [Op.operands])
  simp only[zA0,h1,h2,h3,h4,h.slice]
 | makeFunc fn first captured=>
  cases fn with
  | func f=>
   have hm:(captured.toList.map fun x=>(τ.ev x).bind MH0)=captured.toList.map fun x=>(σ.ev x).bind MH0:=List.map_congr_left fun x hx=>by
    rw[hev x (by simp only[Op.operands];simp_all)]
   simp only[zA0,hm]
  | _=>rfl
 | call c=>
  obtain ⟨callee,args,argTypes⟩:=c;cases callee with
  | builtin b=>
   cases b<;>try rfl
   case len=>
    simp only[zA0];cases ha:args[0]? with
    | none=>rfl
    | some x=>
     have hx:=hev x (by simp only[Op.operands,Call.operands];have:=Array.mem_of_getElem? ha;simp_all)
     simp only[Option.bind_some,hx,h.slen]
   all_goals
    simp only[zA0]
    split<;>try rfl
    rename_i x y hxy;have mx:x∈args:=by rw[<-Array.mem_toList_iff,hxy];simp
    have my:y∈args:=by rw[<-Array.mem_toList_iff,hxy];simp
    have hx:=hev x (by simp[Op.operands,Call.operands,mx])
    have hy:=hev y (by simp[Op.operands,Call.operands,my])
    simp only[hx,hy]
  | value f=>rfl
  | invoke r m=>rfl
 | _=>
  simp only[Op.operands] at hev
  first
   | rfl
   | (simp only[zA0];simp_all [h.load,h.field,h.indexAddr,h.at',h.an'])
end Go.Av
/- Avs, part 31: states that are alike but for some slots. -/
namespace Go.Av
def XD0 (o:Option AV):Prop:=∀av,o=some av->∀g d k els,A.ow g d k els∉av.cs
structure Sim (Z:Nat->Prop) (σ τ:AS):Prop where
 len:τ.slots.length=σ.slots.length
 slots:∀t,¬Z t->τ.slots[t]?=σ.slots[t]?
 no1:∀t,Z t->XD0 σ.slots[t]?
 no2:∀t,Z t->XD0 τ.slots[t]?
 boxes:τ.boxes=σ.boxes
 epoch:τ.epoch=σ.epoch
variable {P:Program} {Z:Nat->Prop} {σ τ:AS}
theorem ad?_noOw {t c:Nat} {g:yA0} (h:XD0 σ.slots[t]?):σ.ad? (.slot t) c g=none:=by
 unfold AS.ad?
 split
 ·rename_i g' d k els he
  simp only[AS.cell,Option.bind_eq_some_iff] at he;obtain ⟨av,h1,h2⟩:=he;exact absurd (List.mem_of_getElem? h2) (h av h1 g' d k els)
 ·rfl
theorem at?_noOw {t c:Nat} {g:yA0} (h:XD0 σ.slots[t]?):σ.at? (.slot t) c g=none:=by rw[at?_ad,ad?_noOw h];rfl
open Classical in
theorem Sim.agree (h:Sim Z σ τ):Agree σ τ:=by
 refine ⟨fun r c g=>?_,h.boxes,h.epoch⟩;cases r with
 | slot t=>
  by_cases hz:Z t
  ·rw[ad?_noOw (h.no1 t hz),ad?_noOw (h.no2 t hz)]
  ·simp only[AS.ad?,AS.cell,h.slots t hz]
 | box b=>simp only[AS.ad?,AS.cell,h.boxes]
theorem Sim.root (h:Sim Z σ τ) {r:Root} {x:Nat} {g:yA0} {p:Nat×List (List T)} (ha:σ.at? r x g=some p):∀t,r=.slot t->¬Z t:=by
 rintro t rfl hz;rw[at?_noOw (h.no1 t hz)] at ha;simp at ha
theorem Sim.rootD (h:Sim Z σ τ) {r:Root} {x:Nat} {g:yA0} {p:Bool×Nat×List (List T)} (ha:σ.ad? r x g=some p):∀t,r=.slot t->¬Z t:=by
 rintro t rfl hz;rw[ad?_noOw (h.no1 t hz)] at ha;simp at ha
theorem Sim.setCell (h:Sim Z σ τ) {r:Root} (hr:∀t,r=.slot t->¬Z t) (x:Nat) (c:A):Sim Z (σ.setCell r x c) (τ.setCell r x c):=by
 cases r with
 | slot t0=>
  have hz0:=hr t0 rfl;refine ⟨by simp[AS.setCell,h.len],fun t hz=>?_,fun t hz=>?_,fun t hz=>?_,h.boxes,h.epoch⟩
  ·simp only[AS.setCell,List.getElem?_modify,h.slots t hz]
  ·simp only[AS.setCell,List.getElem?_modify]
   have:t0≠t:=fun e=>hz0 (e ▸ hz);simpa [this] using h.no1 t hz
  ·simp only[AS.setCell,List.getElem?_modify]
   have:t0≠t:=fun e=>hz0 (e ▸ hz);simpa [this] using h.no2 t hz
 | box b=>exact ⟨h.len,h.slots,h.no1,h.no2,by simp[AS.setCell,h.boxes],h.epoch⟩
theorem Sim.put (h:Sim Z σ τ) {d:Nat} (hd:¬Z d) (av:AV):Sim Z (σ.put d av) (τ.put d av):=by
 refine ⟨by simp[AS.put,h.len],fun t hz=>?_,fun t hz=>?_,fun t hz=>?_,h.boxes,h.epoch⟩
 ·simp only[AS.put,List.getElem?_set,h.slots t hz,h.len]
 ·have:d≠t:=fun e=>hd (e ▸ hz)
  simpa [AS.put,List.getElem?_set_ne this] using h.no1 t hz
 ·have:d≠t:=fun e=>hd (e ▸ hz)
  simpa [AS.put,List.getElem?_set_ne this] using h.no2 t hz
theorem Sim.ev (h:Sim Z σ τ) {x:Operand} (hx:∀t,x=.tmp t->¬Z t):τ.ev x=σ.ev x:=by
 cases x with
 | tmp t=>simp only[AS.ev,h.slots t (hx t rfl)]
 | _=>rfl
theorem Sim.tkC (mv:Root->Nat->Bool) (g:yA0):∀{cs:List A} {σ τ:AS},Sim Z σ τ->(tkC mv g cs τ).1=(tkC mv g cs σ).1/\Sim Z (tkC mv g cs σ).2 (tkC mv g cs τ).2
 | [],σ,τ,h=>⟨rfl,h⟩
 | c::cs,σ,τ,h=>by
  have ih:=Sim.tkC mv g (cs:=cs) h;cases c with
  | sref r x g0 lo len=>
   simp only[Av.tkC]
   split
   ·rw[h.agree.ad']
    cases hat:σ.ad? r x g0 with
    | none=>exact ⟨by simp only[ih.1],ih.2⟩
    | some p=>
     obtain ⟨d,k,els⟩:=p;have ih2:=Sim.tkC mv g (cs:=cs) (h.setCell (h.rootD hat) x .dead);exact ⟨by simp only[ih2.1],ih2.2⟩
   ·exact ⟨by simp only[ih.1],ih.2⟩
  | _=>exact ⟨by simp only[Av.tkC,ih.1],ih.2⟩
theorem Sim.shC (sh:Root->Nat->Bool):∀{cs:List A} {σ τ:AS},Sim Z σ τ->(shC sh cs τ).1=(shC sh cs σ).1/\Sim Z (shC sh cs σ).2 (shC sh cs τ).2
 | [],σ,τ,h=>⟨rfl,h⟩
 | c::cs,σ,τ,h=>by
  have ih:=Sim.shC sh (cs:=cs) h;cases c with
  | sref r x g0 lo len=>
   simp only[Av.shC]
   split
   ·rw[h.agree.ad']
    cases hat:σ.ad? r x g0 with
    | none=>exact ⟨by simp only[ih.1],ih.2⟩
    | some p=>
     obtain ⟨d,k,els⟩:=p;have ih2:=Sim.shC sh (cs:=cs) (h.setCell (h.rootD hat) x (.ro true (erD d els)));exact ⟨by simp only[ih2.1],ih2.2⟩
   ·exact ⟨by simp only[ih.1],ih.2⟩
  | _=>exact ⟨by simp only[Av.shC,ih.1],ih.2⟩
def SimO {α:Type} (Z:Nat->Prop) (x y:Option (α×AS)):Prop:=match x,y with
 | some a,some b=>b.1=a.1/\Sim Z a.2 b.2
 | none,none=>True
 | _,_=>False
theorem SimO.map {α β:Type} {x y:Option (α×AS)} (h:SimO Z x y) (f:α->β):SimO Z (x.map fun r=>(f r.1,r.2)) (y.map fun r=>(f r.1,r.2)):=by
 cases x<;>cases y<;>simp_all [SimO]
theorem Sim.fzC:∀{cs:List A} {σ τ:AS},Sim Z σ τ->SimO Z (fzC cs σ) (fzC cs τ)
 | [],σ,τ,h=>⟨rfl,h⟩
 | c::cs,σ,τ,h=>by
  have ih:=Sim.fzC (cs:=cs) h;cases c with
  | sref r x g0 lo len=>
   simp only[Av.fzC];rw[h.agree.at'];cases hat:σ.at? r x g0 with
   | none=>trivial
   | some p=>
    obtain ⟨k,els⟩:=p;exact (Sim.fzC (cs:=cs) (h.setCell (h.root hat) x (.ro true els))).map _
  | ro st els=>
   cases st with
   | true=>exact ih.map _
   | false=>trivial
  | lit v=>exact ih.map _
  | nil=>exact ih.map _
  | _=>trivial
theorem Sim.lendCells:∀{cs:List A} {σ τ:AS},Sim Z σ τ->lendCells τ cs=lendCells σ cs
 | [],σ,τ,h=>rfl
 | c::cs,σ,τ,h=>by
  have ih:=Sim.lendCells (cs:=cs) h;cases c with
  | sref r x g0 lo len=>
   simp only[Av.lendCells];rw[h.agree.ad',ih]
  | eptr r x g i off=>rfl
  | _=>simp only[Av.lendCells,ih]
theorem Sim.hide (h:Sim Z σ τ) (b:Nat):Sim Z (σ.hide b) (τ.hide b):=⟨h.len,h.slots,h.no1,h.no2,by simp[AS.hide,h.boxes],h.epoch⟩
theorem Sim.maskBoxes:∀{ids:List Nat} {σ τ:AS},Sim Z σ τ->SimO Z (maskBoxes ids σ) (maskBoxes ids τ)
 | [],σ,τ,h=>⟨rfl,h⟩
 | b::ids,σ,τ,h=>by
  simp only[Av.maskBoxes,h.boxes]
  split
  ·exact (Sim.maskBoxes (ids:=ids) (h.hide b)).map _
  ·trivial
theorem Sim.setBox (h:Sim Z σ τ) (b:Nat) (cs:List A):Sim Z (σ.setBox b cs) (τ.setBox b cs):=⟨h.len,h.slots,h.no1,h.no2,by simp[AS.setBox,h.boxes],h.epoch⟩
theorem Sim.addBox (h:Sim Z σ τ) (cs:List A):Sim Z (σ.addBox cs) (τ.addBox cs):=⟨h.len,h.slots,h.no1,h.no2,by simp[AS.addBox,h.boxes],h.epoch⟩
theorem Sim.holdCells (base:Nat) (g:yA0) {cs:List A} (h:Sim Z σ τ):SimO Z (holdCells base g cs σ) (holdCells base g cs τ):=by
 obtain ⟨h1,h2⟩:=Sim.tkC (rF0 base) g (cs:=cs) h;simp only[Av.holdCells,h1];cases ((Av.tkC (rF0 base) g cs σ).1.mapM A.toOwn) with
 | none=>trivial
 | some ts=>exact ⟨rfl,h2⟩
theorem Sim.deepRoot (h:Sim Z σ τ) (c:A):deepRoot τ c=deepRoot σ c:=by
 cases c<;>simp only[Av.deepRoot,h.agree.ad']
end Go.Av
/- Avs, part 32: operations in states that are alike. -/
namespace Go.Av
variable {P:Program} {Z:Nat->Prop} {σ τ:AS}
theorem SimO.rfl' {α:Type} (h:Sim Z σ τ) (x:Option α):SimO Z (x.map fun a=>(a,σ)) (x.map fun a=>(a,τ)):=by
 cases x with
 | none=>trivial
 | some a=>exact ⟨rfl,h⟩
theorem NK0 (h:Sim Z σ τ) {i:Nat} {dst:Option Tmp} {x:Operand} (hx:τ.ev x=σ.ev x):SimO Z (vA0 i dst σ x) (vA0 i dst τ x):=by
 cases x with
 | tmp t=>
  simp only[vA0,hx,h.epoch];cases σ.ev (.tmp t) with
  | none=>trivial
  | some av=>
   obtain ⟨h1,h2⟩:=Sim.tkC (fun r _=>decide (r=.slot t) || decide (some r=dst.map Root.slot)) (σ.epoch,i) (cs:=av.cs) h;exact ⟨by simp only[h1],h2⟩
 | _=>
  simp only[vA0,hx];exact SimO.rfl' h _
theorem uU1 (h:Sim Z σ τ) {base i:Nat} {x:Operand} (hx:τ.ev x=σ.ev x):SimO Z (aBox base i σ x) (aBox base i τ x):=by
 simp only[aBox,hx,h.epoch];cases σ.ev x with
 | none=>trivial
 | some av=>
  obtain ⟨h1,h2⟩:=Sim.tkC (rF0 base) (σ.epoch,i) (cs:=av.cs) h;simp only[Option.bind_some];cases av.sh<;>first
   | trivial
   | exact ⟨by simp only[h2.boxes],by simp only[h1];exact h2.addBox _⟩
theorem JL0 (h:Sim Z σ τ) {t:TypeId}:SimO Z (mU0 P σ t) (mU0 P τ t):=by
 simp only[mU0,h.boxes];cases tyOf P t with
 | none=>trivial
 | some ti=>
  simp only[Option.bind_some];cases ti.zero.mapM xF0 with
  | none=>trivial
  | some cs=>exact ⟨rfl,h.addBox cs⟩
theorem rH0 {fs:List (Nat×TypeId)}:∀{parts:List (Nat×Operand)} {cs:List A},(∀p∈parts,τ.ev p.2=σ.ev p.2)->yZ0 P τ fs cs parts=yZ0 P σ fs cs parts
 | [],cs,_=>rfl
 | (j,x)::rest,cs,hx=>by
  have h0:=hx (j,x) List.mem_cons_self;have ih:=fun cs=>rH0 (fs:=fs) (parts:=rest) (cs:=cs) fun p hp=>hx p (List.mem_cons_of_mem _ hp);simp only at h0;simp only[yZ0,h0,ih]
theorem qP0 {k:Nat}:∀{parts:List (Nat×Operand)} {j:Nat},(∀p∈parts,τ.ev p.2=σ.ev p.2)->zY0 τ k parts j=zY0 σ k parts j
 | [],j,_=>rfl
 | (i,x)::rest,j,hx=>by
  have h0:=hx (i,x) List.mem_cons_self;have ih:=fun j=>qP0 (k:=k) (parts:=rest) (j:=j) fun p hp=>hx p (List.mem_cons_of_mem _ hp);simp only at h0;simp only[zY0,h0,ih]
theorem JK0 {t:TypeId} {parts:Array (Nat×Operand)} (hx:∀p∈parts.toList,τ.ev p.2=σ.ev p.2):mT0 P τ t parts=mT0 P σ t parts:=by
 simp only[mT0,rH0 hx]
theorem gM0 (h:Sim Z σ τ) {i:Nat} {t:TypeId} {len:Nat} {parts:Array (Nat×Operand)} (hx:∀p∈parts.toList,τ.ev p.2=σ.ev p.2):SimO Z (xC0 P i σ t len parts) (xC0 P i τ t len parts):=by
 simp only[xC0,qP0 hx,h.epoch];cases tyOf P t with
 | none=>trivial
 | some ti=>
  simp only[Option.bind_some];cases ti.tk with
  | slice e=>
   simp only;cases tyOf P e with
   | none=>trivial
   | some te=>
    simp only[Option.bind_some];cases zY0 σ te.size parts.toList 0 with
    | none=>trivial
    | some cs=>
     simp only[Option.bind_some]
     split
     ·have hd:cs.any (deepRoot τ)=cs.any (deepRoot σ):=by congr 1;funext c;exact h.deepRoot c
      rw[hd]
      split
      ·exact SimO.map (h.holdCells (cs:=cs) _ _) (fun ts=>one (A.ow (σ.epoch,i) true te.size (chunks te.size len ts)))
      ·exact SimO.map (h.fzC (cs:=cs)) (fun ts=>one (A.ow (σ.epoch,i) false te.size (chunks te.size len ts)))
     ·trivial
  | _=>trivial
theorem NJ0 (h:Sim Z σ τ) (tx:TypeId) (size:Nat) (x:AV):rG0 P τ tx size x=rG0 P σ tx size x:=by
 simp only[rG0,h.agree.els]
theorem mC0 (h:Sim Z σ τ) (size:Nat) (c:A):SimO Z (yN0 σ size c) (yN0 τ size c):=by
 cases c with
 | nil=>exact ⟨rfl,h⟩
 | sref r x g lo len=>
  simp only[yN0,h.agree.ad'];cases hat:σ.ad? r x g with
  | none=>trivial
  | some p=>
   simp only[Option.bind_some]
   split
   ·exact ⟨rfl,h.setCell (h.rootD hat) x .dead⟩
   ·trivial
 | _=>trivial
theorem UA0 (h:Sim Z σ τ) (tx:TypeId) (size:Nat) (x:AV):SimO Z (wH0 P σ tx size x) (wH0 P τ tx size x):=by
 unfold wH0
 split
 ·rename_i r c g lo len
  rw[h.agree.ad']
  split
  ·rename_i k els hat
   cases tyOf P tx with
   | none=>trivial
   | some ti=>
    simp only[Option.bind_some]
    split
    ·split
     ·exact ⟨rfl,h.setCell (h.rootD hat) c .dead⟩
     ·trivial
    ·trivial
  ·trivial
 ·trivial
theorem NL0 (h:Sim Z σ τ) {i:Nat} {args:Array Operand} {argTypes:Array TypeId} (hx:∀x∈args.toList,τ.ev x=σ.ev x):SimO Z (tU0 P i σ args argTypes) (tU0 P i τ args argTypes):=by
 unfold tU0
 split
 ·rename_i s x t tx hargs htys
  have hs:=hx s (by rw[hargs];simp)
  have hxx:=hx x (by rw[hargs];simp)
  cases tyOf P t with
  | none=>trivial
  | some ti=>
   simp only[Option.bind_some];cases ti.tk with
   | slice e=>
    simp only;cases tyOf P e with
    | none=>trivial
    | some te=>
     simp only[Option.bind_some,hs,hxx];cases σ.ev s with
     | none=>trivial
     | some s'=>
      cases σ.ev x with
      | none=>trivial
      | some x'=>
       simp only[opt2]
       split
       ·rename_i c
        have hsrc:=UA0 (P:=P) h tx te.size x';cases s1:wH0 P σ tx te.size x' with
        | some y1=>
         cases s2:wH0 P τ tx te.size x' with
         | none=>rw[s1,s2] at hsrc;simp[SimO] at hsrc
         | some y2=>
          rw[s1,s2] at hsrc;obtain ⟨f1,f2⟩:=hsrc;simp only[h.epoch];have hb:=mC0 f2 te.size c;cases h1:yN0 y1.2 te.size c<;>cases h2:yN0 y2.2 te.size c<;>rw[h1,h2] at hb<;>first | trivial|(simp[SimO] at hb;done) | skip
          rename_i b1 b2;obtain ⟨e1,e2⟩:=hb;simp only[Option.bind_some,e1,f1]
          split
          ·exact ⟨rfl,e2⟩
          ·trivial
        | none=>
        have s2:wH0 P τ tx te.size x'=none:=by
         cases s2:wH0 P τ tx te.size x' with
         | none=>rfl
         | some y2=>rw[s1,s2] at hsrc;simp[SimO] at hsrc
        simp only[s2,NJ0 h,h.epoch];have hb:=mC0 h te.size c;cases rG0 P σ tx te.size x' with
        | none=>trivial
        | some xs=>
         cases h1:yN0 σ te.size c<;>cases h2:yN0 τ te.size c<;>rw[h1,h2] at hb<;>first | trivial|(simp[SimO] at hb;done) | skip
         rename_i b1 b2;obtain ⟨e1,e2⟩:=hb;simp only[e1]
         split
         ·exact ⟨rfl,e2⟩
         ·trivial
       ·trivial
   | _=>trivial
 ·trivial
theorem yD1 (h:Sim Z σ τ) {s d:TypeId} {x:Operand} (hx:τ.ev x=σ.ev x):YD0 P τ s d x=YD0 P σ s d x:=by
 simp only[YD0,hx,h.agree.els]
def SimS (Z:Nat->Prop) (x y:Option AS):Prop:=match x,y with
 | some a,some b=>Sim Z a b
 | none,none=>True
 | _,_=>False
theorem SimS.map {x y:Option AS} (h:SimS Z x y) (a:AV):SimO Z (x.map fun s=>(a,s)) (y.map fun s=>(a,s)):=by
 cases x<;>cases y<;>simp_all [SimS,SimO]
theorem JJ0 (h:Sim Z σ τ) {base i:Nat} {t:TypeId} {p x:Operand} (hp:τ.ev p=σ.ev p) (hx:τ.ev x=σ.ev x):SimS Z (mR0 P base i σ t p x) (mR0 P base i τ t p x):=by
 unfold mR0;cases tyOf P t with
 | none=>trivial
 | some ti=>
  simp only[Option.bind_some,hp,hx];cases σ.ev p with
  | none=>trivial
  | some p'=>
   cases σ.ev x with
   | none=>trivial
   | some x'=>
    simp only[opt2];have boxcase:∀b off,SimS Z (if x'.cs.length=ti.size then (((tkC (xH0 base b off ti.size) (σ.epoch,i) x'.cs σ).2.boxes[b]?).bind fun o=>o.bind fun cs0=>if off+ti.size<=cs0.length then some ((tkC (xH0 base b off ti.size) (σ.epoch,i) x'.cs σ).2.setBox b (splice cs0 off (tkC (xH0 base b off ti.size) (σ.epoch,i) x'.cs σ).1)) else none) else none)
      (if x'.cs.length=ti.size then (((tkC (xH0 base b off ti.size) (τ.epoch,i) x'.cs τ).2.boxes[b]?).bind fun o=>o.bind fun cs0=>if off+ti.size<=cs0.length then some ((tkC (xH0 base b off ti.size) (τ.epoch,i) x'.cs τ).2.setBox b (splice cs0 off (tkC (xH0 base b off ti.size) (τ.epoch,i) x'.cs τ).1)) else none) else none):=by
     intro b off
     split
     ·rw[h.epoch]
      obtain ⟨h1,h2⟩:=Sim.tkC (xH0 base b off ti.size) (σ.epoch,i) (cs:=x'.cs) h;rw[h2.boxes,h1];cases (tkC (xH0 base b off ti.size) (σ.epoch,i) x'.cs σ).2.boxes[b]? with
      | none=>trivial
      | some o=>
       cases o with
       | none=>trivial
       | some cs0=>
        simp only[Option.bind_some]
        split
        ·exact h2.setBox _ _
        ·trivial
     ·trivial
    have elcase:∀r c g n off,SimS Z ((fzC x'.cs σ).bind fun y=>(y.2.at? r c g).bind fun q=>(q.2[n]?).bind fun e=>if off+ti.size<=q.1 then some (y.2.setCell r c (.ow g false q.1 (q.2.set n (splice e off y.1)))) else none)
      ((fzC x'.cs τ).bind fun y=>(y.2.at? r c g).bind fun q=>(q.2[n]?).bind fun e=>if off+ti.size<=q.1 then some (y.2.setCell r c (.ow g false q.1 (q.2.set n (splice e off y.1)))) else none):=by
     intro r c g n off;have hb:=h.fzC (cs:=x'.cs);cases h1:fzC x'.cs σ<;>cases h2:fzC x'.cs τ<;>rw[h1,h2] at hb<;>first | trivial|(simp[SimO] at hb;done) | skip
     rename_i y1 y2;obtain ⟨e1,e2⟩:=hb;simp only[Option.bind_some,e1,e2.agree.at'];cases hat:y1.2.at? r c g with
     | none=>trivial
     | some q=>
      simp only[Option.bind_some];cases q.2[n]? with
      | none=>trivial
      | some e=>
       simp only[Option.bind_some]
       split
       ·exact e2.setCell (e2.root hat) _ _
       ·trivial
    have elcaseD:∀r c g n off,SimS Z ((holdCells base (σ.epoch,i) x'.cs σ).bind fun y=>(y.2.ad? r c g).bind fun q=>(q.2.2[n]?).bind fun e=>if q.1=true/\off+ti.size<=q.2.1 then some (y.2.setCell r c (.ow g true q.2.1 (q.2.2.set n (splice e off y.1)))) else none)
      ((holdCells base (τ.epoch,i) x'.cs τ).bind fun y=>(y.2.ad? r c g).bind fun q=>(q.2.2[n]?).bind fun e=>if q.1=true/\off+ti.size<=q.2.1 then some (y.2.setCell r c (.ow g true q.2.1 (q.2.2.set n (splice e off y.1)))) else none):=by
     intro r c g n off;rw[h.epoch];have hb:=h.holdCells base (σ.epoch,i) (cs:=x'.cs);cases h1:holdCells base (σ.epoch,i) x'.cs σ<;>cases h2:holdCells base (σ.epoch,i) x'.cs τ<;>rw[h1,h2] at hb<;>first | trivial|(simp[SimO] at hb;done) | skip
     rename_i y1 y2;obtain ⟨e1,e2⟩:=hb;simp only[Option.bind_some,e1,e2.agree.ad'];cases hat:y1.2.ad? r c g with
     | none=>trivial
     | some q=>
      simp only[Option.bind_some];cases q.2.2[n]? with
      | none=>trivial
      | some e=>
       simp only[Option.bind_some]
       split
       ·exact e2.setCell (e2.rootD hat) _ _
       ·trivial
    have elboth:∀r c g n off,SimS Z (if x'.cs.length=ti.size then (match σ.ad? r c g with
       | some (true,_,_)=>(holdCells base (σ.epoch,i) x'.cs σ).bind fun y=>(y.2.ad? r c g).bind fun q=>(q.2.2[n]?).bind fun e=>if q.1=true/\off+ti.size<=q.2.1 then some (y.2.setCell r c (.ow g true q.2.1 (q.2.2.set n (splice e off y.1)))) else none
       | _=>(fzC x'.cs σ).bind fun y=>(y.2.at? r c g).bind fun q=>(q.2[n]?).bind fun e=>if off+ti.size<=q.1 then some (y.2.setCell r c (.ow g false q.1 (q.2.set n (splice e off y.1)))) else none) else none)
      (if x'.cs.length=ti.size then (match τ.ad? r c g with
       | some (true,_,_)=>(holdCells base (τ.epoch,i) x'.cs τ).bind fun y=>(y.2.ad? r c g).bind fun q=>(q.2.2[n]?).bind fun e=>if q.1=true/\off+ti.size<=q.2.1 then some (y.2.setCell r c (.ow g true q.2.1 (q.2.2.set n (splice e off y.1)))) else none
       | _=>(fzC x'.cs τ).bind fun y=>(y.2.at? r c g).bind fun q=>(q.2[n]?).bind fun e=>if off+ti.size<=q.1 then some (y.2.setCell r c (.ow g false q.1 (q.2.set n (splice e off y.1)))) else none) else none):=by
     intro r c g n off
     split
     ·rw[h.agree.ad']
      split
      ·exact elcaseD r c g n off
      ·exact elcase r c g n off
     ·trivial
    split
    ·exact boxcase _ _
    ·exact boxcase _ _
    ·exact elboth _ _ _ _ _
    ·exact elboth _ _ _ _ _
    ·trivial
theorem yE1 (h:Sim Z σ τ) {i:Nat} {t:TypeId} {l c:Operand} (hl:τ.ev l=σ.ev l) (hc:τ.ev c=σ.ev c):SimO Z (VQ0 P i σ t l c) (VQ0 P i τ t l c):=by
 simp only[VQ0,hl,hc,h.epoch];exact SimO.rfl' h _
theorem PZ0 (h:Sim Z σ τ) {base i:Nat} {dst:Option Tmp} {op:Op} (hx:∀x∈op.operands,τ.ev x=σ.ev x):SimO Z (aEff P base i dst σ op) (aEff P base i dst τ op):=by
 unfold aEff
 split
 ·exact NK0 h (hx _ (by simp[Op.operands]))
 ·exact uU1 h (hx _ (by simp[Op.operands]))
 ·exact JL0 h
 ·exact (JJ0 h (hx _ (by simp[Op.operands])) (hx _ (by simp[Op.operands]))).map _
 ·rename_i t parts
  rw[JK0 (P:=P) (t:=t) (parts:=parts) fun p hp=>hx _ (by simp only[Op.operands];exact List.mem_toArray.2 (List.mem_map.2 ⟨p,hp,rfl⟩))]
  exact SimO.rfl' h _
 ·rename_i t len parts
  exact gM0 h fun p hp=>hx _ (by simp only[Op.operands];exact List.mem_toArray.2 (List.mem_map.2 ⟨p,hp,rfl⟩))
 ·exact NL0 h fun x hm=>hx _ (by simp only[Op.operands,Call.operands];simpa using hm)
 ·exact yE1 h (hx _ (by simp[Op.operands])) (hx _ (by simp[Op.operands]))
 ·rename_i s d x
  rw[pV0 h.agree hx,yD1 h (hx _ (by simp[Op.operands]))]
  exact SimO.rfl' h _
 ·rw[pV0 h.agree hx]
  exact SimO.rfl' h _
end Go.Av
/- Avs, part 33: calls in states that are alike. -/
namespace Go.Av
variable {P:Program} {Z:Nat->Prop} {σ τ:AS}
theorem YQ0:∀{xs:List Operand},(∀x∈xs,τ.ev x=σ.ev x)->pD0 τ xs=pD0 σ xs
 | [],_=>rfl
 | x::xs,hx=>by
  have h0:=hx x List.mem_cons_self;have ih:=YQ0 (xs:=xs) fun y hy=>hx y (List.mem_cons_of_mem _ hy);simp only[pD0,h0,ih]
abbrev PreR:=FuncId×List AV×List (Option (List A))
def pre4 (x:Option (FuncId×List AV×List (Option (List A))×AS)):Option (PreR×AS):=x.map fun r=>((r.1,r.2.1,r.2.2.1),r.2.2.2)
theorem VR0 (h:Sim Z σ τ) {hh:Hint} {i:Nat} {fop:Operand} {args:List Operand} (hf:τ.ev fop=σ.ev fop) (ha:∀x∈args,τ.ev x=σ.ev x) :
  SimO Z (pre4 (vD0 hh i σ fop args)) (pre4 (vD0 hh i τ fop args)):=by
 unfold vD0;rw[hf,YQ0 ha];cases σ.ev fop with
 | none=>trivial
 | some fv=>
  simp only[Option.bind_some]
  split
  ·rename_i f caps
   cases pD0 σ args with
   | none=>trivial
   | some avs=>
    simp only[Option.bind_some,h.epoch];obtain ⟨a1,a2⟩:=Sim.tkC hh.mv (σ.epoch,i) (cs:=(avs++xX0 caps).flatMap (·.cs)) h
    rw[a1];obtain ⟨b1,b2⟩:=Sim.shC hh.sh (cs:=(tkC hh.mv (σ.epoch,i) ((avs++xX0 caps).flatMap (·.cs)) σ).1) a2
    rw[b1];have hm:=Sim.maskBoxes (ids:=hh.ids) b2;generalize shC hh.sh (tkC hh.mv (σ.epoch,i) ((avs++xX0 caps).flatMap (·.cs)) σ).1 (tkC hh.mv (σ.epoch,i) ((avs++xX0 caps).flatMap (·.cs)) σ).2=q1 at *
    generalize (shC hh.sh (tkC hh.mv (σ.epoch,i) ((avs++xX0 caps).flatMap (·.cs)) σ).1 (tkC hh.mv (σ.epoch,i) ((avs++xX0 caps).flatMap (·.cs)) τ).2).2=q2 at *
    cases h1:maskBoxes hh.ids q1.2<;>cases h2:maskBoxes hh.ids q2<;>rw[h1,h2] at hm<;>first | trivial|(simp[SimO] at hm;done) | skip
    rename_i y1 y2;obtain ⟨e1,e2⟩:=hm;simp only[Option.bind_some,e1]
    split
    ·rw[Sim.lendCells e2]
     cases lendCells y1.2 q1.1 with
     | none=>trivial
     | some cs=>
      simp only[Option.bind_some];cases qT0 hh.ids cs with
      | none=>trivial
      | some cs2=>
       simp only[Option.bind_some];cases tK0 hh.ids y1.1 with
       | none=>trivial
       | some pcs=>exact ⟨rfl,e2⟩
    ·trivial
  ·trivial
theorem YF0 (h:Sim Z σ τ) (ids:List Nat) (i:Nat) (res:AV) (bx:List (Option (List A))) :
  (zH0 ids i τ res bx).1=(zH0 ids i σ res bx).1/\Sim Z (zH0 ids i σ res bx).2 (zH0 ids i τ res bx).2:=by
 refine ⟨by simp only[zH0,h.boxes,h.epoch],h.len,h.slots,h.no1,h.no2,by simp only[zH0,h.boxes,h.epoch],h.epoch⟩
end Go.Av
/- Avs, part 33: the same evaluator over primitives that stay out of sight (they are variables), with what is to be shown collected. -/
namespace Go.Gv
open Go.Av
structure Ops where
 bin:BinOp->IntKind->Int->Int->Int
 cmp:BinOp->Int->Int->Bool
 sadd:ByteArray->ByteArray->ByteArray
 scmp:BinOp->ByteArray->ByteArray->Bool
 beq:Bool->Bool->Bool
 bnot:Bool->Bool
 band:Bool->Bool->Bool
 un:UnOp->IntKind->Int->Int
 wrap:IntKind->Int->Int
 size:ByteArray->Nat
 byte:ByteArray->Nat->Int
 chr:Int->ByteArray
 sub:ByteArray->Nat->Nat->ByteArray
 len:List (List T)->Nat
 seg:Nat->Nat->List (List T)->List (List T)
 app:List (List T)->List (List T)->List (List T)
 get:List (List T)->Nat->List T
 set:List (List T)->Nat->List T->List (List T)
 nat:Int->Nat
 nadd:Nat->Nat->Nat
 nsub:Nat->Nat->Nat
 repl:Nat->List T->List (List T)
 text:List (List T)->ByteArray
 bytes:ByteArray->List (List T)
 mn:Int->Int->Int
 mx:Int->Int->Int
 nz:Int->Prop
 nn:Int->Prop
 idx:Int->Nat->Prop
 bnd:Int->Nat->Prop
 le:Nat->Nat->Prop
 all:List (List T)->Nat->Prop
 one:List (List T)->Nat->Nat->Prop
 lits:List (List T)->Prop
 isB:List (List T)->Prop
 sOk:ByteArray->ByteArray->Prop
 aOk:Nat->List (List T)->List (List T)->Prop
 mOk:Nat->Int->Int->Prop
 er:List (List T)->List (List T)
def yW0 (op:BinOp) (k:IntKind) (a b:Int):Int:=match op with
 | .shl=>k.wrap (a * 2 ^ (min b.toNat k.bits))
 | .shr=>a.fdiv (2 ^ (min b.toNat k.bits))
 | .add=>k.wrap (a+b)
 | .sub=>k.wrap (a - b)
 | .mul=>k.wrap (a * b)
 | .quo=>k.wrap (a.tdiv b)
 | .rem=>a.tmod b
 | .and=>k.wrap (BitVec.ofInt k.bits a &&& BitVec.ofInt k.bits b).toNat
 | .or=>k.wrap (BitVec.ofInt k.bits a ||| BitVec.ofInt k.bits b).toNat
 | .xor=>k.wrap (BitVec.ofInt k.bits a ^^^ BitVec.ofInt k.bits b).toNat
 | _=>0
def sCm (op:BinOp) (a b:Int):Bool:=match op with
 | .eql=>a == b
 | .neq=>a != b
 | .lss=>decide (a < b)
 | .leq=>decide (a<=b)
 | .gtr=>decide (a > b)
 | .geq=>decide (a≥b)
 | _=>false
def dX0 (op:BinOp) (a b:ByteArray):Bool:=match op with
 | .eql=>a.toList == b.toList
 | .neq=>!(a.toList == b.toList)
 | .lss=>Op.bytesLess a.toList b.toList
 | .leq=>Op.bytesLess a.toList b.toList || (a.toList == b.toList)
 | .gtr=>!(Op.bytesLess a.toList b.toList || (a.toList == b.toList))
 | .geq=>!(Op.bytesLess a.toList b.toList)
 | _=>false
def qM0 (op:UnOp) (k:IntKind) (n:Int):Int:=match op with
 | .neg=>k.wrap (0 - n)
 | .xor=>k.wrap (BitVec.ofInt k.bits (if k.signed then -1 else k.max) ^^^ BitVec.ofInt k.bits n).toNat
 | _=>0
def Ops.std:Ops where
 bin:=yW0
 cmp:=sCm
 sadd a b:=a++b
 scmp:=dX0
 beq a b:=a == b
 bnot a:=!a
 band a b:=a && b
 un:=qM0
 wrap k n:=k.wrap n
 size s:=s.size
 byte s i:=(vB0 s i).toNat
 chr n:=Utf8.encode n
 sub s l h:=s.extract l h
 len els:=els.length
 seg lo n els:=(els.drop lo).take n
 app a b:=a++b
 get els i:=els.getD i []
 set els i e:=els.set i e
 nat i:=i.toNat
 nadd a b:=a+b
 nsub a b:=a - b
 repl n e:=List.replicate n e
 text els:=match bytesOf els with | some ns=>textOf ns | none=>ByteArray.empty
 bytes s:=s.data.toList.map fun b=>[T.lit (.int .u8 b.toNat)]
 mn x y:=if y < x then y else x
 mx x y:=if y > x then y else x
 nz b:=b≠0
 nn b:=0<=b
 idx i n:=0<=i/\i < n
 bnd i n:=0<=i/\i<=n
 le a b:=a<=b
 all els k:=∀x∈els,x.length=k
 one els i k:=i < els.length/\(els.getD i []).length=k
 lits els:=∀y∈els,∀t∈y,isL t=true
 isB els:=(bytesOf els).isSome=true
 sOk a b:=a.size+b.size<=9223372036854775807
 aOk bytes a b:=(a.length+b.length) * bytes<=140737488355328/\a.length+b.length<=9223372036854775807
 mOk bytes l c:=0<=l/\l<=c/\(bytes:Int) * c<=281474976710656/\c<=9223372036854775807
 er els:=erE els
abbrev M (α:Type):=Option (List Prop×α)
def ret {α:Type} (x:α):M α:=some ([],x)
def need {α:Type} (p:Prop) (x:M α):M α:=match x with
 | some (ps,v)=>some (p::ps,v)
 | none=>none
def cat:List Prop->List Prop->List Prop
 | [],qs=>qs
 | p::ps,qs=>p::cat ps qs
def bindM {α β:Type} (x:M α) (f:α->M β):M β:=match x with
 | none=>none
 | some (ps,a)=>match f a with
  | none=>none
  | some (qs,b)=>some (cat ps qs,b)
def bindO {α β:Type} (x:Option α) (f:α->M β):M β:=match x with
 | none=>none
 | some a=>f a
def bind2 {α β γ:Type} (x:Option α) (y:Option β) (f:α->β->M γ):M γ:=match x,y with
 | some a,some b=>f a b
 | _,_=>none
def look:List (Nat×TI)->Nat->Option TI
 | [],_=>none
 | (k,v)::r,n=>if k=n then some v else look r n
variable (O:Ops) (ts:Nat->Option TI)
def NC0 (r:Root):Nat->List A->List A
 | _,[]=>[]
 | j,c::cs=>match c with
  | .ow g _ _ els=>.sref r j g 0 (O.len els)::NC0 r (j+1) cs
  | _=>c::NC0 r (j+1) cs
def evG (σ:AS):Operand->Option AV
 | .tmp t=>match σ.slots[t]? with
  | some av=>some ⟨av.sh,NC0 O (.slot t) 0 av.cs⟩
  | none=>none
 | .const v=>UT0 v
 | .func f=>some ⟨.one,[.fn f []]⟩
 | .global _=>none
def litG (v:Value):AV:=⟨.one,[.lit v]⟩
def binG (op:BinOp) (t:TypeId):Value->Value->M Value
 | .int k a,.int k' b=>match op with
  | .shl=>need (O.nn b) (ret (.int k (O.bin .shl k a b)))
  | .add=>if k=k' then ret (.int k (O.bin .add k a b)) else none
  | .sub=>if k=k' then ret (.int k (O.bin .sub k a b)) else none
  | .mul=>if k=k' then ret (.int k (O.bin .mul k a b)) else none
  | .quo=>if k=k' then need (O.nz b) (ret (.int k (O.bin .quo k a b))) else none
  | .rem=>if k=k' then need (O.nz b) (ret (.int k (O.bin .rem k a b))) else none
  | .and=>if k=k' then ret (.int k (O.bin .and k a b)) else none
  | .or=>if k=k' then ret (.int k (O.bin .or k a b)) else none
  | .xor=>if k=k' then ret (.int k (O.bin .xor k a b)) else none
  | .shr=>need (O.nn b) (ret (.int k (O.bin .shr k a b)))
  | .eql=>if k=k' then ret (.bool (O.cmp .eql a b)) else none
  | .neq=>if k=k' then ret (.bool (O.cmp .neq a b)) else none
  | .lss=>if k=k' then ret (.bool (O.cmp .lss a b)) else none
  | .leq=>if k=k' then ret (.bool (O.cmp .leq a b)) else none
  | .gtr=>if k=k' then ret (.bool (O.cmp .gtr a b)) else none
  | .geq=>if k=k' then ret (.bool (O.cmp .geq a b)) else none
  | _=>none
 | .string a,.string b=>match op with
  | .add=>need (O.sOk a b) (ret (.string (O.sadd a b)))
  | .eql=>ret (.bool (O.scmp .eql a b))
  | .neq=>ret (.bool (O.scmp .neq a b))
  | .lss=>ret (.bool (O.scmp .lss a b))
  | .leq=>ret (.bool (O.scmp .leq a b))
  | .gtr=>ret (.bool (O.scmp .gtr a b))
  | .geq=>ret (.bool (O.scmp .geq a b))
  | _=>none
 | .bool a,.bool b=>match op with
  | .eql=>match ts t with
   | some ⟨.bool,_,_,_,_⟩=>ret (.bool (O.beq a b))
   | _=>none
  | .neq=>match ts t with
   | some ⟨.bool,_,_,_,_⟩=>ret (.bool (O.bnot (O.beq a b)))
   | _=>none
  | _=>none
 | _,_=>none
def xQ1 (f:TypeId->List A->List A->Option Bool) (xs ys:List A):List (Nat×TypeId)->Option Bool
 | []=>some true
 | p::rest=>match ts p.2 with
  | none=>none
  | some ti=>match rest with
   | []=>f p.2 ((xs.drop p.1).take ti.size) ((ys.drop p.1).take ti.size)
   | _::_=>match f p.2 ((xs.drop p.1).take ti.size) ((ys.drop p.1).take ti.size) with
    | none=>none
    | some a=>match xQ1 f xs ys rest with
     | none=>none
     | some b=>some (O.band a b)
def MF0:Nat->TypeId->List A->List A->Option Bool
 | 0,_,_,_=>none
 | d+1,t,xs,ys=>match ts t with
  | none=>none
  | some ti=>if xs.length=ti.size/\ys.length=ti.size then
   match ti.tk with
   | .struct fs=>if ti.eq=true then xQ1 O ts (MF0 d) xs ys fs else none
   | .bool=>match xs,ys with
    | [.lit (.bool a)],[.lit (.bool b)]=>some (O.beq a b)
    | _,_=>none
   | .int _=>match xs,ys with
    | [.lit (.int k a)],[.lit (.int k' b)]=>if k=k' then some (O.cmp .eql a b) else none
    | _,_=>none
   | .str=>match xs,ys with
    | [.lit (.string a)],[.lit (.string b)]=>some (O.scmp .eql a b)
    | _,_=>none
   | _=>none
  else none
def vY1 (op:BinOp) (r:Bool):Option AV:=match op with
 | .eql=>some (litG (.bool r))
 | .neq=>some (litG (.bool (O.bnot r)))
 | _=>none
def unG (op:UnOp):Value->M Value
 | .bool b=>match op with | .not=>ret (.bool (O.bnot b)) | _=>none
 | .int k n=>match op with
  | .neg=>ret (.int k (O.un .neg k n))
  | .xor=>ret (.int k (O.un .xor k n))
  | _=>none
 | _=>none
def rJ1 (src dst:TypeId):Value->M Value
 | .int _ n=>match ts src,ts dst with
  | some ⟨.int _,_,_,_,_⟩,some ⟨.int k',_,_,_,_⟩=>ret (.int k' (O.wrap k' n))
  | some ⟨.int _,_,_,_,_⟩,some ⟨.str,_,_,_,_⟩=>ret (.string (O.chr n))
  | _,_=>none
 | .string s=>match ts src,ts dst with
  | some ⟨.str,_,_,_,_⟩,some ⟨.str,_,_,_,_⟩=>ret (.string s)
  | _,_=>none
 | _=>none
def elsG (σ:AS):A->Option (List (List T))
 | .nil=>some []
 | .ro _ els=>some els
 | .sref r c g lo len=>match σ.at? r c g with
  | some (_,els)=>some (O.seg lo len els)
  | none=>none
 | _=>none
def uT1 (σ:AS):A->Option Nat
 | .nil=>some 0
 | .ro _ els=>some (O.len els)
 | .sref _ _ _ _ len=>some len
 | _=>none
def pR0 (n:Nat) (hi:Bool):Option AV->M Nat
 | none=>ret (match hi with | true=>n | false=>0)
 | some av=>match av.lit? with
  | some (.int _ i)=>need (O.bnd i n) (ret (O.nat i))
  | _=>none
def rowG (σ:AS):A->M (List A)
 | .ptr b off=>match σ.boxes[b]? with
  | some (some cs)=>ret ((NC0 O (.box b) 0 cs).drop off)
  | _=>none
 | .eptr r c g i off=>match σ.an? r c g with
  | some (_,els)=>need (O.idx i (O.len els)) (ret (((O.get els i).drop off).map (tA true)))
  | none=>none
 | .rptr st cells=>ret (cells.map (tA st))
 | _=>none
def xD1 (σ:AS) (t:TypeId) (c:A):M AV:=
 bindO (ts t) fun ti=>bindM (rowG O σ c) fun cs=>bindO (tJ0 ti (cs.take ti.size)) ret
def FD0 (σ:AS) (s:TypeId) (c:A) (f:Nat):M A:=
 bindO (ts s) fun ti=>match ti.tk with
  | .struct fs=>bindO fs[f]? fun x=>bindO (ts x.2) fun tf=>if tf.size=0 then none else
   match c with
   | .ptr b off=>ret (.ptr b (off+x.1))
   | .eptr r c g i off=>match σ.an? r c g with
    | some _=>ret (.eptr r c g i (off+x.1))
    | none=>none
   | .rptr st cells=>ret (.rptr st (cells.drop x.1))
   | _=>none
  | _=>none
def tH1 (t:TypeId) (cs:List A) (off:Nat):M AV:=
 bindO (ts t) fun ti=>bindO (tJ0 ti ((cs.drop off).take ti.size)) ret
def nR0 (σ:AS) (t:TypeId) (c:A) (i:Int):M A:=
 bindO (ts t) fun ti=>match ti.tk with
  | .slice e=>bindO (ts e) fun te=>match c with
   | .ro st els=>need (O.idx i (O.len els)) (need (O.all els te.size) (ret (.rptr st (O.get els (O.nat i)))))
   | .sref r c g lo len=>match σ.an? r c g with
    | some p=>if p.1=te.size then need (O.idx i len) (ret (.eptr r c g (O.nadd lo (O.nat i)) 0)) else none
    | none=>none
   | .bsl b k len=>if k=te.size then need (O.idx i len) (ret (.ptr b (i.toNat * te.size))) else none
   | _=>none
  | .array n e=>bindO (ts e) fun te=>match c with
   | .ptr b off=>need (O.idx i n) (ret (.ptr b (off+i.toNat * te.size)))
   | _=>none
  | _=>none
def JH0 (σ:AS) (t:TypeId) (x:AV) (lo hi mx:Option AV):M A:=
 bindO (ts t) fun ti=>match ti.tk,x with
  | .str,⟨.one,[.lit (.string s)]⟩=>match mx with
   | none=>bindM (pR0 O (O.size s) false lo) fun l=>bindM (pR0 O (O.size s) true hi) fun h=>need (O.le l h) (ret (.lit (.string (O.sub s l h))))
   | some _=>none
  | .slice e,⟨.one,[c]⟩=>bindO (ts e) fun te=>bindO (uT1 O σ c) fun n=>match mx with
   | none=>bindM (pR0 O n false lo) fun l=>bindM (pR0 O n true hi) fun h=>need (O.le l h) (match c with
     | .nil=>ret .nil
     | .ro st els=>need (O.all els te.size) (ret (.ro st (O.seg l (O.nsub h l) els)))
     | .sref r c g lo' _=>match σ.an? r c g with
      | some p=>if p.1=te.size then ret (.sref r c g (O.nadd lo' l) (O.nsub h l)) else none
      | none=>none
     | _=>none)
   | some _=>none
  | _,_=>none
def HK0 (σ:AS):Option Operand->Option (Option AV)
 | none=>some none
 | some o=>match evG O σ o with
  | some v=>some (some v)
  | none=>none
def opG (σ:AS):Op->M AV
 | .move x=>bindO (evG O σ x) ret
 | .pick c x y=>bindO (evG O σ c) fun c=>match c.lit? with
  | some (.bool b)=>bindO (match b with | true=>evG O σ x | false=>evG O σ y) ret
  | _=>none
 | .binOp op t x y _=>bind2 (evG O σ x) (evG O σ y) fun x y=>match x.sh,y.sh with
  | .agg,.agg=>bindO (ts t) fun ti=>if ti.agg=true then bindO (MF0 O ts 6 t x.cs y.cs) fun r=>bindO (vY1 O op r) ret else none
  | _,_=>bind2 x.lit? y.lit? fun x y=>bindM (binG O ts op t x y) fun v=>ret (litG v)
 | .unOp op _ x=>bindO (evG O σ x) fun x=>bindO x.lit? fun x=>bindM (unG O op x) fun v=>ret (litG v)
 | .convert s d x=>bindO (evG O σ x) fun x=>bindO x.lit? fun x=>bindM (rJ1 O ts s d x) fun v=>ret (litG v)
 | .nilCheck x=>bindO (evG O σ x) fun x=>match x with
  | ⟨.one,[c]⟩=>match c with
   | .ptr _ _ | .rptr _ _ | .fn _ _=>ret x
   | .eptr r k g _ _=>match σ.an? r k g with
    | some _=>ret x
    | none=>none
   | _=>none
  | _=>none
 | .fieldAddr s x f=>bindO (evG O σ x) fun x=>match x with
  | ⟨.one,[c]⟩=>bindM (FD0 ts σ s c f) fun c=>ret ⟨.one,[c]⟩
  | _=>none
 | .load t x=>bindO (evG O σ x) fun x=>match x with
  | ⟨.one,[c]⟩=>xD1 O ts σ t c
  | _=>none
 | .field s x f=>bindO (evG O σ x) fun x=>match x.sh with
  | .agg=>bindO (ts s) fun ti=>match ti.tk with
   | .struct fs=>bindO fs[f]? fun y=>tH1 ts y.2 x.cs y.1
   | _=>none
  | _=>none
 | .indexAddr t x i=>bind2 (evG O σ x) (evG O σ i) fun x i=>match x,i.lit? with
  | ⟨.one,[c]⟩,some (.int _ n)=>bindM (nR0 O ts σ t c n) fun c=>ret ⟨.one,[c]⟩
  | _,_=>none
 | .index t x i=>bind2 (evG O σ x) (evG O σ i) fun x i=>match x.lit?,i.lit? with
  | some (.string s),some (.int _ n)=>bindO (ts t) fun ti=>match ti.tk with
   | .str=>need (O.idx n (O.size s)) (ret (litG (.int .u8 (O.byte s (O.nat n)))))
   | _=>none
  | _,_=>none
 | .slice t x lo hi mx=>bindO (evG O σ x) fun x=>
   match HK0 O σ lo,HK0 O σ hi,HK0 O σ mx with
   | some lo,some hi,some mx=>bindM (JH0 O ts σ t x lo hi mx) fun c=>ret ⟨.one,[c]⟩
   | _,_,_=>none
 | .extract x j=>bindO (evG O σ x) fun x=>match x.sh with
  | .tup ns=>bindO ns[j]? fun s=>
    match s.1 with
    | true=>ret ⟨.agg,(x.cs.drop ((ns.take j).map (·.2)).sum).take s.2⟩
    | false=>bindO (x.cs[((ns.take j).map (·.2)).sum]?) fun c=>ret ⟨.one,[c]⟩
  | _=>none
 | .makeFunc (.func f) first captured=>if first.size=0 then
   bindO (all3 (captured.toList.map fun x=>(evG O σ x).bind MH0)) fun cs=>ret ⟨.one,[.fn f cs]⟩
  else none
 | .call { callee:=.builtin .len,args,argTypes }=>bindO args[0]? fun x=>bindO argTypes[0]? fun t=>bind2 (evG O σ x) (ts t) fun x ti=>match ti.tk,x with
  | .str,⟨.one,[.lit (.string s)]⟩=>ret (litG (.int .i64 (Int.ofNat (O.size s))))
  | .slice _,⟨.one,[c]⟩=>bindO (uT1 O σ c) fun n=>ret (litG (.int .i64 (Int.ofNat n)))
  | .array n _,_=>ret (litG (.int .i64 (Int.ofNat n)))
  | _,_=>none
 | .call { callee:=.builtin .min,args,.. }=>match args.toList with
  | [x,y]=>bind2 (evG O σ x) (evG O σ y) fun x y=>match x.lit?,y.lit? with
   | some (.int k x),some (.int _ y)=>ret (litG (.int k (O.mn x y)))
   | _,_=>none
  | _=>none
 | .call { callee:=.builtin .max,args,.. }=>match args.toList with
  | [x,y]=>bind2 (evG O σ x) (evG O σ y) fun x y=>match x.lit?,y.lit? with
   | some (.int k x),some (.int _ y)=>ret (litG (.int k (O.mx x y)))
   | _,_=>none
  | _=>none
 | _=>none
def erG (d:Bool) (els:List (List T)):List (List T):=match d with
 | false=>els
 | true=>O.er els
def nC0 (mv:Root->Nat->Bool) (g:yA0):List A->AS->List A×AS
 | [],σ=>([],σ)
 | c::cs,σ=>
  match c with
  | .sref r x g0 lo len=>
   match mv r x with
   | true=>match σ.ad? r x g0 with
    | some (d,k,els)=>match nC0 mv g cs (σ.setCell r x .dead) with
     | (q1,q2)=>((.ow g d k (O.seg lo len els))::q1,q2)
    | none=>match nC0 mv g cs σ with
     | (q1,q2)=>(.dead::q1,q2)
   | false=>match nC0 mv g cs σ with
     | (q1,q2)=>(c::q1,q2)
  | _=>match nC0 mv g cs σ with
     | (q1,q2)=>(c::q1,q2)
def jC0 (sh:Root->Nat->Bool):List A->AS->List A×AS
 | [],σ=>([],σ)
 | c::cs,σ=>
  match c with
  | .sref r x g lo len=>
   match sh r x with
   | true=>match σ.ad? r x g with
    | some (d,_,els)=>match jC0 sh cs (σ.setCell r x (.ro true (erG O d els))) with
     | (q1,q2)=>(.ro true (erG O d (O.seg lo len els))::q1,q2)
    | none=>match jC0 sh cs σ with
     | (q1,q2)=>(.dead::q1,q2)
   | false=>match jC0 sh cs σ with
     | (q1,q2)=>(c::q1,q2)
  | _=>match jC0 sh cs σ with
     | (q1,q2)=>(c::q1,q2)
def GB0 (σ:AS):List A->Option (List A)
 | []=>some []
 | c::cs=>match c with
  | .sref r x g lo len=>match σ.ad? r x g with
   | some (d,_,els)=>match GB0 σ cs with
    | some q=>some (.ro false (erG O d (O.seg lo len els))::q)
    | none=>none
   | none=>none
  | .eptr ..=>none
  | _=>match GB0 σ cs with
   | some q=>some (c::q)
   | none=>none
def wY0:List A->AS->Option (List T×AS)
 | [],σ=>some ([],σ)
 | c::cs,σ=>match c with
  | .lit v=>match wY0 cs σ with
   | some (q1,q2)=>some (.lit v::q1,q2)
   | none=>none
  | .nil=>match wY0 cs σ with
   | some (q1,q2)=>some (.sl []::q1,q2)
   | none=>none
  | .ro true els=>match wY0 cs σ with
   | some (q1,q2)=>some (.sl els::q1,q2)
   | none=>none
  | .sref r x g lo len=>match σ.at? r x g with
   | some (_,els)=>match wY0 cs (σ.setCell r x (.ro true els)) with
    | some (q1,q2)=>some (.sl (O.seg lo len els)::q1,q2)
    | none=>none
   | none=>none
  | _=>none
def RE0:List A->Option (List T)
 | []=>some []
 | c::cs=>match c.toOwn with
  | some t=>match RE0 cs with
   | some q=>some (t::q)
   | none=>none
  | none=>none
def GP0 (base:Nat) (g:yA0) (cs:List A) (σ:AS):Option (List T×AS):=match nC0 O (rF0 base) g cs σ with
 | (q1,q2)=>match RE0 q1 with
  | some ts=>some (ts,q2)
  | none=>none
def TU0 (i:Nat) (dst:Option Tmp) (σ:AS):Operand->Option (AV×AS)
 | .tmp t=>match evG O σ (.tmp t) with
  | some av=>match nC0 O (fun r _=>decide (r=.slot t) || decide (some r=dst.map Root.slot)) (σ.epoch,i) av.cs σ with
   | (q1,q2)=>some (⟨av.sh,q1⟩,q2)
  | none=>none
 | x=>match evG O σ x with
  | some av=>some (av,σ)
  | none=>none
def boxG (base i:Nat) (σ:AS) (x:Operand):Option (AV×AS):=
 match evG O σ x with
 | some av=>match av.sh with
  | .one | .agg=>match nC0 O (rF0 base) (σ.epoch,i) av.cs σ with
   | (q1,q2)=>some (⟨.one,[.ptr q2.boxes.length 0]⟩,q2.addBox q1)
  | _=>none
 | none=>none
def DX0 (σ:AS) (t:TypeId):Option (AV×AS):=
 match ts t with
 | some ti=>match ti.zero.mapM xF0 with
  | some cs=>some (⟨.one,[.ptr σ.boxes.length 0]⟩,σ.addBox cs)
  | none=>none
 | none=>none
def JF0 (base i:Nat) (σ:AS) (t:TypeId) (p x:Operand):M AS:=
 bindO (ts t) fun ti=>bind2 (evG O σ p) (evG O σ x) fun p x=>match (match x.sh with | .one=>true | .agg=>true | _=>false) with
  | false=>none
  | true=>match p with
   | ⟨.one,[.ptr b off]⟩=>if x.cs.length=ti.size then
     match nC0 O (xH0 base b off ti.size) (σ.epoch,i) x.cs σ with
     | (q1,q2)=>match q2.boxes[b]? with
      | some (some cs0)=>if off+ti.size<=cs0.length then ret (q2.setBox b (splice cs0 off q1)) else none
      | _=>none
    else none
   | ⟨.one,[.eptr r c g n off]⟩=>if x.cs.length=ti.size then
     match σ.ad? r c g with
     | some (true,_,_)=>match GP0 O base (σ.epoch,i) x.cs σ with
      | none=>none
      | some (y1,y2)=>match y2.ad? r c g with
       | some (true,q1,q2)=>need (O.one q2 n q1) (if off+ti.size<=q1 then
        match (if off=0/\q1=y1.length then y1 else splice (O.get q2 n) off y1) with
        | z=>ret (y2.setCell r c (.ow g true q1 (O.set q2 n z))) else none)
       | _=>none
     | _=>match wY0 O x.cs σ with
      | none=>none
      | some (y1,y2)=>match y2.at? r c g with
       | none=>none
       | some (q1,q2)=>need (O.one q2 n q1) (if off+ti.size<=q1 then
        match (if off=0/\q1=y1.length then y1 else splice (O.get q2 n) off y1) with
        | z=>ret (y2.setCell r c (.ow g false q1 (O.set q2 n z))) else none)
    else none
   | _=>none
def uT0 (σ:AS) (fs:List (Nat×TypeId)):List A->List (Nat×Operand)->Option (List A)
 | cs,[]=>some cs
 | cs,p::rest=>match fs[p.1]? with
  | some f=>match ts f.2 with
   | some tf=>match evG O σ p.2 with
    | some av=>if av.cs.length=tf.size/\f.1+tf.size<=cs.length then
      match av.sh with
      | .one | .agg=>uT0 σ fs (splice cs f.1 av.cs) rest
      | _=>none
     else none
    | none=>none
   | none=>none
  | none=>none
def PN0 (σ:AS) (t:TypeId) (parts:Array (Nat×Operand)):Option AV:=
 match ts t with
 | some ti=>match ti.zero.mapM xF0 with
  | some z=>match ti.tk with
   | .struct fs=>match fs.all (fun f=>(ts f.2).isSome) with
    | true=>match uT0 O ts σ fs z parts.toList with
     | some cs=>some ⟨.agg,cs⟩
     | none=>none
    | false=>none
   | _=>none
  | none=>none
 | none=>none
def rA0 (σ:AS) (k:Nat):List (Nat×Operand)->Nat->Option (List A)
 | [],_=>some []
 | p::rest,j=>match evG O σ p.2 with
  | some av=>if p.1=j/\av.cs.length=k then
    match av.sh with
    | .one | .agg=>match rA0 σ k rest (j+1) with
     | some cs=>some (av.cs++cs)
     | none=>none
    | _=>none
   else none
  | none=>none
def qE0 (i:Nat) (σ:AS) (t:TypeId) (len:Nat) (parts:Array (Nat×Operand)):Option (AV×AS):=
 match ts t with
 | some ti=>match ti.tk with
  | .slice e=>match ts e with
   | some te=>match rA0 O σ te.size parts.toList 0 with
    | some cs=>if parts.size=len/\len * te.size<=16777216 then
      match cs.any (deepRoot σ) with
      | true=>match GP0 O 0 (σ.epoch,i) cs σ with
       | some (q1,q2)=>some (⟨.one,[.ow (σ.epoch,i) true te.size (chunks te.size len q1)]⟩,q2)
       | none=>none
      | false=>match wY0 O cs σ with
       | some (q1,q2)=>some (⟨.one,[.ow (σ.epoch,i) false te.size (chunks te.size len q1)]⟩,q2)
       | none=>none
     else none
    | none=>none
   | none=>none
  | _=>none
 | none=>none
def srcG (σ:AS) (tx:TypeId) (size:Nat) (x:AV):M (List (List T)):=
 bindO (ts tx) fun ti=>match ti.tk,x with
  | .slice _,⟨.one,[c]⟩=>bindO (elsG O σ c) fun xs=>need (O.all xs size) (match vV1 c with
   | true=>need (O.lits xs) (ret xs)
   | false=>ret xs)
  | .str,⟨.one,[.lit (.string s)]⟩=>if size=1 then ret (O.bytes s) else none
  | _,_=>none
def wR1 (σ:AS) (size:Nat):A->Option ((Bool×List (List T))×AS)
 | .nil=>some ((false,[]),σ)
 | .sref r c g lo len=>match σ.ad? r c g with
  | some (d,k,els)=>if k=size then some ((d,O.seg lo len els),σ.setCell r c .dead) else none
  | none=>none
 | _=>none
def qK0 (σ:AS) (tx:TypeId) (size:Nat):AV->Option (List (List T)×AS)
 | ⟨.one,[.sref r c g lo len]⟩=>match σ.ad? r c g with
  | some (true,k,els)=>match ts tx with
   | some ti=>match ti.tk with
    | .slice _=>if k=size then some (O.seg lo len els,σ.setCell r c .dead) else none
    | _=>none
   | none=>none
  | _=>none
 | _=>none
def TW0 (i:Nat) (σ:AS) (args:Array Operand) (argTypes:Array TypeId):M (AV×AS):=
 match args.toList,argTypes.toList with
 | [s,x],[t,tx]=>bindO (ts t) fun ti=>match ti.tk with
  | .slice e=>bindO (ts e) fun te=>bind2 (evG O σ s) (evG O σ x) fun s x=>match s with
   | ⟨.one,[c]⟩=>match qK0 O ts σ tx te.size x with
    | some (y1,y2)=>match wR1 O y2 te.size c with
     | some ((_,b1),b2)=>need (O.aOk te.bytes b1 y1) (ret (⟨.one,[.ow (σ.epoch,i) true te.size (O.app b1 y1)]⟩,b2))
     | none=>none
    | none=>bindM (srcG O ts σ tx te.size x) fun xs=>match wR1 O σ te.size c with
     | some ((d,b1),b2)=>need (O.aOk te.bytes b1 xs) (ret (⟨.one,[.ow (σ.epoch,i) d te.size (O.app b1 xs)]⟩,b2))
     | none=>none
   | _=>none
  | _=>none
 | _,_=>none
def tQ1 (i:Nat) (σ:AS) (t:TypeId) (l c:Operand):M (AV×AS):=
 bindO (ts t) fun ti=>match ti.tk with
 | .slice e=>bindO (ts e) fun te=>bind2 (evG O σ l) (evG O σ c) fun l c=>match l.lit?,c.lit? with
  | some (.int _ l),some (.int _ c)=>need (O.mOk te.bytes l c) (if 0 < te.size then
    bindO (kN0 te.zero) fun zs=>ret (⟨.one,[.ow (σ.epoch,i) false te.size (O.repl (O.nat l) zs)]⟩,σ) else none)
  | _,_=>none
 | _=>none
def JA0 (σ:AS) (s d:TypeId) (x:Operand):M AV:=
 bindO (evG O σ x) fun x=>match x with
 | ⟨.one,[c]⟩=>bind2 (ts s) (ts d) fun t1 t2=>match t1.tk,t2.tk with
  | .slice e,.str=>bindO (ts e) fun te=>match te.tk with
   | .int .u8=>bindO (elsG O σ c) fun els=>need (O.isB els) (ret (litG (.string (O.text els))))
   | _=>none
  | _,_=>none
 | _=>none
def orM {α:Type} (x y:M α):M α:=match x with
 | some v=>some v
 | none=>y
def keep {α:Type} (σ:AS) (x:M α):M (α×AS):=match x with
 | some (ps,v)=>some (ps,(v,σ))
 | none=>none
def effG (base i:Nat) (dst:Option Tmp) (σ:AS) (op:Op):M (AV×AS):=match op with
 | .assign x=>bindO (TU0 O i dst σ x) ret
 | .box _ x=>bindO (boxG O base i σ x) ret
 | .alloc t=>bindO (DX0 ts σ t) ret
 | .store t p x=>bindM (JF0 O ts base i σ t p x) fun s=>ret (⟨.any,[]⟩,s)
 | .build t parts=>keep σ (bindO (PN0 O ts σ t parts) ret)
 | .buildSlice t len parts=>bindO (qE0 O ts i σ t len parts) ret
 | .call ⟨.builtin .append,args,argTypes⟩=>TW0 O ts i σ args argTypes
 | .makeSlice t l c=>tQ1 O ts i σ t l c
 | .convert s d x=>keep σ (orM (opG O ts σ (.convert s d x)) (JA0 O ts σ s d x))
 | op=>keep σ (opG O ts σ op)
def QV0 (σ:AS):List Operand->Option (List AV)
 | []=>some []
 | x::xs=>match evG O σ x with
  | some av=>match av.sh with
   | .any=>none
   | _=>match QV0 σ xs with
    | some q=>some (av::q)
    | none=>none
  | none=>none
def bZ0 (h:Hint) (i:Nat) (σ:AS) (fop:Operand) (args:List Operand):Option (FuncId×List AV×List (Option (List A))×AS):=
 match evG O σ fop with
 | some ⟨.one,[.fn f caps]⟩=>match QV0 O σ args with
  | some avs=>match avs++xX0 caps with
   | all=>match nC0 O h.mv (σ.epoch,i) (all.flatMap (·.cs)) σ with
    | (c1,s1)=>match jC0 O h.sh c1 s1 with
     | (c2,s2)=>match maskBoxes h.ids s2 with
      | some (m1,m2)=>match m1.all (·.all fun c=>c.rstamp.isNone) with
       | true=>match GB0 O m2 c2 with
        | some cs=>match qT0 h.ids cs,tK0 h.ids m1 with
         | some cs,some pcs=>some (f,kZ0 all (cs.map A.reset),pcs.map (fun c=>some (c.map A.reset)),m2)
         | _,_=>none
        | none=>none
       | false=>none
      | none=>none
  | none=>none
 | _=>none
def JQ0 (av:AV):M (Bool×Nat×List A):=match av.sh with
 | .one=>ret (false,av.cs.length,av.cs)
 | .agg=>ret (true,av.cs.length,av.cs)
 | _=>none
def vH1 (σ:AS):ResultVar->M AV
 | .tmp t=>bindO (evG O σ (.tmp t)) ret
 | .cell t ty=>bindO (evG O σ (.tmp t)) fun x=>match x with
  | ⟨.one,[c]⟩=>xD1 O ts σ ty c
  | _=>none
def dZ0 (σ:AS) (r:ResultVar):M (Bool×Nat×List A):=bindM (vH1 O ts σ r) JQ0
def kF0 (σ:AS):List ResultVar->M (List (Bool×Nat)×List A)
 | []=>ret ([],[])
 | r::rest=>bindM (dZ0 O ts σ r) fun r=>bindM (kF0 σ rest) fun q=>ret ((r.1,r.2.1)::q.1,r.2.2++q.2)
def shOf:Bool->Sh
 | true=>.agg
 | false=>.one
def UE0 (σ:AS) (rs:List ResultVar):M AV:=match rs with
 | [r]=>bindM (dZ0 O ts σ r) fun r=>ret ⟨shOf r.1,r.2.2⟩
 | rs=>bindM (kF0 O ts σ rs) fun q=>ret ⟨.tup q.1,q.2⟩
def resG (base:Nat) (rs:List ResultVar) (σ:AS):M (AV×List (Option (List A))):=
 bindM (UE0 O ts σ rs) fun av=>match nC0 O (yV1 base) (σ.epoch,0) av.cs σ with
  | r=>if r.1.all (goes (bA0 base r)) && decide (base<=bA0 base r) then ret (⟨av.sh,r.1.map A.reset⟩,(r.2.boxes.take (bA0 base r)).map (wM0 (bA0 base r))) else none
end Go.Gv
/- Avs, part 34: over the primitives as they are, the evaluator is the old one. -/
namespace Go.Gv
open Go.Av
def Sd {α:Type} (m:M α) (o:Option α):Prop:=∀ps a,m=some (ps,a)->(∀p∈ps,p)->o=some a
theorem mem_cat {p:Prop}:∀{ps qs:List Prop},p∈cat ps qs↔p∈ps\/p∈qs
 | [],qs=>by simp[cat]
 | x::ps,qs=>by simp[cat,mem_cat (ps:=ps),or_assoc]
section
variable {α β γ:Type}
theorem Sd.ret {x:α}:Sd (ret x) (some x):=by
 intro ps a h _;simp[Gv.ret] at h;rw[h.2]
theorem Sd.none {o:Option α}:Sd none o:=by intro ps a h;simp at h
theorem Sd.need {p:Prop} {x:M α} {o:Option α} (h:p->Sd x o):Sd (need p x) o:=by
 intro ps a hx hp;cases x with
 | none=>simp[Gv.need] at hx
 | some v=>
  simp only[Gv.need,Option.some.injEq,Prod.mk.injEq] at hx;obtain ⟨rfl,rfl⟩:=hx;exact h (hp p (List.mem_cons_self)) v.1 v.2 rfl fun q hq=>hp q (List.mem_cons_of_mem _ hq)
theorem Sd.bindM {x:M α} {f:α->M β} {o:Option α} {g:α->Option β} (h:Sd x o) (hf:∀a,Sd (f a) (g a)):Sd (bindM x f) (o.bind g):=by
 intro ps b hx hp;cases x with
 | none=>simp[Gv.bindM] at hx
 | some v=>
  simp only[Gv.bindM] at hx;cases hv:f v.2 with
  | none=>simp[hv] at hx
  | some q=>
   simp only[hv,Option.some.injEq,Prod.mk.injEq] at hx;obtain ⟨rfl,rfl⟩:=hx;rw[h v.1 v.2 rfl fun p h'=>hp p (mem_cat.2 (.inl h'))];exact hf v.2 q.1 q.2 hv fun p h'=>hp p (mem_cat.2 (.inr h'))
theorem Sd.bindO {x:Option α} {f:α->M β} {g:α->Option β} (hf:∀a,Sd (f a) (g a)):Sd (bindO x f) (x.bind g):=by
 cases x with
 | none=>exact Sd.none
 | some a=>exact hf a
theorem Sd.bind2 {x:Option α} {y:Option β} {f:α->β->M γ} {g:α->β->Option γ} (hf:∀a b,Sd (f a b) (g a b)):Sd (bind2 x y f) (opt2 x y g):=by
 cases x<;>cases y<;>first | exact Sd.none | exact hf _ _
theorem Sd.map {x:M α} {f:α->β} {o:Option α} (h:Sd x o):Sd (Gv.bindM x fun a=>Gv.ret (f a)) (o.map f):=by
 rw[show o.map f=o.bind (fun a=>some (f a)) by cases o<;>rfl]
 exact h.bindM fun a=>Sd.ret
theorem Sd.of_eq {x:Option α} {o:Option α} (h:x=o):Sd (Gv.bindO x Gv.ret) o:=by
 subst h;cases x<;>first | exact Sd.none | exact Sd.ret
end
variable {P:Program} {ts:Nat->Option TI} (hts:∀n ti,ts n=some ti->tyOf P n=some ti)
theorem Sd.ty {β:Type} {n:Nat} {f:TI->M β} {g:TI->Option β} (hts:∀n ti,ts n=some ti->tyOf P n=some ti) (hf:∀a,Sd (f a) (g a)):Sd (Gv.bindO (ts n) f) ((tyOf P n).bind g):=by
 cases h:ts n with
 | none=>exact Sd.none
 | some ti=>rw[hts n ti h];exact hf ti
theorem dV0 (r:Root):∀(j:Nat) (cs:List A),NC0 .std r j cs=yB0 r j cs
 | _,[]=>rfl
 | j,c::cs=>by cases c<;>simp only[NC0,yB0,dV0 r (j+1) cs]<;>rfl
theorem yK0 (σ:AS) (x:Operand):evG .std σ x=σ.ev x:=by
 cases x with
 | tmp t=>simp only[evG,AS.ev];cases σ.slots[t]?<;>simp[AV.view,dV0]
 | _=>rfl
section
include hts
theorem qL1 (op:BinOp) (t:TypeId) (x y:Value):Sd (binG .std ts op t x y) (wR0 P op t x y):=by
 cases x<;>cases y<;>try exact Sd.none
 ·rename_i a b
  cases op<;>try exact Sd.none
  all_goals
   simp only[binG,wR0];cases h:ts t with
   | none=>exact Sd.none
   | some ti=>
    rw[hts t ti h];obtain ⟨tk,s,b,z,e⟩:=ti;cases tk<;>first | exact Sd.none | exact Sd.ret
 ·rename_i k a k' b
  cases op<;>try exact Sd.none
  all_goals simp only[binG,wR0]
  all_goals first
   | (refine Sd.need fun (h:0<=b)=>?_;rw[if_pos h];exact Sd.ret)
   | (split;(first | exact Sd.ret|(rename_i hk;refine Sd.need fun (h:b≠0)=>?_;rw[if_pos ⟨hk,h⟩];exact Sd.ret));(exact Sd.none))
   | skip
 ·rename_i a b
  cases op<;>try exact Sd.none
  all_goals simp only[binG,wR0]
  all_goals first
   | exact Sd.ret
   | (refine Sd.need fun (h:a.size+b.size<=9223372036854775807)=>?_;rw[if_pos h];exact Sd.ret)
theorem xU1 (s d:TypeId) (x:Value):Sd (rJ1 .std ts s d x) (qA0 P s d x):=by
 cases x<;>try exact Sd.none
 all_goals
  simp only[rJ1,qA0];cases h1:ts s<;>cases h2:ts d<;>try exact Sd.none
  ·rename_i ti;obtain ⟨tk,_,_,_,_⟩:=ti;cases tk<;>exact Sd.none
  ·rename_i t1 t2
   rw[hts _ _ h1,hts _ _ h2];obtain ⟨tk1,_,_,_,_⟩:=t1;obtain ⟨tk2,_,_,_,_⟩:=t2;cases tk1<;>cases tk2<;>first | exact Sd.none | exact Sd.ret
end
theorem pJ1 (op:UnOp) (x:Value):Sd (unG .std op x) (KX0 op x):=by
 cases x<;>try exact Sd.none
 all_goals cases op<;>first | exact Sd.none | exact Sd.ret
theorem FK0 (σ:AS) (c:A):elsG .std σ c=σ.els c:=by
 cases c<;>try rfl
 simp only[elsG,AS.els]
 split<;>rename_i h<;>rw[h]<;>rfl
theorem RH0 (σ:AS) (c:A):uT1 .std σ c=σ.slen c:=by
 cases c<;>rfl
theorem VF0 (n:Nat) (hi:Bool) (x:Option AV):Sd (pR0 .std n hi x) (bound n hi x):=by
 cases x with
 | none=>cases hi<;>exact Sd.ret
 | some av=>
  simp only[pR0,bound]
  split
  ·rename_i k i hl
   refine Sd.need fun (h:0<=i/\i<=n)=>?_;simp only[hl,if_pos h];exact Sd.ret
  ·exact Sd.none
theorem uW1 (σ:AS) (c:A):Sd (rowG .std σ c) (σ.row c):=by
 cases c<;>try exact Sd.none
 ·rename_i b off
  simp only[rowG,AS.row]
  split
  ·rename_i cs h;rw[h];simp only[dV0];exact Sd.ret
  ·exact Sd.none
 ·rename_i r c g i off
  simp only[rowG,AS.row]
  split
  ·rename_i k els h
   refine Sd.need fun (h2:0<=(i:Int)/\(i:Int) < els.length)=>?_;have h3:i < els.length:=by omega
   rw[h];simp only[Option.bind_some,List.getElem?_eq_getElem h3,Option.map_some];rw[show Ops.std.get els i=els[i] by simp[Ops.std,h3]]
   exact Sd.ret
  ·exact Sd.none
 ·exact Sd.ret
section
include hts
theorem QC0 (σ:AS) (t:TypeId) (c:A):Sd (xD1 .std ts σ t c) (YE0 P σ t c):=by
 unfold xD1 YE0;cases h:ts t with
 | none=>exact Sd.none
 | some ti=>
  rw[hts t ti h];have:=Sd.bindM (uW1 σ c) (f:=fun cs=>bindO (tJ0 ti (cs.take ti.size)) ret) (g:=fun cs=>tJ0 ti (cs.take ti.size)) (fun cs=>Sd.of_eq rfl);cases hr:σ.row c with
  | none=>rw[hr] at this;exact this
  | some cs=>rw[hr] at this;exact this
theorem FC0 (σ:AS) (s:TypeId) (c:A) (f:Nat):Sd (FD0 ts σ s c f) (gH0 P σ s c f):=by
 unfold FD0 gH0;refine Sd.ty hts fun ti=>?_;obtain ⟨tk,_,_,_,_⟩:=ti;cases tk<;>try exact Sd.none
 refine Sd.bindO fun x=>Sd.ty hts fun tf=>?_
 split
 ·exact Sd.none
 ·cases c<;>try first | exact Sd.none | exact Sd.ret
  simp only
  split
  ·rename_i h;rw[if_pos (by rw[h];rfl)];exact Sd.ret
  ·exact Sd.none
theorem yR1 (t:TypeId) (cs:List A) (off:Nat):Sd (tH1 ts t cs off) (wY1 P t cs off):=by
 unfold tH1 wY1;exact Sd.ty hts fun ti=>Sd.of_eq rfl
theorem bQ0 (σ:AS) (t:TypeId) (c:A) (i:Int):Sd (nR0 .std ts σ t c i) (wL0 P σ t c i):=by
 unfold nR0 wL0;refine Sd.ty hts fun ti=>?_;obtain ⟨tk,_,_,_,_⟩:=ti;cases tk<;>try exact Sd.none
 ·refine Sd.ty hts fun te=>?_
  cases c<;>try exact Sd.none
  ·rename_i st els
   refine Sd.need fun (h1:0<=i/\i < els.length)=>Sd.need fun h2=>?_;simp only[if_pos (show 0<=i/\i < els.length/\∀x∈els,x.length=te.size from ⟨h1.1,h1.2,h2⟩)]
   have h3:i.toNat < els.length:=by omega
   rw[List.getElem?_eq_getElem h3,Option.map_some,show Ops.std.get els (Ops.std.nat i)=els[i.toNat] by simp[Ops.std,h3]]
   exact Sd.ret
  ·rename_i r c g lo len
   simp only
   split
   ·rename_i p h
    rw[h]
    split
    ·rename_i hk
     refine Sd.need fun (h1:0<=i/\i < len)=>?_;simp only[Option.bind_some,if_pos (show p.1=te.size/\0<=i/\i < len from ⟨hk,h1⟩)]
     exact Sd.ret
    ·exact Sd.none
   ·exact Sd.none
  ·rename_i b k len
   simp only
   split
   ·rename_i hk
    refine Sd.need fun (h1:0<=i/\i < len)=>?_;simp only[if_pos (show k=te.size/\0<=i/\i < len from ⟨hk,h1⟩)]
    exact Sd.ret
   ·exact Sd.none
 ·rename_i n e
  refine Sd.ty hts fun te=>?_;cases c<;>try exact Sd.none
  refine Sd.need fun (h1:0<=i/\i < n)=>?_;simp only[if_pos h1];exact Sd.ret
theorem JG0 (σ:AS) (t:TypeId) (x:AV) (lo hi mx:Option AV):Sd (JH0 .std ts σ t x lo hi mx) (gE0 P σ t x lo hi mx):=by
 have two:∀{β:Type} {n:Nat} {f:Nat->Nat->M β} {g:Nat->Nat->Option β},(∀l h,Sd (f l h) (g l h))->
   Sd (bindM (pR0 .std n false lo) fun l=>bindM (pR0 .std n true hi) fun h=>f l h) (opt2 (bound n false lo) (bound n true hi) g):=by
  intro β n f g hf;have:=Sd.bindM (VF0 n false lo) (f:=fun l=>bindM (pR0 .std n true hi) fun h=>f l h) (g:=fun l=>(bound n true hi).bind fun h=>g l h) fun l=>Sd.bindM (VF0 n true hi) fun h=>hf l h;cases h1:bound n false lo<;>cases h2:bound n true hi<;>simp only[h1,h2] at this<;>exact this
 unfold JH0 gE0;refine Sd.ty hts fun ti=>?_;obtain ⟨tk,_,_,_,_⟩:=ti;cases tk<;>try exact Sd.none
 ·obtain ⟨sh,cs⟩:=x
  cases sh<;>try exact Sd.none
  match cs with
  | []=>exact Sd.none
  | a::b::l=>cases a<;>first | exact Sd.none|(rename_i v;cases v<;>exact Sd.none)
  | [c]=>
   cases c<;>try exact Sd.none
   rename_i v;cases v<;>try exact Sd.none
   cases mx with
   | some m=>exact Sd.none
   | none=>
    refine two fun l h=>Sd.need fun (hl:l<=h)=>?_;rw[if_pos hl];exact Sd.ret
 ·rename_i e
  obtain ⟨sh,cs⟩:=x;cases sh<;>try exact Sd.none
  match cs with
  | []=>exact Sd.none
  | _::_::_=>exact Sd.none
  | [c]=>
   refine Sd.ty hts fun te=>?_;rw[<-RH0];refine Sd.bindO fun n=>?_;cases mx with
   | some m=>exact Sd.none
   | none=>
    refine two fun l h=>Sd.need fun (hl:l<=h)=>?_;rw[if_pos hl];cases c<;>try first | exact Sd.none | exact Sd.ret
    ·refine Sd.need fun hk=>?_
     simp only[if_pos (show ∀x∈_,_ from hk)]
     exact Sd.ret
    ·simp only
     split
     ·rename_i p hp
      rw[hp];simp only[Option.bind_some]
      split<;>first | exact Sd.none | exact Sd.ret
     ·exact Sd.none
end
end Go.Gv
/- Avs, part 35: the same, for what reads. -/
namespace Go.Gv
open Go.Av
variable {P:Program} {ts:Nat->Option TI}
theorem Sd.ty2 {β γ:Type} {y:Option β} {n:Nat} {f:β->TI->M γ} {g:β->TI->Option γ} (hts:∀n ti,ts n=some ti->tyOf P n=some ti) (hf:∀a b,Sd (f a b) (g a b)):Sd (Gv.bind2 y (ts n) f) (opt2 y (tyOf P n) g):=by
 cases h:ts n with
 | none=>cases y<;>exact Sd.none
 | some ti=>rw[hts n ti h];exact Sd.bind2 hf
theorem mapM_ev (σ:AS) (x:Option Operand):HK0 .std σ x=x.mapM σ.ev:=by
 cases x with
 | none=>rfl
 | some o=>simp only[HK0,yK0];cases h:σ.ev o<;>simp[Option.mapM,h]
theorem Sd.bindO2 {α β:Type} {x y:Option α} {f:α->M β} {g:α->Option β} (h:∀a,x=some a->y=some a) (hf:∀a,Sd (f a) (g a)):Sd (Gv.bindO x f) (y.bind g):=by
 cases x with
 | none=>exact Sd.none
 | some a=>rw[h a rfl];exact hf a
theorem QX0 (hts:∀n ti,ts n=some ti->tyOf P n=some ti) {f g:TypeId->List A->List A->Option Bool} (hf:∀t xs ys r,f t xs ys=some r->g t xs ys=some r) (xs ys:List A) :
  ∀(ff:List (Nat×TypeId)) (r:Bool),xQ1 .std ts f xs ys ff=some r->TZ0 g (fun u=>(tyOf P u).map (·.size)) xs ys ff=some r
 | [],r,h=>h
 | p::rest,r,h=>by
  simp only[xQ1] at h;cases ht:ts p.2 with
  | none=>rw[ht] at h;simp at h
  | some ti=>
   rw[ht] at h;simp only[TZ0,hts _ _ ht,Option.map_some,Option.bind_some];cases rest with
   | nil=>exact hf _ _ _ _ h
   | cons q rest=>
    simp only at h
    split at h
    ·simp at h
    ·rename_i a ha
     split at h
     ·simp at h
     ·rename_i b hb
      rw[hf _ _ _ _ ha,QX0 hts hf xs ys (q::rest) b hb];exact h
theorem QY0 (hts:∀n ti,ts n=some ti->tyOf P n=some ti):∀(d:Nat) (t:TypeId) (xs ys:List A) (r:Bool),MF0 .std ts d t xs ys=some r->kA0 P d t xs ys=some r
 | 0,t,xs,ys,r,h=>by simp[MF0] at h
 | d+1,t,xs,ys,r,h=>by
  simp only[MF0] at h;cases ht:ts t with
  | none=>rw[ht] at h;simp at h
  | some ti=>
   rw[ht] at h;simp only[kA0,hts _ _ ht,Option.bind_some];simp only at h
   split at h
   ·rename_i hl
    rw[if_pos hl]
    split at h
    ·rename_i fs hk
     simp only[hk]
     split at h
     ·rename_i he
      rw[if_pos he];exact QX0 hts (QY0 hts d) xs ys fs r h
     ·simp at h
    ·rename_i hk;simp only[hk];exact h
    ·rename_i hk;simp only[hk];exact h
    ·rename_i hk;simp only[hk];exact h
    ·simp at h
   ·simp at h
theorem vL1 (hts:∀n ti,ts n=some ti->tyOf P n=some ti) (σ:AS) (op:Op):Sd (opG .std ts σ op) (zA0 P σ op):=by
 cases op<;>try exact Sd.none
 case move x=>exact Sd.of_eq (yK0 σ x)
 case pick c x y=>
  simp only[opG,zA0,yK0];refine Sd.bindO fun c=>?_;cases hl:c.lit? with
  | none=>exact Sd.none
  | some v=>cases v<;>first | exact Sd.none|(rename_i b;cases b<;>exact Sd.of_eq rfl)
 case binOp op t x y u=>
  simp only[opG,zA0,yK0];refine Sd.bind2 fun x y=>?_;obtain ⟨sx,cx⟩:=x;obtain ⟨sy,cy⟩:=y;have key:∀x y:AV,Sd (Gv.bind2 x.lit? y.lit? fun x y=>Gv.bindM (binG .std ts op t x y) fun v=>Gv.ret (litG v)) (opt2 x.lit? y.lit? fun x y=>(wR0 P op t x y).map fun v=>one (.lit v)):=
   fun x y=>Sd.bind2 fun x y=>Sd.map (qL1 hts op t x y)
  cases sx<;>cases sy<;>first | exact key _ _ | skip
  show Sd (Gv.bindO (ts t) fun ti=>if ti.agg=true then Gv.bindO (MF0 .std ts 6 t cx cy) fun r=>Gv.bindO (vY1 .std op r) Gv.ret else none)
   ((tyOf P t).bind fun ti=>if ti.agg=true then (kA0 P 6 t cx cy).bind fun r=>zJ1 op r else none)
  refine Sd.ty hts fun ti=>?_;cases ti.agg with
  | false=>exact Sd.none
  | true=>
   refine Sd.bindO2 (fun r=>QY0 hts 6 t cx cy r) fun r=>Sd.of_eq ?_;cases op<;>rfl
 case unOp op t x=>
  simp only[opG,zA0,yK0];exact Sd.bindO fun x=>Sd.bindO fun x=>Sd.map (pJ1 op x)
 case convert s d x=>
  simp only[opG,zA0,yK0];exact Sd.bindO fun x=>Sd.bindO fun x=>Sd.map (xU1 hts s d x)
 case nilCheck x=>
  simp only[opG,zA0,yK0];refine Sd.bindO fun x=>?_
  split
  ·rename_i c
   cases c<;>try first | exact Sd.none | exact Sd.ret
   simp only
   split
   ·rename_i h;rw[if_pos (by rw[h];rfl)];exact Sd.ret
   ·exact Sd.none
  ·exact Sd.none
 case fieldAddr s x f=>
  simp only[opG,zA0,yK0];refine Sd.bindO fun x=>?_
  split
  ·exact Sd.map (FC0 hts σ s _ f)
  ·exact Sd.none
 case load t x=>
  simp only[opG,zA0,yK0];refine Sd.bindO fun x=>?_
  split
  ·exact QC0 hts σ t _
  ·exact Sd.none
 case field s x f=>
  simp only[opG,zA0,yK0];refine Sd.bindO fun x=>?_
  split
  ·rename_i h;simp only[h]
   refine Sd.ty hts fun ti=>?_
   split
   ·rename_i h;simp only[h]
    exact Sd.bindO fun y=>yR1 hts _ _ _
   ·exact Sd.none
  ·exact Sd.none
 case indexAddr t x i=>
  simp only[opG,zA0,yK0];refine Sd.bind2 fun x i=>?_
  split
  ·rename_i h;simp only[h]
   exact Sd.map (bQ0 hts σ t _ _)
  ·exact Sd.none
 case index t x i=>
  simp only[opG,zA0,yK0];refine Sd.bind2 fun x i=>?_
  split
  ·rename_i s k n h1 h2
   simp only[h1,h2];refine Sd.ty hts fun ti=>?_
   split
   ·refine Sd.need fun (h:0<=n/\n < s.size)=>?_
    rename_i hk;simp only[hk,if_pos h];exact Sd.ret
   ·exact Sd.none
  ·exact Sd.none
 case slice t x lo hi mx=>
  simp only[opG,zA0,yK0 σ x,mapM_ev];refine Sd.bindO fun x=>?_
  split
  ·rename_i h1 h2 h3;simp only[h1,h2,h3]
   exact Sd.map (JG0 hts σ t x _ _ _)
  ·exact Sd.none
 case extract x j=>
  simp only[opG,zA0,yK0];refine Sd.bindO fun x=>?_
  split
  ·rename_i ns hns
   simp only[hns];refine Sd.bindO fun s=>?_;cases hs:s.1 with
   | true=>simp only[if_true];exact Sd.ret
   | false=>
    simp only[Bool.false_eq_true,if_false];have:∀y:Option A,Sd (bindO y fun c=>ret (⟨.one,[c]⟩:AV)) (y.map one):=fun y=>by cases y<;>first | exact Sd.none | exact Sd.ret
    exact this _
  ·exact Sd.none
 case makeFunc c first captured=>
  cases c<;>try exact Sd.none
  simp only[opG,zA0,yK0]
  split
  ·have:∀(f:FuncId) (y:Option (List (Nat×Nat))),Sd (bindO y fun c=>ret (⟨.one,[.fn f c]⟩:AV)) (y.map fun cs=>one (.fn f cs)):=fun f y=>by cases y<;>first | exact Sd.none | exact Sd.ret
   exact this _ _
  ·exact Sd.none
 case call c=>
  obtain ⟨callee,args,argTypes⟩:=c;cases callee<;>try exact Sd.none
  rename_i bi;cases bi<;>try exact Sd.none
  ·simp only[opG,zA0,yK0]
   refine Sd.bindO fun x=>Sd.bindO fun t=>Sd.ty2 hts fun x ti=>?_;obtain ⟨tk,_,_,_,_⟩:=ti
   split
   ·rename_i s h;simp only at h;subst h;exact Sd.ret
   ·rename_i e c h;simp only at h;subst h
    simp only[<-RH0];have:∀y:Option Nat,Sd (bindO y fun n=>ret (litG (.int .i64 (Int.ofNat n)))) (y.map fun (n:Nat)=>one (.lit (.int .i64 (n:Int)))):=fun y=>by cases y<;>first | exact Sd.none | exact Sd.ret
    exact this _
   ·rename_i n e h;simp only at h;subst h;exact Sd.ret
   ·exact Sd.none
  ·simp only[opG,zA0,yK0]
   split
   ·rename_i x y h
    simp only[h];refine Sd.bind2 fun x y=>?_
    split
    ·rename_i h1 h2;simp only[h1,h2];exact Sd.ret
    ·exact Sd.none
   ·exact Sd.none
  ·simp only[opG,zA0,yK0]
   split
   ·rename_i x y h
    simp only[h];refine Sd.bind2 fun x y=>?_
    split
    ·rename_i h1 h2;simp only[h1,h2];exact Sd.ret
    ·exact Sd.none
   ·exact Sd.none
end Go.Gv
/- Avs, part 36: the same, for what moves. -/
namespace Go.Gv
open Go.Av
variable {P:Program} {ts:Nat->Option TI}
theorem vX1 (d:Bool) (els:List (List T)):erG .std d els=erD d els:=by cases d<;>rfl
theorem uJ0 (mv:Root->Nat->Bool) (g:yA0):∀(cs:List A) (σ:AS),nC0 .std mv g cs σ=tkC mv g cs σ
 | [],σ=>rfl
 | c::cs,σ=>by
  cases c<;>simp only[nC0,tkC,uJ0 mv g cs]
  split
  ·rename_i h;rw[if_pos h];split<;>rename_i h2<;>simp only[h2]<;>rfl
  ·rename_i h;rw[if_neg (by simp[h])]
theorem YR0 (sh:Root->Nat->Bool):∀(cs:List A) (σ:AS),jC0 .std sh cs σ=shC sh cs σ
 | [],σ=>rfl
 | c::cs,σ=>by
  cases c<;>simp only[jC0,shC,YR0 sh cs,vX1]
  split
  ·rename_i h;rw[if_pos h];split<;>rename_i h2<;>simp only[h2]<;>rfl
  ·rename_i h;rw[if_neg (by simp[h])]
theorem QE0 (σ:AS):∀(cs:List A),GB0 .std σ cs=lendCells σ cs
 | []=>rfl
 | c::cs=>by
  have e:∀(y:Option (List A)) (d:A),(match y with | some q=>some (d::q) | none=>none)=y.map fun q=>d::q:=fun y d=>by cases y<;>rfl
  cases c<;>simp only[GB0,lendCells,QE0 σ cs,vX1]<;>try exact e _ _
  split<;>rename_i h2<;>simp only[h2]<;>first | exact e _ _ | rfl
theorem vF0:∀(cs:List A) (σ:AS),wY0 .std cs σ=fzC cs σ
 | [],σ=>rfl
 | c::cs,σ=>by
  have e:∀(y:Option (List T×AS)) (d:T),(match y with | some (q1,q2)=>some (d::q1,q2) | none=>none)=y.map fun r=>(d::r.1,r.2):=fun y d=>by cases y<;>rfl
  cases c<;>try rfl
  ·simp only[wY0,fzC,vF0 cs];exact e _ _
  ·simp only[wY0,fzC,vF0 cs];exact e _ _
  ·rename_i st els
   cases st
   ·rfl
   ·simp only[wY0,fzC,vF0 cs];exact e _ _
  ·simp only[wY0,fzC,vF0 cs]
   split<;>rename_i h2<;>simp only[h2]<;>first | exact e _ _ | rfl
theorem YN0:∀cs:List A,RE0 cs=cs.mapM A.toOwn
 | []=>rfl
 | c::cs=>by
  simp only[RE0,List.mapM_cons,YN0 cs];cases c.toOwn with
  | none=>rfl
  | some t=>cases cs.mapM A.toOwn<;>rfl
theorem QL0 (base:Nat) (g:yA0) (cs:List A) (σ:AS):GP0 .std base g cs σ=holdCells base g cs σ:=by
 simp only[GP0,holdCells,uJ0,YN0];cases (tkC (rF0 base) g cs σ).1.mapM A.toOwn<;>rfl
theorem KE0 (i:Nat) (dst:Option Tmp) (σ:AS) (x:Operand):TU0 .std i dst σ x=vA0 i dst σ x:=by
 cases x<;>simp only[TU0,vA0,yK0,uJ0]<;>(cases σ.ev _<;>rfl)
theorem qK1 (base i:Nat) (σ:AS) (x:Operand):boxG .std base i σ x=aBox base i σ x:=by
 simp only[boxG,aBox,yK0,uJ0];cases σ.ev x with
 | none=>rfl
 | some av=>simp only[Option.bind_some];split<;>rename_i h<;>simp only[h]<;>rfl
theorem DW0 (hts:∀n ti,ts n=some ti->tyOf P n=some ti) {σ:AS} {t:TypeId} {r:AV×AS} (h:DX0 ts σ t=some r):mU0 P σ t=some r:=by
 unfold DX0 at h
 split at h<;>try (simp at h;done)
 rename_i ti hti
 split at h<;>try (simp at h;done)
 rename_i cs hcs;simp only[mU0,hts _ _ hti,Option.bind_some,hcs,Option.map_some];exact h
theorem HM0 {α:Type} {x o:Option α} (h:∀r,x=some r->o=some r):Sd (bindO x ret) o:=by
 cases x with
 | none=>exact Sd.none
 | some a=>rw[h a rfl];exact Sd.ret
theorem JE0 (hts:∀n ti,ts n=some ti->tyOf P n=some ti) (base i:Nat) (σ:AS) (t:TypeId) (p x:Operand):Sd (JF0 .std ts base i σ t p x) (mR0 P base i σ t p x):=by
 simp only[JF0,mR0,yK0];refine Sd.ty hts fun ti=>Sd.bind2 fun p x=>?_;obtain ⟨sh,cs⟩:=x;obtain ⟨psh,pcs⟩:=p;have ptrCase:∀b off,Sd (if cs.length=ti.size then
     match nC0 .std (xH0 base b off ti.size) (σ.epoch,i) cs σ with
     | (q1,q2)=>match q2.boxes[b]? with
      | some (some cs0)=>if off+ti.size<=cs0.length then ret (q2.setBox b (splice cs0 off q1)) else none
      | _=>none
    else none) (if cs.length=ti.size then
    let r:=tkC (xH0 base b off ti.size) (σ.epoch,i) cs σ
    ((r.2.boxes[b]?).bind fun o=>o.bind fun cs0=>if off+ti.size<=cs0.length then some (r.2.setBox b (splice cs0 off r.1)) else none)
   else none):=by
  intro b off;rw[uJ0]
  split
  ·simp only
   split
   ·rename_i h
    rw[h];simp only[Option.bind_some]
    split
    ·exact Sd.ret
    ·exact Sd.none
   ·exact Sd.none
  ·exact Sd.none
 have tail:∀(d:Bool) (r:Root) (c:Nat) (g:yA0) (n off:Nat) (y1:List T) (y2:AS) (q1:Nat) (q2:List (List T)),Sd (need (Ops.std.one q2 n q1) (if off+ti.size<=q1 then
       match (if off=0/\q1=y1.length then y1 else splice (Ops.std.get q2 n) off y1) with
       | z=>ret (y2.setCell r c (.ow g d q1 (Ops.std.set q2 n z))) else none))
   ((q2[n]?).bind fun e=>if off+ti.size<=q1 then some (y2.setCell r c (.ow g d q1 (q2.set n (splice e off y1)))) else none):=by
  intro d r c g n off y1 y2 q1 q2;refine Sd.need fun h=>?_;obtain ⟨h1,h2⟩:n < q2.length/\(q2.getD n []).length=q1:=h;rw[List.getElem?_eq_getElem h1];simp only[Option.bind_some]
  split
  ·have e1:Ops.std.get q2 n=q2[n]:=by simp[Ops.std,h1]
   have e2:(if off=0/\q1=y1.length then y1 else splice (Ops.std.get q2 n) off y1)=splice q2[n] off y1:=by
    rw[e1]
    split
    ·rename_i hh
     obtain ⟨rfl,hq⟩:=hh;have:q2[n].length=y1.length:=by rw[<-hq,<-h2];simp[h1]
     simp[splice,<-this]
    ·rfl
   rw[e2];exact Sd.ret
  ·exact Sd.none
 have eCase:∀r c g n off,Sd (if cs.length=ti.size then
     match σ.ad? r c g with
     | some (true,_,_)=>match GP0 .std base (σ.epoch,i) cs σ with
      | none=>none
      | some (y1,y2)=>match y2.ad? r c g with
       | some (true,q1,q2)=>need (Ops.std.one q2 n q1) (if off+ti.size<=q1 then
        match (if off=0/\q1=y1.length then y1 else splice (Ops.std.get q2 n) off y1) with
        | z=>ret (y2.setCell r c (.ow g true q1 (Ops.std.set q2 n z))) else none)
       | _=>none
     | _=>match wY0 .std cs σ with
      | none=>none
      | some (y1,y2)=>match y2.at? r c g with
       | none=>none
       | some (q1,q2)=>need (Ops.std.one q2 n q1) (if off+ti.size<=q1 then
        match (if off=0/\q1=y1.length then y1 else splice (Ops.std.get q2 n) off y1) with
        | z=>ret (y2.setCell r c (.ow g false q1 (Ops.std.set q2 n z))) else none)
    else none) (if cs.length=ti.size then
    match σ.ad? r c g with
    | some (true,_,_)=>(holdCells base (σ.epoch,i) cs σ).bind fun y=>(y.2.ad? r c g).bind fun q=>(q.2.2[n]?).bind fun e=>
     if q.1=true/\off+ti.size<=q.2.1 then some (y.2.setCell r c (.ow g true q.2.1 (q.2.2.set n (splice e off y.1)))) else none
    | _=>(fzC cs σ).bind fun y=>(y.2.at? r c g).bind fun q=>(q.2[n]?).bind fun e=>
     if off+ti.size<=q.1 then some (y.2.setCell r c (.ow g false q.1 (q.2.set n (splice e off y.1)))) else none
   else none):=by
  intro r c g n off;rw[vF0,QL0]
  split
  ·split
   ·split
    ·exact Sd.none
    ·rename_i y1 y2 hy
     rw[hy];simp only[Option.bind_some]
     split
     ·rename_i q1 q2 hq
      rw[hq];simp only[Option.bind_some,true_and];exact tail true r c g n off y1 y2 q1 q2
     ·exact Sd.none
   ·split
    ·exact Sd.none
    ·rename_i y1 y2 hy
     rw[hy];simp only[Option.bind_some]
     split
     ·exact Sd.none
     ·rename_i q1 q2 hq
      rw[hq];simp only[Option.bind_some];exact tail false r c g n off y1 y2 q1 q2
  ·exact Sd.none
 cases psh<;>try (cases sh<;>exact Sd.none)
 match pcs with
 | []=>cases sh<;>exact Sd.none
 | a::b::l=>cases sh<;>cases a<;>exact Sd.none
 | [c]=>
  cases c<;>try (cases sh<;>exact Sd.none)
  ·cases sh<;>first | exact Sd.none | exact ptrCase _ _
  ·cases sh<;>first | exact Sd.none | exact eCase _ _ _ _ _
theorem vX0 (hts:∀n ti,ts n=some ti->tyOf P n=some ti) {σ:AS} {fs:List (Nat×TypeId)}:∀{parts:List (Nat×Operand)} {cs r:List A},uT0 .std ts σ fs cs parts=some r->yZ0 P σ fs cs parts=some r
 | [],cs,r,h=>h
 | p::rest,cs,r,h=>by
  obtain ⟨j,x⟩:=p;simp only[uT0,yK0] at h
  split at h<;>try (simp at h;done)
  rename_i f hf
  split at h<;>try (simp at h;done)
  rename_i tf htf
  split at h<;>try (simp at h;done)
  rename_i av hav;simp only[yZ0,hf,hts _ _ htf,hav,Option.bind_some]
  split at h<;>try (simp at h;done)
  rename_i hc;rw[if_pos hc]
  split at h<;>try (simp at h;done)
  ·rename_i hs;simp only[hs];exact vX0 hts h
  ·rename_i hs;simp only[hs];exact vX0 hts h
theorem DQ0 (hts:∀n ti,ts n=some ti->tyOf P n=some ti) {σ:AS} {t:TypeId} {parts:Array (Nat×Operand)} {r:AV} (h:PN0 .std ts σ t parts=some r):mT0 P σ t parts=some r:=by
 unfold PN0 at h
 split at h<;>try (simp at h;done)
 rename_i ti hti
 split at h<;>try (simp at h;done)
 rename_i z hz
 split at h<;>try (simp at h;done)
 rename_i fs hfs
 split at h<;>try (simp at h;done)
 rename_i ha
 split at h<;>try (simp at h;done)
 rename_i cs hcs;simp only[mT0,hts _ _ hti,hz,hfs,Option.bind_some];rw[if_pos ?_,vX0 hts hcs]
 ·exact h
 ·rw[List.all_eq_true] at ha |-
  intro f hf;have:=ha f hf;cases hq:ts f.2 with
  | none=>simp[hq] at this
  | some ti'=>simp[hts _ _ hq]
theorem qW0 (σ:AS) (k:Nat):∀(parts:List (Nat×Operand)) (j:Nat),rA0 .std σ k parts j=zY0 σ k parts j
 | [],_=>rfl
 | p::rest,j=>by
  obtain ⟨n,x⟩:=p;simp only[rA0,zY0,yK0,qW0 σ k rest];cases σ.ev x with
  | none=>rfl
  | some av=>
   simp only[Option.bind_some]
   split
   ·obtain ⟨sh,cs⟩:=av
    cases sh<;>simp only<;>first | rfl|(cases zY0 σ k rest (j+1)<;>rfl)
   ·rfl
theorem fF0 (hts:∀n ti,ts n=some ti->tyOf P n=some ti) {i:Nat} {σ:AS} {t:TypeId} {len:Nat} {parts:Array (Nat×Operand)} {r:AV×AS} (h:qE0 .std ts i σ t len parts=some r):xC0 P i σ t len parts=some r:=by
 simp only[qE0,qW0,vF0,QL0] at h
 split at h<;>try (simp at h;done)
 rename_i ti hti
 split at h<;>try (simp at h;done)
 rename_i e he
 split at h<;>try (simp at h;done)
 rename_i te hte
 split at h<;>try (simp at h;done)
 rename_i cs hcs
 split at h<;>try (simp at h;done)
 rename_i hc
 split at h
 ·rename_i hd
  split at h<;>try (simp at h;done)
  rename_i q1 q2 hq;simp only[xC0,hts _ _ hti,he,hts _ _ hte,hcs,Option.bind_some,if_pos hc,if_pos hd,hq,Option.map_some];exact h
 ·rename_i hd
  split at h<;>try (simp at h;done)
  rename_i q1 q2 hq;have hd':¬cs.any (deepRoot σ)=true:=by rw[hd];simp
  simp only[xC0,hts _ _ hti,he,hts _ _ hte,hcs,Option.bind_some,if_pos hc,if_neg hd',hq,Option.map_some];exact h
theorem uR1 (hts:∀n ti,ts n=some ti->tyOf P n=some ti) (σ:AS) (tx:TypeId) (size:Nat) (x:AV):Sd (srcG .std ts σ tx size x) (rG0 P σ tx size x):=by
 unfold srcG rG0;refine Sd.ty hts fun ti=>?_;obtain ⟨tk,_,_,_,_⟩:=ti;obtain ⟨sh,cs⟩:=x;cases tk<;>try exact Sd.none
 ·cases sh<;>try exact Sd.none
  match cs with
  | []=>exact Sd.none
  | a::b::l=>cases a<;>first | exact Sd.none|(rename_i v;cases v<;>exact Sd.none)
  | [c]=>
   cases c<;>try exact Sd.none
   rename_i v;cases v<;>try exact Sd.none
   simp only
   split<;>first | exact Sd.ret | exact Sd.none
 ·cases sh<;>try exact Sd.none
  match cs with
  | []=>exact Sd.none
  | a::b::l=>exact Sd.none
  | [c]=>
   simp only[<-FK0];refine Sd.bindO fun xs=>Sd.need fun (h:∀y∈xs,y.length=size)=>?_
   split
   ·rename_i hl
    refine Sd.need fun (h2:∀y∈xs,∀t∈y,isL t=true)=>?_;rw[if_pos ⟨h,fun _=>h2⟩];exact Sd.ret
   ·rename_i hl
    rw[if_pos ⟨h,fun hh=>by rw[hl] at hh;simp at hh⟩];exact Sd.ret
theorem wQ1 (σ:AS) (size:Nat) (c:A):wR1 .std σ size c=yN0 σ size c:=by
 cases c<;>try rfl
 simp only[wR1,yN0]
 split<;>rename_i h<;>rw[h]<;>rfl
theorem VY0 {σ:AS} {tx:TypeId} {ti:TI} {size:Nat} (x:AV) (ht:ts tx=some ti) (hts:tyOf P tx=some ti):qK0 .std ts σ tx size x=wH0 P σ tx size x:=by
 obtain ⟨sh,cs⟩:=x;cases sh<;>try rfl
 match cs with
 | []=>rfl
 | a::b::l=>cases a<;>rfl
 | [c]=>
  cases c<;>try rfl
  rename_i r c g lo len;simp only[qK0,wH0,ht,hts,Option.bind_some];cases σ.ad? r c g with
  | none=>rfl
  | some p=>obtain ⟨d,k,els⟩:=p;cases d<;>rfl
theorem KF0 (hts:∀n ti,ts n=some ti->tyOf P n=some ti) (i:Nat) (σ:AS) (args:Array Operand) (argTypes:Array TypeId):Sd (TW0 .std ts i σ args argTypes) (tU0 P i σ args argTypes):=by
 unfold TW0 tU0
 split
 ·rename_i s x t tx h1 h2
  simp only[h1,h2,yK0];refine Sd.ty hts fun ti=>?_;obtain ⟨tk,_,_,_,_⟩:=ti;cases tk<;>try exact Sd.none
  refine Sd.ty hts fun te=>Sd.bind2 fun s x=>?_
  split
  ·rename_i c
   simp only[wQ1];have base:∀(d:Bool->Bool) (σ':AS) (xs:List (List T)),Sd (match yN0 σ' te.size c with
     | some ((d',b1),b2)=>need (Ops.std.aOk te.bytes b1 xs) (ret ((⟨.one,[.ow (σ.epoch,i) (d d') te.size (Ops.std.app b1 xs)]⟩:AV),b2))
     | none=>none) ((yN0 σ' te.size c).bind fun b=>if (b.1.2.length+xs.length) * te.bytes<=140737488355328/\b.1.2.length+xs.length<=9223372036854775807 then some (one (.ow (σ.epoch,i) (d b.1.1) te.size (b.1.2++xs)),b.2) else none):=by
    intro d σ' xs;cases yN0 σ' te.size c with
    | none=>exact Sd.none
    | some b=>
     obtain ⟨⟨d',b1⟩,b2⟩:=b;refine Sd.need fun (h:(b1.length+xs.length) * te.bytes<=140737488355328/\b1.length+xs.length<=9223372036854775807)=>?_;simp only[Option.bind_some];rw[if_pos h];exact Sd.ret
   cases htx:ts tx with
   | none=>
    have h0:qK0 .std ts σ tx te.size x=none:=by
     unfold qK0
     split<;>try rfl
     split<;>try rfl
     rw[htx]
    rw[h0];simp only[srcG,htx,bindO,bindM];exact Sd.none
   | some tix=>
    rw[VY0 x htx (hts _ _ htx)];cases hsrc:wH0 P σ tx te.size x with
    | some y=>
     obtain ⟨y1,y2⟩:=y;exact base (fun _=>true) y2 y1
    | none=>
     simp only;have h1:=uR1 hts σ tx te.size x;have h2:=Sd.bindM h1 (fun xs=>base (fun d=>d) σ xs);cases hs:rG0 P σ tx te.size x with
     | none=>rw[hs] at h2;exact h2
     | some xs=>
      rw[hs] at h2;cases hb:yN0 σ te.size c with
      | none=>rw[hb] at h2;exact h2
      | some b=>rw[hb] at h2;exact h2
  ·exact Sd.none
 ·exact Sd.none
theorem yW1 (hts:∀n ti,ts n=some ti->tyOf P n=some ti) (i:Nat) (σ:AS) (t:TypeId) (l c:Operand):Sd (tQ1 .std ts i σ t l c) (VQ0 P i σ t l c):=by
 unfold tQ1 VQ0 zH1;cases h:ts t with
 | none=>exact Sd.none
 | some ti=>
  rw[hts _ _ h];obtain ⟨tk,_,_,_,_⟩:=ti;cases tk<;>try exact Sd.none
  rename_i e;simp only[yK0]
  show Sd (bindO (ts e) _) _
  cases he:ts e with
  | none=>exact Sd.none
  | some te=>
   simp only[Option.bind_some,hts _ _ he]
   show Sd (bind2 _ _ _) _
   cases σ.ev l<;>cases σ.ev c<;>try exact Sd.none
   rename_i l c;simp only[opt2,bind2]
   split
   ·rename_i k1 l k2 c h1 h2
    refine Sd.need fun (hm:0<=l/\l<=c/\(te.bytes:Int) * c<=281474976710656/\c<=9223372036854775807)=>?_
    split
    ·rename_i hp
     simp only[h1,h2];rw[if_pos ⟨hm.1,hm.2.1,hm.2.2.1,hm.2.2.2,hp⟩];cases kN0 te.zero<;>first | exact Sd.none | exact Sd.ret
    ·exact Sd.none
   ·exact Sd.none
theorem zX1 (hts:∀n ti,ts n=some ti->tyOf P n=some ti) (σ:AS) (s d:TypeId) (x:Operand):Sd (JA0 .std ts σ s d x) (YD0 P σ s d x):=by
 simp only[JA0,YD0,yK0];refine Sd.bindO fun x=>?_
 split
 ·rename_i c
  have:∀{f:TI->TI->M AV} {g:TI->TI->Option AV},(∀a b,Sd (f a b) (g a b))->Sd (bind2 (ts s) (ts d) f) (opt2 (tyOf P s) (tyOf P d) g):=by
   intro f g hf;cases h1:ts s with
   | none=>exact Sd.none
   | some t1=>
    cases h2:ts d with
    | none=>exact Sd.none
    | some t2=>rw[hts _ _ h1,hts _ _ h2];exact hf _ _
  refine this fun t1 t2=>?_
  split
  ·rename_i e h1 h2
   simp only[h1,h2];refine Sd.ty hts fun te=>?_
   split
   ·rename_i h3
    simp only[h3,<-FK0];refine Sd.bindO fun els=>Sd.need fun (h:(bytesOf els).isSome=true)=>?_;cases hb:bytesOf els with
    | none=>simp[hb] at h
    | some ns=>
     rw[show Ops.std.text els=textOf ns by simp[Ops.std,hb]]
     exact Sd.ret
   ·exact Sd.none
  ·exact Sd.none
 ·exact Sd.none
theorem UL0 {α:Type} {σ:AS} {x:M α} {o:Option α} (h:Sd x o):Sd (keep σ x) (o.map fun v=>(v,σ)):=by
 intro ps r hx hp;cases x with
 | none=>simp[keep] at hx
 | some v=>
  simp only[keep,Option.some.injEq,Prod.mk.injEq] at hx;obtain ⟨rfl,rfl⟩:=hx;rw[h v.1 v.2 rfl hp];rfl
theorem FL0 (hts:∀n ti,ts n=some ti->tyOf P n=some ti) (base i:Nat) (dst:Option Tmp) (σ:AS) (op:Op):Sd (effG .std ts base i dst σ op) (aEff P base i dst σ op):=by
 unfold effG
 split
 ·exact Sd.of_eq (KE0 i dst σ _)
 ·exact Sd.of_eq (qK1 base i σ _)
 ·exact HM0 fun r h=>DW0 hts h
 ·exact Sd.map (JE0 hts base i σ _ _ _)
 ·exact UL0 (HM0 fun r h=>DQ0 hts h)
 ·exact HM0 fun r h=>fF0 hts h
 ·exact KF0 hts i σ _ _
 ·exact yW1 hts i σ _ _ _
 ·rename_i s d x
  refine UL0 (o:=(zA0 P σ (.convert s d x)).or (YD0 P σ s d x)) ?_;have h1:=vL1 hts σ (.convert s d x);have h2:=zX1 hts σ s d x;intro ps a hx hp;cases hq:opG .std ts σ (.convert s d x) with
  | some v=>
   simp only[hq,orM,Option.some.injEq] at hx;subst hx;rw[h1 _ _ hq hp];rfl
  | none=>
   simp only[hq,orM] at hx;have h3:=h2 _ _ hx hp;cases hz:zA0 P σ (.convert s d x) with
   | none=>simpa using h3
   | some v=>
    exfalso;clear h1 h2 hp;simp only[JA0,yK0] at hx;simp only[zA0,Option.bind_eq_some_iff] at hz;obtain ⟨y,hy,z,hz,hz'⟩:=hz;rw[hy] at hx;obtain ⟨z',hz0,_⟩:=Option.map_eq_some_iff.1 hz';unfold AV.lit? at hz
    split at hz<;>try (simp at hz;done)
    simp only[bindO,bind2] at hx
    split at hx<;>try (simp at hx;done)
    split at hx<;>try (simp at hx;done)
    split at hx<;>try (simp at hx;done)
    split at hx<;>try (simp at hx;done)
    simp[elsG] at hx
 ·rename_i _ h1 h2 h3 h4 h5 h6 h7 h8 h9
  have e:aEff P base i dst σ op=(zA0 P σ op).map fun av=>(av,σ):=by
   unfold aEff
   split<;>first | rfl | exact absurd rfl (h1 _) | exact absurd rfl (h2 _ _) | exact absurd rfl (h3 _) | exact absurd rfl (h4 _ _ _) | exact absurd rfl (h5 _ _) | exact absurd rfl (h6 _ _ _) | exact absurd rfl (h7 _ _) | exact absurd rfl (h8 _ _ _) | exact absurd rfl (h9 _ _ _)
  rw[e];exact UL0 (vL1 hts σ op)
end Go.Gv
