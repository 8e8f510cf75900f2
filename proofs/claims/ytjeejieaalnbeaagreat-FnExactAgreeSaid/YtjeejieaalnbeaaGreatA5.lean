/- Part A5 of the proof: Avs, part 30: states that agree where an operation looks. / Avs, part 31: states that are alike but for some slots. / Avs, part 32: operations in states that are alike. / Avs, part 33: calls in states that are alike. -/
import Derived.Test.YtjeejieaalnbeaaGreatA4
set_option linter.all false
/- Avs, part 30: states that agree where an operation looks. -/
namespace Go.Av
structure Agree (σ τ:AS):Prop where
 at':∀r c g,τ.at? r c g=σ.at? r c g
 boxes:τ.boxes=σ.boxes
 epoch:τ.epoch=σ.epoch
variable {P:Program} {σ τ:AS}
theorem Agree.row (h:Agree σ τ) (c:A):τ.row c=σ.row c:=by
 cases c<;>simp only[AS.row,h.at',h.boxes]
theorem Agree.els (h:Agree σ τ) (c:A):τ.els c=σ.els c:=by
 cases c<;>simp only[AS.els,h.at']
theorem Agree.slen (h:Agree σ τ) (c:A):τ.slen c=σ.slen c:=by
 cases c<;>simp only[AS.slen,h.at']
theorem Agree.load (h:Agree σ τ) (t:TypeId) (c:A):aLoad P τ t c=aLoad P σ t c:=by
 simp only[aLoad,h.row]
theorem Agree.field (h:Agree σ τ) (s:TypeId) (c:A) (f:Nat):aField P τ s c f=aField P σ s c f:=by
 unfold aField;cases c<;>simp only[h.at']
theorem Agree.indexAddr (h:Agree σ τ) (t:TypeId) (c:A) (i:Int):aIndexAddr P τ t c i=aIndexAddr P σ t c i:=by
 unfold aIndexAddr;cases c<;>simp only[h.at']
theorem Agree.slice (h:Agree σ τ) (t:TypeId) (x:AV) (lo hi mx:Option AV):aSlice P τ t x lo hi mx=aSlice P σ t x lo hi mx:=by
 unfold aSlice;simp only[h.slen,h.at']
theorem mapM_ev {lo:Option Operand} (h:∀x∈lo,τ.ev x=σ.ev x):lo.mapM τ.ev=lo.mapM σ.ev:=by
 cases lo with
 | none=>rfl
 | some x=>simp[h x rfl]
theorem aopPure_agree (h:Agree σ τ) {op:Op} (hev:∀x∈op.operands,τ.ev x=σ.ev x):aopPure P τ op=aopPure P σ op:=by
 cases op with
 | slice t x lo hi mx=>
  have h1:=hev x (by cases lo<;>cases hi<;>cases mx<;>simp[Op.operands])
  have h2:lo.mapM τ.ev=lo.mapM σ.ev:=mapM_ev fun y hy=>hev y (by cases hi<;>cases mx<;>simp_all [Op.operands])
  have h3:hi.mapM τ.ev=hi.mapM σ.ev:=mapM_ev fun y hy=>hev y (by cases lo<;>cases mx<;>simp_all [Op.operands])
  have h4:mx.mapM τ.ev=mx.mapM σ.ev:=mapM_ev fun y hy=>hev y (by cases lo<;>cases hi<;>simp_all [Op.operands])
  simp only[aopPure,h1,h2,h3,h4,h.slice]
 | makeFunc fn first captured=>
  cases fn with
  | func f=>
   have hm:(captured.toList.map fun x=>(τ.ev x).bind capAV)=captured.toList.map fun x=>(σ.ev x).bind capAV:=List.map_congr_left fun x hx=>by
    rw[hev x (by simp only[Op.operands];simp_all)]
   simp only[aopPure,hm]
  | _=>rfl
 | call c=>
  obtain ⟨callee,args,argTypes⟩:=c;cases callee with
  | builtin b=>
   cases b<;>try rfl
   case len=>
    simp only[aopPure];cases ha:args[0]? with
    | none=>rfl
    | some x=>
     have hx:=hev x (by simp only[Op.operands,Call.operands];have:=Array.mem_of_getElem? ha;simp_all)
     simp only[Option.bind_some,hx,h.slen]
   all_goals
    simp only[aopPure]
    split<;>try rfl
    rename_i x y hxy;have mx:x∈args:=by rw[<-Array.mem_toList_iff,hxy];simp
    have my:y∈args:=by rw[<-Array.mem_toList_iff,hxy];simp
    have hx:=hev x (by simp[Op.operands,Call.operands,mx])
    have hy:=hev y (by simp[Op.operands,Call.operands,my])
    simp only[hx,hy]
  | value f=>rfl
  | invoke r m=>rfl
 | _=>
  simp only[Op.operands] at hev
  first
   | rfl
   | (simp only[aopPure];simp_all [h.load,h.field,h.indexAddr,h.at'])
end Go.Av
/- Avs, part 31: states that are alike but for some slots. -/
namespace Go.Av
def noOwAV (o:Option AV):Prop:=∀av,o=some av->∀g k els,A.ow g k els∉av.cs
structure Sim (Z:Nat->Prop) (σ τ:AS):Prop where
 len:τ.slots.length=σ.slots.length
 slots:∀t,¬Z t->τ.slots[t]?=σ.slots[t]?
 no1:∀t,Z t->noOwAV σ.slots[t]?
 no2:∀t,Z t->noOwAV τ.slots[t]?
 boxes:τ.boxes=σ.boxes
 epoch:τ.epoch=σ.epoch
variable {P:Program} {Z:Nat->Prop} {σ τ:AS}
theorem at?_noOw {t c:Nat} {g:Stamp} (h:noOwAV σ.slots[t]?):σ.at? (.slot t) c g=none:=by
 unfold AS.at?
 split
 ·rename_i g' k els he
  simp only[AS.cell,Option.bind_eq_some_iff] at he;obtain ⟨av,h1,h2⟩:=he;exact absurd (List.mem_of_getElem? h2) (h av h1 g' k els)
 ·rfl
open Classical in
theorem Sim.agree (h:Sim Z σ τ):Agree σ τ:=by
 refine ⟨fun r c g=>?_,h.boxes,h.epoch⟩;cases r with
 | slot t=>
  by_cases hz:Z t
  ·rw[at?_noOw (h.no1 t hz),at?_noOw (h.no2 t hz)]
  ·simp only[AS.at?,AS.cell,h.slots t hz]
 | box b=>simp only[AS.at?,AS.cell,h.boxes]
theorem Sim.root (h:Sim Z σ τ) {r:Root} {x:Nat} {g:Stamp} {p:Nat×List (List T)} (ha:σ.at? r x g=some p):∀t,r=.slot t->¬Z t:=by
 rintro t rfl hz;rw[at?_noOw (h.no1 t hz)] at ha;simp at ha
theorem Sim.setCell (h:Sim Z σ τ) {r:Root} (hr:∀t,r=.slot t->¬Z t) (x:Nat) (c:A):Sim Z (σ.setCell r x c) (τ.setCell r x c):=by
 cases r with
 | slot t0=>
  have hz0:=hr t0 rfl;refine ⟨by simp[AS.setCell,h.len],fun t hz=>?_,fun t hz=>?_,fun t hz=>?_,h.boxes,h.epoch⟩
  ·simp only[AS.setCell,List.getElem?_modify,h.slots t hz]
  ·simp only[AS.setCell,List.getElem?_modify]
   have:t0≠t:=fun e=>hz0 (e ▸ hz);simpa [this] using h.no1 t hz
  ·simp only[AS.setCell,List.getElem?_modify]
   have:t0≠t:=fun e=>hz0 (e ▸ hz);simpa [this] using h.no2 t hz
 | box b=>exact ⟨h.len,h.slots,h.no1,h.no2,by simp[AS.setCell,h.boxes],h.epoch⟩
theorem Sim.put (h:Sim Z σ τ) {d:Nat} (hd:¬Z d) (av:AV):Sim Z (σ.put d av) (τ.put d av):=by
 refine ⟨by simp[AS.put,h.len],fun t hz=>?_,fun t hz=>?_,fun t hz=>?_,h.boxes,h.epoch⟩
 ·simp only[AS.put,List.getElem?_set,h.slots t hz,h.len]
 ·have:d≠t:=fun e=>hd (e ▸ hz)
  simpa [AS.put,List.getElem?_set_ne this] using h.no1 t hz
 ·have:d≠t:=fun e=>hd (e ▸ hz)
  simpa [AS.put,List.getElem?_set_ne this] using h.no2 t hz
theorem Sim.ev (h:Sim Z σ τ) {x:Operand} (hx:∀t,x=.tmp t->¬Z t):τ.ev x=σ.ev x:=by
 cases x with
 | tmp t=>simp only[AS.ev,h.slots t (hx t rfl)]
 | _=>rfl
theorem Sim.tkC (mv:Root->Nat->Bool) (g:Stamp):∀{cs:List A} {σ τ:AS},Sim Z σ τ->(tkC mv g cs τ).1=(tkC mv g cs σ).1/\Sim Z (tkC mv g cs σ).2 (tkC mv g cs τ).2
 | [],σ,τ,h=>⟨rfl,h⟩
 | c::cs,σ,τ,h=>by
  have ih:=Sim.tkC mv g (cs:=cs) h;cases c with
  | sref r x g0 lo len=>
   simp only[Av.tkC]
   split
   ·rw[h.agree.at']
    cases hat:σ.at? r x g0 with
    | none=>exact ⟨by simp only[ih.1],ih.2⟩
    | some p=>
     obtain ⟨k,els⟩:=p;have ih2:=Sim.tkC mv g (cs:=cs) (h.setCell (h.root hat) x .dead);exact ⟨by simp only[ih2.1],ih2.2⟩
   ·exact ⟨by simp only[ih.1],ih.2⟩
  | _=>exact ⟨by simp only[Av.tkC,ih.1],ih.2⟩
theorem Sim.shC (sh:Root->Nat->Bool):∀{cs:List A} {σ τ:AS},Sim Z σ τ->(shC sh cs τ).1=(shC sh cs σ).1/\Sim Z (shC sh cs σ).2 (shC sh cs τ).2
 | [],σ,τ,h=>⟨rfl,h⟩
 | c::cs,σ,τ,h=>by
  have ih:=Sim.shC sh (cs:=cs) h;cases c with
  | sref r x g0 lo len=>
   simp only[Av.shC]
   split
   ·rw[h.agree.at']
    cases hat:σ.at? r x g0 with
    | none=>exact ⟨by simp only[ih.1],ih.2⟩
    | some p=>
     obtain ⟨k,els⟩:=p;have ih2:=Sim.shC sh (cs:=cs) (h.setCell (h.root hat) x (.ro true els));exact ⟨by simp only[ih2.1],ih2.2⟩
   ·exact ⟨by simp only[ih.1],ih.2⟩
  | _=>exact ⟨by simp only[Av.shC,ih.1],ih.2⟩
def SimO {α:Type} (Z:Nat->Prop) (x y:Option (α×AS)):Prop:=match x,y with
 | some a,some b=>b.1=a.1/\Sim Z a.2 b.2
 | none,none=>True
 | _,_=>False
theorem SimO.map {α β:Type} {x y:Option (α×AS)} (h:SimO Z x y) (f:α->β):SimO Z (x.map fun r=>(f r.1,r.2)) (y.map fun r=>(f r.1,r.2)):=by
 cases x<;>cases y<;>simp_all [SimO]
theorem Sim.fzC:∀{cs:List A} {σ τ:AS},Sim Z σ τ->SimO Z (fzC cs σ) (fzC cs τ)
 | [],σ,τ,h=>⟨rfl,h⟩
 | c::cs,σ,τ,h=>by
  have ih:=Sim.fzC (cs:=cs) h;cases c with
  | sref r x g0 lo len=>
   simp only[Av.fzC];rw[h.agree.at'];cases hat:σ.at? r x g0 with
   | none=>trivial
   | some p=>
    obtain ⟨k,els⟩:=p;exact (Sim.fzC (cs:=cs) (h.setCell (h.root hat) x (.ro true els))).map _
  | ro st els=>
   cases st with
   | true=>exact ih.map _
   | false=>trivial
  | lit v=>exact ih.map _
  | nil=>exact ih.map _
  | _=>trivial
theorem Sim.lendCells:∀{cs:List A} {σ τ:AS},Sim Z σ τ->lendCells τ cs=lendCells σ cs
 | [],σ,τ,h=>rfl
 | c::cs,σ,τ,h=>by
  have ih:=Sim.lendCells (cs:=cs) h;cases c with
  | sref r x g0 lo len=>
   simp only[Av.lendCells];rw[h.agree.at',ih]
  | eptr r x g i off=>rfl
  | _=>simp only[Av.lendCells,ih]
theorem Sim.hide (h:Sim Z σ τ) (b:Nat):Sim Z (σ.hide b) (τ.hide b):=⟨h.len,h.slots,h.no1,h.no2,by simp[AS.hide,h.boxes],h.epoch⟩
theorem Sim.maskBoxes:∀{ids:List Nat} {σ τ:AS},Sim Z σ τ->SimO Z (maskBoxes ids σ) (maskBoxes ids τ)
 | [],σ,τ,h=>⟨rfl,h⟩
 | b::ids,σ,τ,h=>by
  simp only[Av.maskBoxes,h.boxes]
  split
  ·exact (Sim.maskBoxes (ids:=ids) (h.hide b)).map _
  ·trivial
theorem Sim.setBox (h:Sim Z σ τ) (b:Nat) (cs:List A):Sim Z (σ.setBox b cs) (τ.setBox b cs):=⟨h.len,h.slots,h.no1,h.no2,by simp[AS.setBox,h.boxes],h.epoch⟩
theorem Sim.addBox (h:Sim Z σ τ) (cs:List A):Sim Z (σ.addBox cs) (τ.addBox cs):=⟨h.len,h.slots,h.no1,h.no2,by simp[AS.addBox,h.boxes],h.epoch⟩
end Go.Av
/- Avs, part 32: operations in states that are alike. -/
namespace Go.Av
variable {P:Program} {Z:Nat->Prop} {σ τ:AS}
theorem SimO.rfl' {α:Type} (h:Sim Z σ τ) (x:Option α):SimO Z (x.map fun a=>(a,σ)) (x.map fun a=>(a,τ)):=by
 cases x with
 | none=>trivial
 | some a=>exact ⟨rfl,h⟩
theorem sim_assign (h:Sim Z σ τ) {i:Nat} {dst:Option Tmp} {x:Operand} (hx:τ.ev x=σ.ev x):SimO Z (aAssign i dst σ x) (aAssign i dst τ x):=by
 cases x with
 | tmp t=>
  simp only[aAssign,hx,h.epoch];cases σ.ev (.tmp t) with
  | none=>trivial
  | some av=>
   obtain ⟨h1,h2⟩:=Sim.tkC (fun r _=>decide (r=.slot t) || decide (some r=dst.map Root.slot)) (σ.epoch,i) (cs:=av.cs) h;exact ⟨by simp only[h1],h2⟩
 | _=>
  simp only[aAssign,hx];exact SimO.rfl' h _
theorem sim_box (h:Sim Z σ τ) {base i:Nat} {x:Operand} (hx:τ.ev x=σ.ev x):SimO Z (aBox base i σ x) (aBox base i τ x):=by
 simp only[aBox,hx,h.epoch];cases σ.ev x with
 | none=>trivial
 | some av=>
  obtain ⟨h1,h2⟩:=Sim.tkC (mvBox base) (σ.epoch,i) (cs:=av.cs) h;simp only[Option.bind_some];cases av.sh<;>first
   | trivial
   | exact ⟨by simp only[h2.boxes],by simp only[h1];exact h2.addBox _⟩
theorem sim_alloc (h:Sim Z σ τ) {t:TypeId}:SimO Z (aAlloc P σ t) (aAlloc P τ t):=by
 simp only[aAlloc,h.boxes];cases tyOf P t with
 | none=>trivial
 | some ti=>
  simp only[Option.bind_some];cases ti.zero.mapM constCell with
  | none=>trivial
  | some cs=>exact ⟨rfl,h.addBox cs⟩
theorem sim_buildCells {fs:List (Nat×TypeId)}:∀{parts:List (Nat×Operand)} {cs:List A},(∀p∈parts,τ.ev p.2=σ.ev p.2)->buildCells P τ fs cs parts=buildCells P σ fs cs parts
 | [],cs,_=>rfl
 | (j,x)::rest,cs,hx=>by
  have h0:=hx (j,x) List.mem_cons_self;have ih:=fun cs=>sim_buildCells (fs:=fs) (parts:=rest) (cs:=cs) fun p hp=>hx p (List.mem_cons_of_mem _ hp);simp only at h0;simp only[buildCells,h0,ih]
theorem sim_partCells {k:Nat}:∀{parts:List (Nat×Operand)} {j:Nat},(∀p∈parts,τ.ev p.2=σ.ev p.2)->partCells τ k parts j=partCells σ k parts j
 | [],j,_=>rfl
 | (i,x)::rest,j,hx=>by
  have h0:=hx (i,x) List.mem_cons_self;have ih:=fun j=>sim_partCells (k:=k) (parts:=rest) (j:=j) fun p hp=>hx p (List.mem_cons_of_mem _ hp);simp only at h0;simp only[partCells,h0,ih]
theorem sim_build {t:TypeId} {parts:Array (Nat×Operand)} (hx:∀p∈parts.toList,τ.ev p.2=σ.ev p.2):aBuild P τ t parts=aBuild P σ t parts:=by
 simp only[aBuild,sim_buildCells hx]
theorem sim_buildSlice (h:Sim Z σ τ) {i:Nat} {t:TypeId} {len:Nat} {parts:Array (Nat×Operand)} (hx:∀p∈parts.toList,τ.ev p.2=σ.ev p.2):SimO Z (aBuildSlice P i σ t len parts) (aBuildSlice P i τ t len parts):=by
 simp only[aBuildSlice,sim_partCells hx,h.epoch];cases tyOf P t with
 | none=>trivial
 | some ti=>
  simp only[Option.bind_some];cases ti.tk with
  | slice e=>
   simp only;cases tyOf P e with
   | none=>trivial
   | some te=>
    simp only[Option.bind_some];cases partCells σ te.size parts.toList 0 with
    | none=>trivial
    | some cs=>
     simp only[Option.bind_some]
     split
     ·exact SimO.map (h.fzC (cs:=cs)) (fun ts=>one (A.ow (σ.epoch,i) te.size (chunks te.size len ts)))
     ·trivial
  | _=>trivial
theorem sim_srcEls (h:Sim Z σ τ) (tx:TypeId) (size:Nat) (x:AV):srcEls P τ tx size x=srcEls P σ tx size x:=by
 simp only[srcEls,h.agree.els]
theorem sim_takeBase (h:Sim Z σ τ) (size:Nat) (c:A):SimO Z (takeBase σ size c) (takeBase τ size c):=by
 cases c with
 | nil=>exact ⟨rfl,h⟩
 | sref r x g lo len=>
  simp only[takeBase,h.agree.at'];cases hat:σ.at? r x g with
  | none=>trivial
  | some p=>
   simp only[Option.bind_some]
   split
   ·exact ⟨rfl,h.setCell (h.root hat) x .dead⟩
   ·trivial
 | _=>trivial
theorem sim_append (h:Sim Z σ τ) {i:Nat} {args:Array Operand} {argTypes:Array TypeId} (hx:∀x∈args.toList,τ.ev x=σ.ev x):SimO Z (aAppend P i σ args argTypes) (aAppend P i τ args argTypes):=by
 unfold aAppend
 split
 ·rename_i s x t tx hargs htys
  have hs:=hx s (by rw[hargs];simp)
  have hxx:=hx x (by rw[hargs];simp)
  cases tyOf P t with
  | none=>trivial
  | some ti=>
   simp only[Option.bind_some];cases ti.tk with
   | slice e=>
    simp only;cases tyOf P e with
    | none=>trivial
    | some te=>
     simp only[Option.bind_some,hs,hxx];cases σ.ev s with
     | none=>trivial
     | some s'=>
      cases σ.ev x with
      | none=>trivial
      | some x'=>
       simp only[opt2]
       split
       ·rename_i c
        simp only[sim_srcEls h,h.epoch];have hb:=sim_takeBase h te.size c;cases srcEls P σ tx te.size x' with
        | none=>trivial
        | some xs=>
         cases h1:takeBase σ te.size c<;>cases h2:takeBase τ te.size c<;>rw[h1,h2] at hb<;>first | trivial|(simp[SimO] at hb;done) | skip
         rename_i b1 b2;obtain ⟨e1,e2⟩:=hb;simp only[e1]
         split
         ·exact ⟨rfl,e2⟩
         ·trivial
       ·trivial
   | _=>trivial
 ·trivial
theorem sim_text (h:Sim Z σ τ) {s d:TypeId} {x:Operand} (hx:τ.ev x=σ.ev x):aText P τ s d x=aText P σ s d x:=by
 simp only[aText,hx,h.agree.els]
def SimS (Z:Nat->Prop) (x y:Option AS):Prop:=match x,y with
 | some a,some b=>Sim Z a b
 | none,none=>True
 | _,_=>False
theorem SimS.map {x y:Option AS} (h:SimS Z x y) (a:AV):SimO Z (x.map fun s=>(a,s)) (y.map fun s=>(a,s)):=by
 cases x<;>cases y<;>simp_all [SimS,SimO]
theorem sim_store (h:Sim Z σ τ) {base i:Nat} {t:TypeId} {p x:Operand} (hp:τ.ev p=σ.ev p) (hx:τ.ev x=σ.ev x):SimS Z (aStore P base i σ t p x) (aStore P base i τ t p x):=by
 unfold aStore;cases tyOf P t with
 | none=>trivial
 | some ti=>
  simp only[Option.bind_some,hp,hx];cases σ.ev p with
  | none=>trivial
  | some p'=>
   cases σ.ev x with
   | none=>trivial
   | some x'=>
    simp only[opt2];have boxcase:∀b off,SimS Z (if x'.cs.length=ti.size then (((tkC (mvStore base b off ti.size) (σ.epoch,i) x'.cs σ).2.boxes[b]?).bind fun o=>o.bind fun cs0=>if off+ti.size<=cs0.length then some ((tkC (mvStore base b off ti.size) (σ.epoch,i) x'.cs σ).2.setBox b (splice cs0 off (tkC (mvStore base b off ti.size) (σ.epoch,i) x'.cs σ).1)) else none) else none)
      (if x'.cs.length=ti.size then (((tkC (mvStore base b off ti.size) (τ.epoch,i) x'.cs τ).2.boxes[b]?).bind fun o=>o.bind fun cs0=>if off+ti.size<=cs0.length then some ((tkC (mvStore base b off ti.size) (τ.epoch,i) x'.cs τ).2.setBox b (splice cs0 off (tkC (mvStore base b off ti.size) (τ.epoch,i) x'.cs τ).1)) else none) else none):=by
     intro b off
     split
     ·rw[h.epoch]
      obtain ⟨h1,h2⟩:=Sim.tkC (mvStore base b off ti.size) (σ.epoch,i) (cs:=x'.cs) h;rw[h2.boxes,h1];cases (tkC (mvStore base b off ti.size) (σ.epoch,i) x'.cs σ).2.boxes[b]? with
      | none=>trivial
      | some o=>
       cases o with
       | none=>trivial
       | some cs0=>
        simp only[Option.bind_some]
        split
        ·exact h2.setBox _ _
        ·trivial
     ·trivial
    have elcase:∀r c g n off,SimS Z (if x'.cs.length=ti.size then ((fzC x'.cs σ).bind fun y=>(y.2.at? r c g).bind fun q=>(q.2[n]?).bind fun e=>if off+ti.size<=q.1 then some (y.2.setCell r c (.ow g q.1 (q.2.set n (splice e off y.1)))) else none) else none)
      (if x'.cs.length=ti.size then ((fzC x'.cs τ).bind fun y=>(y.2.at? r c g).bind fun q=>(q.2[n]?).bind fun e=>if off+ti.size<=q.1 then some (y.2.setCell r c (.ow g q.1 (q.2.set n (splice e off y.1)))) else none) else none):=by
     intro r c g n off
     split
     ·have hb:=h.fzC (cs:=x'.cs)
      cases h1:fzC x'.cs σ<;>cases h2:fzC x'.cs τ<;>rw[h1,h2] at hb<;>first | trivial|(simp[SimO] at hb;done) | skip
      rename_i y1 y2;obtain ⟨e1,e2⟩:=hb;simp only[Option.bind_some,e1,e2.agree.at'];cases hat:y1.2.at? r c g with
      | none=>trivial
      | some q=>
       simp only[Option.bind_some];cases q.2[n]? with
       | none=>trivial
       | some e=>
        simp only[Option.bind_some]
        split
        ·exact e2.setCell (e2.root hat) _ _
        ·trivial
     ·trivial
    split
    ·exact boxcase _ _
    ·exact boxcase _ _
    ·exact elcase _ _ _ _ _
    ·exact elcase _ _ _ _ _
    ·trivial
theorem sim_make (h:Sim Z σ τ) {i:Nat} {t:TypeId} {l c:Operand} (hl:τ.ev l=σ.ev l) (hc:τ.ev c=σ.ev c):SimO Z (aMake P i σ t l c) (aMake P i τ t l c):=by
 simp only[aMake,hl,hc,h.epoch];exact SimO.rfl' h _
theorem aEff_sim (h:Sim Z σ τ) {base i:Nat} {dst:Option Tmp} {op:Op} (hx:∀x∈op.operands,τ.ev x=σ.ev x):SimO Z (aEff P base i dst σ op) (aEff P base i dst τ op):=by
 unfold aEff
 split
 ·exact sim_assign h (hx _ (by simp[Op.operands]))
 ·exact sim_box h (hx _ (by simp[Op.operands]))
 ·exact sim_alloc h
 ·exact (sim_store h (hx _ (by simp[Op.operands])) (hx _ (by simp[Op.operands]))).map _
 ·rename_i t parts
  rw[sim_build (P:=P) (t:=t) (parts:=parts) fun p hp=>hx _ (by simp only[Op.operands];exact List.mem_toArray.2 (List.mem_map.2 ⟨p,hp,rfl⟩))]
  exact SimO.rfl' h _
 ·rename_i t len parts
  exact sim_buildSlice h fun p hp=>hx _ (by simp only[Op.operands];exact List.mem_toArray.2 (List.mem_map.2 ⟨p,hp,rfl⟩))
 ·exact sim_append h fun x hm=>hx _ (by simp only[Op.operands,Call.operands];simpa using hm)
 ·exact sim_make h (hx _ (by simp[Op.operands])) (hx _ (by simp[Op.operands]))
 ·rename_i s d x
  rw[aopPure_agree h.agree hx,sim_text h (hx _ (by simp[Op.operands]))]
  exact SimO.rfl' h _
 ·rw[aopPure_agree h.agree hx]
  exact SimO.rfl' h _
end Go.Av
/- Avs, part 33: calls in states that are alike. -/
namespace Go.Av
variable {P:Program} {Z:Nat->Prop} {σ τ:AS}
theorem sim_evAll:∀{xs:List Operand},(∀x∈xs,τ.ev x=σ.ev x)->evAll τ xs=evAll σ xs
 | [],_=>rfl
 | x::xs,hx=>by
  have h0:=hx x List.mem_cons_self;have ih:=sim_evAll (xs:=xs) fun y hy=>hx y (List.mem_cons_of_mem _ hy);simp only[evAll,h0,ih]
abbrev PreR:=FuncId×List AV×List (Option (List A))
def pre4 (x:Option (FuncId×List AV×List (Option (List A))×AS)):Option (PreR×AS):=x.map fun r=>((r.1,r.2.1,r.2.2.1),r.2.2.2)
theorem aCallPre_sim (h:Sim Z σ τ) {hh:Hint} {i:Nat} {fop:Operand} {args:List Operand} (hf:τ.ev fop=σ.ev fop) (ha:∀x∈args,τ.ev x=σ.ev x) :
  SimO Z (pre4 (aCallPre hh i σ fop args)) (pre4 (aCallPre hh i τ fop args)):=by
 unfold aCallPre;rw[hf,sim_evAll ha];cases σ.ev fop with
 | none=>trivial
 | some fv=>
  simp only[Option.bind_some]
  split
  ·rename_i f caps
   cases evAll σ args with
   | none=>trivial
   | some avs=>
    simp only[Option.bind_some,h.epoch];obtain ⟨a1,a2⟩:=Sim.tkC hh.mv (σ.epoch,i) (cs:=(avs++capAVs caps).flatMap (·.cs)) h
    rw[a1];obtain ⟨b1,b2⟩:=Sim.shC hh.sh (cs:=(tkC hh.mv (σ.epoch,i) ((avs++capAVs caps).flatMap (·.cs)) σ).1) a2
    rw[b1];have hm:=Sim.maskBoxes (ids:=hh.ids) b2;generalize shC hh.sh (tkC hh.mv (σ.epoch,i) ((avs++capAVs caps).flatMap (·.cs)) σ).1 (tkC hh.mv (σ.epoch,i) ((avs++capAVs caps).flatMap (·.cs)) σ).2=q1 at *
    generalize (shC hh.sh (tkC hh.mv (σ.epoch,i) ((avs++capAVs caps).flatMap (·.cs)) σ).1 (tkC hh.mv (σ.epoch,i) ((avs++capAVs caps).flatMap (·.cs)) τ).2).2=q2 at *
    cases h1:maskBoxes hh.ids q1.2<;>cases h2:maskBoxes hh.ids q2<;>rw[h1,h2] at hm<;>first | trivial|(simp[SimO] at hm;done) | skip
    rename_i y1 y2;obtain ⟨e1,e2⟩:=hm;simp only[Option.bind_some,e1]
    split
    ·rw[Sim.lendCells e2]
     cases lendCells y1.2 q1.1 with
     | none=>trivial
     | some cs=>
      simp only[Option.bind_some];cases renAll hh.ids cs with
      | none=>trivial
      | some cs2=>
       simp only[Option.bind_some];cases renAlls hh.ids y1.1 with
       | none=>trivial
       | some pcs=>exact ⟨rfl,e2⟩
    ·trivial
  ·trivial
theorem aCallPost_sim (h:Sim Z σ τ) (ids:List Nat) (i:Nat) (res:AV) (bx:List (Option (List A))) :
  (aCallPost ids i τ res bx).1=(aCallPost ids i σ res bx).1/\Sim Z (aCallPost ids i σ res bx).2 (aCallPost ids i τ res bx).2:=by
 refine ⟨by simp only[aCallPost,h.boxes,h.epoch],h.len,h.slots,h.no1,h.no2,by simp only[aCallPost,h.boxes,h.epoch],h.epoch⟩
end Go.Av
