/- Part D1 of the proof: Avs, part 39: regions that draw their order. -/
import Derived.Test.YtfobhlmjcnkpiaaGreatDoorC2
import Derived.Orders
set_option linter.all false
/- Avs, part 39: regions that draw their order. -/
namespace Go.Gv
open Go.Av
def yP0:Op->Bool
 | .assign _ | .box _ _ | .alloc _ | .store _ _ _ | .buildSlice _ _ _ | .makeSlice _ _ _=>false
 | .call ⟨.value _,_,_⟩ | .call ⟨.builtin .append,_,_⟩=>false
 | _=>true
def deps (o:Oper):List Nat:=(o.after.toList.filter (Region.binds .any ·)).map (·.on)
def nP1:A->Bool | .ow _ _ _ _=>true | _=>false
def UF0 (v:AV):Bool:=v.cs.all fun c=>!nP1 c
def forced (ops:Array Oper):List Nat->List Nat->List Nat
 | [],acc=>acc
 | i::D,acc=>forced ops D (match acc.contains i with
  | true=>match ops[i]? with
   | some o=>deps o++acc
   | none=>acc
  | false=>acc)
def gW0 (l:List Nat):List (Nat×AV)->List (Nat×AV)
 | []=>[]
 | p::r=>match l.contains p.1 with
  | true=>gW0 l r
  | false=>p::gW0 l r
def setp (g:Nat) (bit:Bool):List (Nat×AV)->List (Nat×AV)
 | []=>[]
 | (p,v)::r=>match Nat.beq p g with
  | true=>(p,⟨.one,[.lit (.bool bit)]⟩)::setp g bit r
  | false=>(p,v)::setp g bit r
section
variable (O:Ops) (ts:Nat->Option TI)
def bF0 (σ:AS) (op:Op):M AV:=match op with
 | .build t parts=>bindO (PN0 O ts σ t parts) ret
 | .convert s d x=>orM (opG O ts σ (.convert s d x)) (JA0 O ts σ s d x)
 | op=>opG O ts σ op
def wX0 (ops:Array Oper) (σ:AS) (g:Nat):Option AV:=((ops[g]?).bind (·.dst)).bind (σ.slots[·]?)
def valG (ops:Array Oper) (σ:AS) (o:Oper):M AV:=match o.guard with
 | none=>bF0 O ts σ o.op
 | some (g,want)=>match wX0 ops σ g with
  | some ⟨.one,[.lit (.bool b)]⟩=>match b with
   | true=>match want with
    | true=>bF0 O ts σ o.op
    | false=>ret yT0
   | false=>match want with
    | true=>ret yT0
    | false=>bF0 O ts σ o.op
  | some ⟨.tup [],[]⟩=>ret yT0
  | _=>none
def nF0 (ops:Array Oper) (σ:AS):List (Nat×AV)->Option (List Prop)
 | []=>some []
 | (p,v)::r=>match ops[p]? with
  | some o=>match o.dst with
   | some d=>match σ.slots[d]? with
    | some v0=>match valG O ts ops σ o with
     | some (ps,v1)=>match nF0 ops σ r with
      | some qs=>some (cat ps ((v0=v)::(v1=v)::qs))
      | none=>none
     | none=>none
    | none=>none
   | none=>none
  | none=>none
def hE0 (ops:Array Oper) (o:Oper) (acc:List Prop) (kn:List (Nat×Bool)) (pend:List (Nat×AV)) (σ:AS) (K:List Prop->List (Nat×Bool)->List (Nat×AV)->AS->Bool->Prop):Prop:=
 match o.guard with
 | none=>K acc kn pend σ true
 | some (g,want)=>match wX0 ops σ g with
  | some ⟨.one,[.lit (.bool b)]⟩=>match tZ1 kn g with
   | none=>out acc (GFork b (fun _=>K [] ((g,true)::kn) (setp g true pend) (σ.known ops g true) want) (fun _=>K [] ((g,false)::kn) (setp g false pend) (σ.known ops g false) (!want)))
   | some _=>match b with
    | true=>K acc kn pend σ want
    | false=>K acc kn pend σ (!want)
  | some ⟨.tup [],[]⟩=>K acc kn pend σ false
  | _=>False
def gGo (go:Bool) (P:Program) (base i:Nat) (o:Oper) (acc:List Prop) (σ:AS) (K:List Prop->AS->Prop):Prop:=match go with
 | true=>XW0 O ts P base i o acc σ K
 | false=>K acc (σ.putO o.dst yT0)
def goV (go:Bool) (x:M AV):M AV:=match go with
 | true=>x
 | false=>ret yT0
def gCan (P:Program) (base:Nat) (ops:Array Oper):List Nat->List Nat->List (Nat×AV)->List Prop->List (Nat×Bool)->AS->(AS->Prop)->Prop
 | [],_,_,acc,_,σ,K=>match σ with
  | ⟨s,b,e⟩=>fin acc K s b (e+1)
 | i::rest,D,pend,acc,kn,σ,K=>match ops[i]? with
  | none=>False
  | some o=>hE0 ops o acc kn pend σ fun acc kn pend σ go=>match yP0 o.op with
   | true=>match o.dst with
    | none=>False
    | some d=>match goV go (bF0 O ts σ o.op) with
     | some (ps,v)=>match UF0 v && decide (d < σ.slots.length) with
      | true=>gCan P base ops rest (i::D) ((i,v)::pend) (cat acc ps) kn (σ.put d v) K
      | false=>False
     | none=>False
   | false=>match gW0 (forced ops D (deps o)) pend with
    | pend'=>gGo O ts go P base i o acc σ fun acc' σ'=>match nF0 O ts ops σ' pend' with
     | some qs=>gCan P base ops rest (i::D) pend' (cat acc' qs) kn σ' K
     | none=>False
end
def NN0 (ops:Array Oper):Bool:=(List.range ops.size).all fun q=>match ops[q]? with
 | some oq=>match yP0 oq.op with
  | true=>match oq.dst with
   | none=>false
   | some d=>(List.range ops.size).all fun j=>match ops[j]? with
    | some oj=>(j == q || oj.dst != some d) && (!(oj.looksAt ops).contains d || (deps oj).contains q)
    | none=>true
  | false=>true
 | none=>true
def qF0 (ds:List Nat):Nat->List AV->List AV
 | _,[]=>[]
 | t,av::r=>(match ds.contains t with | true=>⟨.any,[]⟩ | false=>av)::qF0 ds (t+1) r
def vC0 (ops:Array Oper):List Nat:=ops.toList.filterMap fun o=>match yP0 o.op with
 | true=>o.dst
 | false=>none
def AS.blank (ds:List Nat) (σ:AS):AS:={ σ with slots:=qF0 ds 0 σ.slots }
end Go.Gv
