/- Part G1 of the proof: Avs, part 33: the same evaluator over primitives that stay out of sight they are variables, with what is to be shown collected. / Avs, part 34: over the primitives as they are, the evaluator is the old one. / Avs, part 35: the same, for what reads. / Avs, part 36: the same, for what moves. / Avs, part 37: the same, for calls and results regions. / Avs, part 38: code, over the primitives that are variables. -/
import Derived.Test.YtjeejieaalnbeaaGreatA5
set_option linter.all false
/- Avs, part 33: the same evaluator over primitives that stay out of sight (they are variables), with what is to be shown collected. -/
namespace Go.Gv
open Go.Av
structure Ops where
 bin:BinOp->IntKind->Int->Int->Int
 cmp:BinOp->Int->Int->Bool
 sadd:ByteArray->ByteArray->ByteArray
 scmp:BinOp->ByteArray->ByteArray->Bool
 beq:Bool->Bool->Bool
 bnot:Bool->Bool
 band:Bool->Bool->Bool
 un:UnOp->IntKind->Int->Int
 wrap:IntKind->Int->Int
 size:ByteArray->Nat
 byte:ByteArray->Nat->Int
 chr:Int->ByteArray
 sub:ByteArray->Nat->Nat->ByteArray
 len:List (List T)->Nat
 seg:Nat->Nat->List (List T)->List (List T)
 app:List (List T)->List (List T)->List (List T)
 get:List (List T)->Nat->List T
 set:List (List T)->Nat->List T->List (List T)
 nat:Int->Nat
 nadd:Nat->Nat->Nat
 nsub:Nat->Nat->Nat
 repl:Nat->List T->List (List T)
 text:List (List T)->ByteArray
 bytes:ByteArray->List (List T)
 mn:Int->Int->Int
 mx:Int->Int->Int
 nz:Int->Prop
 nn:Int->Prop
 idx:Int->Nat->Prop
 bnd:Int->Nat->Prop
 le:Nat->Nat->Prop
 all:List (List T)->Nat->Prop
 one:List (List T)->Nat->Nat->Prop
 lits:List (List T)->Prop
 isB:List (List T)->Prop
 sOk:ByteArray->ByteArray->Prop
 aOk:Nat->List (List T)->List (List T)->Prop
 mOk:Nat->Int->Int->Prop
def stdBin (op:BinOp) (k:IntKind) (a b:Int):Int:=match op with
 | .shl=>k.wrap (a * 2 ^ (min b.toNat k.bits))
 | .shr=>a.fdiv (2 ^ (min b.toNat k.bits))
 | .add=>k.wrap (a+b)
 | .sub=>k.wrap (a - b)
 | .mul=>k.wrap (a * b)
 | .quo=>k.wrap (a.tdiv b)
 | .rem=>a.tmod b
 | .and=>k.wrap (BitVec.ofInt k.bits a &&& BitVec.ofInt k.bits b).toNat
 | .or=>k.wrap (BitVec.ofInt k.bits a ||| BitVec.ofInt k.bits b).toNat
 | .xor=>k.wrap (BitVec.ofInt k.bits a ^^^ BitVec.ofInt k.bits b).toNat
 | _=>0
def sCm (op:BinOp) (a b:Int):Bool:=match op with
 | .eql=>a == b
 | .neq=>a != b
 | .lss=>decide (a < b)
 | .leq=>decide (a<=b)
 | .gtr=>decide (a > b)
 | .geq=>decide (a≥b)
 | _=>false
def stdScmp (op:BinOp) (a b:ByteArray):Bool:=match op with
 | .eql=>a.toList == b.toList
 | .neq=>!(a.toList == b.toList)
 | .lss=>Op.bytesLess a.toList b.toList
 | .leq=>Op.bytesLess a.toList b.toList || (a.toList == b.toList)
 | .gtr=>!(Op.bytesLess a.toList b.toList || (a.toList == b.toList))
 | .geq=>!(Op.bytesLess a.toList b.toList)
 | _=>false
def stdUn (op:UnOp) (k:IntKind) (n:Int):Int:=match op with
 | .neg=>k.wrap (0 - n)
 | .xor=>k.wrap (BitVec.ofInt k.bits (if k.signed then -1 else k.max) ^^^ BitVec.ofInt k.bits n).toNat
 | _=>0
def Ops.std:Ops where
 bin:=stdBin
 cmp:=sCm
 sadd a b:=a++b
 scmp:=stdScmp
 beq a b:=a == b
 bnot a:=!a
 band a b:=a && b
 un:=stdUn
 wrap k n:=k.wrap n
 size s:=s.size
 byte s i:=(byteAt s i).toNat
 chr n:=Utf8.encode n
 sub s l h:=s.extract l h
 len els:=els.length
 seg lo n els:=(els.drop lo).take n
 app a b:=a++b
 get els i:=els.getD i []
 set els i e:=els.set i e
 nat i:=i.toNat
 nadd a b:=a+b
 nsub a b:=a - b
 repl n e:=List.replicate n e
 text els:=match bytesOf els with | some ns=>textOf ns | none=>ByteArray.empty
 bytes s:=s.data.toList.map fun b=>[T.lit (.int .u8 b.toNat)]
 mn x y:=if y < x then y else x
 mx x y:=if y > x then y else x
 nz b:=b≠0
 nn b:=0<=b
 idx i n:=0<=i/\i < n
 bnd i n:=0<=i/\i<=n
 le a b:=a<=b
 all els k:=∀x∈els,x.length=k
 one els i k:=i < els.length/\(els.getD i []).length=k
 lits els:=∀y∈els,∀t∈y,isL t=true
 isB els:=(bytesOf els).isSome=true
 sOk a b:=a.size+b.size<=9223372036854775807
 aOk bytes a b:=(a.length+b.length) * bytes<=140737488355328/\a.length+b.length<=9223372036854775807
 mOk bytes l c:=0<=l/\l<=c/\(bytes:Int) * c<=281474976710656/\c<=9223372036854775807
abbrev M (α:Type):=Option (List Prop×α)
def ret {α:Type} (x:α):M α:=some ([],x)
def need {α:Type} (p:Prop) (x:M α):M α:=match x with
 | some (ps,v)=>some (p::ps,v)
 | none=>none
def cat:List Prop->List Prop->List Prop
 | [],qs=>qs
 | p::ps,qs=>p::cat ps qs
def bindM {α β:Type} (x:M α) (f:α->M β):M β:=match x with
 | none=>none
 | some (ps,a)=>match f a with
  | none=>none
  | some (qs,b)=>some (cat ps qs,b)
def bindO {α β:Type} (x:Option α) (f:α->M β):M β:=match x with
 | none=>none
 | some a=>f a
def bind2 {α β γ:Type} (x:Option α) (y:Option β) (f:α->β->M γ):M γ:=match x,y with
 | some a,some b=>f a b
 | _,_=>none
def look:List (Nat×TI)->Nat->Option TI
 | [],_=>none
 | (k,v)::r,n=>if k=n then some v else look r n
variable (O:Ops) (ts:Nat->Option TI)
def viewG (r:Root):Nat->List A->List A
 | _,[]=>[]
 | j,c::cs=>match c with
  | .ow g _ els=>.sref r j g 0 (O.len els)::viewG r (j+1) cs
  | _=>c::viewG r (j+1) cs
def evG (σ:AS):Operand->Option AV
 | .tmp t=>match σ.slots[t]? with
  | some av=>some ⟨av.sh,viewG O (.slot t) 0 av.cs⟩
  | none=>none
 | .const v=>constAV v
 | .func f=>some ⟨.one,[.fn f []]⟩
 | .global _=>none
def litG (v:Value):AV:=⟨.one,[.lit v]⟩
def binG (op:BinOp) (t:TypeId):Value->Value->M Value
 | .int k a,.int k' b=>match op with
  | .shl=>need (O.nn b) (ret (.int k (O.bin .shl k a b)))
  | .add=>if k=k' then ret (.int k (O.bin .add k a b)) else none
  | .sub=>if k=k' then ret (.int k (O.bin .sub k a b)) else none
  | .mul=>if k=k' then ret (.int k (O.bin .mul k a b)) else none
  | .quo=>if k=k' then need (O.nz b) (ret (.int k (O.bin .quo k a b))) else none
  | .rem=>if k=k' then need (O.nz b) (ret (.int k (O.bin .rem k a b))) else none
  | .and=>if k=k' then ret (.int k (O.bin .and k a b)) else none
  | .or=>if k=k' then ret (.int k (O.bin .or k a b)) else none
  | .xor=>if k=k' then ret (.int k (O.bin .xor k a b)) else none
  | .shr=>need (O.nn b) (ret (.int k (O.bin .shr k a b)))
  | .eql=>if k=k' then ret (.bool (O.cmp .eql a b)) else none
  | .neq=>if k=k' then ret (.bool (O.cmp .neq a b)) else none
  | .lss=>if k=k' then ret (.bool (O.cmp .lss a b)) else none
  | .leq=>if k=k' then ret (.bool (O.cmp .leq a b)) else none
  | .gtr=>if k=k' then ret (.bool (O.cmp .gtr a b)) else none
  | .geq=>if k=k' then ret (.bool (O.cmp .geq a b)) else none
  | _=>none
 | .string a,.string b=>match op with
  | .add=>need (O.sOk a b) (ret (.string (O.sadd a b)))
  | .eql=>ret (.bool (O.scmp .eql a b))
  | .neq=>ret (.bool (O.scmp .neq a b))
  | .lss=>ret (.bool (O.scmp .lss a b))
  | .leq=>ret (.bool (O.scmp .leq a b))
  | .gtr=>ret (.bool (O.scmp .gtr a b))
  | .geq=>ret (.bool (O.scmp .geq a b))
  | _=>none
 | .bool a,.bool b=>match op with
  | .eql=>match ts t with
   | some ⟨.bool,_,_,_,_⟩=>ret (.bool (O.beq a b))
   | _=>none
  | .neq=>match ts t with
   | some ⟨.bool,_,_,_,_⟩=>ret (.bool (O.bnot (O.beq a b)))
   | _=>none
  | _=>none
 | _,_=>none
def eqFsG (f:TypeId->List A->List A->Option Bool) (xs ys:List A):List (Nat×TypeId)->Option Bool
 | []=>some true
 | p::rest=>match ts p.2 with
  | none=>none
  | some ti=>match rest with
   | []=>f p.2 ((xs.drop p.1).take ti.size) ((ys.drop p.1).take ti.size)
   | _::_=>match f p.2 ((xs.drop p.1).take ti.size) ((ys.drop p.1).take ti.size) with
    | none=>none
    | some a=>match eqFsG f xs ys rest with
     | none=>none
     | some b=>some (O.band a b)
def eqAtG:Nat->TypeId->List A->List A->Option Bool
 | 0,_,_,_=>none
 | d+1,t,xs,ys=>match ts t with
  | none=>none
  | some ti=>if xs.length=ti.size/\ys.length=ti.size then
   match ti.tk with
   | .struct fs=>if ti.eq=true then eqFsG O ts (eqAtG d) xs ys fs else none
   | .bool=>match xs,ys with
    | [.lit (.bool a)],[.lit (.bool b)]=>some (O.beq a b)
    | _,_=>none
   | .int _=>match xs,ys with
    | [.lit (.int k a)],[.lit (.int k' b)]=>if k=k' then some (O.cmp .eql a b) else none
    | _,_=>none
   | .str=>match xs,ys with
    | [.lit (.string a)],[.lit (.string b)]=>some (O.scmp .eql a b)
    | _,_=>none
   | _=>none
  else none
def eqResG (op:BinOp) (r:Bool):Option AV:=match op with
 | .eql=>some (litG (.bool r))
 | .neq=>some (litG (.bool (O.bnot r)))
 | _=>none
def unG (op:UnOp):Value->M Value
 | .bool b=>match op with | .not=>ret (.bool (O.bnot b)) | _=>none
 | .int k n=>match op with
  | .neg=>ret (.int k (O.un .neg k n))
  | .xor=>ret (.int k (O.un .xor k n))
  | _=>none
 | _=>none
def convG (src dst:TypeId):Value->M Value
 | .int _ n=>match ts src,ts dst with
  | some ⟨.int _,_,_,_,_⟩,some ⟨.int k',_,_,_,_⟩=>ret (.int k' (O.wrap k' n))
  | some ⟨.int _,_,_,_,_⟩,some ⟨.str,_,_,_,_⟩=>ret (.string (O.chr n))
  | _,_=>none
 | .string s=>match ts src,ts dst with
  | some ⟨.str,_,_,_,_⟩,some ⟨.str,_,_,_,_⟩=>ret (.string s)
  | _,_=>none
 | _=>none
def elsG (σ:AS):A->Option (List (List T))
 | .nil=>some []
 | .ro _ els=>some els
 | .sref r c g lo len=>match σ.at? r c g with
  | some (_,els)=>some (O.seg lo len els)
  | none=>none
 | _=>none
def slenG (σ:AS):A->Option Nat
 | .nil=>some 0
 | .ro _ els=>some (O.len els)
 | .sref r c g _ len=>match σ.at? r c g with
  | some _=>some len
  | none=>none
 | _=>none
def boundG (n:Nat) (hi:Bool):Option AV->M Nat
 | none=>ret (match hi with | true=>n | false=>0)
 | some av=>match av.lit? with
  | some (.int _ i)=>need (O.bnd i n) (ret (O.nat i))
  | _=>none
def rowG (σ:AS):A->M (List A)
 | .ptr b off=>match σ.boxes[b]? with
  | some (some cs)=>ret ((viewG O (.box b) 0 cs).drop off)
  | _=>none
 | .eptr r c g i off=>match σ.at? r c g with
  | some (_,els)=>need (O.idx i (O.len els)) (ret (((O.get els i).drop off).map (tA true)))
  | none=>none
 | .rptr st cells=>ret (cells.map (tA st))
 | _=>none
def loadG (σ:AS) (t:TypeId) (c:A):M AV:=
 bindO (ts t) fun ti=>bindM (rowG O σ c) fun cs=>bindO (rowAV ti (cs.take ti.size)) ret
def fieldG (σ:AS) (s:TypeId) (c:A) (f:Nat):M A:=
 bindO (ts s) fun ti=>match ti.tk with
  | .struct fs=>bindO fs[f]? fun x=>bindO (ts x.2) fun tf=>if tf.size=0 then none else
   match c with
   | .ptr b off=>ret (.ptr b (off+x.1))
   | .eptr r c g i off=>match σ.at? r c g with
    | some _=>ret (.eptr r c g i (off+x.1))
    | none=>none
   | .rptr st cells=>ret (.rptr st (cells.drop x.1))
   | _=>none
  | _=>none
def partG (t:TypeId) (cs:List A) (off:Nat):M AV:=
 bindO (ts t) fun ti=>bindO (rowAV ti ((cs.drop off).take ti.size)) ret
def indexAddrG (σ:AS) (t:TypeId) (c:A) (i:Int):M A:=
 bindO (ts t) fun ti=>match ti.tk with
  | .slice e=>bindO (ts e) fun te=>match c with
   | .ro st els=>need (O.idx i (O.len els)) (need (O.all els te.size) (ret (.rptr st (O.get els (O.nat i)))))
   | .sref r c g lo len=>match σ.at? r c g with
    | some p=>if p.1=te.size then need (O.idx i len) (ret (.eptr r c g (O.nadd lo (O.nat i)) 0)) else none
    | none=>none
   | _=>none
  | .array n e=>bindO (ts e) fun te=>match c with
   | .ptr b off=>need (O.idx i n) (ret (.ptr b (off+i.toNat * te.size)))
   | _=>none
  | _=>none
def sliceG (σ:AS) (t:TypeId) (x:AV) (lo hi mx:Option AV):M A:=
 bindO (ts t) fun ti=>match ti.tk,x with
  | .str,⟨.one,[.lit (.string s)]⟩=>match mx with
   | none=>bindM (boundG O (O.size s) false lo) fun l=>bindM (boundG O (O.size s) true hi) fun h=>need (O.le l h) (ret (.lit (.string (O.sub s l h))))
   | some _=>none
  | .slice e,⟨.one,[c]⟩=>bindO (ts e) fun te=>bindO (slenG O σ c) fun n=>match mx with
   | none=>bindM (boundG O n false lo) fun l=>bindM (boundG O n true hi) fun h=>need (O.le l h) (match c with
     | .nil=>ret .nil
     | .ro st els=>need (O.all els te.size) (ret (.ro st (O.seg l (O.nsub h l) els)))
     | .sref r c g lo' _=>match σ.at? r c g with
      | some p=>if p.1=te.size then ret (.sref r c g (O.nadd lo' l) (O.nsub h l)) else none
      | none=>none
     | _=>none)
   | some _=>none
  | _,_=>none
def optEv (σ:AS):Option Operand->Option (Option AV)
 | none=>some none
 | some o=>match evG O σ o with
  | some v=>some (some v)
  | none=>none
def opG (σ:AS):Op->M AV
 | .move x=>bindO (evG O σ x) ret
 | .pick c x y=>bindO (evG O σ c) fun c=>match c.lit? with
  | some (.bool b)=>bindO (match b with | true=>evG O σ x | false=>evG O σ y) ret
  | _=>none
 | .binOp op t x y _=>bind2 (evG O σ x) (evG O σ y) fun x y=>match x.sh,y.sh with
  | .agg,.agg=>bindO (ts t) fun ti=>if ti.agg=true then bindO (eqAtG O ts 6 t x.cs y.cs) fun r=>bindO (eqResG O op r) ret else none
  | _,_=>bind2 x.lit? y.lit? fun x y=>bindM (binG O ts op t x y) fun v=>ret (litG v)
 | .unOp op _ x=>bindO (evG O σ x) fun x=>bindO x.lit? fun x=>bindM (unG O op x) fun v=>ret (litG v)
 | .convert s d x=>bindO (evG O σ x) fun x=>bindO x.lit? fun x=>bindM (convG O ts s d x) fun v=>ret (litG v)
 | .nilCheck x=>bindO (evG O σ x) fun x=>match x with
  | ⟨.one,[c]⟩=>match c with
   | .ptr _ _ | .rptr _ _ | .fn _ _=>ret x
   | .eptr r k g _ _=>match σ.at? r k g with
    | some _=>ret x
    | none=>none
   | _=>none
  | _=>none
 | .fieldAddr s x f=>bindO (evG O σ x) fun x=>match x with
  | ⟨.one,[c]⟩=>bindM (fieldG ts σ s c f) fun c=>ret ⟨.one,[c]⟩
  | _=>none
 | .load t x=>bindO (evG O σ x) fun x=>match x with
  | ⟨.one,[c]⟩=>loadG O ts σ t c
  | _=>none
 | .field s x f=>bindO (evG O σ x) fun x=>match x.sh with
  | .agg=>bindO (ts s) fun ti=>match ti.tk with
   | .struct fs=>bindO fs[f]? fun y=>partG ts y.2 x.cs y.1
   | _=>none
  | _=>none
 | .indexAddr t x i=>bind2 (evG O σ x) (evG O σ i) fun x i=>match x,i.lit? with
  | ⟨.one,[c]⟩,some (.int _ n)=>bindM (indexAddrG O ts σ t c n) fun c=>ret ⟨.one,[c]⟩
  | _,_=>none
 | .index t x i=>bind2 (evG O σ x) (evG O σ i) fun x i=>match x.lit?,i.lit? with
  | some (.string s),some (.int _ n)=>bindO (ts t) fun ti=>match ti.tk with
   | .str=>need (O.idx n (O.size s)) (ret (litG (.int .u8 (O.byte s (O.nat n)))))
   | _=>none
  | _,_=>none
 | .slice t x lo hi mx=>bindO (evG O σ x) fun x=>
   match optEv O σ lo,optEv O σ hi,optEv O σ mx with
   | some lo,some hi,some mx=>bindM (sliceG O ts σ t x lo hi mx) fun c=>ret ⟨.one,[c]⟩
   | _,_,_=>none
 | .extract x j=>bindO (evG O σ x) fun x=>match x.sh with
  | .tup ns=>bindO ns[j]? fun s=>
    match s.1 with
    | true=>ret ⟨.agg,(x.cs.drop ((ns.take j).map (·.2)).sum).take s.2⟩
    | false=>bindO (x.cs[((ns.take j).map (·.2)).sum]?) fun c=>ret ⟨.one,[c]⟩
  | _=>none
 | .makeFunc (.func f) first captured=>if first.size=0 then
   bindO (all3 (captured.toList.map fun x=>(evG O σ x).bind capAV)) fun cs=>ret ⟨.one,[.fn f cs]⟩
  else none
 | .call { callee:=.builtin .len,args,argTypes }=>bindO args[0]? fun x=>bindO argTypes[0]? fun t=>bind2 (evG O σ x) (ts t) fun x ti=>match ti.tk,x with
  | .str,⟨.one,[.lit (.string s)]⟩=>ret (litG (.int .i64 (Int.ofNat (O.size s))))
  | .slice _,⟨.one,[c]⟩=>bindO (slenG O σ c) fun n=>ret (litG (.int .i64 (Int.ofNat n)))
  | .array n _,_=>ret (litG (.int .i64 (Int.ofNat n)))
  | _,_=>none
 | .call { callee:=.builtin .min,args,.. }=>match args.toList with
  | [x,y]=>bind2 (evG O σ x) (evG O σ y) fun x y=>match x.lit?,y.lit? with
   | some (.int k x),some (.int _ y)=>ret (litG (.int k (O.mn x y)))
   | _,_=>none
  | _=>none
 | .call { callee:=.builtin .max,args,.. }=>match args.toList with
  | [x,y]=>bind2 (evG O σ x) (evG O σ y) fun x y=>match x.lit?,y.lit? with
   | some (.int k x),some (.int _ y)=>ret (litG (.int k (O.mx x y)))
   | _,_=>none
  | _=>none
 | _=>none
def takeG (mv:Root->Nat->Bool) (g:Stamp):List A->AS->List A×AS
 | [],σ=>([],σ)
 | c::cs,σ=>
  match c with
  | .sref r x g0 lo len=>
   match mv r x with
   | true=>match σ.at? r x g0 with
    | some (k,els)=>match takeG mv g cs (σ.setCell r x .dead) with
     | (q1,q2)=>((.ow g k (O.seg lo len els))::q1,q2)
    | none=>match takeG mv g cs σ with
     | (q1,q2)=>(.dead::q1,q2)
   | false=>match takeG mv g cs σ with
     | (q1,q2)=>(c::q1,q2)
  | _=>match takeG mv g cs σ with
     | (q1,q2)=>(c::q1,q2)
def shareG (sh:Root->Nat->Bool):List A->AS->List A×AS
 | [],σ=>([],σ)
 | c::cs,σ=>
  match c with
  | .sref r x g lo len=>
   match sh r x with
   | true=>match σ.at? r x g with
    | some (_,els)=>match shareG sh cs (σ.setCell r x (.ro true els)) with
     | (q1,q2)=>(.ro true (O.seg lo len els)::q1,q2)
    | none=>match shareG sh cs σ with
     | (q1,q2)=>(.dead::q1,q2)
   | false=>match shareG sh cs σ with
     | (q1,q2)=>(c::q1,q2)
  | _=>match shareG sh cs σ with
     | (q1,q2)=>(c::q1,q2)
def lendG (σ:AS):List A->Option (List A)
 | []=>some []
 | c::cs=>match c with
  | .sref r x g lo len=>match σ.at? r x g with
   | some (_,els)=>match lendG σ cs with
    | some q=>some (.ro false (O.seg lo len els)::q)
    | none=>none
   | none=>none
  | .eptr ..=>none
  | _=>match lendG σ cs with
   | some q=>some (c::q)
   | none=>none
def freezeG:List A->AS->Option (List T×AS)
 | [],σ=>some ([],σ)
 | c::cs,σ=>match c with
  | .lit v=>match freezeG cs σ with
   | some (q1,q2)=>some (.lit v::q1,q2)
   | none=>none
  | .nil=>match freezeG cs σ with
   | some (q1,q2)=>some (.sl []::q1,q2)
   | none=>none
  | .ro true els=>match freezeG cs σ with
   | some (q1,q2)=>some (.sl els::q1,q2)
   | none=>none
  | .sref r x g lo len=>match σ.at? r x g with
   | some (_,els)=>match freezeG cs (σ.setCell r x (.ro true els)) with
    | some (q1,q2)=>some (.sl (O.seg lo len els)::q1,q2)
    | none=>none
   | none=>none
  | _=>none
def assignG (i:Nat) (dst:Option Tmp) (σ:AS):Operand->Option (AV×AS)
 | .tmp t=>match evG O σ (.tmp t) with
  | some av=>match takeG O (fun r _=>decide (r=.slot t) || decide (some r=dst.map Root.slot)) (σ.epoch,i) av.cs σ with
   | (q1,q2)=>some (⟨av.sh,q1⟩,q2)
  | none=>none
 | x=>match evG O σ x with
  | some av=>some (av,σ)
  | none=>none
def boxG (base i:Nat) (σ:AS) (x:Operand):Option (AV×AS):=
 match evG O σ x with
 | some av=>match av.sh with
  | .one | .agg=>match takeG O (mvBox base) (σ.epoch,i) av.cs σ with
   | (q1,q2)=>some (⟨.one,[.ptr q2.boxes.length 0]⟩,q2.addBox q1)
  | _=>none
 | none=>none
def allocG (σ:AS) (t:TypeId):Option (AV×AS):=
 match ts t with
 | some ti=>match ti.zero.mapM constCell with
  | some cs=>some (⟨.one,[.ptr σ.boxes.length 0]⟩,σ.addBox cs)
  | none=>none
 | none=>none
def storeG (base i:Nat) (σ:AS) (t:TypeId) (p x:Operand):M AS:=
 bindO (ts t) fun ti=>bind2 (evG O σ p) (evG O σ x) fun p x=>match (match x.sh with | .one=>true | .agg=>true | _=>false) with
  | false=>none
  | true=>match p with
   | ⟨.one,[.ptr b off]⟩=>if x.cs.length=ti.size then
     match takeG O (mvStore base b off ti.size) (σ.epoch,i) x.cs σ with
     | (q1,q2)=>match q2.boxes[b]? with
      | some (some cs0)=>if off+ti.size<=cs0.length then ret (q2.setBox b (splice cs0 off q1)) else none
      | _=>none
    else none
   | ⟨.one,[.eptr r c g n off]⟩=>if x.cs.length=ti.size then
     match freezeG O x.cs σ with
     | none=>none
     | some (y1,y2)=>match y2.at? r c g with
      | none=>none
      | some (q1,q2)=>need (O.one q2 n q1) (if off+ti.size<=q1 then
       match (if off=0/\q1=y1.length then y1 else splice (O.get q2 n) off y1) with
       | z=>ret (y2.setCell r c (.ow g q1 (O.set q2 n z))) else none)
    else none
   | _=>none
def buildCellsG (σ:AS) (fs:List (Nat×TypeId)):List A->List (Nat×Operand)->Option (List A)
 | cs,[]=>some cs
 | cs,p::rest=>match fs[p.1]? with
  | some f=>match ts f.2 with
   | some tf=>match evG O σ p.2 with
    | some av=>if av.cs.length=tf.size/\f.1+tf.size<=cs.length then
      match av.sh with
      | .one | .agg=>buildCellsG σ fs (splice cs f.1 av.cs) rest
      | _=>none
     else none
    | none=>none
   | none=>none
  | none=>none
def buildG (σ:AS) (t:TypeId) (parts:Array (Nat×Operand)):Option AV:=
 match ts t with
 | some ti=>match ti.zero.mapM constCell with
  | some z=>match ti.tk with
   | .struct fs=>match fs.all (fun f=>(ts f.2).isSome) with
    | true=>match buildCellsG O ts σ fs z parts.toList with
     | some cs=>some ⟨.agg,cs⟩
     | none=>none
    | false=>none
   | _=>none
  | none=>none
 | none=>none
def partCellsG (σ:AS) (k:Nat):List (Nat×Operand)->Nat->Option (List A)
 | [],_=>some []
 | p::rest,j=>match evG O σ p.2 with
  | some av=>if p.1=j/\av.cs.length=k then
    match av.sh with
    | .one | .agg=>match partCellsG σ k rest (j+1) with
     | some cs=>some (av.cs++cs)
     | none=>none
    | _=>none
   else none
  | none=>none
def buildSliceG (i:Nat) (σ:AS) (t:TypeId) (len:Nat) (parts:Array (Nat×Operand)):Option (AV×AS):=
 match ts t with
 | some ti=>match ti.tk with
  | .slice e=>match ts e with
   | some te=>match partCellsG O σ te.size parts.toList 0 with
    | some cs=>if parts.size=len/\len * te.size<=16777216 then
      match freezeG O cs σ with
      | some (q1,q2)=>some (⟨.one,[.ow (σ.epoch,i) te.size (chunks te.size len q1)]⟩,q2)
      | none=>none
     else none
    | none=>none
   | none=>none
  | _=>none
 | none=>none
def srcG (σ:AS) (tx:TypeId) (size:Nat) (x:AV):M (List (List T)):=
 bindO (ts tx) fun ti=>match ti.tk,x with
  | .slice _,⟨.one,[c]⟩=>bindO (elsG O σ c) fun xs=>need (O.all xs size) (match isLent c with
   | true=>need (O.lits xs) (ret xs)
   | false=>ret xs)
  | .str,⟨.one,[.lit (.string s)]⟩=>if size=1 then ret (O.bytes s) else none
  | _,_=>none
def baseG (σ:AS) (size:Nat):A->Option (List (List T)×AS)
 | .nil=>some ([],σ)
 | .sref r c g lo len=>match σ.at? r c g with
  | some (k,els)=>if k=size then some (O.seg lo len els,σ.setCell r c .dead) else none
  | none=>none
 | _=>none
def appendG (i:Nat) (σ:AS) (args:Array Operand) (argTypes:Array TypeId):M (AV×AS):=
 match args.toList,argTypes.toList with
 | [s,x],[t,tx]=>bindO (ts t) fun ti=>match ti.tk with
  | .slice e=>bindO (ts e) fun te=>bind2 (evG O σ s) (evG O σ x) fun s x=>match s with
   | ⟨.one,[c]⟩=>bindM (srcG O ts σ tx te.size x) fun xs=>match baseG O σ te.size c with
     | some (b1,b2)=>need (O.aOk te.bytes b1 xs) (ret (⟨.one,[.ow (σ.epoch,i) te.size (O.app b1 xs)]⟩,b2))
     | none=>none
   | _=>none
  | _=>none
 | _,_=>none
def makeG (i:Nat) (σ:AS) (t:TypeId) (l c:Operand):M (AV×AS):=
 bindO (ts t) fun ti=>match ti.tk with
 | .slice e=>bindO (ts e) fun te=>bind2 (evG O σ l) (evG O σ c) fun l c=>match l.lit?,c.lit? with
  | some (.int _ l),some (.int _ c)=>need (O.mOk te.bytes l c) (if 0 < te.size then
    bindO (zeroTs te.zero) fun zs=>ret (⟨.one,[.ow (σ.epoch,i) te.size (O.repl (O.nat l) zs)]⟩,σ) else none)
  | _,_=>none
 | _=>none
def textG (σ:AS) (s d:TypeId) (x:Operand):M AV:=
 bindO (evG O σ x) fun x=>match x with
 | ⟨.one,[c]⟩=>bind2 (ts s) (ts d) fun t1 t2=>match t1.tk,t2.tk with
  | .slice e,.str=>bindO (ts e) fun te=>match te.tk with
   | .int .u8=>bindO (elsG O σ c) fun els=>need (O.isB els) (ret (litG (.string (O.text els))))
   | _=>none
  | _,_=>none
 | _=>none
def orM {α:Type} (x y:M α):M α:=match x with
 | some v=>some v
 | none=>y
def keep {α:Type} (σ:AS) (x:M α):M (α×AS):=match x with
 | some (ps,v)=>some (ps,(v,σ))
 | none=>none
def effG (base i:Nat) (dst:Option Tmp) (σ:AS) (op:Op):M (AV×AS):=match op with
 | .assign x=>bindO (assignG O i dst σ x) ret
 | .box _ x=>bindO (boxG O base i σ x) ret
 | .alloc t=>bindO (allocG ts σ t) ret
 | .store t p x=>bindM (storeG O ts base i σ t p x) fun s=>ret (⟨.any,[]⟩,s)
 | .build t parts=>keep σ (bindO (buildG O ts σ t parts) ret)
 | .buildSlice t len parts=>bindO (buildSliceG O ts i σ t len parts) ret
 | .call ⟨.builtin .append,args,argTypes⟩=>appendG O ts i σ args argTypes
 | .makeSlice t l c=>makeG O ts i σ t l c
 | .convert s d x=>keep σ (orM (opG O ts σ (.convert s d x)) (textG O ts σ s d x))
 | op=>keep σ (opG O ts σ op)
def evAllG (σ:AS):List Operand->Option (List AV)
 | []=>some []
 | x::xs=>match evG O σ x with
  | some av=>match av.sh with
   | .any=>none
   | _=>match evAllG σ xs with
    | some q=>some (av::q)
    | none=>none
  | none=>none
def callPreG (h:Hint) (i:Nat) (σ:AS) (fop:Operand) (args:List Operand):Option (FuncId×List AV×List (Option (List A))×AS):=
 match evG O σ fop with
 | some ⟨.one,[.fn f caps]⟩=>match evAllG O σ args with
  | some avs=>match avs++capAVs caps with
   | all=>match takeG O h.mv (σ.epoch,i) (all.flatMap (·.cs)) σ with
    | (c1,s1)=>match shareG O h.sh c1 s1 with
     | (c2,s2)=>match maskBoxes h.ids s2 with
      | some (m1,m2)=>match m1.all (·.all fun c=>c.rstamp.isNone) with
       | true=>match lendG O m2 c2 with
        | some cs=>match renAll h.ids cs,renAlls h.ids m1 with
         | some cs,some pcs=>some (f,splitAV all (cs.map A.reset),pcs.map (fun c=>some (c.map A.reset)),m2)
         | _,_=>none
        | none=>none
       | false=>none
      | none=>none
  | none=>none
 | _=>none
def resShapeG (av:AV):M (Bool×Nat×List A):=match av.sh with
 | .one=>ret (false,av.cs.length,av.cs)
 | .agg=>ret (true,av.cs.length,av.cs)
 | _=>none
def resAtG (σ:AS):ResultVar->M AV
 | .tmp t=>bindO (evG O σ (.tmp t)) ret
 | .cell t ty=>bindO (evG O σ (.tmp t)) fun x=>match x with
  | ⟨.one,[c]⟩=>loadG O ts σ ty c
  | _=>none
def resOneG (σ:AS) (r:ResultVar):M (Bool×Nat×List A):=bindM (resAtG O ts σ r) resShapeG
def resManyG (σ:AS):List ResultVar->M (List (Bool×Nat)×List A)
 | []=>ret ([],[])
 | r::rest=>bindM (resOneG O ts σ r) fun r=>bindM (resManyG σ rest) fun q=>ret ((r.1,r.2.1)::q.1,r.2.2++q.2)
def shOf:Bool->Sh
 | true=>.agg
 | false=>.one
def resAllG (σ:AS) (rs:List ResultVar):M AV:=match rs with
 | [r]=>bindM (resOneG O ts σ r) fun r=>ret ⟨shOf r.1,r.2.2⟩
 | rs=>bindM (resManyG O ts σ rs) fun q=>ret ⟨.tup q.1,q.2⟩
def resG (base:Nat) (rs:List ResultVar) (σ:AS):M (AV×List (Option (List A))):=
 bindM (resAllG O ts σ rs) fun av=>match takeG O (mvAll base) (σ.epoch,0) av.cs σ with
  | r=>if r.1.all (goes (resNb base r)) && decide (base<=resNb base r) then ret (⟨av.sh,r.1.map A.reset⟩,(r.2.boxes.take (resNb base r)).map (leaveBox (resNb base r))) else none
end Go.Gv
/- Avs, part 34: over the primitives as they are, the evaluator is the old one. -/
namespace Go.Gv
open Go.Av
def Sd {α:Type} (m:M α) (o:Option α):Prop:=∀ps a,m=some (ps,a)->(∀p∈ps,p)->o=some a
theorem mem_cat {p:Prop}:∀{ps qs:List Prop},p∈cat ps qs↔p∈ps\/p∈qs
 | [],qs=>by simp[cat]
 | x::ps,qs=>by simp[cat,mem_cat (ps:=ps),or_assoc]
section
variable {α β γ:Type}
theorem Sd.ret {x:α}:Sd (ret x) (some x):=by
 intro ps a h _;simp[Gv.ret] at h;rw[h.2]
theorem Sd.none {o:Option α}:Sd none o:=by intro ps a h;simp at h
theorem Sd.need {p:Prop} {x:M α} {o:Option α} (h:p->Sd x o):Sd (need p x) o:=by
 intro ps a hx hp;cases x with
 | none=>simp[Gv.need] at hx
 | some v=>
  simp only[Gv.need,Option.some.injEq,Prod.mk.injEq] at hx;obtain ⟨rfl,rfl⟩:=hx;exact h (hp p (List.mem_cons_self)) v.1 v.2 rfl fun q hq=>hp q (List.mem_cons_of_mem _ hq)
theorem Sd.bindM {x:M α} {f:α->M β} {o:Option α} {g:α->Option β} (h:Sd x o) (hf:∀a,Sd (f a) (g a)):Sd (bindM x f) (o.bind g):=by
 intro ps b hx hp;cases x with
 | none=>simp[Gv.bindM] at hx
 | some v=>
  simp only[Gv.bindM] at hx;cases hv:f v.2 with
  | none=>simp[hv] at hx
  | some q=>
   simp only[hv,Option.some.injEq,Prod.mk.injEq] at hx;obtain ⟨rfl,rfl⟩:=hx;rw[h v.1 v.2 rfl fun p h'=>hp p (mem_cat.2 (.inl h'))];exact hf v.2 q.1 q.2 hv fun p h'=>hp p (mem_cat.2 (.inr h'))
theorem Sd.bindO {x:Option α} {f:α->M β} {g:α->Option β} (hf:∀a,Sd (f a) (g a)):Sd (bindO x f) (x.bind g):=by
 cases x with
 | none=>exact Sd.none
 | some a=>exact hf a
theorem Sd.bind2 {x:Option α} {y:Option β} {f:α->β->M γ} {g:α->β->Option γ} (hf:∀a b,Sd (f a b) (g a b)):Sd (bind2 x y f) (opt2 x y g):=by
 cases x<;>cases y<;>first | exact Sd.none | exact hf _ _
theorem Sd.map {x:M α} {f:α->β} {o:Option α} (h:Sd x o):Sd (Gv.bindM x fun a=>Gv.ret (f a)) (o.map f):=by
 rw[show o.map f=o.bind (fun a=>some (f a)) by cases o<;>rfl]
 exact h.bindM fun a=>Sd.ret
theorem Sd.of_eq {x:Option α} {o:Option α} (h:x=o):Sd (Gv.bindO x Gv.ret) o:=by
 subst h;cases x<;>first | exact Sd.none | exact Sd.ret
end
variable {P:Program} {ts:Nat->Option TI} (hts:∀n ti,ts n=some ti->tyOf P n=some ti)
theorem Sd.ty {β:Type} {n:Nat} {f:TI->M β} {g:TI->Option β} (hts:∀n ti,ts n=some ti->tyOf P n=some ti) (hf:∀a,Sd (f a) (g a)):Sd (Gv.bindO (ts n) f) ((tyOf P n).bind g):=by
 cases h:ts n with
 | none=>exact Sd.none
 | some ti=>rw[hts n ti h];exact hf ti
theorem viewG_eq (r:Root):∀(j:Nat) (cs:List A),viewG .std r j cs=viewFrom r j cs
 | _,[]=>rfl
 | j,c::cs=>by cases c<;>simp only[viewG,viewFrom,viewG_eq r (j+1) cs]<;>rfl
theorem evG_eq (σ:AS) (x:Operand):evG .std σ x=σ.ev x:=by
 cases x with
 | tmp t=>simp only[evG,AS.ev];cases σ.slots[t]?<;>simp[AV.view,viewG_eq]
 | _=>rfl
section
include hts
theorem binG_sd (op:BinOp) (t:TypeId) (x y:Value):Sd (binG .std ts op t x y) (binLit P op t x y):=by
 cases x<;>cases y<;>try exact Sd.none
 ·rename_i a b
  cases op<;>try exact Sd.none
  all_goals
   simp only[binG,binLit];cases h:ts t with
   | none=>exact Sd.none
   | some ti=>
    rw[hts t ti h];obtain ⟨tk,s,b,z,e⟩:=ti;cases tk<;>first | exact Sd.none | exact Sd.ret
 ·rename_i k a k' b
  cases op<;>try exact Sd.none
  all_goals simp only[binG,binLit]
  all_goals first
   | (refine Sd.need fun (h:0<=b)=>?_;rw[if_pos h];exact Sd.ret)
   | (split;(first | exact Sd.ret|(rename_i hk;refine Sd.need fun (h:b≠0)=>?_;rw[if_pos ⟨hk,h⟩];exact Sd.ret));(exact Sd.none))
   | skip
 ·rename_i a b
  cases op<;>try exact Sd.none
  all_goals simp only[binG,binLit]
  all_goals first
   | exact Sd.ret
   | (refine Sd.need fun (h:a.size+b.size<=9223372036854775807)=>?_;rw[if_pos h];exact Sd.ret)
theorem convG_sd (s d:TypeId) (x:Value):Sd (convG .std ts s d x) (convLit P s d x):=by
 cases x<;>try exact Sd.none
 all_goals
  simp only[convG,convLit];cases h1:ts s<;>cases h2:ts d<;>try exact Sd.none
  ·rename_i ti;obtain ⟨tk,_,_,_,_⟩:=ti;cases tk<;>exact Sd.none
  ·rename_i t1 t2
   rw[hts _ _ h1,hts _ _ h2];obtain ⟨tk1,_,_,_,_⟩:=t1;obtain ⟨tk2,_,_,_,_⟩:=t2;cases tk1<;>cases tk2<;>first | exact Sd.none | exact Sd.ret
end
theorem unG_sd (op:UnOp) (x:Value):Sd (unG .std op x) (unLit op x):=by
 cases x<;>try exact Sd.none
 all_goals cases op<;>first | exact Sd.none | exact Sd.ret
theorem elsG_eq (σ:AS) (c:A):elsG .std σ c=σ.els c:=by
 cases c<;>try rfl
 simp only[elsG,AS.els]
 split<;>rename_i h<;>rw[h]<;>rfl
theorem slenG_eq (σ:AS) (c:A):slenG .std σ c=σ.slen c:=by
 cases c<;>try rfl
 simp only[slenG,AS.slen]
 split<;>rename_i h<;>rw[h]<;>rfl
theorem boundG_sd (n:Nat) (hi:Bool) (x:Option AV):Sd (boundG .std n hi x) (bound n hi x):=by
 cases x with
 | none=>cases hi<;>exact Sd.ret
 | some av=>
  simp only[boundG,bound]
  split
  ·rename_i k i hl
   refine Sd.need fun (h:0<=i/\i<=n)=>?_;simp only[hl,if_pos h];exact Sd.ret
  ·exact Sd.none
theorem rowG_sd (σ:AS) (c:A):Sd (rowG .std σ c) (σ.row c):=by
 cases c<;>try exact Sd.none
 ·rename_i b off
  simp only[rowG,AS.row]
  split
  ·rename_i cs h;rw[h];simp only[viewG_eq];exact Sd.ret
  ·exact Sd.none
 ·rename_i r c g i off
  simp only[rowG,AS.row]
  split
  ·rename_i k els h
   refine Sd.need fun (h2:0<=(i:Int)/\(i:Int) < els.length)=>?_;have h3:i < els.length:=by omega
   rw[h];simp only[Option.bind_some,List.getElem?_eq_getElem h3,Option.map_some];rw[show Ops.std.get els i=els[i] by simp[Ops.std,h3]]
   exact Sd.ret
  ·exact Sd.none
 ·exact Sd.ret
section
include hts
theorem loadG_sd (σ:AS) (t:TypeId) (c:A):Sd (loadG .std ts σ t c) (aLoad P σ t c):=by
 unfold loadG aLoad;cases h:ts t with
 | none=>exact Sd.none
 | some ti=>
  rw[hts t ti h];have:=Sd.bindM (rowG_sd σ c) (f:=fun cs=>bindO (rowAV ti (cs.take ti.size)) ret) (g:=fun cs=>rowAV ti (cs.take ti.size)) (fun cs=>Sd.of_eq rfl);cases hr:σ.row c with
  | none=>rw[hr] at this;exact this
  | some cs=>rw[hr] at this;exact this
theorem fieldG_sd (σ:AS) (s:TypeId) (c:A) (f:Nat):Sd (fieldG ts σ s c f) (aField P σ s c f):=by
 unfold fieldG aField;refine Sd.ty hts fun ti=>?_;obtain ⟨tk,_,_,_,_⟩:=ti;cases tk<;>try exact Sd.none
 refine Sd.bindO fun x=>Sd.ty hts fun tf=>?_
 split
 ·exact Sd.none
 ·cases c<;>try first | exact Sd.none | exact Sd.ret
  simp only
  split
  ·rename_i h;rw[if_pos (by rw[h];rfl)];exact Sd.ret
  ·exact Sd.none
theorem partG_sd (t:TypeId) (cs:List A) (off:Nat):Sd (partG ts t cs off) (aPart P t cs off):=by
 unfold partG aPart;exact Sd.ty hts fun ti=>Sd.of_eq rfl
theorem indexAddrG_sd (σ:AS) (t:TypeId) (c:A) (i:Int):Sd (indexAddrG .std ts σ t c i) (aIndexAddr P σ t c i):=by
 unfold indexAddrG aIndexAddr;refine Sd.ty hts fun ti=>?_;obtain ⟨tk,_,_,_,_⟩:=ti;cases tk<;>try exact Sd.none
 ·refine Sd.ty hts fun te=>?_
  cases c<;>try exact Sd.none
  ·rename_i st els
   refine Sd.need fun (h1:0<=i/\i < els.length)=>Sd.need fun h2=>?_;simp only[if_pos (show 0<=i/\i < els.length/\∀x∈els,x.length=te.size from ⟨h1.1,h1.2,h2⟩)]
   have h3:i.toNat < els.length:=by omega
   rw[List.getElem?_eq_getElem h3,Option.map_some,show Ops.std.get els (Ops.std.nat i)=els[i.toNat] by simp[Ops.std,h3]]
   exact Sd.ret
  ·rename_i r c g lo len
   simp only
   split
   ·rename_i p h
    rw[h]
    split
    ·rename_i hk
     refine Sd.need fun (h1:0<=i/\i < len)=>?_;simp only[Option.bind_some,if_pos (show p.1=te.size/\0<=i/\i < len from ⟨hk,h1⟩)]
     exact Sd.ret
    ·exact Sd.none
   ·exact Sd.none
 ·rename_i n e
  refine Sd.ty hts fun te=>?_;cases c<;>try exact Sd.none
  refine Sd.need fun (h1:0<=i/\i < n)=>?_;simp only[if_pos h1];exact Sd.ret
theorem sliceG_sd (σ:AS) (t:TypeId) (x:AV) (lo hi mx:Option AV):Sd (sliceG .std ts σ t x lo hi mx) (aSlice P σ t x lo hi mx):=by
 have two:∀{β:Type} {n:Nat} {f:Nat->Nat->M β} {g:Nat->Nat->Option β},(∀l h,Sd (f l h) (g l h))->
   Sd (bindM (boundG .std n false lo) fun l=>bindM (boundG .std n true hi) fun h=>f l h) (opt2 (bound n false lo) (bound n true hi) g):=by
  intro β n f g hf;have:=Sd.bindM (boundG_sd n false lo) (f:=fun l=>bindM (boundG .std n true hi) fun h=>f l h) (g:=fun l=>(bound n true hi).bind fun h=>g l h) fun l=>Sd.bindM (boundG_sd n true hi) fun h=>hf l h;cases h1:bound n false lo<;>cases h2:bound n true hi<;>simp only[h1,h2] at this<;>exact this
 unfold sliceG aSlice;refine Sd.ty hts fun ti=>?_;obtain ⟨tk,_,_,_,_⟩:=ti;cases tk<;>try exact Sd.none
 ·obtain ⟨sh,cs⟩:=x
  cases sh<;>try exact Sd.none
  match cs with
  | []=>exact Sd.none
  | a::b::l=>cases a<;>first | exact Sd.none|(rename_i v;cases v<;>exact Sd.none)
  | [c]=>
   cases c<;>try exact Sd.none
   rename_i v;cases v<;>try exact Sd.none
   cases mx with
   | some m=>exact Sd.none
   | none=>
    refine two fun l h=>Sd.need fun (hl:l<=h)=>?_;rw[if_pos hl];exact Sd.ret
 ·rename_i e
  obtain ⟨sh,cs⟩:=x;cases sh<;>try exact Sd.none
  match cs with
  | []=>exact Sd.none
  | _::_::_=>exact Sd.none
  | [c]=>
   refine Sd.ty hts fun te=>?_;rw[<-slenG_eq];refine Sd.bindO fun n=>?_;cases mx with
   | some m=>exact Sd.none
   | none=>
    refine two fun l h=>Sd.need fun (hl:l<=h)=>?_;rw[if_pos hl];cases c<;>try first | exact Sd.none | exact Sd.ret
    ·refine Sd.need fun hk=>?_
     simp only[if_pos (show ∀x∈_,_ from hk)]
     exact Sd.ret
    ·simp only
     split
     ·rename_i p hp
      rw[hp];simp only[Option.bind_some]
      split<;>first | exact Sd.none | exact Sd.ret
     ·exact Sd.none
end
end Go.Gv
/- Avs, part 35: the same, for what reads. -/
namespace Go.Gv
open Go.Av
variable {P:Program} {ts:Nat->Option TI}
theorem Sd.ty2 {β γ:Type} {y:Option β} {n:Nat} {f:β->TI->M γ} {g:β->TI->Option γ} (hts:∀n ti,ts n=some ti->tyOf P n=some ti) (hf:∀a b,Sd (f a b) (g a b)):Sd (Gv.bind2 y (ts n) f) (opt2 y (tyOf P n) g):=by
 cases h:ts n with
 | none=>cases y<;>exact Sd.none
 | some ti=>rw[hts n ti h];exact Sd.bind2 hf
theorem mapM_ev (σ:AS) (x:Option Operand):optEv .std σ x=x.mapM σ.ev:=by
 cases x with
 | none=>rfl
 | some o=>simp only[optEv,evG_eq];cases h:σ.ev o<;>simp[Option.mapM,h]
theorem Sd.bindO2 {α β:Type} {x y:Option α} {f:α->M β} {g:α->Option β} (h:∀a,x=some a->y=some a) (hf:∀a,Sd (f a) (g a)):Sd (Gv.bindO x f) (y.bind g):=by
 cases x with
 | none=>exact Sd.none
 | some a=>rw[h a rfl];exact hf a
theorem eqFsG_ok (hts:∀n ti,ts n=some ti->tyOf P n=some ti) {f g:TypeId->List A->List A->Option Bool} (hf:∀t xs ys r,f t xs ys=some r->g t xs ys=some r) (xs ys:List A) :
  ∀(ff:List (Nat×TypeId)) (r:Bool),eqFsG .std ts f xs ys ff=some r->aEqFs g (fun u=>(tyOf P u).map (·.size)) xs ys ff=some r
 | [],r,h=>h
 | p::rest,r,h=>by
  simp only[eqFsG] at h;cases ht:ts p.2 with
  | none=>rw[ht] at h;simp at h
  | some ti=>
   rw[ht] at h;simp only[aEqFs,hts _ _ ht,Option.map_some,Option.bind_some];cases rest with
   | nil=>exact hf _ _ _ _ h
   | cons q rest=>
    simp only at h
    split at h
    ·simp at h
    ·rename_i a ha
     split at h
     ·simp at h
     ·rename_i b hb
      rw[hf _ _ _ _ ha,eqFsG_ok hts hf xs ys (q::rest) b hb];exact h
theorem eqAtG_ok (hts:∀n ti,ts n=some ti->tyOf P n=some ti):∀(d:Nat) (t:TypeId) (xs ys:List A) (r:Bool),eqAtG .std ts d t xs ys=some r->aEqAt P d t xs ys=some r
 | 0,t,xs,ys,r,h=>by simp[eqAtG] at h
 | d+1,t,xs,ys,r,h=>by
  simp only[eqAtG] at h;cases ht:ts t with
  | none=>rw[ht] at h;simp at h
  | some ti=>
   rw[ht] at h;simp only[aEqAt,hts _ _ ht,Option.bind_some];simp only at h
   split at h
   ·rename_i hl
    rw[if_pos hl]
    split at h
    ·rename_i fs hk
     simp only[hk]
     split at h
     ·rename_i he
      rw[if_pos he];exact eqFsG_ok hts (eqAtG_ok hts d) xs ys fs r h
     ·simp at h
    ·rename_i hk;simp only[hk];exact h
    ·rename_i hk;simp only[hk];exact h
    ·rename_i hk;simp only[hk];exact h
    ·simp at h
   ·simp at h
theorem opG_sd (hts:∀n ti,ts n=some ti->tyOf P n=some ti) (σ:AS) (op:Op):Sd (opG .std ts σ op) (aopPure P σ op):=by
 cases op<;>try exact Sd.none
 case move x=>exact Sd.of_eq (evG_eq σ x)
 case pick c x y=>
  simp only[opG,aopPure,evG_eq];refine Sd.bindO fun c=>?_;cases hl:c.lit? with
  | none=>exact Sd.none
  | some v=>cases v<;>first | exact Sd.none|(rename_i b;cases b<;>exact Sd.of_eq rfl)
 case binOp op t x y u=>
  simp only[opG,aopPure,evG_eq];refine Sd.bind2 fun x y=>?_;obtain ⟨sx,cx⟩:=x;obtain ⟨sy,cy⟩:=y;have key:∀x y:AV,Sd (Gv.bind2 x.lit? y.lit? fun x y=>Gv.bindM (binG .std ts op t x y) fun v=>Gv.ret (litG v)) (opt2 x.lit? y.lit? fun x y=>(binLit P op t x y).map fun v=>one (.lit v)):=
   fun x y=>Sd.bind2 fun x y=>Sd.map (binG_sd hts op t x y)
  cases sx<;>cases sy<;>first | exact key _ _ | skip
  show Sd (Gv.bindO (ts t) fun ti=>if ti.agg=true then Gv.bindO (eqAtG .std ts 6 t cx cy) fun r=>Gv.bindO (eqResG .std op r) Gv.ret else none)
   ((tyOf P t).bind fun ti=>if ti.agg=true then (aEqAt P 6 t cx cy).bind fun r=>aEqRes op r else none)
  refine Sd.ty hts fun ti=>?_;cases ti.agg with
  | false=>exact Sd.none
  | true=>
   refine Sd.bindO2 (fun r=>eqAtG_ok hts 6 t cx cy r) fun r=>Sd.of_eq ?_;cases op<;>rfl
 case unOp op t x=>
  simp only[opG,aopPure,evG_eq];exact Sd.bindO fun x=>Sd.bindO fun x=>Sd.map (unG_sd op x)
 case convert s d x=>
  simp only[opG,aopPure,evG_eq];exact Sd.bindO fun x=>Sd.bindO fun x=>Sd.map (convG_sd hts s d x)
 case nilCheck x=>
  simp only[opG,aopPure,evG_eq];refine Sd.bindO fun x=>?_
  split
  ·rename_i c
   cases c<;>try first | exact Sd.none | exact Sd.ret
   simp only
   split
   ·rename_i h;rw[if_pos (by rw[h];rfl)];exact Sd.ret
   ·exact Sd.none
  ·exact Sd.none
 case fieldAddr s x f=>
  simp only[opG,aopPure,evG_eq];refine Sd.bindO fun x=>?_
  split
  ·exact Sd.map (fieldG_sd hts σ s _ f)
  ·exact Sd.none
 case load t x=>
  simp only[opG,aopPure,evG_eq];refine Sd.bindO fun x=>?_
  split
  ·exact loadG_sd hts σ t _
  ·exact Sd.none
 case field s x f=>
  simp only[opG,aopPure,evG_eq];refine Sd.bindO fun x=>?_
  split
  ·rename_i h;simp only[h]
   refine Sd.ty hts fun ti=>?_
   split
   ·rename_i h;simp only[h]
    exact Sd.bindO fun y=>partG_sd hts _ _ _
   ·exact Sd.none
  ·exact Sd.none
 case indexAddr t x i=>
  simp only[opG,aopPure,evG_eq];refine Sd.bind2 fun x i=>?_
  split
  ·rename_i h;simp only[h]
   exact Sd.map (indexAddrG_sd hts σ t _ _)
  ·exact Sd.none
 case index t x i=>
  simp only[opG,aopPure,evG_eq];refine Sd.bind2 fun x i=>?_
  split
  ·rename_i s k n h1 h2
   simp only[h1,h2];refine Sd.ty hts fun ti=>?_
   split
   ·refine Sd.need fun (h:0<=n/\n < s.size)=>?_
    rename_i hk;simp only[hk,if_pos h];exact Sd.ret
   ·exact Sd.none
  ·exact Sd.none
 case slice t x lo hi mx=>
  simp only[opG,aopPure,evG_eq σ x,mapM_ev];refine Sd.bindO fun x=>?_
  split
  ·rename_i h1 h2 h3;simp only[h1,h2,h3]
   exact Sd.map (sliceG_sd hts σ t x _ _ _)
  ·exact Sd.none
 case extract x j=>
  simp only[opG,aopPure,evG_eq];refine Sd.bindO fun x=>?_
  split
  ·rename_i ns hns
   simp only[hns];refine Sd.bindO fun s=>?_;cases hs:s.1 with
   | true=>simp only[if_true];exact Sd.ret
   | false=>
    simp only[Bool.false_eq_true,if_false];have:∀y:Option A,Sd (bindO y fun c=>ret (⟨.one,[c]⟩:AV)) (y.map one):=fun y=>by cases y<;>first | exact Sd.none | exact Sd.ret
    exact this _
  ·exact Sd.none
 case makeFunc c first captured=>
  cases c<;>try exact Sd.none
  simp only[opG,aopPure,evG_eq]
  split
  ·have:∀(f:FuncId) (y:Option (List (Nat×Nat))),Sd (bindO y fun c=>ret (⟨.one,[.fn f c]⟩:AV)) (y.map fun cs=>one (.fn f cs)):=fun f y=>by cases y<;>first | exact Sd.none | exact Sd.ret
   exact this _ _
  ·exact Sd.none
 case call c=>
  obtain ⟨callee,args,argTypes⟩:=c;cases callee<;>try exact Sd.none
  rename_i bi;cases bi<;>try exact Sd.none
  ·simp only[opG,aopPure,evG_eq]
   refine Sd.bindO fun x=>Sd.bindO fun t=>Sd.ty2 hts fun x ti=>?_;obtain ⟨tk,_,_,_,_⟩:=ti
   split
   ·rename_i s h;simp only at h;subst h;exact Sd.ret
   ·rename_i e c h;simp only at h;subst h
    simp only[<-slenG_eq];have:∀y:Option Nat,Sd (bindO y fun n=>ret (litG (.int .i64 (Int.ofNat n)))) (y.map fun (n:Nat)=>one (.lit (.int .i64 (n:Int)))):=fun y=>by cases y<;>first | exact Sd.none | exact Sd.ret
    exact this _
   ·rename_i n e h;simp only at h;subst h;exact Sd.ret
   ·exact Sd.none
  ·simp only[opG,aopPure,evG_eq]
   split
   ·rename_i x y h
    simp only[h];refine Sd.bind2 fun x y=>?_
    split
    ·rename_i h1 h2;simp only[h1,h2];exact Sd.ret
    ·exact Sd.none
   ·exact Sd.none
  ·simp only[opG,aopPure,evG_eq]
   split
   ·rename_i x y h
    simp only[h];refine Sd.bind2 fun x y=>?_
    split
    ·rename_i h1 h2;simp only[h1,h2];exact Sd.ret
    ·exact Sd.none
   ·exact Sd.none
end Go.Gv
/- Avs, part 36: the same, for what moves. -/
namespace Go.Gv
open Go.Av
variable {P:Program} {ts:Nat->Option TI}
theorem takeG_eq (mv:Root->Nat->Bool) (g:Stamp):∀(cs:List A) (σ:AS),takeG .std mv g cs σ=tkC mv g cs σ
 | [],σ=>rfl
 | c::cs,σ=>by
  cases c<;>simp only[takeG,tkC,takeG_eq mv g cs]
  split
  ·rename_i h;rw[if_pos h];split<;>rename_i h2<;>simp only[h2]<;>rfl
  ·rename_i h;rw[if_neg (by simp[h])]
theorem shareG_eq (sh:Root->Nat->Bool):∀(cs:List A) (σ:AS),shareG .std sh cs σ=shC sh cs σ
 | [],σ=>rfl
 | c::cs,σ=>by
  cases c<;>simp only[shareG,shC,shareG_eq sh cs]
  split
  ·rename_i h;rw[if_pos h];split<;>rename_i h2<;>simp only[h2]<;>rfl
  ·rename_i h;rw[if_neg (by simp[h])]
theorem lendG_eq (σ:AS):∀(cs:List A),lendG .std σ cs=lendCells σ cs
 | []=>rfl
 | c::cs=>by
  have e:∀(y:Option (List A)) (d:A),(match y with | some q=>some (d::q) | none=>none)=y.map fun q=>d::q:=fun y d=>by cases y<;>rfl
  cases c<;>simp only[lendG,lendCells,lendG_eq σ cs]<;>try exact e _ _
  split<;>rename_i h2<;>simp only[h2]<;>first | exact e _ _ | rfl
theorem freezeG_eq:∀(cs:List A) (σ:AS),freezeG .std cs σ=fzC cs σ
 | [],σ=>rfl
 | c::cs,σ=>by
  have e:∀(y:Option (List T×AS)) (d:T),(match y with | some (q1,q2)=>some (d::q1,q2) | none=>none)=y.map fun r=>(d::r.1,r.2):=fun y d=>by cases y<;>rfl
  cases c<;>try rfl
  ·simp only[freezeG,fzC,freezeG_eq cs];exact e _ _
  ·simp only[freezeG,fzC,freezeG_eq cs];exact e _ _
  ·rename_i st els
   cases st
   ·rfl
   ·simp only[freezeG,fzC,freezeG_eq cs];exact e _ _
  ·simp only[freezeG,fzC,freezeG_eq cs]
   split<;>rename_i h2<;>simp only[h2]<;>first | exact e _ _ | rfl
theorem assignG_eq (i:Nat) (dst:Option Tmp) (σ:AS) (x:Operand):assignG .std i dst σ x=aAssign i dst σ x:=by
 cases x<;>simp only[assignG,aAssign,evG_eq,takeG_eq]<;>(cases σ.ev _<;>rfl)
theorem boxG_eq (base i:Nat) (σ:AS) (x:Operand):boxG .std base i σ x=aBox base i σ x:=by
 simp only[boxG,aBox,evG_eq,takeG_eq];cases σ.ev x with
 | none=>rfl
 | some av=>simp only[Option.bind_some];split<;>rename_i h<;>simp only[h]<;>rfl
theorem allocG_ok (hts:∀n ti,ts n=some ti->tyOf P n=some ti) {σ:AS} {t:TypeId} {r:AV×AS} (h:allocG ts σ t=some r):aAlloc P σ t=some r:=by
 unfold allocG at h
 split at h<;>try (simp at h;done)
 rename_i ti hti
 split at h<;>try (simp at h;done)
 rename_i cs hcs;simp only[aAlloc,hts _ _ hti,Option.bind_some,hcs,Option.map_some];exact h
theorem of_fun {α:Type} {x o:Option α} (h:∀r,x=some r->o=some r):Sd (bindO x ret) o:=by
 cases x with
 | none=>exact Sd.none
 | some a=>rw[h a rfl];exact Sd.ret
theorem storeG_sd (hts:∀n ti,ts n=some ti->tyOf P n=some ti) (base i:Nat) (σ:AS) (t:TypeId) (p x:Operand):Sd (storeG .std ts base i σ t p x) (aStore P base i σ t p x):=by
 simp only[storeG,aStore,evG_eq];refine Sd.ty hts fun ti=>Sd.bind2 fun p x=>?_;obtain ⟨sh,cs⟩:=x;obtain ⟨psh,pcs⟩:=p;have ptrCase:∀b off,Sd (if cs.length=ti.size then
     match takeG .std (mvStore base b off ti.size) (σ.epoch,i) cs σ with
     | (q1,q2)=>match q2.boxes[b]? with
      | some (some cs0)=>if off+ti.size<=cs0.length then ret (q2.setBox b (splice cs0 off q1)) else none
      | _=>none
    else none) (if cs.length=ti.size then
    let r:=tkC (mvStore base b off ti.size) (σ.epoch,i) cs σ
    ((r.2.boxes[b]?).bind fun o=>o.bind fun cs0=>if off+ti.size<=cs0.length then some (r.2.setBox b (splice cs0 off r.1)) else none)
   else none):=by
  intro b off;rw[takeG_eq]
  split
  ·simp only
   split
   ·rename_i h
    rw[h];simp only[Option.bind_some]
    split
    ·exact Sd.ret
    ·exact Sd.none
   ·exact Sd.none
  ·exact Sd.none
 have eCase:∀r c g n off,Sd (if cs.length=ti.size then
     match freezeG .std cs σ with
     | none=>none
     | some (y1,y2)=>match y2.at? r c g with
      | none=>none
      | some (q1,q2)=>need (Ops.std.one q2 n q1) (if off+ti.size<=q1 then
       match (if off=0/\q1=y1.length then y1 else splice (Ops.std.get q2 n) off y1) with
       | z=>ret (y2.setCell r c (.ow g q1 (Ops.std.set q2 n z))) else none)
    else none) (if cs.length=ti.size then
    (fzC cs σ).bind fun y=>(y.2.at? r c g).bind fun q=>(q.2[n]?).bind fun e=>
     if off+ti.size<=q.1 then some (y.2.setCell r c (.ow g q.1 (q.2.set n (splice e off y.1)))) else none
   else none):=by
  intro r c g n off;rw[freezeG_eq]
  split
  ·split
   ·exact Sd.none
   ·rename_i y1 y2 hy
    rw[hy];simp only[Option.bind_some]
    split
    ·exact Sd.none
    ·rename_i q1 q2 hq
     rw[hq];simp only[Option.bind_some];refine Sd.need fun h=>?_;obtain ⟨h1,h2⟩:n < q2.length/\(q2.getD n []).length=q1:=h;rw[List.getElem?_eq_getElem h1];simp only[Option.bind_some]
     split
     ·have e1:Ops.std.get q2 n=q2[n]:=by simp[Ops.std,h1]
      have e2:(if off=0/\q1=y1.length then y1 else splice (Ops.std.get q2 n) off y1)=splice q2[n] off y1:=by
       rw[e1]
       split
       ·rename_i hh
        obtain ⟨rfl,hq⟩:=hh;have:q2[n].length=y1.length:=by rw[<-hq,<-h2];simp[h1]
        simp[splice,<-this]
       ·rfl
      rw[e2];exact Sd.ret
     ·exact Sd.none
  ·exact Sd.none
 cases psh<;>try (cases sh<;>exact Sd.none)
 match pcs with
 | []=>cases sh<;>exact Sd.none
 | a::b::l=>cases sh<;>cases a<;>exact Sd.none
 | [c]=>
  cases c<;>try (cases sh<;>exact Sd.none)
  ·cases sh<;>first | exact Sd.none | exact ptrCase _ _
  ·cases sh<;>first | exact Sd.none | exact eCase _ _ _ _ _
theorem buildCellsG_ok (hts:∀n ti,ts n=some ti->tyOf P n=some ti) {σ:AS} {fs:List (Nat×TypeId)}:∀{parts:List (Nat×Operand)} {cs r:List A},buildCellsG .std ts σ fs cs parts=some r->buildCells P σ fs cs parts=some r
 | [],cs,r,h=>h
 | p::rest,cs,r,h=>by
  obtain ⟨j,x⟩:=p;simp only[buildCellsG,evG_eq] at h
  split at h<;>try (simp at h;done)
  rename_i f hf
  split at h<;>try (simp at h;done)
  rename_i tf htf
  split at h<;>try (simp at h;done)
  rename_i av hav;simp only[buildCells,hf,hts _ _ htf,hav,Option.bind_some]
  split at h<;>try (simp at h;done)
  rename_i hc;rw[if_pos hc]
  split at h<;>try (simp at h;done)
  ·rename_i hs;simp only[hs];exact buildCellsG_ok hts h
  ·rename_i hs;simp only[hs];exact buildCellsG_ok hts h
theorem buildG_ok (hts:∀n ti,ts n=some ti->tyOf P n=some ti) {σ:AS} {t:TypeId} {parts:Array (Nat×Operand)} {r:AV} (h:buildG .std ts σ t parts=some r):aBuild P σ t parts=some r:=by
 unfold buildG at h
 split at h<;>try (simp at h;done)
 rename_i ti hti
 split at h<;>try (simp at h;done)
 rename_i z hz
 split at h<;>try (simp at h;done)
 rename_i fs hfs
 split at h<;>try (simp at h;done)
 rename_i ha
 split at h<;>try (simp at h;done)
 rename_i cs hcs;simp only[aBuild,hts _ _ hti,hz,hfs,Option.bind_some];rw[if_pos ?_,buildCellsG_ok hts hcs]
 ·exact h
 ·rw[List.all_eq_true] at ha |-
  intro f hf;have:=ha f hf;cases hq:ts f.2 with
  | none=>simp[hq] at this
  | some ti'=>simp[hts _ _ hq]
theorem partCellsG_eq (σ:AS) (k:Nat):∀(parts:List (Nat×Operand)) (j:Nat),partCellsG .std σ k parts j=partCells σ k parts j
 | [],_=>rfl
 | p::rest,j=>by
  obtain ⟨n,x⟩:=p;simp only[partCellsG,partCells,evG_eq,partCellsG_eq σ k rest];cases σ.ev x with
  | none=>rfl
  | some av=>
   simp only[Option.bind_some]
   split
   ·obtain ⟨sh,cs⟩:=av
    cases sh<;>simp only<;>first | rfl|(cases partCells σ k rest (j+1)<;>rfl)
   ·rfl
theorem buildSliceG_ok (hts:∀n ti,ts n=some ti->tyOf P n=some ti) {i:Nat} {σ:AS} {t:TypeId} {len:Nat} {parts:Array (Nat×Operand)} {r:AV×AS} (h:buildSliceG .std ts i σ t len parts=some r):aBuildSlice P i σ t len parts=some r:=by
 simp only[buildSliceG,partCellsG_eq,freezeG_eq] at h
 split at h<;>try (simp at h;done)
 rename_i ti hti
 split at h<;>try (simp at h;done)
 rename_i e he
 split at h<;>try (simp at h;done)
 rename_i te hte
 split at h<;>try (simp at h;done)
 rename_i cs hcs
 split at h<;>try (simp at h;done)
 rename_i hc
 split at h<;>try (simp at h;done)
 rename_i q1 q2 hq;simp only[aBuildSlice,hts _ _ hti,he,hts _ _ hte,hcs,Option.bind_some,if_pos hc,hq,Option.map_some];exact h
theorem srcG_sd (hts:∀n ti,ts n=some ti->tyOf P n=some ti) (σ:AS) (tx:TypeId) (size:Nat) (x:AV):Sd (srcG .std ts σ tx size x) (srcEls P σ tx size x):=by
 unfold srcG srcEls;refine Sd.ty hts fun ti=>?_;obtain ⟨tk,_,_,_,_⟩:=ti;obtain ⟨sh,cs⟩:=x;cases tk<;>try exact Sd.none
 ·cases sh<;>try exact Sd.none
  match cs with
  | []=>exact Sd.none
  | a::b::l=>cases a<;>first | exact Sd.none|(rename_i v;cases v<;>exact Sd.none)
  | [c]=>
   cases c<;>try exact Sd.none
   rename_i v;cases v<;>try exact Sd.none
   simp only
   split<;>first | exact Sd.ret | exact Sd.none
 ·cases sh<;>try exact Sd.none
  match cs with
  | []=>exact Sd.none
  | a::b::l=>exact Sd.none
  | [c]=>
   simp only[<-elsG_eq];refine Sd.bindO fun xs=>Sd.need fun (h:∀y∈xs,y.length=size)=>?_
   split
   ·rename_i hl
    refine Sd.need fun (h2:∀y∈xs,∀t∈y,isL t=true)=>?_;rw[if_pos ⟨h,fun _=>h2⟩];exact Sd.ret
   ·rename_i hl
    rw[if_pos ⟨h,fun hh=>by rw[hl] at hh;simp at hh⟩];exact Sd.ret
theorem baseG_eq (σ:AS) (size:Nat) (c:A):baseG .std σ size c=takeBase σ size c:=by
 cases c<;>try rfl
 simp only[baseG,takeBase]
 split<;>rename_i h<;>rw[h]<;>rfl
theorem appendG_sd (hts:∀n ti,ts n=some ti->tyOf P n=some ti) (i:Nat) (σ:AS) (args:Array Operand) (argTypes:Array TypeId):Sd (appendG .std ts i σ args argTypes) (aAppend P i σ args argTypes):=by
 unfold appendG aAppend
 split
 ·rename_i s x t tx h1 h2
  simp only[h1,h2,evG_eq];refine Sd.ty hts fun ti=>?_;obtain ⟨tk,_,_,_,_⟩:=ti;cases tk<;>try exact Sd.none
  refine Sd.ty hts fun te=>Sd.bind2 fun s x=>?_
  split
  ·rename_i c
   simp only[baseG_eq];have h1:=srcG_sd hts σ tx te.size x;have h2:=Sd.bindM h1 (f:=fun xs=>match takeBase σ te.size c with
     | some (b1,b2)=>need (Ops.std.aOk te.bytes b1 xs) (ret ((⟨.one,[.ow (σ.epoch,i) te.size (Ops.std.app b1 xs)]⟩:AV),b2))
     | none=>none)
    (g:=fun xs=>(takeBase σ te.size c).bind fun b=>if (b.1.length+xs.length) * te.bytes<=140737488355328/\b.1.length+xs.length<=9223372036854775807 then some (one (.ow (σ.epoch,i) te.size (b.1++xs)),b.2) else none)
    fun xs=>by
     cases takeBase σ te.size c with
     | none=>exact Sd.none
     | some b=>
      obtain ⟨b1,b2⟩:=b;refine Sd.need fun (h:(b1.length+xs.length) * te.bytes<=140737488355328/\b1.length+xs.length<=9223372036854775807)=>?_;simp only[Option.bind_some];rw[if_pos h];exact Sd.ret
   cases hs:srcEls P σ tx te.size x with
   | none=>rw[hs] at h2;exact h2
   | some xs=>
    rw[hs] at h2;cases hb:takeBase σ te.size c with
    | none=>rw[hb] at h2;exact h2
    | some b=>rw[hb] at h2;exact h2
  ·exact Sd.none
 ·exact Sd.none
theorem makeG_sd (hts:∀n ti,ts n=some ti->tyOf P n=some ti) (i:Nat) (σ:AS) (t:TypeId) (l c:Operand):Sd (makeG .std ts i σ t l c) (aMake P i σ t l c):=by
 unfold makeG aMake aMakeV;cases h:ts t with
 | none=>exact Sd.none
 | some ti=>
  rw[hts _ _ h];obtain ⟨tk,_,_,_,_⟩:=ti;cases tk<;>try exact Sd.none
  rename_i e;simp only[evG_eq]
  show Sd (bindO (ts e) _) _
  cases he:ts e with
  | none=>exact Sd.none
  | some te=>
   simp only[Option.bind_some,hts _ _ he]
   show Sd (bind2 _ _ _) _
   cases σ.ev l<;>cases σ.ev c<;>try exact Sd.none
   rename_i l c;simp only[opt2,bind2]
   split
   ·rename_i k1 l k2 c h1 h2
    refine Sd.need fun (hm:0<=l/\l<=c/\(te.bytes:Int) * c<=281474976710656/\c<=9223372036854775807)=>?_
    split
    ·rename_i hp
     simp only[h1,h2];rw[if_pos ⟨hm.1,hm.2.1,hm.2.2.1,hm.2.2.2,hp⟩];cases zeroTs te.zero<;>first | exact Sd.none | exact Sd.ret
    ·exact Sd.none
   ·exact Sd.none
theorem textG_sd (hts:∀n ti,ts n=some ti->tyOf P n=some ti) (σ:AS) (s d:TypeId) (x:Operand):Sd (textG .std ts σ s d x) (aText P σ s d x):=by
 simp only[textG,aText,evG_eq];refine Sd.bindO fun x=>?_
 split
 ·rename_i c
  have:∀{f:TI->TI->M AV} {g:TI->TI->Option AV},(∀a b,Sd (f a b) (g a b))->Sd (bind2 (ts s) (ts d) f) (opt2 (tyOf P s) (tyOf P d) g):=by
   intro f g hf;cases h1:ts s with
   | none=>exact Sd.none
   | some t1=>
    cases h2:ts d with
    | none=>exact Sd.none
    | some t2=>rw[hts _ _ h1,hts _ _ h2];exact hf _ _
  refine this fun t1 t2=>?_
  split
  ·rename_i e h1 h2
   simp only[h1,h2];refine Sd.ty hts fun te=>?_
   split
   ·rename_i h3
    simp only[h3,<-elsG_eq];refine Sd.bindO fun els=>Sd.need fun (h:(bytesOf els).isSome=true)=>?_;cases hb:bytesOf els with
    | none=>simp[hb] at h
    | some ns=>
     rw[show Ops.std.text els=textOf ns by simp[Ops.std,hb]]
     exact Sd.ret
   ·exact Sd.none
  ·exact Sd.none
 ·exact Sd.none
theorem keep_sd {α:Type} {σ:AS} {x:M α} {o:Option α} (h:Sd x o):Sd (keep σ x) (o.map fun v=>(v,σ)):=by
 intro ps r hx hp;cases x with
 | none=>simp[keep] at hx
 | some v=>
  simp only[keep,Option.some.injEq,Prod.mk.injEq] at hx;obtain ⟨rfl,rfl⟩:=hx;rw[h v.1 v.2 rfl hp];rfl
theorem effG_sd (hts:∀n ti,ts n=some ti->tyOf P n=some ti) (base i:Nat) (dst:Option Tmp) (σ:AS) (op:Op):Sd (effG .std ts base i dst σ op) (aEff P base i dst σ op):=by
 unfold effG
 split
 ·exact Sd.of_eq (assignG_eq i dst σ _)
 ·exact Sd.of_eq (boxG_eq base i σ _)
 ·exact of_fun fun r h=>allocG_ok hts h
 ·exact Sd.map (storeG_sd hts base i σ _ _ _)
 ·exact keep_sd (of_fun fun r h=>buildG_ok hts h)
 ·exact of_fun fun r h=>buildSliceG_ok hts h
 ·exact appendG_sd hts i σ _ _
 ·exact makeG_sd hts i σ _ _ _
 ·rename_i s d x
  refine keep_sd (o:=(aopPure P σ (.convert s d x)).or (aText P σ s d x)) ?_;have h1:=opG_sd hts σ (.convert s d x);have h2:=textG_sd hts σ s d x;intro ps a hx hp;cases hq:opG .std ts σ (.convert s d x) with
  | some v=>
   simp only[hq,orM,Option.some.injEq] at hx;subst hx;rw[h1 _ _ hq hp];rfl
  | none=>
   simp only[hq,orM] at hx;have h3:=h2 _ _ hx hp;cases hz:aopPure P σ (.convert s d x) with
   | none=>simpa using h3
   | some v=>
    exfalso;clear h1 h2 hp;simp only[textG,evG_eq] at hx;simp only[aopPure,Option.bind_eq_some_iff] at hz;obtain ⟨y,hy,z,hz,hz'⟩:=hz;rw[hy] at hx;obtain ⟨z',hz0,_⟩:=Option.map_eq_some_iff.1 hz';unfold AV.lit? at hz
    split at hz<;>try (simp at hz;done)
    simp only[bindO,bind2] at hx
    split at hx<;>try (simp at hx;done)
    split at hx<;>try (simp at hx;done)
    split at hx<;>try (simp at hx;done)
    split at hx<;>try (simp at hx;done)
    simp[elsG] at hx
 ·rename_i _ h1 h2 h3 h4 h5 h6 h7 h8 h9
  have e:aEff P base i dst σ op=(aopPure P σ op).map fun av=>(av,σ):=by
   unfold aEff
   split<;>first | rfl | exact absurd rfl (h1 _) | exact absurd rfl (h2 _ _) | exact absurd rfl (h3 _) | exact absurd rfl (h4 _ _ _) | exact absurd rfl (h5 _ _) | exact absurd rfl (h6 _ _ _) | exact absurd rfl (h7 _ _) | exact absurd rfl (h8 _ _ _) | exact absurd rfl (h9 _ _ _)
  rw[e];exact keep_sd (opG_sd hts σ op)
end Go.Gv
/- Avs, part 37: the same, for calls and results; regions. -/
namespace Go.Gv
open Go.Av
variable {P:Program} {ts:Nat->Option TI}
theorem evAllG_eq (σ:AS):∀xs:List Operand,evAllG .std σ xs=evAll σ xs
 | []=>rfl
 | x::xs=>by
  simp only[evAllG,evAll,evG_eq,evAllG_eq σ xs];cases σ.ev x with
  | none=>rfl
  | some av=>
   obtain ⟨sh,cs⟩:=av;cases sh<;>simp only[Option.bind_some]<;>first | rfl|(cases evAll σ xs<;>rfl)
theorem callPreG_eq (h:Hint) (i:Nat) (σ:AS) (fop:Operand) (args:List Operand):callPreG .std h i σ fop args=aCallPre h i σ fop args:=by
 simp only[callPreG,aCallPre,evG_eq,evAllG_eq,takeG_eq,shareG_eq,lendG_eq];cases σ.ev fop with
 | none=>rfl
 | some fv=>
  simp only[Option.bind_some]
  split
  ·rename_i f caps hq
   simp only[Option.some.injEq] at hq;subst hq;simp only;cases evAll σ args with
   | none=>rfl
   | some avs=>
    simp only[Option.bind_some];cases maskBoxes h.ids (shC h.sh (tkC h.mv (σ.epoch,i) ((avs++capAVs caps).flatMap (·.cs)) σ).1 (tkC h.mv (σ.epoch,i) ((avs++capAVs caps).flatMap (·.cs)) σ).2).2 with
    | none=>rfl
    | some q3=>
     simp only[Option.bind_some];cases hb:q3.1.all (·.all fun c=>c.rstamp.isNone) with
     | false=>rfl
     | true=>
      simp only[if_true];cases lendCells q3.2 (shC h.sh (tkC h.mv (σ.epoch,i) ((avs++capAVs caps).flatMap (·.cs)) σ).1 (tkC h.mv (σ.epoch,i) ((avs++capAVs caps).flatMap (·.cs)) σ).2).1 with
      | none=>rfl
      | some cs=>
       simp only[Option.bind_some];cases renAll h.ids cs with
       | none=>rfl
       | some cs'=>
        simp only[Option.bind_some];cases renAlls h.ids q3.1<;>rfl
  ·rename_i hne
   split
   ·rename_i f caps;exact absurd rfl (hne f caps)
   ·rfl
theorem resOneG_sd (hts:∀n ti,ts n=some ti->tyOf P n=some ti) (σ:AS) (r:ResultVar):Sd (resOneG .std ts σ r) (aResOne P σ r):=by
 unfold resOneG aResOne;refine Sd.bindM ?_ fun av=>?_
 ·cases r with
  | tmp t=>exact Sd.of_eq (evG_eq σ _)
  | cell t ty=>
   simp only[resAtG,aResAt,evG_eq];refine Sd.bindO fun x=>?_
   split
   ·exact loadG_sd hts σ ty _
   ·exact Sd.none
 ·obtain ⟨sh,cs⟩:=av
  cases sh<;>first | exact Sd.none | exact Sd.ret
theorem resManyG_sd (hts:∀n ti,ts n=some ti->tyOf P n=some ti) (σ:AS):∀rs:List ResultVar,Sd (resManyG .std ts σ rs) (aResMany P σ rs)
 | []=>Sd.ret
 | r::rest=>by
  simp only[resManyG,aResMany];exact Sd.bindM (resOneG_sd hts σ r) fun r=>Sd.map (resManyG_sd hts σ rest)
theorem resAllG_sd (hts:∀n ti,ts n=some ti->tyOf P n=some ti) (σ:AS) (rs:List ResultVar):Sd (resAllG .std ts σ rs) (aResAll P σ rs):=by
 unfold resAllG aResAll
 split
 ·rename_i r
  have e:∀r:Bool×Nat×List A,(⟨if r.1=true then .agg else .one,r.2.2⟩:AV)=⟨shOf r.1,r.2.2⟩:=fun r=>by cases r.1<;>rfl
  simp only[e];exact Sd.map (resOneG_sd hts σ r)
 ·rename_i hne
  split
  ·rename_i r;exact absurd rfl (hne r)
  ·exact Sd.map (resManyG_sd hts σ _)
theorem resG_sd (hts:∀n ti,ts n=some ti->tyOf P n=some ti) (base:Nat) (rs:List ResultVar) (σ:AS):Sd (resG .std ts base rs σ) (aRes P base rs σ):=by
 unfold resG aRes;refine Sd.bindM (resAllG_sd hts σ rs) fun av=>?_;rw[takeG_eq];simp only
 split
 ·exact Sd.ret
 ·exact Sd.none
structure GNeed (ps:List Prop) (X:Prop):Prop where
 all:∀p∈ps,p
 go:X
structure GFork (b:Bool) (x y:Unit->Prop):Prop where
 yes:b=true->x ()
 no:b=false->y ()
structure GCallD (P:Program) (f:FuncId) (cargs:List AV) (cbx:List (Option (List A))) (ids:List Nat) (i:Nat) (dst:Option Tmp) (σm:AS) (K:AS->Prop):Prop where
 go:∃R,enterable P f=true/\ACl P f cargs cbx R/\∀res bx,R res bx->K ((aCallPost ids i σm res bx).2.putO dst (aCallPost ids i σm res bx).1)
variable (O:Ops)
def gCallH (P:Program) (h:Hint) (i:Nat) (fop:Operand) (args:Array Operand) (dst:Option Tmp) (σ:AS) (K:AS->Prop):Prop:=
 match callPreG O h i σ fop args.toList with
 | some (f,cargs,cbx,σm)=>GCallD P f cargs cbx h.ids i dst σm K
 | none=>False
structure GCall (O:Ops) (P:Program) (i:Nat) (fop:Operand) (args:Array Operand) (dst:Option Tmp) (σ:AS) (K:AS->Prop):Prop where
 go:∃h,gCallH O P h i fop args dst σ K
def out (acc:List Prop) (X:Prop):Prop:=match acc with
 | []=>X
 | p::ps=>GNeed (p::ps) X
def gExec (ts:Nat->Option TI) (P:Program) (base i:Nat) (o:Oper) (acc:List Prop) (σ:AS) (K:List Prop->AS->Prop):Prop:=
 match o.op with
 | .call ⟨.value fop,args,_⟩=>out acc (GCall O P i fop args o.dst σ fun σ'=>K [] σ')
 | op=>match effG O ts base i o.dst σ op with
  | some (ps,r)=>K (cat acc ps) (r.2.putO o.dst r.1)
  | none=>False
def kfind:List (Nat×Bool)->Nat->Option Bool
 | [],_=>none
 | (k,b)::r,g=>if k=g then some b else kfind r g
def gStep (ts:Nat->Option TI) (P:Program) (base:Nat) (ops:Array Oper) (i:Nat) (acc:List Prop) (kn:List (Nat×Bool)) (σ:AS) (K:List Prop->List (Nat×Bool)->AS->Prop):Prop:=
 match ops[i]? with
 | none=>K acc kn σ
 | some o=>match o.guard with
  | none=>gExec O ts P base i o acc σ fun acc' σ'=>K acc' kn σ'
  | some (g,want)=>match ((ops[g]?).bind (·.dst)).bind (σ.slots[·]?) with
   | some ⟨.one,[.lit (.bool b)]⟩=>match kfind kn g with
    | none=>match want with
     | true=>out acc (GFork b (fun _=>gExec O ts P base i o [] (σ.known ops g true) fun acc' σ'=>K acc' ((g,true)::kn) σ') (fun _=>K [] ((g,false)::kn) ((σ.known ops g false).putO o.dst undefAV)))
     | false=>out acc (GFork b (fun _=>K [] ((g,true)::kn) ((σ.known ops g true).putO o.dst undefAV)) (fun _=>gExec O ts P base i o [] (σ.known ops g false) fun acc' σ'=>K acc' ((g,false)::kn) σ'))
    | some _=>match b with
     | true=>match want with
      | true=>gExec O ts P base i o acc σ fun acc' σ'=>K acc' kn σ'
      | false=>K acc kn (σ.putO o.dst undefAV)
     | false=>match want with
      | true=>K acc kn (σ.putO o.dst undefAV)
      | false=>gExec O ts P base i o acc σ fun acc' σ'=>K acc' kn σ'
   | some ⟨.tup [],[]⟩=>K acc kn (σ.putO o.dst undefAV)
   | _=>False
def fin (acc:List Prop) (K:AS->Prop) (s:List AV) (b:List (Option (List A))) (e:Nat):Prop:=out acc (K ⟨s,b,e⟩)
def gOps (ts:Nat->Option TI) (P:Program) (base:Nat) (ops:Array Oper):List Nat->List Prop->List (Nat×Bool)->AS->(AS->Prop)->Prop
 | [],acc,_,σ,K=>match σ with
  | ⟨s,b,e⟩=>fin acc K s b (e+1)
 | i::rest,acc,kn,σ,K=>gStep O ts P base ops i acc kn σ fun acc' kn' σ'=>gOps ts P base ops rest acc' kn' σ' K
theorem out_iff {acc:List Prop} {X:Prop}:out acc X↔(∀p∈acc,p)/\X:=by
 cases acc with
 | nil=>simp[out]
 | cons p ps=>exact ⟨fun h=>⟨h.all,h.go⟩,fun h=>⟨h.1,h.2⟩⟩
theorem cat_all {ps qs:List Prop}:(∀p∈cat ps qs,p)↔(∀p∈ps,p)/\∀p∈qs,p:=by
 constructor
 ·exact fun h=>⟨fun p hp=>h p (mem_cat.2 (.inl hp)),fun p hp=>h p (mem_cat.2 (.inr hp))⟩
 ·rintro ⟨h1,h2⟩ p hp
  rcases mem_cat.1 hp with hp | hp
  ·exact h1 p hp
  ·exact h2 p hp
theorem gExec_ok (hts:∀n ti,ts n=some ti->tyOf P n=some ti) {base i:Nat} {o:Oper} {acc:List Prop} {σ:AS} {K:List Prop->AS->Prop} {K':AS->Prop} (hK:∀acc σ,K acc σ->(∀p∈acc,p)/\K' σ) (h:gExec .std ts P base i o acc σ K):(∀p∈acc,p)/\aExec P base i o σ K':=by
 unfold gExec at h;unfold aExec
 split at h
 ·rename_i fop args at' hop
  simp only[hop];rw[out_iff] at h;refine ⟨h.1,?_⟩;obtain ⟨hh,h2⟩:=h.2.go;refine ⟨hh,?_⟩;unfold gCallH at h2;unfold aCallH;rw[<-callPreG_eq]
  split at h2
  ·rename_i f cargs cbx σm hpre
   simp only[hpre];obtain ⟨R,g1,g2,g3⟩:=h2.go;exact ⟨R,g1,g2,fun res bx hR=>(hK _ _ (g3 res bx hR)).2⟩
  ·exact h2.elim
 ·rename_i op hne
  split at h
  ·rename_i ps r hr
   obtain ⟨h1,h2⟩:=hK _ _ h;rw[cat_all] at h1;have:=effG_sd hts base i o.dst σ o.op ps r hr h1.2;refine ⟨h1.1,?_⟩
   split
   ·rename_i fop args at' hop;exact absurd hop (hne fop args at')
   ·rename_i op' hne';rw[this];exact h2
  ·exact h.elim
theorem known_same {ops:Array Oper} {g:Nat} {σ:AS} {b:Bool} (h:((ops[g]?).bind (·.dst)).bind (σ.slots[·]?)=some ⟨.one,[.lit (.bool b)]⟩):σ.known ops g b=σ:=AS.known_eq h
theorem gStep_ok (hts:∀n ti,ts n=some ti->tyOf P n=some ti) {base i:Nat} {ops:Array Oper} {acc:List Prop} {kn:List (Nat×Bool)} {σ:AS} {K:List Prop->List (Nat×Bool)->AS->Prop} {K':AS->Prop} (hK:∀acc kn σ,K acc kn σ->(∀p∈acc,p)/\K' σ) (h:gStep .std ts P base ops i acc kn σ K):(∀p∈acc,p)/\aStep P base ops i σ K':=by
 unfold gStep at h;unfold aStep
 split at h
 ·rename_i ho;simp only[ho];exact hK _ _ _ h
 ·rename_i o ho
  simp only[ho]
  split at h
  ·rename_i hg;simp only[hg];exact gExec_ok hts (fun acc σ=>hK acc _ σ) h
  ·rename_i g want hg
   simp only[hg]
   split at h
   ·rename_i b hb
    simp only[hb]
    split at h
    ·cases want with
     | true=>
      simp only[out_iff] at h;refine ⟨h.1,?_⟩;have h2:=h.2;exact ⟨fun hb=>(gExec_ok hts (fun acc σ=>hK acc _ σ) (h2.yes (by simpa using hb))).2,fun hb=>(hK _ _ _ (h2.no (by simpa using hb))).2⟩
     | false=>
      simp only[out_iff] at h;refine ⟨h.1,?_⟩;have h2:=h.2;exact ⟨fun hb=>(gExec_ok hts (fun acc σ=>hK acc _ σ) (h2.no (by simpa using hb))).2,fun hb=>(hK _ _ _ (h2.yes (by simpa using hb))).2⟩
    ·cases b<;>cases want<;>simp only at h
     ·have:=gExec_ok hts (fun acc σ=>hK acc _ σ) h
      rw[known_same hb];exact ⟨this.1,fun _=>this.2,fun hb=>by simp at hb⟩
     ·have:=hK _ _ _ h
      refine ⟨this.1,fun hb=>by simp at hb,fun _=>?_⟩
      rw[show (!true)=false from rfl,known_same hb];exact this.2
     ·have:=hK _ _ _ h
      refine ⟨this.1,fun hb=>by simp at hb,fun _=>?_⟩
      rw[show (!false)=true from rfl,known_same hb];exact this.2
     ·have:=gExec_ok hts (fun acc σ=>hK acc _ σ) h
      rw[known_same hb];exact ⟨this.1,fun _=>this.2,fun hb=>by simp at hb⟩
   ·rename_i hb
    simp only[hb];exact hK _ _ _ h
   ·exact h.elim
theorem gOps_ok (hts:∀n ti,ts n=some ti->tyOf P n=some ti) {base:Nat} {ops:Array Oper} {K:AS->Prop}:∀{is:List Nat} {acc:List Prop} {kn:List (Nat×Bool)} {σ:AS},gOps .std ts P base ops is acc kn σ K->(∀p∈acc,p)/\aOps P base ops is σ fun σ'=>K σ'.next
 | [],acc,kn,σ,h=>by
  simp only[gOps,fin,out_iff] at h;exact h
 | i::rest,acc,kn,σ,h=>gStep_ok hts (fun acc kn σ h=>gOps_ok hts h) h
end Go.Gv
/- Avs, part 38: code, over the primitives that are variables. -/
namespace Go.Gv
open Go.Av
def GWp (O:Ops) (ts:Nat->Option TI) (P:Program) (C:Ctx) (c:Code) (σ:AS) (Q:Exit->AS->Prop):Prop:=
 O=Ops.std->(∀n ti,ts n=some ti->tyOf P n=some ti)->AWp P C c σ Q
variable {O:Ops} {ts:Nat->Option TI} {P:Program} {C:Ctx} {σ:AS} {Q:Exit->AS->Prop}
theorem GWp.seq {x y:Code} (h:GWp O ts P C x σ (thenA (fun σ'=>GWp O ts P C y σ' Q) Q)):GWp O ts P C (.seq x y) σ Q:=fun hO ht=>
 AWp.seq ((h hO ht).mono fun e σ' hq=>by cases e<;>first | exact hq hO ht | exact hq)
theorem GWp.skip (h:Q .normal σ):GWp O ts P C .skip σ Q:=fun _ _=>AWp.skip h
theorem GWp.ret (h:Q .ret σ):GWp O ts P C .ret σ Q:=fun _ _=>AWp.ret h
theorem GWp.exit {id:Nat} (h:Q (.exit id) σ):GWp O ts P C (.exit id) σ Q:=fun _ _=>AWp.exit h
theorem GWp.region {base id:Nat} {ops:Array Oper} (h:∀K:AS->Prop,(∀σ',Q .normal σ'->K σ')->gOps O ts P base ops (List.range ops.size) [] [] σ K):GWp O ts P C (.region id ops false) σ Q:=by
 intro hO ht;subst hO;exact AWp.region (gOps_ok ht (h (fun σ'=>Q .normal σ') fun _ h=>h)).2
theorem GWp.cond {c:Operand} {x y:Code} {b:Bool} (hc:σ.ev c=some ⟨.one,[.lit (.bool b)]⟩) (h1:b=true->GWp O ts P C x σ Q) (h2:b=false->GWp O ts P C y σ Q):GWp O ts P C (.cond c x y) σ Q:=fun hO ht=>
 AWp.cond hc (fun hb=>h1 hb hO ht) fun hb=>h2 hb hO ht
theorem GWp.block {id:Nat} {c:Code} (h:GWp O ts P C c σ (inBlockA id Q)):GWp O ts P C (.block id c) σ Q:=fun hO ht=>AWp.block (h hO ht)
theorem GWp.mono {c:Code} {Q':Exit->AS->Prop} (h:GWp O ts P C c σ Q) (hq:∀e σ,Q e σ->Q' e σ):GWp O ts P C c σ Q':=fun hO ht=>(h hO ht).mono hq
theorem GWp.loop {nb:Nat} {keep:Nat->Bool} {kk:Root->Nat->Option Nat} {c:Code} (I:Nat->AS->Prop) (hC:C.bl0.length<=nb) (h0:wkThen nb keep kk σ fun σ'=>∃n,I n σ')
  (round:∀n σ,I n σ->GWp O ts P C c σ (thenA (fun σ'=>wkThen nb keep kk σ' fun σ''=>∃m,m < n/\I m σ'') Q)):GWp O ts P C (.loop c) σ Q:=fun hO ht=>
 AWp.loopW I hC h0 fun n σ hI=>round n σ hI hO ht
theorem GCall.by (h:Hint) {i:Nat} {fop:Operand} {args:Array Operand} {dst:Option Tmp} {K:AS->Prop} (hx:gCallH O P h i fop args dst σ K):GCall O P i fop args dst σ K:=⟨⟨h,hx⟩⟩
theorem GCallD.by {P0:Program} (hP:P=P0) {f:FuncId} {cargs:List AV} {cbx:List (Option (List A))} {ids:List Nat} {i:Nat} {dst:Option Tmp} {σm:AS} {K:AS->Prop} {R:AV->List (Option (List A))->Prop} (he:enterable P0 f=true) (hc:ACl P0 f cargs cbx R)
  (hK:∀res bx,R res bx->K ((aCallPost ids i σm res bx).2.putO dst (aCallPost ids i σm res bx).1)):GCallD P f cargs cbx ids i dst σm K:=by
 subst hP;exact ⟨⟨R,he,hc,hK⟩⟩
def gFin (O:Ops) (ts:Nat->Option TI) (base:Nat) (rs:List ResultVar) (R:AV->List (Option (List A))->Prop) (σ:AS):Prop:=match resG O ts base rs σ with
 | some (ps,(⟨sh,cs⟩,bx))=>out ps (R ⟨sh,cs⟩ bx)
 | none=>False
def gPost (O:Ops) (ts:Nat->Option TI) (base:Nat) (rs:List ResultVar) (R:AV->List (Option (List A))->Prop):Exit->AS->Prop
 | .normal,σ | .ret,σ=>gFin O ts base rs R σ
 | _,_=>False
theorem gFin_ok (ht:∀n ti,ts n=some ti->tyOf P n=some ti) {base:Nat} {rs:List ResultVar} {R:AV->List (Option (List A))->Prop} (h:gFin .std ts base rs R σ):∃r,aRes P base rs σ=some r/\R r.1 r.2:=by
 unfold gFin at h
 split at h
 ·rename_i ps sh cs bx hr
  rw[out_iff] at h;exact ⟨_,resG_sd ht base rs σ _ _ hr h.1,h.2⟩
 ·exact h.elim
theorem gcalls_by {P0:Program} (ht:∀n ti,ts n=some ti->tyOf P0 n=some ti) {f:FuncId} {fn:Func} {c:Code} {args:List AV} {bx:List (Option (List A))} {R:AV->List (Option (List A))->Prop} (n:Nat) (rs:List ResultVar) (hf:P0.funcs[f]?=some fn) (hb:fn.body=some c)
  (hn:fn.ntmps=n) (hrs:fn.results.toList=rs) (hA:∀av∈args,stampFree av.cs) (hB:∀cs,some cs∈bx->stampFree cs)
  (h:∀O,O=Ops.std->∀P,P=P0->∀C,C.bl0.length=bx.length->∀R':AV->List (Option (List A))->Prop,(∀res bx',R res bx'->R' res bx')->GWp O ts P C c (startAS args n bx) (gPost O ts bx.length rs R')):ACl P0 f args bx R:=by
 refine acalls_of hf hb hA hB fun C hC=>?_;subst hn;subst hrs;refine (h Ops.std rfl P0 rfl C hC R (fun _ _ h=>h) rfl ht).mono ?_;intro e σ' hq;cases e with
 | normal=>
  obtain ⟨r,h1,h2⟩:=gFin_ok ht (P:=P0) hq;simp only[aPost,h1];exact h2
 | ret=>
  obtain ⟨r,h1,h2⟩:=gFin_ok ht (P:=P0) hq;simp only[aPost,h1];exact h2
 | _=>exact hq.elim
end Go.Gv
