/- Part A2 of the proof: Avs, part 8: the operations that turn nothing but the slot that they write. / Avs, part 9: more operations that turn nothing but the slot that they write. / Avs, part 9b: operators of two operands values of several cells are compared part by part. / Avs, part 10: the last of the operations that turn nothing but the slot that they write. / Avs, part 11: closures, len, min, max all pure operations together. / Avs, part 12: stores boxes written and made. / Avs, part 13: what is ones own is taken al -/
import Derived.Test.YtfobhlmjcnkpiaaGreatDoorA1
import Derived.Laws.CopyRow
set_option linter.all false
/- Avs, part 8: the operations that turn nothing but the slot that they write. -/
namespace Go.Av
def AS.an? (σ:AS) (r:Root) (c:Nat) (g:yA0):Option (Nat×List (List T)):=
 match σ.cell r c with
 | some (.ow g' _ k els)=>if g'=g then some (k,els) else none
 | _=>none
theorem AS.an?_some {σ:AS} {r:Root} {c:Nat} {g:yA0} {k:Nat} {els:List (List T)} (h:σ.an? r c g=some (k,els)):∃d,σ.cell r c=some (.ow g d k els):=by
 unfold AS.an? at h
 split at h
 ·split at h
  ·rename_i d _ _ _ he;subst he;simp at h;obtain ⟨rfl,rfl⟩:=h;exact ⟨_,by assumption⟩
  ·simp at h
 ·simp at h
def AS.ad? (σ:AS) (r:Root) (c:Nat) (g:yA0):Option (Bool×Nat×List (List T)):=
 match σ.cell r c with
 | some (.ow g' d k els)=>if g'=g then some (d,k,els) else none
 | _=>none
theorem AS.ad?_some {σ:AS} {r:Root} {c:Nat} {g:yA0} {d:Bool} {k:Nat} {els:List (List T)} (h:σ.ad? r c g=some (d,k,els)):σ.cell r c=some (.ow g d k els):=by
 unfold AS.ad? at h
 split at h
 ·split at h
  ·rename_i he;subst he;simp at h;obtain ⟨rfl,rfl,rfl⟩:=h;assumption
  ·simp at h
 ·simp at h
def AS.at? (σ:AS) (r:Root) (c:Nat) (g:yA0):Option (Nat×List (List T)):=
 match σ.cell r c with
 | some (.ow g' false k els)=>if g'=g then some (k,els) else none
 | _=>none
theorem AS.at?_some {σ:AS} {r:Root} {c:Nat} {g:yA0} {k:Nat} {els:List (List T)} (h:σ.at? r c g=some (k,els)):σ.cell r c=some (.ow g false k els):=by
 unfold AS.at? at h
 split at h
 ·split at h
  ·rename_i he;subst he;simp at h;obtain ⟨rfl,rfl⟩:=h;assumption
  ·simp at h
 ·simp at h
def AS.els (σ:AS):A->Option (List (List T))
 | .nil=>some []
 | .ro _ els=>some els
 | .sref r c g lo len=>(σ.at? r c g).map fun p=>(p.2.drop lo).take len
 | _=>none
def AS.slen (σ:AS):A->Option Nat
 | .nil=>some 0
 | .ro _ els=>some els.length
 | .sref _ _ _ _ len=>some len
 | _=>none
def bound (n:Nat) (hi:Bool):Option AV->Option Nat
 | none=>some (if hi then n else 0)
 | some av=>match av.lit? with
  | some (.int _ i)=>if 0<=i/\i<=n then some i.toNat else none
  | _=>none
def vB0 (s:ByteArray) (i:Nat):UInt8:=(s[i]?).getD 0
def all3 {α:Type}:List (Option α)->Option (List α)
 | []=>some []
 | none::_=>none
 | some x::xs=>(all3 xs).map (x::·)
def capOf:A->Option (Nat×Nat)
 | .ptr b off=>some (b,off)
 | _=>none
def MH0:AV->Option (Nat×Nat)
 | ⟨.one,[c]⟩=>capOf c
 | _=>none
def opt2 {α β γ:Type} (x:Option α) (y:Option β) (f:α->β->Option γ):Option γ:=match x,y with | some a,some b=>f a b | _,_=>none
variable (P:Program) (σ:AS)
def AS.row:A->Option (List A)
 | .ptr b off=>(σ.boxes[b]?).bind fun o=>o.map fun cs=>(yB0 (.box b) 0 cs).drop off
 | .eptr r c g i off=>(σ.an? r c g).bind fun p=>(p.2[i]?).map fun e=>(e.drop off).map (tA true)
 | .rptr st cells=>some (cells.map (tA st))
 | _=>none
def YE0 (t:TypeId) (c:A):Option AV:=
 opt2 (tyOf P t) (σ.row c) fun ti cs=>
  tJ0 ti (cs.take ti.size)
def gH0 (s:TypeId) (c:A) (f:Nat):Option A:=
 (tyOf P s).bind fun ti=>match ti.tk with
  | .struct fs=>(fs[f]?).bind fun x=>(tyOf P x.2).bind fun tf=>if tf.size=0 then none else
   match c with
   | .ptr b off=>some (.ptr b (off+x.1))
   | .eptr r c g i off=>if (σ.an? r c g).isSome then some (.eptr r c g i (off+x.1)) else none
   | .rptr st cells=>some (.rptr st (cells.drop x.1))
   | _=>none
  | _=>none
def wY1 (t:TypeId) (cs:List A) (off:Nat):Option AV:=
 (tyOf P t).bind fun ti=>tJ0 ti ((cs.drop off).take ti.size)
def wL0 (t:TypeId) (c:A) (i:Int):Option A:=
 (tyOf P t).bind fun ti=>match ti.tk with
  | .slice e=>(tyOf P e).bind fun te=>match c with
   | .ro st els=>if 0<=i/\i < els.length/\∀x∈els,x.length=te.size then (els[i.toNat]?).map (.rptr st ·) else none
   | .sref r c g lo len=>(σ.an? r c g).bind fun p=>if p.1=te.size/\0<=i/\i < len then some (.eptr r c g (lo+i.toNat) 0) else none
   | .bsl b k len=>if k=te.size/\0<=i/\i < len then some (.ptr b (i.toNat * te.size)) else none
   | _=>none
  | .array n e=>(tyOf P e).bind fun te=>match c with
   | .ptr b off=>if 0<=i/\i < n then some (.ptr b (off+i.toNat * te.size)) else none
   | _=>none
  | _=>none
def gE0 (t:TypeId) (x:AV) (lo hi mx:Option AV):Option A:=
 (tyOf P t).bind fun ti=>match ti.tk,x with
  | .str,⟨.one,[.lit (.string s)]⟩=>match mx with
   | none=>opt2 (bound s.size false lo) (bound s.size true hi) fun l h=>if l<=h then some (.lit (.string (s.extract l h))) else none
   | some _=>none
  | .slice e,⟨.one,[c]⟩=>(tyOf P e).bind fun te=>(σ.slen c).bind fun n=>match mx with
   | none=>opt2 (bound n false lo) (bound n true hi) fun l h=>if l<=h then (match c with
     | .nil=>some .nil
     | .ro st els=>if ∀x∈els,x.length=te.size then some (.ro st ((els.drop l).take (h - l))) else none
     | .sref r c g lo' _=>(σ.an? r c g).bind fun p=>if p.1=te.size then some (.sref r c g (lo' + l) (h - l)) else none
     | _=>none) else none
   | some m=>opt2 (opt2 (bound n false lo) (bound n true hi) fun l h=>some (l,h)) (bound n true (some m)) fun lh m=>if lh.1=lh.2/\lh.2=m/\hi.isSome=true then some .nil else none
  | _,_=>none
def TZ0 (f:TypeId->List A->List A->Option Bool) (sz:TypeId->Option Nat) (xs ys:List A):List (Nat×TypeId)->Option Bool
 | []=>some true
 | p::rest=>(sz p.2).bind fun n=>match rest with
  | []=>f p.2 ((xs.drop p.1).take n) ((ys.drop p.1).take n)
  | _::_=>opt2 (f p.2 ((xs.drop p.1).take n) ((ys.drop p.1).take n)) (TZ0 f sz xs ys rest) fun a b=>some (a && b)
def kA0 (P:Program):Nat->TypeId->List A->List A->Option Bool
 | 0,_,_,_=>none
 | d+1,t,xs,ys=>(tyOf P t).bind fun ti=>if xs.length=ti.size/\ys.length=ti.size then
   match ti.tk with
   | .struct fs=>if ti.eq=true then TZ0 (kA0 P d) (fun u=>(tyOf P u).map (·.size)) xs ys fs else none
   | .bool=>match xs,ys with
    | [.lit (.bool a)],[.lit (.bool b)]=>some (a == b)
    | _,_=>none
   | .int _=>match xs,ys with
    | [.lit (.int k a)],[.lit (.int k' b)]=>if k=k' then some (a == b) else none
    | _,_=>none
   | .str=>match xs,ys with
    | [.lit (.string a)],[.lit (.string b)]=>some (a.toList == b.toList)
    | _,_=>none
   | _=>none
  else none
def zJ1 (op:BinOp) (r:Bool):Option AV:=match op with
 | .eql=>some (one (.lit (.bool r)))
 | .neq=>some (one (.lit (.bool !r)))
 | _=>none
def zA0:Op->Option AV
 | .move x=>σ.ev x
 | .pick c x y=>(σ.ev c).bind fun c=>match c.lit? with
  | some (.bool b)=>if b=true then σ.ev x else σ.ev y
  | _=>none
 | .binOp op t x y _=>opt2 (σ.ev x) (σ.ev y) fun x y=>match x.sh,y.sh with
  | .agg,.agg=>(tyOf P t).bind fun ti=>if ti.agg=true then (kA0 P 6 t x.cs y.cs).bind fun r=>zJ1 op r else none
  | _,_=>opt2 x.lit? y.lit? fun x y=>(wR0 P op t x y).map fun v=>one (.lit v)
 | .unOp op _ x=>(σ.ev x).bind fun x=>x.lit?.bind fun x=>(KX0 op x).map fun v=>one (.lit v)
 | .convert s d x=>(σ.ev x).bind fun x=>x.lit?.bind fun x=>(qA0 P s d x).map fun v=>one (.lit v)
 | .nilCheck x=>(σ.ev x).bind fun x=>match x with
  | ⟨.one,[c]⟩=>match c with
   | .ptr _ _ | .rptr _ _ | .fn _ _=>some x
   | .eptr r k g _ _=>if (σ.an? r k g).isSome then some x else none
   | _=>none
  | _=>none
 | .fieldAddr s x f=>(σ.ev x).bind fun x=>match x with
  | ⟨.one,[c]⟩=>(gH0 P σ s c f).map one
  | _=>none
 | .load t x=>(σ.ev x).bind fun x=>match x with
  | ⟨.one,[c]⟩=>YE0 P σ t c
  | _=>none
 | .field s x f=>(σ.ev x).bind fun x=>match x.sh with
  | .agg=>(tyOf P s).bind fun ti=>match ti.tk with
   | .struct fs=>(fs[f]?).bind fun y=>wY1 P y.2 x.cs y.1
   | _=>none
  | _=>none
 | .indexAddr t x i=>opt2 (σ.ev x) (σ.ev i) fun x i=>match x,i.lit? with
  | ⟨.one,[c]⟩,some (.int _ n)=>(wL0 P σ t c n).map one
  | _,_=>none
 | .index t x i=>opt2 (σ.ev x) (σ.ev i) fun x i=>match x.lit?,i.lit? with
  | some (.string s),some (.int _ n)=>(tyOf P t).bind fun ti=>match ti.tk with
   | .str=>if 0<=n/\n < s.size then some (one (.lit (.int .u8 (vB0 s n.toNat).toNat))) else none
   | _=>none
  | _,_=>none
 | .slice t x lo hi mx=>(σ.ev x).bind fun x=>
   match lo.mapM σ.ev,hi.mapM σ.ev,mx.mapM σ.ev with
   | some lo,some hi,some mx=>(gE0 P σ t x lo hi mx).map one
   | _,_,_=>none
 | .extract x j=>(σ.ev x).bind fun x=>match x.sh with
  | .tup ns=>(ns[j]?).bind fun s=>
    if s.1 then some ⟨.agg,(x.cs.drop ((ns.take j).map (·.2)).sum).take s.2⟩ else (x.cs[((ns.take j).map (·.2)).sum]?).map one
  | _=>none
 | .makeFunc (.func f) first captured=>if first.size=0 then
   (all3 (captured.toList.map fun x=>(σ.ev x).bind MH0)).map fun cs=>one (.fn f cs)
  else none
 | .call { callee:=.builtin .len,args,argTypes }=>(args[0]?).bind fun x=>(argTypes[0]?).bind fun t=>opt2 (σ.ev x) (tyOf P t) fun x ti=>match ti.tk,x with
  | .str,⟨.one,[.lit (.string s)]⟩=>some (one (.lit (.int .i64 s.size)))
  | .slice _,⟨.one,[c]⟩=>(σ.slen c).map fun (n:Nat)=>one (.lit (.int .i64 (n:Int)))
  | .array n _,_=>some (one (.lit (.int .i64 n)))
  | _,_=>none
 | .call { callee:=.builtin .min,args,.. }=>match args.toList with
  | [x,y]=>opt2 (σ.ev x) (σ.ev y) fun x y=>match x.lit?,y.lit? with
   | some (.int k x),some (.int _ y)=>some (one (.lit (.int k (if y < x then y else x))))
   | _,_=>none
  | _=>none
 | .call { callee:=.builtin .max,args,.. }=>match args.toList with
  | [x,y]=>opt2 (σ.ev x) (σ.ev y) fun x y=>match x.lit?,y.lit? with
   | some (.int k x),some (.int _ y)=>some (one (.lit (.int k (if y > x then y else x))))
   | _,_=>none
  | _=>none
 | _=>none
section
variable {P:Program} {C:Ctx} {X:List Nat} {σ:AS} {a:Act} {w:World} {S L:Nat->Prop} {bl:List Bk} {O1 O2:List Nat}
theorem EvOk.one {E:Env} {c:A} {v:Value} (hr:RepA E c v []) (hv:isTuple v=false/\yV0 v=false) (hs:stampIn X σ.epoch c) (ho:isOw c=false):EvOk C X σ E (one c) v:=
 ⟨⟨hv,by rw[yQ0 hv];exact ⟨v,[],[],[],rfl,rfl,hr,rfl,rfl⟩⟩,fun c' hc=>by simp[Av.one] at hc;subst hc;exact hs,fun g d k els hc=>by simp[Av.one] at hc;subst hc;simp[isOw] at ho⟩
theorem EvOk.lit {E:Env} {v:Value} (h:isLit v=true):EvOk C X σ E (Av.one (.lit v)) v:=
 EvOk.one ⟨rfl,h,rfl⟩ (tQ0 h) (fun g hg=>by simp[A.stamp] at hg) rfl
theorem EvOk.lit? {E:Env} {av:AV} {v x:Value} (h:EvOk C X σ E av v) (hl:av.lit?=some x):v=x/\isLit x=true/\av=Av.one (.lit x):=by
 unfold AV.lit? at hl
 split at hl
 ·rename_i y
  simp at hl;subst hl;obtain ⟨h1,h2⟩:=h.rep;rw[yQ0 h1] at h2;obtain ⟨u,us,o1,o2,e1,e2,⟨rfl,h3,_⟩,_⟩:=h2;simp at e1;exact ⟨e1.1,h3,rfl⟩
 ·simp at hl
theorem EvOk.cell {E:Env} {c:A} {v:Value} (h:EvOk C X σ E ⟨.one,[c]⟩ v):RepA E c v []/\isTuple v=false/\yV0 v=false/\stampIn X σ.epoch c/\isOw c=false:=by
 obtain ⟨h1,h2⟩:=h.rep;rw[yQ0 h1] at h2;obtain ⟨u,us,o1,o2,e1,e2,h3,h4⟩:=h2;simp at e1 e2;obtain ⟨rfl,rfl⟩:=e1;rw[e2.1] at h3;refine ⟨h3,h1.1,h1.2,h.st c (by simp),?_⟩
 cases c<;>first | rfl|(rename_i g d k els;exact absurd (List.mem_singleton.2 rfl) (h.noOw g d k els))
def wT0 (P:Program) (C:Ctx) (X:List Nat) (σ:AS) (E:Env) (op:Op) (av:AV):Prop:=
 ∀(dst:Option Tmp) (type:TypeId) (pos:String) (after:Array Edge) (guard:Option (Nat×Bool)),
  ∃v,(execOp E.a.eval ⟨dst,op,type,pos,after,guard⟩).run P E.w=.ok (.value v) E.w/\EvOk C X σ E av v
theorem zU0 {α β γ:Type} {x:Option α} {y:Option β} {f:α->β->Option γ} {z:γ} (h:opt2 x y f=some z):∃a b,x=some a/\y=some b/\f a b=some z:=by
 cases x<;>cases y<;>simp[opt2] at h
 exact ⟨_,_,rfl,rfl,h⟩
theorem JZ0 (h:InvAt C X σ a w S L bl O1 O2) {x:Operand} {av:AV} (hx:zA0 P σ (.move x)=some av):wT0 P C X σ ⟨S,L,bl,a,w,σ.cell⟩ (.move x) av:=
 fun _ _ _ _ _=>⟨_,rfl,h.ev hx⟩
theorem JY0 (h:InvAt C X σ a w S L bl O1 O2) {c x y:Operand} {av:AV} (hx:zA0 P σ (.pick c x y)=some av):wT0 P C X σ ⟨S,L,bl,a,w,σ.cell⟩ (.pick c x y) av:=by
 intro dst type pos after guard;simp only[zA0,Option.bind_eq_some_iff] at hx;obtain ⟨c',h1,hx⟩:=hx
 split at hx<;>try (simp at hx;done)
 rename_i b hb;obtain ⟨e,_,_⟩:=(h.ev h1).lit? hb
 split at hx
 ·rename_i ht
  subst ht;exact ⟨_,by simp[execOp,e,asBool],h.ev hx⟩
 ·rename_i ht
  simp at ht;subst ht;exact ⟨_,by simp[execOp,e,asBool],h.ev hx⟩
theorem JW0 (h:InvAt C X σ a w S L bl O1 O2) {op:UnOp} {t:TypeId} {x:Operand} {av:AV} (hx:zA0 P σ (.unOp op t x)=some av):wT0 P C X σ ⟨S,L,bl,a,w,σ.cell⟩ (.unOp op t x) av:=by
 intro dst type pos after guard;simp only[zA0,Option.bind_eq_some_iff,Option.map_eq_some_iff] at hx;obtain ⟨x',h1,x'',h3,v,h5,rfl⟩:=hx;obtain ⟨e1,_,_⟩:=(h.ev h1).lit? h3;obtain ⟨h6,h7⟩:=KW0 (P:=P) h5 w;refine ⟨v,?_,EvOk.lit h7⟩;simp only[execOp,e1,Sem.run_bind,h6]
 rfl
theorem YZ0 (h:InvAt C X σ a w S L bl O1 O2) {s t:TypeId} {x:Operand} {av:AV} (hx:zA0 P σ (.convert s t x)=some av):wT0 P C X σ ⟨S,L,bl,a,w,σ.cell⟩ (.convert s t x) av:=by
 intro dst type pos after guard;simp only[zA0,Option.bind_eq_some_iff,Option.map_eq_some_iff] at hx;obtain ⟨x',h1,x'',h3,v,h5,rfl⟩:=hx;obtain ⟨e1,_,_⟩:=(h.ev h1).lit? h3;obtain ⟨h6,h7⟩:=UR0 (P:=P) h5 w;refine ⟨v,?_,EvOk.lit h7⟩;simp only[execOp,e1,Sem.run_bind,h6]
 rfl
theorem vG1 (h:InvAt C X σ a w S L bl O1 O2) {c:A} {v:Value} {cs:List A} (hc:RepA ⟨S,L,bl,a,w,σ.cell⟩ c v []) (hs:stampIn X σ.epoch c) (hr:σ.row c=some cs) :
  ∃b o,v=.pointer (some ⟨b,o,none⟩)/\RowAt ⟨S,L,bl,a,w,σ.cell⟩ b o cs/\(∀x∈cs,stampIn X σ.epoch x)/\∀g d k els,A.ow g d k els∉cs:=by
 unfold AS.row at hr
 split at hr
 ·rename_i b off
  obtain ⟨_,blk,h1,rfl⟩:=hc;simp only[Option.bind_eq_some_iff,Option.map_eq_some_iff] at hr;obtain ⟨o,h2,cs0,rfl,rfl⟩:=hr;obtain ⟨blk',p,o',q,g1,g2,⟨o2,us2,g3,g4,g5⟩,_⟩:=RpB.split b _ h.boxes h2;simp only at h1;rw[h1] at g1;simp at g1;subst g1;have hv:=tC0 (r:=.box b) 0 g5 (fun c d k els g hc g' d' k' els' hc'=>by
    simp[AS.cell,h2,hc] at hc';exact ⟨hc'.2.2.1.symm,hc'.2.2.2.symm⟩) (fun c u hu=>by
    simp only[Env.cv,h1,Option.bind_some,Nat.zero_add];exact g4.cell _ _ hu)
  refine ⟨blk.b,blk.o+off,rfl,?_,fun x hx=>vT0 cs0 0 (h.stB cs0 (List.mem_of_getElem? h2)) x (List.mem_of_mem_drop hx),fun g d k els hx=>uG0 _ cs0 0 g d k els (List.mem_of_mem_drop hx)⟩;have hrow:RowAt ⟨S,L,bl,a,w,σ.cell⟩ blk.b blk.o (yB0 (.box b) 0 cs0):=⟨us2,hv,fun j u hj=>g4.cell _ _ hj⟩;exact hrow.drop off
 ·rename_i r x g i off
  simp only[Option.bind_eq_some_iff,Option.map_eq_some_iff] at hr;obtain ⟨⟨k,els⟩,h1,e,h2,rfl⟩:=hr;obtain ⟨d,hcell⟩:=AS.an?_some h1;obtain ⟨_,_,hc⟩:=hc;obtain ⟨hi,b,o,cap,hcv,rfl⟩:=hc d k els hcell;obtain ⟨u,own,k1,k2,_⟩:=h.peek hcell;rw[hcv] at k1;simp at k1;subst k1;have hrow:RowAt ⟨S,L,bl,a,w,σ.cell⟩ b (o+i * k) (e.map (tA true)):=by
   cases d
   ·obtain ⟨ad,cap',k3,k4,k5,k6⟩:=k2
    simp at k3;obtain ⟨rfl,rfl⟩:=k3;rcases k6 with ⟨_,rfl,_⟩ | ⟨b',o',arr,ty,fz,k7,k8,k9,k10,k11,k12⟩
    ·simp at hi
    ·simp at k7
     obtain ⟨rfl,rfl⟩:=k7;exact RowAt.ofT (E:=⟨S,L,bl,a,w,σ.cell⟩) true (RepSE.get k12 k5 i e h2)
   ·obtain ⟨ad,cap',k3,k4,k5,k6⟩:=k2
    simp at k3;obtain ⟨rfl,rfl⟩:=k3;rcases k6 with ⟨_,rfl,_⟩ | ⟨b',o',arr,ty,fz,n,k7,k8,k9,k10,k11,k12⟩
    ·simp at hi
    ·simp at k7
     obtain ⟨rfl,rfl⟩:=k7;obtain ⟨_,_,_,_,_,he,_⟩:=RepLE.get k12 k5 i e h2;exact RowAt.ofL (E:=⟨S,L,bl,a,w,σ.cell⟩) true he
  ·have hrow:=hrow.drop off
   refine ⟨b,o+i * k+off,rfl,by rw[List.map_drop];exact hrow,fun x hx=>?_,fun g d k els hx=>?_⟩
   ·simp only[List.mem_map] at hx
    obtain ⟨t,_,rfl⟩:=hx;intro g hg;simp[(kD0 true t).1] at hg
   ·simp only[List.mem_map] at hx
    obtain ⟨t,_,h5⟩:=hx;have:=(kD0 true t).2;rw[h5] at this;simp[isOw] at this
 ·rename_i st cells
  simp at hr;subst hr;obtain ⟨_,b,o,rfl,_,h3⟩:=hc;refine ⟨b,o,rfl,RowAt.ofT st h3,fun x hx=>?_,fun g d k els hx=>?_⟩
  ·simp only[List.mem_map] at hx
   obtain ⟨t,_,rfl⟩:=hx;intro g hg;simp[(kD0 st t).1] at hg
  ·simp only[List.mem_map] at hx
   obtain ⟨t,_,h5⟩:=hx;have:=(kD0 st t).2;rw[h5] at this;simp[isOw] at this
 ·simp at hr
theorem dW0 {cs:List A} {n m:Nat} {x:A} (h:x∈(cs.drop n).take m):x∈cs:=List.mem_of_mem_drop (List.mem_of_mem_take h)
theorem HA0 (h:InvAt C X σ a w S L bl O1 O2) {t:TypeId} {x:Operand} {av:AV} (hx:zA0 P σ (.load t x)=some av):wT0 P C X σ ⟨S,L,bl,a,w,σ.cell⟩ (.load t x) av:=by
 intro dst type pos after guard;simp only[zA0,Option.bind_eq_some_iff] at hx;obtain ⟨x',h1,hx⟩:=hx
 split at hx<;>try (simp at hx;done)
 rename_i c;unfold YE0 at hx;obtain ⟨ti,cs,h2,h3,hx⟩:=zU0 hx;have he:=h.ev h1;obtain ⟨r1,r2,r3,r4,r5⟩:=he.cell;obtain ⟨b,o,hv,hrow,hst,hno⟩:=vG1 h r1 r4 h3;obtain ⟨v,h4,h5,h6⟩:=jH0 (P:=P) h2 (hrow.take ti.size) hx;refine ⟨v,?_,h5,fun x hx=>hst x (List.mem_of_mem_take (h6 ▸ hx)),fun g d k els hx=>hno g d k els (List.mem_of_mem_take (h6 ▸ hx))⟩;simp only[execOp,hv,Instr.loadAt,Instr.sureAddr,pure_bind]
 simp only[Sem.run_bind,h4]
 rfl
end
end Go.Av
/- Avs, part 9: more operations that turn nothing but the slot that they write. -/
namespace Go.Av
section
variable {P:Program} {C:Ctx} {X:List Nat} {σ:AS} {a:Act} {w:World} {S L:Nat->Prop} {bl:List Bk} {O1 O2:List Nat}
theorem bD0 (h:InvAt C X σ a w S L bl O1 O2) {x:Operand} {av:AV} (hx:zA0 P σ (.nilCheck x)=some av):wT0 P C X σ ⟨S,L,bl,a,w,σ.cell⟩ (.nilCheck x) av:=by
 intro dst type pos after guard;simp only[zA0,Option.bind_eq_some_iff] at hx;obtain ⟨x',h1,hx⟩:=hx
 split at hx<;>try (simp at hx;done)
 rename_i c;have he:=h.ev h1;obtain ⟨r1,r2,r3,r4,r5⟩:=he.cell;have hval:(∃ad,a.eval x=.pointer (some ad))\/∃f vs,a.eval x=.func (.func f) #[] vs:=by
  cases c<;>simp only[reduceCtorEq] at hx
  ·obtain ⟨_,blk,_,e⟩:=r1;exact .inl ⟨_,e⟩
  ·split at hx
   ·rename_i hs
    obtain ⟨⟨k,els⟩,hk⟩:=Option.isSome_iff_exists.1 hs;obtain ⟨d,hk⟩:=AS.an?_some hk;obtain ⟨_,b,o,cap,_,e⟩:=r1.2.2 d k els hk;exact .inl ⟨_,e⟩
   ·simp at hx
  ·obtain ⟨_,b,o,e,_⟩:=r1;exact .inl ⟨_,e⟩
  ·obtain ⟨_,vs,e,_⟩:=r1;exact .inr ⟨_,_,e⟩
 have hav:av=⟨.one,[c]⟩:=by
  cases c<;>simp only[reduceCtorEq] at hx<;>first
   | (simp at hx;exact hx.symm)
   | (split at hx<;>simp at hx;exact hx.symm)
 subst hav;rcases hval with ⟨ad,e⟩ | ⟨f,vs,e⟩
 ·exact ⟨a.eval x,by simp[execOp,e],he⟩
 ·exact ⟨a.eval x,by simp[execOp,e],he⟩
theorem UD0 {s:TypeId} {ti tf:TI} {fs:List (Nat×TypeId)} {f off:Nat} {ft:TypeId} (hs:tyOf P s=some ti) (hk:ti.tk=.struct fs) (hf:fs[f]?=some (off,ft))
  (ht:tyOf P ft=some tf) (hz:tf.size≠0) (b o:Nat):(Instr.fieldAt s (.pointer (some ⟨b,o,none⟩)) f).run P w=.ok (.pointer (some ⟨b,o+off,none⟩)) w:=by
 obtain ⟨ff,h1,h2⟩:=uW0 hs w hk;obtain ⟨fl,h3,rfl,rfl⟩:=h2 f off ft hf;simp only[Instr.fieldAt,Sem.run_bind,h1,Result.andThen,h3,Instr.sureAddr,fieldPlace,yJ0 ht];simp[hz,xB0]
theorem gQ0 (h:InvAt C X σ a w S L bl O1 O2) {s:TypeId} {x:Operand} {f:Nat} {av:AV} (hx:zA0 P σ (.fieldAddr s x f)=some av):wT0 P C X σ ⟨S,L,bl,a,w,σ.cell⟩ (.fieldAddr s x f) av:=by
 intro dst type pos after guard;simp only[zA0,Option.bind_eq_some_iff] at hx;obtain ⟨x',h1,hx⟩:=hx
 split at hx<;>try (simp at hx;done)
 rename_i c;simp only[Option.map_eq_some_iff] at hx;obtain ⟨c',hx,rfl⟩:=hx;have he:=h.ev h1;obtain ⟨r1,r2,r3,r4,r5⟩:=he.cell;simp only[gH0,Option.bind_eq_some_iff] at hx;obtain ⟨ti,h2,hx⟩:=hx
 split at hx<;>try (simp at hx;done)
 rename_i fs hk;simp only[Option.bind_eq_some_iff] at hx;obtain ⟨⟨off,ft⟩,h3,tf,h4,hx⟩:=hx
 split at hx
 ·simp at hx
 ·rename_i hz
  have key:∀b o,a.eval x=.pointer (some ⟨b,o,none⟩)->RepA ⟨S,L,bl,a,w,σ.cell⟩ c' (.pointer (some ⟨b,o+off,none⟩)) []->stampIn X σ.epoch c'->isOw c'=false->
    ∃v,(execOp a.eval ⟨dst,.fieldAddr s x f,type,pos,after,guard⟩).run P w=.ok (.value v) w/\EvOk C X σ ⟨S,L,bl,a,w,σ.cell⟩ (one c') v:=by
   intro b o e hr hst hno;refine ⟨_,?_,EvOk.one hr ⟨rfl,rfl⟩ hst hno⟩;simp only[execOp,e,Sem.run_bind,UD0 h2 hk h3 h4 hz]
   rfl
  cases c<;>simp only[reduceCtorEq] at hx
  ·rename_i b o
   simp at hx;subst hx;obtain ⟨_,blk,e1,e⟩:=r1;exact key _ _ e ⟨rfl,blk,e1,by rw[<-Nat.add_assoc]⟩ (fun g hg=>by simp[A.stamp] at hg) rfl
  ·rename_i r cc g i o
   split at hx
   ·rename_i hsome
    simp at hx;subst hx;obtain ⟨⟨k,els⟩,hk'⟩:=Option.isSome_iff_exists.1 hsome;obtain ⟨d,hk'⟩:=AS.an?_some hk';obtain ⟨_,b,o2,cap,e2,e⟩:=r1.2.2 d k els hk';refine key _ _ e ⟨rfl,⟨rfl,rfl⟩,fun d' k' els' hc=>?_⟩ (fun g' hg=>r4 g' (by simpa [A.stamp] using hg)) rfl
    obtain ⟨e3,b',o',cap',e4,e5⟩:=r1.2.2 d' k' els' hc;refine ⟨e3,b',o',cap',e4,?_⟩;rw[e] at e5;simp at e5;obtain ⟨rfl,e6⟩:=e5;simp;omega
   ·simp at hx
  ·rename_i st cells
   simp at hx;subst hx;obtain ⟨_,b,o,e,e1,e2⟩:=r1;refine key _ _ e ⟨rfl,b,o+off,rfl,e1,?_⟩ (fun g hg=>by simp[A.stamp] at hg) rfl
   refine RepSC.of_get fun j c hj=>?_;rw[List.getElem?_drop] at hj;have:=e2.get (off+j) c hj;rwa[<-Nat.add_assoc] at this
theorem RpA.getA {E:Env} {cs:List A} {us:List Value} (h:RpA E cs us []) {j:Nat} {c:A} (hj:cs[j]?=some c):∃u,us[j]?=some u/\RepA E c u []:=by
 obtain ⟨u,p,o,q,h1,h2,h3,_⟩:=RpA.split j c h hj;simp at h2;obtain ⟨rfl,rfl,rfl⟩:=h2;exact ⟨u,h1,h3⟩
theorem RM0 {E:Env} {t:TypeId} {ti:TI} (ht:tyOf P t=some ti) {cs:List A} {vs:Array Value} (hr:RpA E cs vs.toList []) {off:Nat} {av:AV}
  (hav:tJ0 ti ((cs.drop off).take ti.size)=some av) (w:World) :
  ∃v,(part t vs off).run P w=.ok v w/\RepV E av v []/\av.cs=(cs.drop off).take ti.size:=by
 have hr2:=(hr.drop off).take ti.size;unfold tJ0 at hav
 split at hav
 ·split at hav
  ·rename_i hagg
   simp at hav;subst hav;refine ⟨.agg (vs.extract off (off+ti.size)),?_,⟨rfl,?_⟩,rfl⟩
   ·simp only[part,Sem.run_bind,tY0 ht,Result.andThen,hagg,if_true,yJ0 ht]
    rfl
   ·have:(vs.extract off (off+ti.size)).toList=(vs.toList.drop off).take ti.size:=by
     rw[Array.toList_extract,List.extract_eq_take_drop];simp
    simpa [flat,this] using hr2
  ·rename_i hagg
   split at hav
   ·rename_i c hc
    simp at hav;subst hav;have hj:cs[off]?=some c:=by
     have:((cs.drop off).take ti.size)[0]?=some c:=by rw[hc];rfl
     rw[List.getElem?_take] at this
     split at this
     ·simpa using this
     ·simp at this
    obtain ⟨u,h1,h2⟩:=hr.getA hj;have hno:=RepA.oneC h2;refine ⟨u,?_,⟨hno,by rw[yQ0 hno];exact ⟨u,[],[],[],rfl,rfl,h2,rfl,rfl⟩⟩,hc.symm⟩
    simp only[part,Sem.run_bind,tY0 ht,Result.andThen];rw[Array.getElem?_toList] at h1;simp[hagg,h1]
   ·simp at hav
 ·simp at hav
theorem NW0 (h:InvAt C X σ a w S L bl O1 O2) {s:TypeId} {x:Operand} {f:Nat} {av:AV} (hx:zA0 P σ (.field s x f)=some av):wT0 P C X σ ⟨S,L,bl,a,w,σ.cell⟩ (.field s x f) av:=by
 intro dst type pos after guard;simp only[zA0,Option.bind_eq_some_iff] at hx;obtain ⟨x',h1,hx⟩:=hx
 split at hx<;>try (simp at hx;done)
 rename_i hsh;simp only[Option.bind_eq_some_iff] at hx;obtain ⟨ti,h2,hx⟩:=hx
 split at hx<;>try (simp at hx;done)
 rename_i fs hk;simp only[Option.bind_eq_some_iff] at hx;obtain ⟨⟨off,ft⟩,h3,hx⟩:=hx;simp only[wY1,Option.bind_eq_some_iff] at hx;obtain ⟨tf,h4,hx⟩:=hx;have he:=h.ev h1;obtain ⟨sh,cs⟩:=x';simp only at hsh;subst hsh;obtain ⟨q1,q2⟩:=he.rep;obtain ⟨vs,hvs⟩:∃vs,a.eval x=.agg vs:=by
  simp only[shOk] at q1;cases hv:a.eval x<;>simp[hv,yV0] at q1
  exact ⟨_,rfl⟩
 rw[hvs] at q2;obtain ⟨v,r1,r2,r3⟩:=RM0 (P:=P) h4 (vs:=vs) (by simpa [flat] using q2) hx w
 obtain ⟨ff,g1,g2⟩:=uW0 h2 w hk;obtain ⟨fl,g3,rfl,rfl⟩:=g2 f off ft h3;refine ⟨v,?_,r2,fun c hc=>he.st c (dW0 (r3 ▸ hc)),fun g d k els hc=>he.noOw g d k els (dW0 (r3 ▸ hc))⟩;simp only[execOp,hvs,Instr.field,Sem.run_bind,g1,Result.andThen,g3,asAgg,Sem.run_pure];rw[r1]
theorem run_indexAt_slice {t e:TypeId} {ti te:TI} (ht:tyOf P t=some ti) (hk:ti.tk=.slice e) (he:tyOf P e=some te) (k:IntKind) (b o len cap:Nat) (i:Int) (h0:0<=i) (h1:i < len) (w:World) :
  (Instr.indexAt t (.slice (some ⟨b,o,none⟩) len cap) (.int k i)).run P w=.ok (.pointer (some ⟨b,o+i.toNat * te.size,none⟩)) w:=by
 simp only[Instr.indexAt,Sem.run_bind,asIntOf,Sem.run_pure,Result.andThen,yH0 ht w hk];simp[h0,h1,yJ0 he,xB0,Result.andThen]
theorem gP0 (h:InvAt C X σ a w S L bl O1 O2) {t:TypeId} {x i:Operand} {av:AV} (hx:zA0 P σ (.indexAddr t x i)=some av):wT0 P C X σ ⟨S,L,bl,a,w,σ.cell⟩ (.indexAddr t x i) av:=by
 intro dst type pos after guard;simp only[zA0] at hx;obtain ⟨x',i',h1,h2,hx'⟩:=zU0 hx;clear hx;revert hx';intro hx
 split at hx<;>try (simp at hx;done)
 rename_i c k n hn;simp only[Option.map_eq_some_iff] at hx;obtain ⟨c',hx,rfl⟩:=hx;have he:=h.ev h1;obtain ⟨r1,r2,r3,r4,r5⟩:=he.cell;obtain ⟨ei,_,_⟩:=(h.ev h2).lit? hn;simp only[wL0,Option.bind_eq_some_iff] at hx;obtain ⟨ti,h3,hx⟩:=hx
 split at hx<;>try (simp at hx;done)
 ·rename_i e hk
  simp only[Option.bind_eq_some_iff] at hx;obtain ⟨te,h4,hx⟩:=hx
  split at hx<;>try (simp at hx;done)
  ·rename_i st els
   split at hx<;>try (simp at hx;done)
   rename_i hc;obtain ⟨c0,c1,c2⟩:=hc;simp only[Option.map_eq_some_iff] at hx;obtain ⟨row,hrow,rfl⟩:=hx;obtain ⟨r1,_⟩:=r1;simp only[RepS] at r1;obtain ⟨ad,cap,e1,e2,e3⟩:=r1;have hne:els≠[]:=by rintro rfl;simp at hrow
   obtain ⟨b,o,rfl,hS,hE⟩:=e3 hne;refine ⟨_,?_,EvOk.one (c:=.rptr st row) ⟨rfl,b,o+n.toNat * te.size,rfl,hS,hE.get c2 n.toNat row hrow⟩ ⟨rfl,rfl⟩ (fun g hg=>by simp[A.stamp] at hg) rfl⟩
   simp only[execOp,e1,ei,Sem.run_bind,run_indexAt_slice h3 hk h4 k b o els.length cap n c0 c1]
   rfl
  ·rename_i r cc g lo len
   simp only[Option.bind_eq_some_iff] at hx;obtain ⟨⟨k',els⟩,h5,hx⟩:=hx
   split at hx<;>try (simp at hx;done)
   rename_i hc;obtain ⟨c0,c1,c2⟩:=hc;simp only at c0;simp at hx;subst hx;obtain ⟨d,hcell⟩:=AS.an?_some h5;obtain ⟨_,_,r1⟩:=r1;obtain ⟨e1,ad,cap,xx,e2,e3,e4⟩:=r1 d k' els hcell;obtain ⟨u,own,k1,k2,_⟩:=h.peek hcell;rw[e2] at k1;simp at k1;subst k1;obtain ⟨ad',cap',k3,k4,k6⟩:=RepO.addr k2;simp at k3;obtain ⟨rfl,rfl⟩:=k3;rcases k6 with rfl | ⟨b,o,k7⟩
   ·simp only[List.length_nil] at e1;omega
   ·subst k7
    have hsub:xx=some ⟨b,o+lo * k',none⟩:=by
     rw[e4 (by omega)]
     simp[xB0]
    rw[hsub] at e3;refine ⟨.pointer (some ⟨b,o+lo * k' + n.toNat * te.size,none⟩),?_,EvOk.one (c:=.eptr r cc g (lo+n.toNat) 0) ⟨rfl,⟨rfl,rfl⟩,fun d2 k2 els2 hc2=>?_⟩ ⟨rfl,rfl⟩ (fun g' hg=>r4 g' (by simpa [A.stamp] using hg)) rfl⟩
    ·simp only[execOp,e3,ei,Sem.run_bind,run_indexAt_slice h3 hk h4 k b (o+lo * k') len (cap - lo) n c1 c2]
     rfl
    ·simp only at hc2
     rw[hcell] at hc2;simp at hc2;obtain ⟨rfl,rfl,rfl⟩:=hc2;refine ⟨by omega,b,o,cap,e2,?_⟩
     rw[<-c0,Nat.add_mul];simp[Nat.add_assoc]
  ·rename_i b k' len
   split at hx<;>try (simp at hx;done)
   rename_i hc;obtain ⟨c0,c1,c2⟩:=hc;simp at hx;subst hx;obtain ⟨_,blk,cap,e1,e2,e3⟩:=r1;refine ⟨.pointer (some ⟨blk.b,blk.o+n.toNat * te.size,none⟩),?_,EvOk.one (c:=.ptr b _) ⟨rfl,blk,e1,rfl⟩ ⟨rfl,rfl⟩ (fun g hg=>by simp[A.stamp] at hg) rfl⟩
   simp only[execOp,e2,ei,Sem.run_bind,run_indexAt_slice h3 hk h4 k blk.b blk.o len cap n c1 c2]
   rfl
 ·rename_i m e hk
  simp only[Option.bind_eq_some_iff] at hx;obtain ⟨te,h4,hx⟩:=hx
  split at hx<;>try (simp at hx;done)
  rename_i b off
  split at hx<;>try (simp at hx;done)
  rename_i hc;simp at hx;subst hx;obtain ⟨_,blk,e1,e2⟩:=r1;refine ⟨.pointer (some ⟨blk.b,blk.o+off+n.toNat * te.size,none⟩),?_,EvOk.one (c:=.ptr b _) ⟨rfl,blk,e1,by rw[Nat.add_assoc]⟩ ⟨rfl,rfl⟩ (fun g hg=>by simp[A.stamp] at hg) rfl⟩
  simp only[execOp,e2,ei,Instr.indexAt,Sem.run_bind,asIntOf,Sem.run_pure,Result.andThen,jF0 h3 w hk,Instr.sureAddr];simp[hc.1,hc.2,yJ0 h4,xB0,Result.andThen]
end
end Go.Av
/- Avs, part 9b: operators of two operands; values of several cells are compared part by part. -/
namespace Go.Av
section
variable {P:Program}
theorem yQ1 {E:Env} {c:A} {v:Value} (hr:RpA E [c] [v] []):RepA E c v []:=by
 obtain ⟨u,us,o1,o2,h1,h2,h3,h4⟩:=hr;simp at h1 h2;obtain ⟨rfl,rfl⟩:=h2;rw[h1.1];exact h3
def Fits (ti:TI) (E:Env) (cs:List A) (v:Value):Prop:=∃av,tJ0 ti cs=some av/\RepV E av v []
theorem Fits.agg {ti:TI} {E:Env} {cs:List A} {v:Value} (h:Fits ti E cs v) (ha:ti.agg=true):∃vs,v=.agg vs/\RpA E cs vs.toList []:=by
 obtain ⟨av,h1,h2⟩:=h;simp only[tJ0,ha,if_true] at h1
 split at h1
 ·simp at h1;subst h1
  obtain ⟨q1,q2⟩:=h2;simp only[shOk] at q1;cases v<;>simp[yV0] at q1
  exact ⟨_,rfl,by simpa [flat] using q2⟩
 ·simp at h1
theorem Fits.one {ti:TI} {E:Env} {c:A} {v:Value} (h:Fits ti E [c] v) (ha:ti.agg=false):RepA E c v []:=by
 obtain ⟨av,h1,h2⟩:=h;unfold tJ0 at h1
 split at h1
 ·rw[if_neg (by simp[ha])] at h1
  simp at h1;subst h1;obtain ⟨q1,q2⟩:=h2;rw[yQ0 q1] at q2;exact yQ1 q2
 ·simp at h1
theorem Fits.lit {ti:TI} {E:Env} {v u:Value} (h:Fits ti E [.lit v] u) (ha:ti.agg=false):u=v:=(h.one ha).1
theorem Fits.part {E:Env} {t:TypeId} {ti:TI} (ht:tyOf P t=some ti) {cs:List A} {vs:Array Value} (hr:RpA E cs vs.toList []) {off:Nat}
  (hl:((cs.drop off).take ti.size).length=ti.size) (h1:ti.agg=false->ti.size=1) (w:World):∃v,(part t vs off).run P w=.ok v w/\Fits ti E ((cs.drop off).take ti.size) v:=by
 have hav:∃av,tJ0 ti ((cs.drop off).take ti.size)=some av:=by
  unfold tJ0;rw[if_pos hl];cases ha:ti.agg with
  | true=>exact ⟨_,rfl⟩
  | false=>
   rw[h1 ha] at hl |-;obtain ⟨c,hc⟩:=List.length_eq_one_iff.1 hl;rw[hc];exact ⟨_,rfl⟩
 obtain ⟨av,hav⟩:=hav;obtain ⟨v,r1,r2,r3⟩:=RM0 (P:=P) ht hr hav w;exact ⟨v,r1,av,hav,r2⟩
theorem dT0 {d:Nat} {t:TypeId} {xs ys:List A} {r:Bool} (h:kA0 P d t xs ys=some r):∃ti,tyOf P t=some ti/\xs.length=ti.size/\ys.length=ti.size/\(ti.agg=false->ti.size=1):=by
 cases d with
 | zero=>simp[kA0] at h
 | succ d=>
  unfold kA0 at h;simp only[Option.bind_eq_some_iff] at h;obtain ⟨ti,h1,h⟩:=h
  split at h
  ·rename_i hc
   refine ⟨ti,h1,hc.1,hc.2,fun ha=>?_⟩;unfold TI.agg at ha;cases hk:ti.tk<;>simp only[hk] at h ha
   all_goals first
    | (simp at ha;done)
    | (simp at h;done)
    | (split at h<;>first|(simp at h;done)|(have:=hc.1;simp at this;exact this.symm))
  ·simp at h
theorem qL0 {t:TypeId} {ti:TI} {fs:List (Nat×TypeId)} (h:tyOf P t=some ti) (hk:ti.tk=.struct fs) (he:ti.eq=true) :
  P.underlying t=some (.struct (P.fieldsOf t))/\fs=(P.fieldsOf t).toList.map (fun f=>(f.offset,f.type))/\(∀f∈(P.fieldsOf t).toList,f.name≠"_")/\P.stoodInHeld t=false/\P.eqGuardType P.depth t=false:=by
 obtain ⟨i,d,z,h1,h2,h3,rfl⟩:=zM0 h;cases d<;>simp[tkOf] at hk
 rename_i ff;have hf:P.fieldsOf t=ff:=by simp[Program.fieldsOf,h2]
 simp only[eqT,h2,Bool.and_eq_true,Bool.not_eq_true',List.all_eq_true,bne_iff_ne,ne_eq] at he;rw[hf];exact ⟨h2,hk.symm,he.1.1,he.1.2,he.2⟩
theorem RP0 {E:Env} {w:World} {n:Nat} {f:TypeId->List A->List A->Option Bool} (ih:∀t xs ys r u v,f t xs ys=some r->(∃ti,tyOf P t=some ti/\Fits ti E xs u/\Fits ti E ys v)->(Op.equalIn n t u v).run P w=.ok r w)
  (hsz:∀t xs ys r,f t xs ys=some r->∃ti,tyOf P t=some ti/\xs.length=ti.size/\ys.length=ti.size/\(ti.agg=false->ti.size=1))
  {xs ys:List A} {us vs:Array Value} (hx:RpA E xs us.toList []) (hy:RpA E ys vs.toList []):∀(ff:List Field) (r:Bool),(∀g∈ff,g.name≠"_")->
  TZ0 f (fun u=>(tyOf P u).map (·.size)) xs ys (ff.map fun f=>(f.offset,f.type))=some r->(Op.eqFields n us vs ff).run P w=.ok r w
 | [],r,_,h=>by simp[TZ0] at h;subst h;simp[Op.eqFields]
 | g::ff,r,hn,h=>by
  have step:∀r',f g.type ((xs.drop g.offset).take (((tyOf P g.type).map (·.size)).getD 0)) ((ys.drop g.offset).take (((tyOf P g.type).map (·.size)).getD 0))=some r'->
    ∃a b,(part g.type us g.offset).run P w=.ok a w/\(part g.type vs g.offset).run P w=.ok b w/\(Op.equalIn n g.type a b).run P w=.ok r' w:=by
   intro r' hr';obtain ⟨ti,h1,h2,h3,h4⟩:=hsz _ _ _ _ hr';simp only[h1,Option.map_some,Option.getD_some] at hr' h2 h3;obtain ⟨a,p1,p2⟩:=Fits.part h1 hx h2 h4 w;obtain ⟨b,p3,p4⟩:=Fits.part h1 hy h3 h4 w;exact ⟨a,b,p1,p3,ih _ _ _ _ _ _ hr' ⟨ti,h1,p2,p4⟩⟩
  have hg:=hn g List.mem_cons_self;have hn':=fun q hq=>hn q (List.mem_cons_of_mem _ hq);simp only[List.map_cons,TZ0,Option.bind_eq_some_iff,Option.map_eq_some_iff] at h;obtain ⟨sz,⟨tz,hz1,rfl⟩,h⟩:=h;simp only[hz1,Option.map_some,Option.getD_some] at step;cases hff:ff with
  | nil=>
   subst hff;simp only[List.map_nil] at h;obtain ⟨a,b,p1,p2,p3⟩:=step r h;simp only[Op.eqFields,hg,ne_eq,not_false_eq_true,if_true,Sem.run_bind,p1,p2,p3,Result.andThen_ok];cases r<;>simp
  | cons g' ff'=>
   have h':=h;rw[hff] at h';simp only[List.map_cons] at h';obtain ⟨r1,r2,q1,q2,q3⟩:=zU0 h';simp at q3;have hrest:=RP0 ih hsz hx hy ff r2 hn' (by rw[hff];exact q2)
   obtain ⟨a,b,p1,p2,p3⟩:=step r1 q1;rw[<-hff];simp only[Op.eqFields,hg,ne_eq,not_false_eq_true,if_true,Sem.run_bind,p1,p2,p3,Result.andThen_ok];cases r1
   ·simp at q3;subst q3;simp
   ·simp at q3;subst q3;simpa using hrest
theorem RQ0 {E:Env} {w:World} (n:Nat):∀(d:Nat) (t:TypeId) (xs ys:List A) (r:Bool) (u v:Value),kA0 P d t xs ys=some r->(∃ti,tyOf P t=some ti/\Fits ti E xs u/\Fits ti E ys v)->(Op.equalIn (n+d) t u v).run P w=.ok r w
 | 0,t,xs,ys,r,u,v,h,_=>by simp[kA0] at h
 | d+1,t,xs,ys,r,u,v,h,hf=>by
  obtain ⟨ti,ht,hu,hv⟩:=hf;unfold kA0 at h;simp only[ht,Option.bind_some] at h
  split at h<;>try (simp at h;done)
  rw[show n+(d+1)=(n+d)+1 from rfl]
  split at h<;>try (simp at h;done)
  ·rename_i fs hk
   split at h<;>try (simp at h;done)
   rename_i he;obtain ⟨k1,k2,k3,k4,_⟩:=qL0 ht hk he;have hagg:ti.agg=true:=by simp[TI.agg,hk]
   obtain ⟨us,rfl,hus⟩:=hu.agg hagg;obtain ⟨vs,rfl,hvs⟩:=hv.agg hagg;rw[run_equalIn_struct w (n+d) t us vs k1 k4];exact RP0 (RQ0 n d) (fun t xs ys r h=>dT0 h) hus hvs _ r k3 (by rw[<-k2];exact h)
  ·rename_i hk
   have hagg:ti.agg=false:=by simp[TI.agg,hk]
   split at h<;>try (simp at h;done)
   simp at h;subst h;rw[hu.lit hagg,hv.lit hagg];exact run_equalIn_bool (rJ0 ht w hk) (n+d) _ _
  ·rename_i k hk
   have hagg:ti.agg=false:=by simp[TI.agg,hk]
   split at h<;>try (simp at h;done)
   split at h<;>try (simp at h;done)
   rename_i hkk;simp at h;subst h;rw[hu.lit hagg,hv.lit hagg];simp[Op.equalIn,xQ0 ht w hk,Result.andThen,hkk]
  ·rename_i hk
   have hagg:ti.agg=false:=by simp[TI.agg,hk]
   split at h<;>try (simp at h;done)
   simp at h;subst h;rw[hu.lit hagg,hv.lit hagg];rename_i a b;have hs:P.underlying t=some .string:=by
    obtain ⟨i,d',z,h1,h2,h3,rfl⟩:=zM0 ht;cases d'<;>simp[tkOf] at hk
    exact h2
   exact run_equalIn_string w (n+d) t _ _ hs
end
section
variable {P:Program} {C:Ctx} {X:List Nat} {σ:AS} {a:Act} {w:World} {S L:Nat->Prop} {bl:List Bk} {O1 O2:List Nat}
theorem NX0 (h:InvAt C X σ a w S L bl O1 O2) {op:BinOp} {t u:TypeId} {x y:Operand} {av:AV} (hx:zA0 P σ (.binOp op t x y u)=some av):wT0 P C X σ ⟨S,L,bl,a,w,σ.cell⟩ (.binOp op t x y u) av:=by
 intro dst type pos after guard;simp only[zA0] at hx;obtain ⟨x',y',h1,h2,hx⟩:=zU0 hx
 split at hx
 ·rename_i hs1 hs2
  simp only[Option.bind_eq_some_iff] at hx;obtain ⟨ti,ht,hx⟩:=hx
  split at hx<;>try (simp at hx;done)
  rename_i hagg;simp only[Option.bind_eq_some_iff] at hx;obtain ⟨r,h3,hx⟩:=hx;have he1:=(h.ev h1).rep;have he2:=(h.ev h2).rep;obtain ⟨sh1,c1⟩:=x';obtain ⟨sh2,c2⟩:=y';simp only at hs1 hs2;subst hs1;subst hs2;obtain ⟨ti',h4,h5,h6,h7⟩:=dT0 h3;rw[ht] at h4;obtain rfl:ti=ti':=by simpa using h4
  have f1:Fits ti ⟨S,L,bl,a,w,σ.cell⟩ c1 (a.eval x):=⟨⟨.agg,c1⟩,by simp[tJ0,hagg,h5],he1⟩
  have f2:Fits ti ⟨S,L,bl,a,w,σ.cell⟩ c2 (a.eval y):=⟨⟨.agg,c2⟩,by simp[tJ0,hagg,h6],he2⟩
  have key:=RQ0 (w:=w) 9994 6 t c1 c2 r _ _ h3 ⟨ti,ht,f1,f2⟩;have hgd:P.eqGuardType P.depth t=false:=by
   unfold kA0 at h3;simp only[ht,Option.bind_some,h5,h6,and_self,if_true] at h3
   split at h3
   ·rename_i fs hk
    split at h3<;>try (simp at h3;done)
    rename_i he;exact (qL0 ht hk he).2.2.2.2
   ·rename_i hk;simp[TI.agg,hk] at hagg
   ·rename_i hk;simp[TI.agg,hk] at hagg
   ·rename_i hk;simp[TI.agg,hk] at hagg
   ·simp at h3
  obtain ⟨us,e1,_⟩:=f1.agg hagg;obtain ⟨vs,e2,_⟩:=f2.agg hagg;rw[e1,e2] at key;cases op<;>simp only[zJ1] at hx<;>try (simp at hx;done)
  ·simp only[Option.some.injEq] at hx;subst hx
   refine ⟨.bool r,?_,EvOk.lit rfl⟩;simp only[execOp,e1,e2];simp only[Sem.run_bind,run_eqGuard_agg w .eql t x y us vs hgd,Result.andThen_ok,run_eql_struct,key]
   rfl
  ·simp only[Option.some.injEq] at hx;subst hx
   refine ⟨.bool !r,?_,EvOk.lit rfl⟩;simp only[execOp,e1,e2];simp only[Sem.run_bind,run_eqGuard_agg w .neq t x y us vs hgd,Result.andThen_ok,run_neq_struct,key]
   rfl
 obtain ⟨x'',y'',h3,h4,hx⟩:=zU0 hx;simp only[Option.map_eq_some_iff] at hx;obtain ⟨v,h5,rfl⟩:=hx;obtain ⟨e1,_,_⟩:=(h.ev h1).lit? h3;obtain ⟨e2,_,_⟩:=(h.ev h2).lit? h4;obtain ⟨h6,h7⟩:=KC0 h5 w x y;refine ⟨v,?_,EvOk.lit h7⟩;simp only[execOp,e1,e2];simp only[Sem.run_bind] at h6 |-;rw[h6]
 rfl
end
end Go.Av
/- Avs, part 10: the last of the operations that turn nothing but the slot that they write. -/
namespace Go.Av
section
variable {P:Program} {C:Ctx} {X:List Nat} {σ:AS} {a:Act} {w:World} {S L:Nat->Prop} {bl:List Bk} {O1 O2:List Nat}
theorem NV0 (h:InvAt C X σ a w S L bl O1 O2) {t:TypeId} {x i:Operand} {av:AV} (hx:zA0 P σ (.index t x i)=some av):wT0 P C X σ ⟨S,L,bl,a,w,σ.cell⟩ (.index t x i) av:=by
 intro dst type pos after guard;simp only[zA0] at hx;obtain ⟨x',i',h1,h2,hx'⟩:=zU0 hx;clear hx;revert hx';intro hx
 split at hx<;>try (simp at hx;done)
 rename_i s k n hs hn;obtain ⟨ei,_,_⟩:=(h.ev h2).lit? hn;obtain ⟨ex,_,_⟩:=(h.ev h1).lit? hs;simp only[Option.bind_eq_some_iff] at hx;obtain ⟨ti,h3,hx⟩:=hx
 split at hx<;>try (simp at hx;done)
 rename_i hk;obtain ⟨hc,rfl⟩:=zQ0 hx;have hlt:n.toNat < s.size:=by omega
 refine ⟨.int .u8 (vB0 s n.toNat).toNat,?_,EvOk.lit rfl⟩;simp only[execOp,ex,ei,Instr.index,Sem.run_bind,asIntOf,Sem.run_pure,Result.andThen,xP0 h3 w hk];simp[hc.1,vB0,hlt]
theorem rE0 {n:Nat} {b:Bool} {x:Option AV} {m:Nat} (h:bound n b x=some m) :
  (x=none/\m=if b then n else 0)\/∃av k i,x=some av/\av.lit?=some (.int k i)/\0<=i/\i<=n/\m=i.toNat:=by
 cases x with
 | none=>simp[bound] at h;exact .inl ⟨rfl,h.symm⟩
 | some av=>
  simp only[bound] at h
  split at h<;>try (simp at h;done)
  rename_i k i hl;obtain ⟨hc,rfl⟩:=zQ0 h;exact .inr ⟨av,k,i,rfl,hl,hc.1,hc.2,rfl⟩
theorem wN1 {n:Nat} {b:Bool} {x:Option AV} {m:Nat} (h:bound n b x=some m):m<=n:=by
 rcases rE0 h with ⟨rfl,rfl⟩ | ⟨av,k,i,rfl,_,h1,h2,rfl⟩
 ·split<;>omega
 ·omega
theorem run_sliceBound {k:IntKind} {i:Int} {y:Nat} {code:BoundsCode} (h0:0<=i) (h1:i<=y):(Instr.sliceBound (.int k i) y code).run P w=.ok i.toNat w:=by
 simp[Instr.sliceBound,asIntOf,h0,h1]
theorem fK0 (h:InvAt C X σ a w S L bl O1 O2) {isS:Bool} {len cap:Nat} {lo hi:Option Operand} {lo' hi':Option AV} (hlo:lo.mapM σ.ev=some lo') (hhi:hi.mapM σ.ev=some hi')
  {l m:Nat} (h1:bound len false lo'=some l) (h2:bound len true hi'=some m) (hlm:l<=m) (hlc:len<=cap) :
  (Instr.sliceBounds isS len cap (lo.map a.eval) (hi.map a.eval) none).run P w=.ok (l,m,cap) w:=by
 have hb:∀(x:Option Operand) (x':Option AV) (b:Bool) (r:Nat),x.mapM σ.ev=some x'->bound len b x'=some r->
   (x=none/\x'=none/\r=if b then len else 0)\/∃y k i,x=some y/\a.eval y=.int k i/\0<=i/\i<=len/\r=i.toNat:=by
  intro x x' b r hx hr;cases x with
  | none=>simp at hx;subst hx;exact .inl ⟨rfl,rfl,by simpa [bound] using hr.symm⟩
  | some y=>
   simp at hx;obtain ⟨av,hy,rfl⟩:=hx;rcases rE0 hr with ⟨h,_⟩ | ⟨av',k,i,h,h3,h4,h5,h6⟩
   ·simp at h
   ·simp at h;subst h
    obtain ⟨e,_,_⟩:=(h.ev hy).lit? h3;exact .inr ⟨y,k,i,rfl,e,h4,h5,h6⟩
 have hloR:=hb lo lo' false l hlo h1;have hhiR:=hb hi hi' true m hhi h2;simp only[Instr.sliceBounds];rcases hhiR with ⟨rfl,rfl,rfl⟩ | ⟨y,k,i,rfl,e,i0,i1,rfl⟩
 ·rcases hloR with ⟨rfl,rfl,rfl⟩ | ⟨y,k,i,rfl,e,i0,i1,rfl⟩
  ·simp
  ·simp[e,run_sliceBound (P:=P) (w:=w) i0 i1,Result.andThen]
 ·have hic:i<=(cap:Int):=by omega
  rcases hloR with ⟨rfl,rfl,rfl⟩ | ⟨y2,k2,i2,rfl,e2,j0,j1,rfl⟩
  ·simp[e,run_sliceBound (P:=P) (w:=w) i0 hic,Result.andThen]
  ·have j1':i2<=(i.toNat:Int):=by omega
   simp[e,e2,run_sliceBound (P:=P) (w:=w) i0 hic,run_sliceBound (P:=P) (w:=w) j0 j1',Result.andThen]
theorem RepSE.takeDrop {S:Nat->Prop} {w:World} {b k:Nat} {o:Nat} {es:List (List T)} (h:RepSE S w b o es) (hk:∀e∈es,e.length=k) (l n:Nat):RepSE S w b (o+l * k) ((es.drop l).take n):=by
 refine RepSE.of_get (k:=k) (fun e he=>hk e (List.mem_of_mem_drop (List.mem_of_mem_take he))) fun i e hi=>?_;rw[List.getElem?_take] at hi
 split at hi
 ·rw[List.getElem?_drop] at hi
  have:=h.get hk (l+i) e hi;rwa[Nat.add_mul,<-Nat.add_assoc] at this
 ·simp at hi
theorem NU0 (h:InvAt C X σ a w S L bl O1 O2) {t:TypeId} {x:Operand} {lo hi mx:Option Operand} {av:AV} (hx:zA0 P σ (.slice t x lo hi mx)=some av):wT0 P C X σ ⟨S,L,bl,a,w,σ.cell⟩ (.slice t x lo hi mx) av:=by
 intro dst type pos after guard;simp only[zA0,Option.bind_eq_some_iff] at hx;obtain ⟨x',hx1,hx⟩:=hx
 split at hx<;>try (simp at hx;done)
 rename_i lo' hi' mx' hlo hhi hmx;simp only[Option.map_eq_some_iff] at hx;obtain ⟨c',hx,rfl⟩:=hx;have he:=h.ev hx1;simp only[gE0,Option.bind_eq_some_iff] at hx;obtain ⟨ti,h3,hx⟩:=hx
 split at hx<;>try (simp at hx;done)
 ·rename_i s hk
  split at hx<;>try (simp at hx;done)
  obtain ⟨l,m,hl,hm,hx'⟩:=zU0 hx;obtain ⟨hlm,rfl⟩:=zQ0 hx';have hmx0:mx=none:=by cases mx<;>simp at hmx<;>rfl
  subst hmx0;obtain ⟨ex,_,_⟩:=he.lit? (x:=.string s) rfl;refine ⟨.string (s.extract l m),?_,EvOk.lit rfl⟩;simp only[execOp,ex,Instr.sliceAt,Sem.run_bind,xP0 h3 w hk,Result.andThen,Instr.slice,Option.map_none,Option.isSome_none,Bool.false_eq_true,if_false,Sem.run_pure,
   fK0 h hlo hhi hl hm hlm (Nat.le_refl _)]
 ·rename_i e c hk
  simp only[Option.bind_eq_some_iff] at hx;obtain ⟨te,h4,n,hn,hx⟩:=hx;obtain ⟨r1,r2,r3,r4,r5⟩:=he.cell;obtain ⟨ad,cap,hv,hcap⟩:∃ad cap,a.eval x=.slice ad n cap/\n<=cap:=by
   cases c<;>simp only[AS.slen,reduceCtorEq] at hn
   ·simp at hn;subst hn;obtain ⟨⟨ad,hv⟩,_⟩:=r1;exact ⟨ad,0,hv,Nat.le_refl _⟩
   ·simp at hn;subst hn;obtain ⟨r1,_⟩:=r1;simp only[RepS] at r1;obtain ⟨ad,cap,h1,h2,_⟩:=r1;exact ⟨ad,cap,h1,h2⟩
   ·simp only[Option.some.injEq] at hn;subst hn
    obtain ⟨_,⟨x,cp,h1,h2⟩,_⟩:=r1;exact ⟨x,cp,h1,h2⟩
  split at hx
  ·
   obtain ⟨l,m,hl,hm,hx'⟩:=zU0 hx;clear hx;revert hx';intro hx
   split at hx<;>try (simp at hx;done)
   rename_i hlm;have hmx0:mx=none:=by cases mx<;>simp at hmx<;>rfl
   subst hmx0;have hmn:m<=n:=wN1 hm;have hrun:(execOp a.eval ⟨dst,.slice t x lo hi none,type,pos,after,guard⟩).run P w=.ok (.value (.slice (if cap=l then ad else ad.map (·.add (l * te.size))) (m - l) (cap - l))) w:=by
    simp only[execOp,hv,Instr.sliceAt,Sem.run_bind,yH0 h3 w hk,Result.andThen,Instr.slice,Option.map_none,Sem.run_pure,yJ0 h4,
     fK0 h hlo hhi hl hm hlm hcap]
   split at hx
   ·simp at hx;subst hx
    simp[AS.slen] at hn;subst hn;obtain ⟨⟨ad',hv'⟩,_⟩:=r1;rw[hv'] at hv;simp at hv;obtain ⟨rfl,rfl⟩:=hv;have e1:l=0:=by omega
    have e2:m=0:=by omega
    subst e1;subst e2;exact ⟨_,hrun,EvOk.one (c:=.nil) ⟨⟨_,rfl⟩,rfl⟩ ⟨rfl,rfl⟩ (fun g hg=>by simp[A.stamp] at hg) rfl⟩
   ·rename_i st els
    split at hx<;>try (simp at hx;done)
    rename_i hall;simp at hx;subst hx;simp[AS.slen] at hn;subst hn;obtain ⟨r1,_⟩:=r1;simp only[RepS] at r1;obtain ⟨ad',cap',h1,h2,h5⟩:=r1;rw[h1] at hv;simp at hv;obtain ⟨rfl,rfl⟩:=hv;have hlen:((els.drop l).take (m - l)).length=m - l:=by simp;omega
    refine ⟨_,hrun,EvOk.one (c:=.ro st _) ⟨?_,rfl⟩ ⟨rfl,rfl⟩ (fun g hg=>by simp[A.stamp] at hg) rfl⟩
    simp only[RepS];refine ⟨_,_,by rw[hlen],by rw[hlen];omega,fun hne=>?_⟩
    have hlt:l < m:=by
     rcases Nat.lt_or_ge l m with h | h
     ·exact h
     ·exfalso;apply hne;rw[Nat.sub_eq_zero_of_le h];simp
    have hne':els≠[]:=by rintro rfl;simp at hne
    obtain ⟨b,o,rfl,hS,hE⟩:=h5 hne';exact ⟨b,o+l * te.size,by rw[if_neg (by omega)];simp[xB0],hS,hE.takeDrop hall l (m - l)⟩
   ·rename_i r cc g lo0 len0
    simp only[Option.bind_eq_some_iff] at hx;obtain ⟨⟨k,els⟩,h5,hx⟩:=hx;obtain ⟨hk5,rfl⟩:=zQ0 hx;simp only at hk5;subst hk5;obtain ⟨d,hcell⟩:=AS.an?_some h5;simp only[AS.slen,Option.some.injEq] at hn;subst hn;refine ⟨_,hrun,EvOk.one (c:=.sref r cc g (lo0+l) (m - l)) ⟨rfl,⟨_,_,rfl,by omega⟩,fun d' k' els' hc'=>?_⟩ ⟨rfl,rfl⟩ (fun g' hg=>r4 g' (by simpa [A.stamp] using hg)) rfl⟩
    obtain ⟨e1,ad2,cap2,xx,e2,e3,e4⟩:=r1.2.2 d' k' els' hc';simp only at hc';rw[hcell] at hc';simp at hc';obtain ⟨rfl,rfl,rfl⟩:=hc';rw[e3] at hv;simp at hv;obtain ⟨rfl,rfl⟩:=hv;have hle:lo0<=cap2:=by
     obtain ⟨u,own,k1,k2,_⟩:=h.peek hcell;rw[e2] at k1;simp at k1;subst k1;obtain ⟨ad',cap',k3,k4⟩:=RepO.head k2;simp at k3;omega
    refine ⟨by omega,ad2,cap2,_,e2,by rw[Nat.sub_add_eq],fun hlt=>?_⟩
    rw[if_neg (by omega),e4 (by omega)]
    cases ad2 with
    | none=>rfl
    | some ad2=>simp[Nat.add_mul,Addr.add_add]
   ·simp at hx
  ·rename_i m'
   obtain ⟨lm,m,hlm,hm,hx'⟩:=zU0 hx;obtain ⟨l,hh,hl,hhh,hlh⟩:=zU0 hlm;simp at hlh;subst hlh;obtain ⟨⟨q1,q2,q3⟩,rfl⟩:=zQ0 hx';simp only at q1 q2;subst q1;subst q2;have hmx0:∃y k i,mx=some y/\a.eval y=.int k i/\0<=i/\i<=n/\l=i.toNat:=by
    cases mx with
    | none=>simp at hmx
    | some y=>
     have hy:σ.ev y=some m':=by simpa using hmx
     rcases rE0 hm with ⟨h,_⟩ | ⟨av',k,i,h',h3,h4,h5,h6⟩
     ·simp at h
     ·simp at h';subst h'
      obtain ⟨e,_,_⟩:=(h.ev hy).lit? h3;exact ⟨y,k,i,rfl,e,h4,h5,h6⟩
   obtain ⟨y,k,i,rfl,ey,i0,i1,rfl⟩:=hmx0;have hb:∀(x:Option Operand) (x':Option AV) (b:Bool),x.mapM σ.ev=some x'->bound n b x'=some i.toNat->
     (x=none/\x'=none/\i.toNat=if b then n else 0)\/∃y k j,x=some y/\a.eval y=.int k j/\0<=j/\j=i:=by
    intro x x' b hx hr;cases x with
    | none=>simp at hx;subst hx;exact .inl ⟨rfl,rfl,by simpa [bound] using hr.symm⟩
    | some y=>
     simp at hx;obtain ⟨av,hy,rfl⟩:=hx;rcases rE0 hr with ⟨h,_⟩ | ⟨av',k,j,h',h3,h4,h5,h6⟩
     ·simp at h
     ·simp at h';subst h'
      obtain ⟨e,_,_⟩:=(h.ev hy).lit? h3;exact .inr ⟨y,k,j,rfl,e,h4,by omega⟩
   have hic:i<=(cap:Int):=by omega
   have hii:i<=(i.toNat:Int):=by omega
   have hrun:∃ad',(execOp a.eval ⟨dst,.slice t x lo hi (some y),type,pos,after,guard⟩).run P w=.ok (.value (.slice ad' 0 0)) w:=by
    rcases hb hi hi' true hhi hhh with ⟨rfl,rfl,e1⟩ | ⟨y1,k1,j1,rfl,e1,j10,rfl⟩
    ·simp at q3
    ·rcases hb lo lo' false hlo hl with ⟨rfl,rfl,e2⟩ | ⟨y2,k2,j2,rfl,e2,j20,rfl⟩
     ·have e2':j1.toNat=0:=by simpa using e2
      refine ⟨ad,?_⟩;simp only[execOp,hv,Instr.sliceAt,Sem.run_bind,yH0 h3 w hk,Result.andThen,Instr.slice,Option.map_none,Option.map_some,Sem.run_pure,yJ0 h4,ey,e1,Instr.sliceBounds,
       run_sliceBound (P:=P) (w:=w) i0 hic,run_sliceBound (P:=P) (w:=w) i0 hii]
      simp[e2']
     ·refine ⟨ad,?_⟩
      simp only[execOp,hv,Instr.sliceAt,Sem.run_bind,yH0 h3 w hk,Result.andThen,Instr.slice,Option.map_some,Sem.run_pure,yJ0 h4,ey,e1,e2,Instr.sliceBounds,
       run_sliceBound (P:=P) (w:=w) i0 hic,run_sliceBound (P:=P) (w:=w) i0 hii,if_true,Nat.sub_self]
   obtain ⟨ad',hrun⟩:=hrun;exact ⟨_,hrun,EvOk.one (c:=.nil) ⟨⟨_,rfl⟩,rfl⟩ ⟨rfl,rfl⟩ (fun g hg=>by simp[A.stamp] at hg) rfl⟩
theorem YY0 (h:InvAt C X σ a w S L bl O1 O2) {x:Operand} {j:Nat} {av:AV} (hx:zA0 P σ (.extract x j)=some av):wT0 P C X σ ⟨S,L,bl,a,w,σ.cell⟩ (.extract x j) av:=by
 intro dst type pos after guard;simp only[zA0,Option.bind_eq_some_iff] at hx;obtain ⟨x',hx1,hx⟩:=hx
 split at hx<;>try (simp at hx;done)
 rename_i ns hsh;simp only[Option.bind_eq_some_iff] at hx;obtain ⟨s,hs,hx⟩:=hx;have he:=h.ev hx1;obtain ⟨sh,cs⟩:=x';simp only at hsh;subst hsh;obtain ⟨q1,q2⟩:=he.rep;obtain ⟨vs,hvs,hns,htp⟩:=q1;rw[hvs] at q2;simp only[flat] at q2;have hj:j < vs.size:=by
  have:=(List.getElem?_eq_some_iff.1 hs).1;simpa [<-hns] using this
 have hsj:s=shapeOf vs[j]:=by
  have:(vs.toList.map shapeOf)[j]?=some s:=by rw[hns];exact hs
  simpa [hj] using this.symm
 have hcl:∀v∈vs.toList,v.cells.toList.length=(shapeOf v).2:=by
  intro v hv;cases v<;>simp[Value.cells,shapeOf]
 have key:∀(l:List Value) (n:Nat),(∀v∈l,v.cells.toList.length=(shapeOf v).2)->∀v,l[n]?=some v->
   ((l.flatMap (·.cells.toList)).drop (((l.map shapeOf).take n).map (·.2)).sum).take (shapeOf v).2=v.cells.toList:=by
  intro l
  induction l with
  | nil=>intro n _ v hv;simp at hv
  | cons y l ih=>
   intro n hl v hv;cases n with
   | zero=>
    simp at hv;subst hv;have:=hl y (by simp)
    simp[List.flatMap_cons,<-this]
   | succ n=>
    simp at hv;have:=ih n (fun v hv=>hl v (by simp[hv])) v hv
    have hy:=hl y (by simp)
    rw[<-this];simp only[List.flatMap_cons,List.map_cons,List.take_succ_cons,List.sum_cons];rw[<-hy,<-List.drop_drop,List.drop_append_of_le_length (Nat.le_refl _),List.drop_length,List.nil_append]
 have hk:=key vs.toList j hcl vs[j] (by simp[hj])
 rw[hns,<-hsj] at hk;have hrun:(execOp a.eval ⟨dst,.extract x j,type,pos,after,guard⟩).run P w=.ok (.value vs[j]) w:=by
  simp[execOp,hvs,Instr.extract,hj]
 have hr:=(q2.drop ((ns.take j).map (·.2)).sum).take s.2
 rw[hk] at hr;have htj:isTuple vs[j]=false:=htp _ (by simp)
 split at hx
 ·rename_i hagg
  simp at hx;subst hx;refine ⟨_,hrun,⟨?_,fun c hc=>he.st c (dW0 hc),fun g d k els hc=>he.noOw g d k els (dW0 hc)⟩⟩;rw[hsj] at hagg;cases hv:vs[j]<;>simp[hv,shapeOf] at hagg
  rw[hv] at hr;exact ⟨rfl,by simpa [flat,Value.cells] using hr⟩
 ·rename_i hagg
  simp only[Option.map_eq_some_iff] at hx;obtain ⟨c,hc,rfl⟩:=hx;have hna:yV0 vs[j]=false:=by
   rw[hsj] at hagg;cases hv:vs[j]<;>first | rfl|(simp[hv,shapeOf] at hagg)
  have hs2:s.2=1:=by
   rw[hsj];cases hv:vs[j]<;>first | rfl|(simp[hv,yV0] at hna)
  have hcs:(cs.drop ((ns.take j).map (·.2)).sum).take s.2=[c]:=by
   obtain ⟨hlt,hget⟩:=List.getElem?_eq_some_iff.1 hc;rw[hs2,List.drop_eq_getElem_cons hlt,hget]
   rfl
  rw[hcs] at hr;have hvc:vs[j].cells.toList=[vs[j]]:=by
   cases hv:vs[j]<;>first | rfl|(simp[hv,yV0] at hna)
  rw[hvc] at hr;obtain ⟨u,us',o1,o2,e1,e2,e3,e4⟩:=hr;simp at e1 e2;obtain ⟨rfl,rfl⟩:=e1;obtain ⟨rfl,rfl⟩:=e2;have hcm:c∈cs:=List.mem_of_getElem? hc;refine ⟨_,hrun,EvOk.one e3 ⟨htj,hna⟩ (he.st c hcm) ?_⟩;cases c<;>first | rfl | exact absurd hcm (he.noOw _ _ _ _)
end
end Go.Av
/- Avs, part 11: closures, len, min, max; all pure operations together. -/
namespace Go.Av
section
variable {P:Program} {C:Ctx} {X:List Nat} {σ:AS} {a:Act} {w:World} {S L:Nat->Prop} {bl:List Bk} {O1 O2:List Nat}
theorem PV0 {α:Type}:∀{l:List (Option α)} {r:List α},all3 l=some r->l=r.map some
 | [],r,h=>by simp[all3] at h;subst h;rfl
 | none::_,r,h=>by simp[all3] at h
 | some x::xs,r,h=>by
  simp only[all3,Option.map_eq_some_iff] at h;obtain ⟨r',h1,rfl⟩:=h;rw[PV0 h1]
  rfl
theorem bE0 (h:InvAt C X σ a w S L bl O1 O2) {fn:Fn} {first captured:Array Operand} {av:AV} (hx:zA0 P σ (.makeFunc fn first captured)=some av):wT0 P C X σ ⟨S,L,bl,a,w,σ.cell⟩ (.makeFunc fn first captured) av:=by
 intro dst type pos after guard;cases fn<;>simp only[zA0,reduceCtorEq] at hx
 rename_i f
 split at hx<;>try (simp at hx;done)
 rename_i hz;simp only[Option.map_eq_some_iff] at hx;obtain ⟨cs,hcs,rfl⟩:=hx;have hm:=PV0 hcs;have hfirst:first=#[]:=by simpa using hz
 subst hfirst;refine ⟨.func (.func f) #[] (captured.map a.eval),by simp[execOp,Instr.makeFunc],EvOk.one (c:=.fn f cs) ⟨rfl,captured.map a.eval,rfl,?_,fun j b off hj=>?_⟩ ⟨rfl,rfl⟩ (fun g hg=>by simp[A.stamp] at hg) rfl⟩
 ·have:=congrArg List.length hm
  simpa using this
 ·have h1:(captured.toList.map fun x=>(σ.ev x).bind MH0)[j]?=some (some (b,off)):=by
   rw[hm];simp[hj]
  rw[List.getElem?_map,Option.map_eq_some_iff] at h1;obtain ⟨x,hx,h2⟩:=h1;simp only[Option.bind_eq_some_iff] at h2;obtain ⟨av,h3,h4⟩:=h2;unfold MH0 at h4
  split at h4<;>try (simp at h4;done)
  rename_i c;cases c<;>simp[capOf] at h4
  obtain ⟨rfl,rfl⟩:=h4;obtain ⟨⟨_,blk,e1,e2⟩,_⟩:=(h.ev h3).cell;refine ⟨blk,e1,?_⟩;rw[Array.getElem?_toList] at hx;simp[hx,e2]
theorem qR0 {t:TypeId} {ti:TI} (h:tyOf P t=some ti) (w:World):∃d,(underlying t).run P w=.ok d w/\ti.tk=tkOf d:=by
 obtain ⟨i,d,z,h1,h2,h3,rfl⟩:=zM0 h;exact ⟨d,run_underlying h2 w,rfl⟩
theorem yC1 {c:A} {v:Value} {n:Nat} (hc:RepA ⟨S,L,bl,a,w,σ.cell⟩ c v []) (hn:σ.slen c=some n):∃ad cap,v=.slice ad n cap:=by
 cases c<;>simp only[AS.slen,reduceCtorEq] at hn
 ·simp at hn;subst hn;obtain ⟨⟨ad,hv⟩,_⟩:=hc;exact ⟨ad,0,hv⟩
 ·simp at hn;subst hn;obtain ⟨r1,_⟩:=hc;simp only[RepS] at r1;obtain ⟨ad,cap,h1,h2,_⟩:=r1;exact ⟨ad,cap,h1⟩
 ·simp only[Option.some.injEq] at hn;subst hn
  obtain ⟨_,⟨x,cp,h,_⟩,_⟩:=hc;exact ⟨x,cp,h⟩
theorem yP1 (h:InvAt C X σ a w S L bl O1 O2) {args:Array Operand} {argTypes:Array TypeId} {av:AV} (hx:zA0 P σ (.call { callee:=.builtin .len,args,argTypes })=some av) :
  wT0 P C X σ ⟨S,L,bl,a,w,σ.cell⟩ (.call { callee:=.builtin .len,args,argTypes }) av:=by
 intro dst type pos after guard;simp only[zA0,Option.bind_eq_some_iff] at hx;obtain ⟨x,hx1,t,ht,hx⟩:=hx;obtain ⟨x',ti,h1,h2,hx'⟩:=zU0 hx;clear hx;revert hx';intro hx;have he:=h.ev h1;have hargs:(args.map a.eval)[0]?=some (a.eval x):=by simp[hx1]
 obtain ⟨d,hd1,hd2⟩:=qR0 h2 w;have hgo:∀n:Int,(Builtin.len_ argTypes type (args.map a.eval)).run P w=.ok (.int .i64 n) w->(execOp a.eval ⟨dst,.call { callee:=.builtin .len,args,argTypes },type,pos,after,guard⟩).run P w=.ok (.value (.int .i64 n)) w:=by
  intro n hr;simp only[execOp,resolve,pure_bind,invoke,builtin,Sem.run_bind,hr]
  rfl
 split at hx<;>try (simp at hx;done)
 ·rename_i s hk
  simp at hx;subst hx;obtain ⟨ex,_,_⟩:=he.lit? (x:=.string s) rfl;rw[hk] at hd2;cases d<;>simp[tkOf] at hd2
  refine ⟨_,hgo s.size ?_,EvOk.lit rfl⟩;simp only[Builtin.len_,ht,hargs,Sem.run_bind,hd1,Result.andThen,ex]
  rfl
 ·rename_i e c hk
  simp only[Option.map_eq_some_iff] at hx;obtain ⟨n,hn,rfl⟩:=hx;obtain ⟨ad,cap,hv⟩:=yC1 he.cell.1 hn;rw[hk] at hd2;cases d<;>simp[tkOf] at hd2
  refine ⟨_,hgo n ?_,EvOk.lit rfl⟩;simp only[Builtin.len_,ht,hargs,Sem.run_bind,hd1,Result.andThen,hv]
  rfl
 ·rename_i n e hk
  simp at hx;subst hx;rw[hk] at hd2;cases d<;>simp[tkOf] at hd2
  obtain ⟨rfl,rfl⟩:=hd2;refine ⟨_,hgo n ?_,EvOk.lit rfl⟩;simp only[Builtin.len_,ht,hargs,Sem.run_bind,hd1,Result.andThen];cases a.eval x<;>rfl
theorem jP0 (h:InvAt C X σ a w S L bl O1 O2) {args:Array Operand} {argTypes:Array TypeId} {av:AV} {b:Builtin} (hb:b=.min\/b=.max) (hx:zA0 P σ (.call { callee:=.builtin b,args,argTypes })=some av) :
  wT0 P C X σ ⟨S,L,bl,a,w,σ.cell⟩ (.call { callee:=.builtin b,args,argTypes }) av:=by
 intro dst type pos after guard;rcases hb with rfl | rfl
 all_goals
  simp only[zA0] at hx
  split at hx<;>try (simp at hx;done)
  rename_i x y hxy;obtain ⟨x',y',h1,h2,hx'⟩:=zU0 hx;clear hx
  split at hx'<;>try (simp at hx';done)
  rename_i k x0 k' y0 hl1 hl2;simp at hx';subst hx';obtain ⟨e1,_,_⟩:=(h.ev h1).lit? hl1;obtain ⟨e2,_,_⟩:=(h.ev h2).lit? hl2;have hargs:args=#[x,y]:=by
   cases args;simp at hxy;subst hxy;rfl
  subst hargs;refine ⟨_,?_,EvOk.lit rfl⟩;simp[execOp,resolve,invoke,builtin,Builtin.min_,Builtin.max_,Builtin.min2,Builtin.max2,e1,e2]
theorem KG0 (h:InvAt C X σ a w S L bl O1 O2) {op:Op} {av:AV} (hx:zA0 P σ op=some av):wT0 P C X σ ⟨S,L,bl,a,w,σ.cell⟩ op av:=by
 cases op with
 | move x=>exact JZ0 h hx
 | pick c x y=>exact JY0 h hx
 | binOp op t x y u=>exact NX0 h hx
 | unOp op t x=>exact JW0 h hx
 | convert s t x=>exact YZ0 h hx
 | nilCheck x=>exact bD0 h hx
 | fieldAddr s x f=>exact gQ0 h hx
 | load t x=>exact HA0 h hx
 | field s x f=>exact NW0 h hx
 | indexAddr t x i=>exact gP0 h hx
 | index t x i=>exact NV0 h hx
 | slice t x lo hi mx=>exact NU0 h hx
 | extract x j=>exact YY0 h hx
 | makeFunc fn first captured=>exact bE0 h hx
 | call c=>
  obtain ⟨callee,args,argTypes⟩:=c;cases callee with
  | builtin b=>
   cases b<;>first
    | exact yP1 h hx
    | exact jP0 h (.inl rfl) hx
    | exact jP0 h (.inr rfl) hx
    | (simp[zA0] at hx;done)
  | value f=>simp[zA0] at hx
  | invoke r m=>simp[zA0] at hx
 | _=>simp[zA0] at hx
end
end Go.Av
/- Avs, part 12: stores; boxes written and made. -/
namespace Go.Av
def splice {α:Type} (l:List α) (off:Nat) (m:List α):List α:=l.take off++m++l.drop (off+m.length)
theorem zX0 {α:Type} {l:List α} {off:Nat} {m:List α} (h:off+m.length<=l.length):(splice l off m).length=l.length:=by
 simp[splice];omega
theorem xN0 {α:Type} {l:List α} {off:Nat} {m:List α} (h:off+m.length<=l.length) (j:Nat) :
  (splice l off m)[j]?=if off<=j/\j < off+m.length then m[j - off]? else l[j]?:=by
 unfold splice;have hto:(l.take off).length=off:=by simp;omega
 by_cases h1:j < off
 ·rw[if_neg (by omega),List.append_assoc,List.getElem?_append_left (by omega),List.getElem?_take,if_pos h1]
 ·by_cases h2:j < off+m.length
  ·rw[if_pos ⟨by omega,h2⟩,List.getElem?_append_left (by simp;omega),List.getElem?_append_right (by omega),hto]
  ·rw[if_neg (by omega),List.getElem?_append_right (by simp;omega),List.getElem?_drop]
   congr 1
   simp;omega
theorem tX0 {P:Program} (g o:Nat) (t:TypeId) (fz:Nat×Nat):∀(vs:List Value) (i:Nat) (cur:Array Value) (w:World),w.heap[g]?=some (.cells cur t fz)->o+i+vs.length<=cur.size->
  (∀x,o+i<=x->x < o+i+vs.length->¬(fz.1<=x/\x < fz.2))->(∀v∈vs,v.oneCell'=true)->
  (storeCells ⟨g,o,none⟩ vs i).run P w=.ok () (w.setRow g (splice cur.toList (o+i) vs).toArray)
 | [],i,cur,w,hg,_,_,_=>by
  simp only[storeCells,splice,List.append_nil,List.length_nil,Nat.add_zero,List.take_append_drop,Array.toArray_toList];rw[setRow_self w g cur t fz hg]
  rfl
 | v::rest,i,cur,w,hg,hl,hz,h1=>by
  have hi:o+i < cur.size:=by simp at hl;omega
  have hadd:(⟨g,o,none⟩:Addr).add i=⟨g,o+i,none⟩:=xB0 g o i;have hcell:w.cell? ⟨g,o+i,none⟩=some cur[o+i]:=by simp[World.cell?,hg,hi]
  have hfro:w.frozen? ⟨g,o+i,none⟩=false:=by
   have:=hz (o+i) (Nat.le_refl _) (by simp)
   simp only[World.frozen?,hg];simpa using this
  have hst:(store ((⟨g,o,none⟩:Addr).add i) v).run P w=.ok () (w.setRow g (cur.setIfInBounds (o+i) v)):=by
   rw[hadd,run_store P w _ v _ (h1 v (by simp)),hcell]
   simp[hfro,setCell_eq_setRow w g (o+i) cur t fz v hg]
  have ih:=tX0 (P:=P) g o t fz rest (i+1) (cur.setIfInBounds (o+i) v) (w.setRow g (cur.setIfInBounds (o+i) v)) (setRow_heap w g cur _ t _ hg) (by simp at hl |-;omega)
   (fun x hx hx'=>hz x (by omega) (by simp;omega)) (fun x hx=>h1 x (by simp[hx]))
  simp only[storeCells,Sem.run_bind,hst,Result.andThen_ok,ih,setRow_setRow]
  congr 3
  have e:=list_seg_step cur.toList (o+i) v rest (by simp at hl |-;omega)
  simpa [splice,Array.toList_setIfInBounds,Nat.add_assoc] using e
theorem RpA.append_iff {E:Env}:∀{c1 c2:List A} {us:List Value} {O:List Nat},RpA E (c1++c2) us O↔∃u1 u2 o1 o2,us=u1++u2/\O=o1++o2/\RpA E c1 u1 o1/\RpA E c2 u2 o2
 | [],c2,us,O=>by
  constructor
  ·intro h;exact ⟨[],us,[],O,rfl,rfl,⟨rfl,rfl⟩,h⟩
  ·rintro ⟨u1,u2,o1,o2,rfl,rfl,⟨rfl,rfl⟩,h⟩;exact h
 | c::c1,c2,us,O=>by
  constructor
  ·rintro ⟨u,us',o1,o2,rfl,rfl,h3,h4⟩
   obtain ⟨u1,u2,p1,p2,rfl,rfl,h5,h6⟩:=RpA.append_iff.1 h4;exact ⟨u::u1,u2,o1++p1,p2,rfl,by simp,⟨u,u1,o1,p1,rfl,rfl,h3,h5⟩,h6⟩
  ·rintro ⟨u1,u2,o1,o2,rfl,rfl,⟨u,us',p1,p2,rfl,rfl,h3,h5⟩,h6⟩
   exact ⟨u,us'++u2,p1,p2++o2,rfl,by simp,h3,RpA.append_iff.2 ⟨us',u2,p2,o2,rfl,rfl,h5,h6⟩⟩
theorem RepA.oneCell {E:Env} {c:A} {u:Value} {o:List Nat} (h:RepA E c u o):u.oneCell'=true:=by
 have hv:=RepA.oneC h;cases u<;>first | rfl | simp[OneC,isTuple,yV0] at hv
end Go.Av
/- Avs, part 13: what is one's own is taken along; boxes are written and made. -/
namespace Go.Av
def tkC (mv:Root->Nat->Bool) (g:yA0):List A->AS->List A×AS
 | [],σ=>([],σ)
 | c::cs,σ=>
  match c with
  | .sref r x g0 lo len=>
   if mv r x then
    match σ.ad? r x g0 with
    | some (d,k,els)=>((.ow g d k ((els.drop lo).take len))::(tkC mv g cs (σ.setCell r x .dead)).1,(tkC mv g cs (σ.setCell r x .dead)).2)
    | none=>(.dead::(tkC mv g cs σ).1,(tkC mv g cs σ).2)
   else (c::(tkC mv g cs σ).1,(tkC mv g cs σ).2)
  | _=>(c::(tkC mv g cs σ).1,(tkC mv g cs σ).2)
section
variable {P:Program} {C:Ctx} {X:List Nat} {σ:AS} {a:Act} {w:World} {S L:Nat->Prop} {bl:List Bk} {O1 O2:List Nat}
theorem Fresh.setDead {g:yA0} {r:Root} {x:Nat} {c:A} (hc:c.rstamp=none) (h:Fresh σ g):Fresh (σ.setCell r x c) g:=by
 obtain ⟨h1,h2⟩:=h;cases r with
 | slot t=>
  refine ⟨fun av hav y hy=>?_,h2⟩;simp only[AS.setCell] at hav;rw[List.mem_iff_getElem?] at hav;obtain ⟨j,hj⟩:=hav;rw[List.getElem?_modify] at hj;cases hs:σ.slots[j]? with
  | none=>simp[hs] at hj
  | some av0=>
   simp[hs] at hj;have hm:=h1 av0 (List.mem_of_getElem? hs)
   split at hj
   ·subst hj
    rcases List.mem_or_eq_of_mem_set hy with hy | rfl
    ·exact hm y hy
    ·exact .inl hc
   ·subst hj;exact hm y hy
 | box t=>
  refine ⟨h1,fun cs hcs y hy=>?_⟩;simp only[AS.setCell] at hcs;rw[List.mem_iff_getElem?] at hcs;obtain ⟨j,hj⟩:=hcs;rw[List.getElem?_modify] at hj;cases hs:σ.boxes[j]? with
  | none=>simp[hs] at hj
  | some o=>
   simp[hs] at hj
   split at hj
   ·cases o with
    | none=>simp at hj
    | some cs0=>
     simp at hj;subst hj;have hm:=h2 cs0 (List.mem_of_getElem? hs);rcases List.mem_or_eq_of_mem_set hy with hy | rfl
     ·exact hm y hy
     ·exact .inl hc
   ·subst hj;exact h2 cs (List.mem_of_getElem? hs) y hy
theorem fQ0 {r:Root} {x:Nat} {c0:A} (hc:σ.cell r x=some c0):Env.Le none ⟨S,L,bl,a,w,σ.cell⟩ ⟨S,L,bl,a,w,(σ.setCell r x .dead).cell⟩:=by
 refine ⟨fun _ h=>h,fun _ h=>h,fun _ _=>rfl,fun _ _ h=>h,fun r' c' g d k els' _ he=>?_⟩;simp only at he
 by_cases h:r'=r/\c'=x
 ·obtain ⟨rfl,rfl⟩:=h
  rw[vK0 hc] at he;simp at he
 ·have h':r'≠r\/c'≠x:=by
   by_cases hr:r'=r
   ·exact .inr fun e=>h ⟨hr,e⟩
   ·exact .inl hr
  rw[vJ0 h'] at he;exact ⟨d,els',he,rfl,fun y hy=>by cases r'<;>exact hy⟩
theorem yR0 {r:Root} {x:Nat} {c:A}:(σ.setCell r x c).epoch=σ.epoch:=by cases r<;>rfl
theorem RepLE.takeDrop {S:Nat->Prop} {w:World} {b k:Nat} {o:Nat} {es:List (List T)} {own:List Nat} (h:RepLE S w b o es own) (hk:∀e∈es,e.length=k) (l n:Nat) (hl:l<=es.length):∃own',RepLE S w b (o+l * k) ((es.drop l).take n) own'/\own'.Sublist own:=by
 rw[<-List.take_append_drop l es] at h;obtain ⟨o1,o2,rfl,_,h2⟩:=RepLE.append.1 h;rw[zF0 (fun e he=>hk e (List.mem_of_mem_take he)),List.length_take,Nat.min_eq_left hl] at h2;rw[<-List.take_append_drop n (es.drop l)] at h2;obtain ⟨p1,p2,rfl,h3,_⟩:=RepLE.append.1 h2;exact ⟨p1,h3,(List.sublist_append_left p1 p2).trans (List.sublist_append_right o1 _)⟩
theorem RepO.sub {w:World} {d:Bool} {k:Nat} {els:List (List T)} {ad x:Option Addr} {cap lo len:Nat} {own:List Nat} (h:RepO S w d k els (.slice ad els.length cap) own) (hl:lo+len<=els.length) (hx:uP1 ad lo k cap x) :
  ∃own',RepO S w d k ((els.drop lo).take len) (.slice x len (cap - lo)) own'/\own'.Sublist own:=by
 have hlen:((els.drop lo).take len).length=len:=by simp;omega
 cases d
 ·obtain ⟨ad',cap',e1,e2,e3,e4⟩:=h
  simp at e1;obtain ⟨rfl,rfl⟩:=e1;have hall:∀e∈(els.drop lo).take len,e.length=k:=fun e he=>e3 e (List.mem_of_mem_drop (List.mem_of_mem_take he))
  by_cases hcl:cap=lo
  ·have hl0:len=0:=by omega
   subst hl0;exact ⟨[],⟨x,cap - lo,by rw[hlen],by omega,hall,.inl ⟨rfl,by simp,by omega⟩⟩,List.nil_sublist _⟩
  ·rcases e4 with ⟨rfl,rfl,rfl⟩ | ⟨b,o,arr,ty,fz,rfl,rfl,g3,g4,g5,g6⟩
   ·simp at hl;omega
   ·have hx':=hx (by omega)
    simp[xB0] at hx';subst hx';have hmul:lo * k+(cap - lo) * k=cap * k:=by rw[<-Nat.add_mul];congr 1;omega
    refine ⟨[b],⟨_,cap - lo,by rw[hlen],by omega,hall,.inr ⟨b,o+lo * k,arr,ty,fz,rfl,rfl,g3,by omega,fun y hy hy'=>g5 y (by omega) (by omega),g6.takeDrop e3 lo len⟩⟩,List.Sublist.refl _⟩
 ·obtain ⟨ad',cap',e1,e2,e3,e4⟩:=h
  simp at e1;obtain ⟨rfl,rfl⟩:=e1;have hall:∀e∈(els.drop lo).take len,e.length=k:=fun e he=>e3 e (List.mem_of_mem_drop (List.mem_of_mem_take he))
  by_cases hcl:cap=lo
  ·have hl0:len=0:=by omega
   subst hl0;exact ⟨[],⟨x,cap - lo,by rw[hlen],by omega,hall,.inl ⟨rfl,by simp,by omega⟩⟩,List.nil_sublist _⟩
  ·rcases e4 with ⟨rfl,rfl,rfl⟩ | ⟨b,o,arr,ty,fz,n,rfl,rfl,g3,g4,g5,g6⟩
   ·simp at hl;omega
   ·have hx':=hx (by omega)
    simp[xB0] at hx';subst hx';have hmul:lo * k+(cap - lo) * k=cap * k:=by rw[<-Nat.add_mul];congr 1;omega
    obtain ⟨n',q1,q2⟩:=g6.takeDrop e3 lo len (by omega)
    refine ⟨b::n',⟨_,cap - lo,by rw[hlen],by omega,hall,.inr ⟨b,o+lo * k,arr,ty,fz,n',rfl,rfl,g3,by omega,fun y hy hy'=>g5 y (by omega) (by omega),q1⟩⟩,q2.cons_cons b⟩
theorem Env.Le.trans {E E' E'':Env} (h:Env.Le none E E') (h':Env.Le none E' E''):Env.Le none E E'':=by
 refine ⟨fun b hb=>h'.S b (h.S b hb),fun b hb=>h'.L b (h.L b hb),fun b hb=>(h'.heap b (hb.imp (h.S b) (h.L b))).trans (h.heap b hb),fun i blk hi=>h'.bl i blk (h.bl i blk hi),fun r c g d k els' hg he=>?_⟩;obtain ⟨d1,els1,a1,a2,a3⟩:=h'.head r c g d k els' hg he;obtain ⟨d2,els2,b1,b2,b3⟩:=h.head r c g d1 k els1 hg a1;exact ⟨d2,els2,b1,b2.trans a2,fun x hx=>a3 x (b3 x hx)⟩
theorem Env.Le.rfl' {E:Env}:Env.Le none E E:=⟨fun _ h=>h,fun _ h=>h,fun _ _=>rfl,fun _ _ h=>h,fun _ _ _ d _ els' _ he=>⟨d,els',he,rfl,fun _ h=>h⟩⟩
def Took (C:Ctx) (X:List Nat) (a:Act) (w:World) (S L:Nat->Prop) (bl:List Bk) (O1 O2:List Nat) (i:Nat) (us:List Value) (σ:AS) (cs':List A) (σ':AS):Prop:=
 ∃O1' O2' o',InvAt C X σ' a w S L bl O1' O2'/\RpA ⟨S,L,bl,a,w,σ'.cell⟩ cs' us o'/\o'.Nodup/\
  (∀b∈o',b∉O1'++O2'/\¬L b/\(b∈C.O0\/C.w0.heap.size<=b))/\(∀c∈cs',stampIn X σ.epoch c)/\
  zG0 (some (σ.epoch,i)) cs'/\(∀g d k els,A.ow g d k els∈cs'->g=(σ.epoch,i))/\
  Fresh σ' (σ.epoch,i)/\σ'.epoch=σ.epoch/\(∀b,b∈O1'++O2'->b∈O1++O2)/\(∀b∈o',b∈O1++O2)/\
  Env.Le none ⟨S,L,bl,a,w,σ.cell⟩ ⟨S,L,bl,a,w,σ'.cell⟩/\σ'.boxes.length=σ.boxes.length/\σ'.slots.length=σ.slots.length
theorem boxes_setCell {r:Root} {x:Nat} {c:A}:(σ.setCell r x c).boxes.length=σ.boxes.length/\(σ.setCell r x c).slots.length=σ.slots.length:=by
 cases r<;>simp[AS.setCell]
theorem Took.plain {i:Nat} {us:List Value} {cs':List A} {σ':AS} {c d:A} {u:Value} (h:Took C X a w S L bl O1 O2 i us σ cs' σ') (hr:RepA ⟨S,L,bl,a,w,σ.cell⟩ c u [])
  (hst:stampIn X σ.epoch c) (hne:c.rstamp=none\/c.rstamp≠some (σ.epoch,i)) (hno:∀g e k els,c≠.ow g e k els) (hd:d=c\/d=.dead):Took C X a w S L bl O1 O2 i (u::us) σ (d::cs') σ':=by
 obtain ⟨O1',O2',o',g1,g2,g3,g4,g5,g6,g7,g8,g9,g10,g11,g12,g13,g14⟩:=h;refine ⟨O1',O2',o',g1,⟨u,us,[],o',rfl,rfl,?_,g2⟩,g3,g4,fun x hx=>?_,fun x hx=>?_,fun g e k els hx=>?_,g8,g9,g10,g11,g12,g13,g14⟩
 ·rcases hd with rfl | rfl
  ·exact RepA.go g12 (fun _ hb=>by simp at hb) (by cases d.rstamp<;>simp) hr
  ·exact ⟨rfl,RepA.oneC hr⟩
 ·rcases List.mem_cons.1 hx with rfl | hx
  ·rcases hd with rfl | rfl
   ·exact hst
   ·intro g hg;simp[A.stamp] at hg
  ·exact g5 x hx
 ·rcases List.mem_cons.1 hx with rfl | hx
  ·rcases hd with rfl | rfl
   ·exact hne
   ·exact .inl rfl
  ·exact g6 x hx
 ·rcases List.mem_cons.1 hx with hx | hx
  ·rcases hd with rfl | rfl
   ·exact absurd hx.symm (hno g e k els)
   ·simp at hx
  ·exact g7 g e k els hx
theorem yE0 (mv:Root->Nat->Bool) {i:Nat}:∀{cs:List A} {us:List Value} {σ:AS} {O1 O2:List Nat},InvAt C X σ a w S L bl O1 O2->i∈X->Fresh σ (σ.epoch,i)->
  RpA ⟨S,L,bl,a,w,σ.cell⟩ cs us []->(∀c∈cs,stampIn X σ.epoch c)->zG0 (some (σ.epoch,i)) cs->(∀g d k els,A.ow g d k els∉cs)->
  Took C X a w S L bl O1 O2 i us σ (tkC mv (σ.epoch,i) cs σ).1 (tkC mv (σ.epoch,i) cs σ).2
 | [],us,σ,O1,O2,h,hi,hf,hr,_,_,_=>⟨O1,O2,[],h,hr,List.nodup_nil,by simp,by simp[tkC],fun c hc=>by simp[tkC] at hc,by simp[tkC],hf,rfl,fun _ h=>h,by simp,.rfl',rfl,rfl⟩
 | c::cs,us,σ,O1,O2,h,hi,hf,hr,hst,hne,hno=>by
  obtain ⟨u,us',o1,o2,rfl,ho,h3,h4⟩:=hr;simp at ho;obtain ⟨rfl,rfl⟩:=ho;have hst':∀x∈cs,stampIn X σ.epoch x:=fun x hx=>hst x (List.mem_cons_of_mem _ hx);have hne':zG0 (some (σ.epoch,i)) cs:=fun x hx=>hne x (List.mem_cons_of_mem _ hx);have hno':∀g d k els,A.ow g d k els∉cs:=fun g d k els hx=>hno g d k els (List.mem_cons_of_mem _ hx);have hc0:=hst c (List.mem_cons_self);have hc1:=hne c (List.mem_cons_self)
  have hc2:∀g d k els,c≠.ow g d k els:=fun g d k els e=>hno g d k els (e ▸ List.mem_cons_self);have plain:=fun d hd=>(yE0 mv h hi hf h4 hst' hne' hno').plain (d:=d) h3 hc0 hc1 hc2 hd;cases c with
  | sref r x g0 lo len=>
   simp only[tkC]
   split
   ·cases hat:σ.ad? r x g0 with
    | none=>exact plain .dead (.inr rfl)
    | some p=>
     obtain ⟨d,k,els⟩:=p;have hcell:=AS.ad?_some hat;obtain ⟨hlo,ad,cap,xx,e1,e2,e3⟩:=h3.2.2 d k els hcell;obtain ⟨u0,o,k1,(k2:RepA _ (.ow g0 d k els) _ _),k3,k4,k5⟩:=h.recell hcell hf;rw[e1] at k1;simp at k1;subst k1;obtain ⟨O1a,O2a,ha,hmem⟩:=k5 S L w .dead [] (fun _ h=>h) (fun _ h=>h) h.sl (fun b hb=>.inl hb) (fun b hb=>.inl hb) (by simp) (.inr rfl) (fun _ _ _=>rfl) h.keeps (Nat.le_refl _) ⟨rfl,RepA.oneC k2⟩
      (fun g hg=>by simp[A.stamp] at hg) (fun g d k els' he=>by simp at he)
     have hle:=fQ0 (S:=S) (L:=L) (bl:=bl) (a:=a) (w:=w) hcell;have hep:(σ.setCell r x .dead).epoch=σ.epoch:=yR0;have ih:=yE0 mv (i:=i) (cs:=cs) (us:=us') ha hi (by rw[hep];exact hf.setDead rfl)
      (RpA.go hle (fun _ _=>rfl) (fun y _=>by cases y.rstamp<;>simp) h4) (by rw[hep];exact hst') (by rw[hep];exact hne') hno'
     unfold Took at ih;rw[hep] at ih;obtain ⟨O1',O2',o',g1,g2,g3,g4,g5,g6,g7,g8,g9,g10,g11,g12,g13,g14⟩:=ih;obtain ⟨own',s1,s2⟩:=RepO.sub k2 hlo e3;have hown:∀b∈own',b∈o:=fun b hb=>s2.subset hb;have hsub:∀b,b∈O1'++O2'->b∈O1++O2/\b∉o:=fun b hb=>by
      have:=(hmem b).1 (g10 b hb);simpa using this
     have hsub':∀b∈o',b∈O1++O2/\b∉o:=fun b hb=>by
      have:=(hmem b).1 (g11 b hb);simpa using this
     subst e2;refine ⟨O1',O2',own'++o',g1,⟨_,us',own',o',rfl,rfl,s1,g2⟩,?_,?_,?_,?_,?_,g8,g9,fun b hb=>(hsub b hb).1,?_,hle.trans g12,?_,?_⟩
     ·refine List.nodup_append.2 ⟨?_,g3,fun x hx y hy he=>(hsub' y hy).2 (he ▸ hown x hx)⟩
      exact k3.sublist s2
     ·intro b hb
      rcases List.mem_append.1 hb with hb | hb
      ·have hbo:=hown b hb
       exact ⟨fun hx=>(hsub b hx).2 hbo,fun hS=>(h.stable b hS).2 (k4 b hbo),h.own b (k4 b hbo)⟩
      ·exact g4 b hb
     ·intro y hy
      rcases List.mem_cons.1 hy with rfl | hy
      ·intro g hg;simp only[A.stamp,Option.some.injEq] at hg;subst hg;exact .inr ⟨rfl,hi⟩
      ·exact g5 y hy
     ·intro y hy
      rcases List.mem_cons.1 hy with rfl | hy
      ·exact .inl rfl
      ·exact g6 y hy
     ·intro g e' k' els' hy
      rcases List.mem_cons.1 hy with hy | hy
      ·simp at hy;exact hy.1
      ·exact g7 g e' k' els' hy
     ·intro b hb
      rcases List.mem_append.1 hb with hb | hb
      ·exact k4 b (hown b hb)
      ·exact (hsub' b hb).1
     ·exact g13.trans boxes_setCell.1
     ·exact g14.trans boxes_setCell.2
   ·exact plain _ (.inl rfl)
  | _=>exact plain _ (.inl rfl)
end
end Go.Av
/- Avs, part 14: a box is written; a box is made; what is one's own is let go to be shared. -/
namespace Go.Av
def AS.setBox (σ:AS) (b:Nat) (cs:List A):AS:={ σ with boxes:=σ.boxes.set b (some cs) }
section
variable {P:Program} {C:Ctx} {X:List Nat} {σ:AS} {a:Act} {w:World} {S L:Nat->Prop} {bl:List Bk} {O1 O2:List Nat}
theorem setRow_other (w:World) (g b:Nat) (cs:Array Value) (h:b≠g):(w.setRow g cs).heap[b]?=w.heap[b]?:=by
 simp only[World.setRow,Array.getElem?_modify];rw[if_neg (by omega)]
theorem setRow_size (w:World) (g:Nat) (cs:Array Value):(w.setRow g cs).heap.size=w.heap.size:=by simp[World.setRow]
theorem Keeps.setRow {O:List Nat} {w0 w:World} {g:Nat} {cs:Array Value} (h:Keeps O w0 w) (hg:g∈O\/w0.heap.size<=g):Keeps O w0 (w.setRow g cs):=
 ⟨h.os,h.tape,h.output,by rw[setRow_size];exact h.size,fun b hb hn=>by
  rw[setRow_other _ _ _ _ (by rintro rfl;rcases hg with hg | hg;exact hn hg;omega)]
  exact h.block b hb hn⟩
theorem InvAt.blk_lt (h:InvAt C X σ a w S L bl O1 O2) {b:Nat} {blk:Bk} {cs:List A} (hb:σ.boxes[b]?=some (some cs)) (hk:bl[b]?=some blk):blk.b < w.heap.size:=by
 obtain ⟨blk',p,o,q,g1,g2,⟨o2,us2,g3,g4,g5⟩,_⟩:=RpB.split b _ h.boxes hb;rw[hk] at g1;simp at g1;subst g1;exact g4.lt
theorem InvAt.boxput (h:InvAt C X σ a w S L bl O1 O2) {b off i:Nat} {cs0 cs':List A} {us:List Value} {o':List Nat} (hb:σ.boxes[b]?=some (some cs0)) (hf:Fresh σ (σ.epoch,i))
  (hr:RpA ⟨S,L,bl,a,w,σ.cell⟩ cs' us o') (hl:off+cs'.length<=cs0.length) (hne:zG0 (some (σ.epoch,i)) cs') (hst:∀c∈cs',stampIn X σ.epoch c)
  (hgn:∀g d k els,A.ow g d k els∈cs'->g=(σ.epoch,i)) (hn:o'.Nodup) (ho:∀b∈o',b∉O1++O2/\¬L b/\(b∈C.O0\/C.w0.heap.size<=b)) :
  ∃blk arr ty fz O2',bl[b]?=some blk/\w.heap[blk.b]?=some (.cells arr ty fz)/\blk.o+cs0.length<=arr.size/\(∀x,blk.o<=x->x < blk.o+cs0.length->¬(fz.1<=x/\x < fz.2))/\
   InvAt C X (σ.setBox b (splice cs0 off cs')) a (w.setRow blk.b (splice arr.toList (blk.o+off) us).toArray) S L bl O1 O2':=by
 obtain ⟨blk,p,o,q,g1,g2,g3,g5,g4⟩:=RpB.reput h.boxes hb;obtain ⟨oi,usb,b1,⟨arr,ty,fz,b2,b3,b4,b5⟩,r1⟩:=g3;have hlen:=RpA.length r1;have hlen':=RpA.length hr;simp only at b2 r1;have hsl:off+us.length<=usb.length:=by omega
 have hsa:(blk.o+off)+us.length<=arr.toList.length:=by simp;omega
 have hwin:Win (w.setRow blk.b (splice arr.toList (blk.o+off) us).toArray) blk (splice usb off us):=by
  have hll:(splice usb off us).length=usb.length:=zX0 hsl;have hla:(splice arr.toList (blk.o+off) us).length=arr.size:=by rw[zX0 hsa];simp
  refine ⟨_,ty,fz,setRow_heap w blk.b arr _ ty fz b2,by rw[hll];simp only[List.size_toArray,hla];exact b3,by rw[hll];exact b4,fun j u hj=>?_⟩
  rw[xN0 hsl] at hj;rw[<-Array.getElem?_toList,List.toList_toArray,xN0 hsa]
  by_cases hin:off<=j/\j < off+us.length
  ·rw[if_pos hin] at hj
   rw[if_pos ⟨by omega,by omega⟩,show blk.o+j - (blk.o+off)=j - off by omega]
   exact hj
  ·rw[if_neg hin] at hj
   rw[if_neg (by omega),Array.getElem?_toList]
   exact b5 j u hj
 have hnd:=h.nodup;have hblkO:blk.b∈O1++O2:=by simp[g2,b1]
 have hother:∀x,(L x\/x∈O1++p++oi++q\/x∈o')->(w.setRow blk.b (splice arr.toList (blk.o+off) us).toArray).heap[x]?=w.heap[x]?:=by
  intro x hx;refine setRow_other _ _ _ _ ?_;rintro rfl;rcases hx with hx | hx | hx
  ·exact (h.stable _ hx).2 hblkO
  ·subst g2;subst b1
   simp only[List.append_assoc,List.nodup_append,List.mem_append,List.cons_append,List.nodup_cons,List.mem_cons] at hnd hx;obtain ⟨n1,⟨n2,⟨n3,n4⟩,n5⟩,n6⟩:=hnd;rcases hx with hx | hx | hx
   ·exact n6 _ hx _ (.inr (.inl rfl)) rfl
   ·exact n5 _ hx _ (.inl rfl) rfl
   ·exact n3 hx
  ·exact (ho _ hx).1 hblkO
 have hcellb:∀c,(σ.setBox b (splice cs0 off cs')).cell (.box b) c=(splice cs0 off cs')[c]?:=by
  intro c;have hlt:=(List.getElem?_eq_some_iff.1 hb).1;simp[AS.cell,AS.setBox,List.getElem?_set_self hlt]
 have hcello:∀r c,r≠.box b->(σ.setBox b (splice cs0 off cs')).cell r c=σ.cell r c:=by
  intro r c hr;cases r with
  | slot t=>rfl
  | box b'=>
   have:b≠b':=fun e=>hr (by rw[e])
   simp[AS.cell,AS.setBox,List.getElem?_set_ne this]
 have hE:Env.Le (some (σ.epoch,i)) ⟨S,L,bl,a,w,σ.cell⟩ ⟨S,L,bl,a,w.setRow blk.b (splice arr.toList (blk.o+off) us).toArray,(σ.setBox b (splice cs0 off cs')).cell⟩:=by
  refine ⟨fun _ h=>h,fun _ h=>h,fun x hx=>hother x (.inl (hx.elim (h.sl x) id)),fun _ _ h=>h,fun r c g d k els' hg he=>?_⟩;simp only at he
  by_cases hrb:r=.box b
  ·subst hrb
   rw[hcellb,xN0 hl] at he
   split at he
   ·exact absurd (congrArg some (hgn g d k els' (List.mem_of_getElem? he))) hg
   ·rename_i hout
    refine ⟨d,els',by simp[AS.cell,hb,he],rfl,fun x hx=>?_⟩
    simp only[Env.cv,g1,Option.bind_some,World.cell?,b2,setRow_heap w blk.b arr _ ty fz b2] at hx |-;simp only[Option.isSome_none,Bool.false_eq_true,if_false] at hx |-;rw[<-Array.getElem?_toList] at hx |-;rw[List.toList_toArray,xN0 hsa,if_neg (by rw[hlen'];omega)]
    exact hx
  ·rw[hcello r c hrb] at he
   refine ⟨d,els',he,rfl,fun x hx=>?_⟩;cases r with
   | slot t=>exact hx
   | box b'=>
    simp only[Env.cv] at hx |-;simp only[AS.cell] at he;cases hb':σ.boxes[b']? with
    | none=>simp[hb'] at he
    | some y=>
     cases y with
     | none=>simp[hb'] at he
     | some cs=>
      have hbb:b'≠b:=fun e=>hrb (by rw[e])
      cases hbl:bl[b']? with
      | none=>simp[hbl] at hx
      | some blk'=>
       simp only[hbl,Option.bind_some] at hx |-;have hm:=g5 b' blk' cs hbb hb' hbl;rw[cell?_congr (hother blk'.b (.inr (.inl (by simp only[List.mem_append] at hm |-;rcases hm with hm | hm<;>simp[hm]))))]
       exact hx
 have hneS:∀y∈σ.slots,zG0 (some (σ.epoch,i)) y.cs:=hf.1;have hneB:∀(y:Option (List A)) (ys:List A),y∈σ.boxes->y=some ys->zG0 (some (σ.epoch,i)) ys:=fun y ys hy he=>hf.2 ys (he ▸ hy);have hsp:cs0=(cs0.take off)++((cs0.drop off).take cs'.length++cs0.drop (off+cs'.length)):=by
  rw[<-List.drop_drop,List.take_append_drop,List.take_append_drop]
 have r1':=r1;rw[hsp] at r1';obtain ⟨u1,u23,o1,o23,e1,e2,ra,rb⟩:=RpA.append_iff.1 r1';obtain ⟨u2,u3,o2,o3,e3,e4,rc,rd⟩:=RpA.append_iff.1 rb;have hu1:u1=usb.take off:=by
  have hl1:=RpA.length ra;have hl1':u1.length=off:=by rw[hl1,List.length_take];omega
  rw[e1,<-hl1',List.take_left']
  rfl
 have hu3:u3=usb.drop (off+us.length):=by
  have hl1:=RpA.length ra;have hl2:=RpA.length rc;rw[e1,e3,<-List.append_assoc,List.drop_append_of_le_length]
  ·rw[List.drop_of_length_le,List.nil_append]
   simp[hl1,hl2];omega
  ·simp[hl1,hl2]
   omega
 have hneC0:=hneB _ cs0 (List.mem_of_getElem? hb) rfl;have hmemoi:∀x,x∈oi↔x∈o1\/x∈o2\/x∈o3:=by intro x;rw[e2,e4];simp
 have hsp2:splice usb off us=u1++us++u3:=by rw[hu1,hu3];rfl
 have t0:∀x,x=u1++us++u3->RpA ⟨S,L,bl,a,w.setRow blk.b (splice arr.toList (blk.o+off) us).toArray,(σ.setBox b (splice cs0 off cs')).cell⟩ (cs0.take off++cs'++cs0.drop (off+cs'.length)) x (o1++o'++o3):=by
  rintro _ rfl;refine RpA.append_iff.2 ⟨u1++us,u3,o1++o',o3,rfl,rfl,RpA.append_iff.2 ⟨_,_,_,_,rfl,rfl,?_,?_⟩,?_⟩
  ·exact RpA.go hE (fun x hx=>hother x (.inr (.inl (by simp[(hmemoi x).2 (.inl hx)])))) (fun y hy=>hneC0 y (List.mem_of_mem_take hy)) ra
  ·exact RpA.go hE (fun x hx=>hother x (.inr (.inr hx))) hne hr
  ·exact RpA.go hE (fun x hx=>hother x (.inr (.inl (by simp[(hmemoi x).2 (.inr (.inr hx))])))) (fun y hy=>hneC0 y (List.mem_of_mem_drop hy)) rd
 have t2:=g4 _ _ hE hneB (some (splice cs0 off cs')) (blk.b::(o1++o'++o3)) (fun x hx=>hother x (.inr (.inl (by simp only[List.mem_append] at hx |-;rcases hx with hx | hx<;>simp[hx]))))
  ⟨_,splice usb off us,rfl,hwin,t0 _ hsp2⟩
 have t3:=RpS.go hE (fun x hx=>hother x (.inr (.inl (by simp[hx])))) hneS h.slots
 refine ⟨blk,arr,ty,fz,p++(blk.b::(o1++o'++o3))++q,g1,b2,by omega,by rw[<-hlen];exact b4,⟨h.defers,t3,t2,?_,h.sl,?_,h.s0,h.keeps.setRow (h.own blk.b hblkO),?_,h.pre,h.stS,?_⟩⟩
 ·have hnd1:((O1++p++[blk.b]++o1)++(o2++o3)++q).Nodup:=by
   rw[g2,b1,e2,e4] at hnd;simpa using hnd
  have hnd2:((O1++p++[blk.b]++o1)++o3++q).Nodup:=by
   have hs:List.Sublist ((O1++p++[blk.b]++o1)++o3++q) ((O1++p++[blk.b]++o1)++(o2++o3)++q):=
    List.Sublist.append (List.Sublist.append (List.Sublist.refl _) (List.sublist_append_right _ _)) (List.Sublist.refl _)
   exact hnd1.sublist hs
  have hdis:∀x∈o',x∉(O1++p++[blk.b]++o1)++o3++q:=by
   intro x hx hm;apply (ho x hx).1;rw[g2,b1,e2,e4];simp only[List.mem_append,List.mem_cons,List.not_mem_nil,or_false] at hm |-;rcases hm with ((((hm | hm) | hm) | hm) | hm) | hm<;>simp[hm]
  have e:O1++(p++(blk.b::(o1++o'++o3))++q)=(O1++p++[blk.b]++o1)++o'++(o3++q):=by simp
  rw[e,List.append_assoc,List.nodup_append];rw[List.append_assoc,List.nodup_append] at hnd2;refine ⟨hnd2.1,List.nodup_append.2 ⟨hn,hnd2.2.1,fun x hx y hy he=>hdis x hx (by rw[he];simp only[List.mem_append] at hy |-;rcases hy with hy | hy<;>simp[hy])⟩,fun x hx y hy he=>?_⟩
  rcases List.mem_append.1 hy with hy | hy
  ·exact hdis y hy (by rw[<-he];simp only[List.mem_append] at hx |-;rcases hx with ((hx | hx) | hx) | hx<;>simp[hx])
  ·exact hnd2.2.2 x hx y hy he
 ·intro x hx
  refine ⟨by rw[setRow_size];exact (h.stable x hx).1,fun hm=>?_⟩
  have hso:=(h.stable x hx).2;rw[g2,b1,e2,e4] at hso;simp only[List.mem_append,List.mem_cons,not_or] at hm hso;rcases hm with hm|((hm | hm|((hm | hm) | hm)) | hm)
  ·exact hso.1 hm
  ·exact hso.2.1.1 hm
  ·exact hso.2.1.2.1 hm
  ·exact hso.2.1.2.2.1 hm
  ·exact (ho x hm).2.1 hx
  ·exact hso.2.1.2.2.2.2 hm
  ·exact hso.2.2 hm
 ·intro x hm
  simp only[List.mem_append,List.mem_cons] at hm;have hown:=h.own x;rw[g2,b1,e2,e4] at hown;simp only[List.mem_append,List.mem_cons] at hown;rcases hm with hm|((hm | hm|((hm | hm) | hm)) | hm)
  ·exact hown (.inl hm)
  ·exact hown (.inr (.inl (.inl hm)))
  ·exact hown (.inr (.inl (.inr (.inl hm))))
  ·exact hown (.inr (.inl (.inr (.inr (.inl hm)))))
  ·exact (ho x hm).2.2
  ·exact hown (.inr (.inl (.inr (.inr (.inr (.inr hm))))))
  ·exact hown (.inr (.inr hm))
 ·intro cs hcs c hc
  rcases List.mem_or_eq_of_mem_set hcs with hcs | hcs
  ·exact h.stB cs hcs c hc
  ·simp at hcs;subst hcs
   simp only[splice,List.mem_append] at hc;rcases hc with (hc | hc) | hc
   ·exact h.stB cs0 (List.mem_of_getElem? hb) c (List.mem_of_mem_take hc)
   ·exact hst c hc
   ·exact h.stB cs0 (List.mem_of_getElem? hb) c (List.mem_of_mem_drop hc)
end
end Go.Av
