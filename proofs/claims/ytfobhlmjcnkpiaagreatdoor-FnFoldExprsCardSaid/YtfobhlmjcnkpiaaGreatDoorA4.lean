/- Part A4 of the proof: Avs, part 19: structs and slices put together. / Avs, part 21: functions: how they are entered and left. / Avs, part 23: what a call takes along: shared, lent boxes that are handed over. / Avs, part 24: a function is called. / Avs, part 25: the rule for a call. / Avs, part 19a: bytes to a text. / Avs, part 19b: slices that are made. -/
import Derived.Test.YtfobhlmjcnkpiaaGreatDoorA3
import Derived.Laws.BytesString
import Derived.Laws.MakeOwn
set_option linter.all false
/- Avs, part 19: structs and slices put together. -/
namespace Go.Av
theorem foldl_set (off:Nat):∀(l:List Value) (k:Nat) (cells:Array Value),off+k+l.length<=cells.size->
  (l.zipIdx k).foldl (fun cs (p:Value×Nat)=>cs.setIfInBounds (off+p.2) p.1) cells=(splice cells.toList (off+k) l).toArray
 | [],k,cells,_=>by simp[splice]
 | v::l,k,cells,h=>by
  simp only[List.zipIdx_cons,List.foldl_cons];rw[foldl_set off l (k+1) _ (by simp at h |-;omega)]
  have e:=list_seg_step cells.toList (off+k) v l (by simp at h |-;omega)
  congr 1
  simpa [splice,Array.toList_setIfInBounds,Nat.add_assoc] using e
theorem WA0 (place:Nat->Option (Nat×Nat)) (cells:Array Value) (i:Nat) (v:Value) (rest:List (Nat×Value)) {off size:Nat} (hp:place i=some (off,size)) (hs:v.cells.size=size) (hl:off+size<=cells.size) :
  Instr.fill place cells ((i,v)::rest)=Instr.fill place (splice cells.toList off v.cells.toList).toArray rest:=by
 simp only[Instr.fill,hp];rw[if_neg (by simp[hs];omega)]
 congr 1
 have:=foldl_set off v.cells.toList 0 cells (by simp;omega)
 simp only[Nat.add_zero] at this;rw[<-this];rw[<-Array.foldl_toList];simp[Array.toList_zipIdx]
theorem RpA.splice {E:Env} {cs cs':List A} {us us':List Value} {off:Nat} (h:RpA E cs us []) (h':RpA E cs' us' []):RpA E (splice cs off cs') (splice us off us') []:=by
 unfold Av.splice;have hl:=RpA.length h';rw[hl];exact RpA.append_iff.2 ⟨_,_,[],[],rfl,rfl,RpA.append_iff.2 ⟨_,_,[],[],rfl,rfl,h.take off,h'⟩,h.drop _⟩
def yZ0 (P:Program) (σ:AS) (fs:List (Nat×TypeId)):List A->List (Nat×Operand)->Option (List A)
 | cs,[]=>some cs
 | cs,(j,x)::rest=>(fs[j]?).bind fun f=>(tyOf P f.2).bind fun tf=>(σ.ev x).bind fun av=>
   if av.cs.length=tf.size/\f.1+tf.size<=cs.length then
    match av.sh with
    | .one | .agg=>yZ0 P σ fs (splice cs f.1 av.cs) rest
    | _=>none
   else none
def mT0 (P:Program) (σ:AS) (t:TypeId) (parts:Array (Nat×Operand)):Option AV:=
 (tyOf P t).bind fun ti=>(ti.zero.mapM xF0).bind fun z=>match ti.tk with
  | .struct fs=>if fs.all (fun f=>(tyOf P f.2).isSome) then (yZ0 P σ fs z parts.toList).map fun cs=>⟨.agg,cs⟩ else none
  | _=>none
section
variable {P:Program} {C:Ctx} {X:List Nat} {σ:AS} {a:Act} {w:World} {S L:Nat->Prop} {bl:List Bk} {O1 O2:List Nat}
theorem pQ0 (h:InvAt C X σ a w S L bl O1 O2) {fs:List (Nat×TypeId)} {place:Nat->Option (Nat×Nat)} (hplace:∀(j:Nat) (f:Nat×TypeId) (tf:TI),fs[j]?=some f->tyOf P f.2=some tf->place j=some (f.1,tf.size)) :
  ∀{parts:List (Nat×Operand)} {cs cs':List A} {us:List Value},RpA ⟨S,L,bl,a,w,σ.cell⟩ cs us []->(∀c∈cs,stampIn X σ.epoch c)->(∀g d k els,A.ow g d k els∉cs)->yZ0 P σ fs cs parts=some cs'->
  ∃us',Instr.fill place us.toArray (parts.map fun p=>(p.1,a.eval p.2))=some us'.toArray/\RpA ⟨S,L,bl,a,w,σ.cell⟩ cs' us' []/\(∀c∈cs',stampIn X σ.epoch c)/\(∀g d k els,A.ow g d k els∉cs')
 | [],cs,cs',us,hr,hst,hno,hx=>by
  simp[yZ0] at hx;subst hx;exact ⟨us,rfl,hr,hst,hno⟩
 | (j,x)::rest,cs,cs',us,hr,hst,hno,hx=>by
  simp only[yZ0,Option.bind_eq_some_iff] at hx;obtain ⟨f,hf,tf,htf,av,hav,hx⟩:=hx
  split at hx<;>try (simp at hx;done)
  rename_i hc;have hsh:av.sh=.one\/av.sh=.agg:=by
   cases hs:av.sh<;>simp[hs] at hx<;>simp
  have hx':yZ0 P σ fs (splice cs f.1 av.cs) rest=some cs':=by
   rcases hsh with hs | hs<;>simpa [hs] using hx
  have he:=h.ev hav;obtain ⟨r1,r2,r3⟩:=xK0 he hsh;have hl:=RpA.length hr;obtain ⟨us',g1,g2,g3,g4⟩:=pQ0 h hplace (hr.splice r1 (off:=f.1)) (fun c hc=>by
    simp only[splice,List.mem_append] at hc;rcases hc with (hc | hc) | hc
    ·exact hst c (List.mem_of_mem_take hc)
    ·exact he.st c hc
    ·exact hst c (List.mem_of_mem_drop hc)) (fun g d k els hc=>by
    simp only[splice,List.mem_append] at hc;rcases hc with (hc | hc) | hc
    ·exact hno g d k els (List.mem_of_mem_take hc)
    ·exact he.noOw g d k els hc
    ·exact hno g d k els (List.mem_of_mem_drop hc)) hx'
  refine ⟨us',?_,g2,g3,g4⟩;simp only[List.map_cons];rw[WA0 place us.toArray j (a.eval x) _ (hplace j f tf hf htf) (by have:=r3.trans hc.1;simpa using this) (by simp;omega)]
  simpa using g1
theorem RN0 {α β:Type} (f:α->Sem β) (g:α->β) (w:World):∀l:List α,(∀x∈l,(f x).run P w=.ok (g x) w)->(l.mapM f).run P w=.ok (l.map g) w
 | [],_=>rfl
 | x::l,hf=>by
  have ih:=RN0 f g w l fun y hy=>hf y (List.mem_cons_of_mem _ hy);simp only[List.mapM_cons,Sem.run_bind,hf x (List.mem_cons_self),Result.andThen,ih]
  rfl
theorem wM1 {i:Nat} {dst:Option Tmp} {av:AV} {t:TypeId} {parts:Array (Nat×Operand)} (hx:mT0 P σ t parts=some av):OpOk P C i (.build t parts) dst σ av σ:=by
 rintro X a w ⟨S,L,bl,O1,O2,h⟩ hi type pos after guard;have h':=h.mono (fun x hx=>List.mem_cons_of_mem i hx);simp only[mT0,Option.bind_eq_some_iff] at hx;obtain ⟨ti,ht,z,hz,hx⟩:=hx
 split at hx<;>try (simp at hx;done)
 rename_i fs hk
 split at hx<;>try (simp at hx;done)
 rename_i hfall;simp only[Option.map_eq_some_iff] at hx;obtain ⟨cs,hcs,rfl⟩:=hx;obtain ⟨zr,hzr,hzc⟩:=jE0 ht w;obtain ⟨r1,r2⟩:=wP0 (E:=⟨S,L,bl,a,w,σ.cell⟩) hz;obtain ⟨ff,hd,hff⟩:∃ff:Array Field,(underlying t).run P w=.ok (.struct ff) w/\fs=ff.toList.map fun f=>(f.offset,f.type):=by
  obtain ⟨d,hd1,hd2⟩:=qR0 ht w;rw[hk] at hd2;cases d<;>simp[tkOf] at hd2
  exact ⟨_,hd1,hd2⟩
 have hsz:∀f∈ff.toList,∃tf,tyOf P f.type=some tf:=by
  intro f hf;have:=List.all_eq_true.1 hfall (f.offset,f.type) (by rw[hff];exact List.mem_map.2 ⟨f,hf,rfl⟩)
  exact Option.isSome_iff_exists.1 this
 let sz:Field->Nat:=fun f=>((tyOf P f.type).map (·.size)).getD 0
 have hplaces:(ff.mapM fun f=>do pure (f.offset,<-sizeOf f.type):Sem (Array (Nat×Nat))).run P w=.ok (ff.toList.map fun f=>(f.offset,sz f)).toArray w:=by
  rw[Array.mapM_eq_mapM_toList];have:=RN0 (P:=P) (fun f:Field=>(do pure (f.offset,<-sizeOf f.type):Sem (Nat×Nat))) (fun f=>(f.offset,sz f)) w ff.toList fun f hf=>by
   obtain ⟨tf,htf⟩:=hsz f hf;simp only[Sem.run_bind,yJ0 htf,Result.andThen];simp[sz,htf]
  simp only[map_eq_pure_bind,Sem.run_bind,this,Result.andThen]
  rfl
 have hpl:∀(j:Nat) (f:Nat×TypeId) (tf:TI),fs[j]?=some f->tyOf P f.2=some tf->(ff.toList.map fun f=>(f.offset,sz f)).toArray[j]?=some (f.1,tf.size):=by
  intro j f tf hj htf;rw[hff] at hj;simp only[List.getElem?_map,Option.map_eq_some_iff] at hj;obtain ⟨f0,hf0,rfl⟩:=hj;simp only at htf;simp[hf0,sz,htf]
  try (rw[Array.getElem?_toList] at hf0;exact ⟨f0,hf0,rfl,by rw[htf];rfl⟩)
 obtain ⟨us',g1,g2,g3,g4⟩:=pQ0 h (place:=((ff.toList.map fun f=>(f.offset,sz f)).toArray[·]?)) hpl r1 (fun c hc g hg=>by rw[(r2 c hc).1] at hg;simp at hg) (fun g d k els hm=>by have:=(r2 _ hm).2;simp[isOw] at this) hcs
 refine ⟨_,.agg us'.toArray,w,?_,.inl rfl,h'.done (h.fresh hi) ⟨rfl,by simpa [flat] using g2⟩ (bX0 g3 hi) (uM0 g3) (fun g d k els hm=>absurd hm (g4 g d k els)) List.nodup_nil (by simp)⟩
 have hz2:zr.cells=ti.zero.toArray:=by rw[<-hzc]
 simp only[execOp,Instr.build,Sem.run_bind,hzr,Result.andThen,hd,hplaces];have g1':Instr.fill (fun x=>(ff.toList.map fun f=>(f.offset,sz f)).toArray[x]?) zr.cells (parts.map fun x=>(x.1,a.eval x.2)).toList=some us'.toArray:=by
  rw[hz2];simpa using g1
 have e:(parts.map fun (x:Nat×Operand)=>match x with|(i,x)=>(i,a.eval x))=parts.map fun x=>(x.1,a.eval x.2):=rfl
 rw[e,g1']
 rfl
def chunks (k:Nat):Nat->List T->List (List T)
 | 0,_=>[]
 | n+1,ts=>ts.take k::chunks k n (ts.drop k)
theorem nX0 {k:Nat}:∀{n:Nat} {ts:List T},ts.length=n * k->(chunks k n ts).length=n/\(chunks k n ts).flatten=ts/\∀e∈chunks k n ts,e.length=k
 | 0,ts,h=>by simp at h;subst h;simp[chunks]
 | n+1,ts,h=>by
  rw[Nat.succ_mul] at h;obtain ⟨h1,h2,h3⟩:=nX0 (k:=k) (n:=n) (ts:=ts.drop k) (by rw[List.length_drop];omega)
  refine ⟨by simp[chunks,h1],by simp only[chunks,List.flatten_cons,h2,List.take_append_drop],fun e he=>?_⟩
  simp only[chunks] at he;rcases List.mem_cons.1 he with rfl | he
  ·simp;omega
  ·exact h3 e he
def zY0 (σ:AS) (k:Nat):List (Nat×Operand)->Nat->Option (List A)
 | [],_=>some []
 | (i,x)::rest,j=>(σ.ev x).bind fun av=>if i=j/\av.cs.length=k then
   match av.sh with
   | .one | .agg=>(zY0 σ k rest (j+1)).map fun cs=>av.cs++cs
   | _=>none
  else none
def deepRoot (σ:AS):A->Bool
 | .sref r x g _ _=>match σ.ad? r x g with
  | some (true,_,_)=>true
  | _=>false
 | _=>false
def xC0 (P:Program) (i:Nat) (σ:AS) (t:TypeId) (len:Nat) (parts:Array (Nat×Operand)):Option (AV×AS):=
 (tyOf P t).bind fun ti=>match ti.tk with
  | .slice e=>(tyOf P e).bind fun te=>(zY0 σ te.size parts.toList 0).bind fun cs=>
    if parts.size=len/\len * te.size<=16777216 then (if cs.any (deepRoot σ) then (holdCells 0 (σ.epoch,i) cs σ).map fun r=>(one (.ow (σ.epoch,i) true te.size (chunks te.size len r.1)),r.2)
     else (fzC cs σ).map fun r=>(one (.ow (σ.epoch,i) false te.size (chunks te.size len r.1)),r.2)) else none
  | _=>none
theorem mG0 (h:InvAt C X σ a w S L bl O1 O2) {k:Nat}:∀{parts:List (Nat×Operand)} {j:Nat} {cs:List A},zY0 σ k parts j=some cs->
  ∃us,RpA ⟨S,L,bl,a,w,σ.cell⟩ cs us []/\us.length=parts.length * k/\(∀c∈cs,stampIn X σ.epoch c)/\
   ∀(pre rest:List Value),pre.length=j * k->rest.length=parts.length * k->
    Instr.fill (fun i=>some (i * k,k)) (pre++rest).toArray (parts.map fun p=>(p.1,a.eval p.2))=some (pre++us).toArray
 | [],j,cs,hx=>by
  simp[zY0] at hx;subst hx;exact ⟨[],⟨rfl,rfl⟩,by simp,by simp,fun pre rest h1 h2=>by simp at h2;subst h2;rfl⟩
 | (i,x)::rest,j,cs,hx=>by
  simp only[zY0,Option.bind_eq_some_iff] at hx;obtain ⟨av,hav,hx⟩:=hx
  split at hx<;>try (simp at hx;done)
  rename_i hc;obtain ⟨rfl,hk⟩:=hc;have hsh:av.sh=.one\/av.sh=.agg:=by
   cases hs:av.sh<;>simp[hs] at hx<;>simp
  have hx':(zY0 σ k rest (i+1)).map (fun cs=>av.cs++cs)=some cs:=by
   rcases hsh with hs | hs<;>simpa [hs] using hx
  simp only[Option.map_eq_some_iff] at hx';obtain ⟨cs',hcs',rfl⟩:=hx';have he:=h.ev hav;obtain ⟨r1,r2,r3⟩:=xK0 he hsh;obtain ⟨us,g1,g2,g3,g4⟩:=mG0 h hcs';refine ⟨(a.eval x).cells.toList++us,RpA.append_iff.2 ⟨_,_,[],[],rfl,rfl,r1,g1⟩,by rw[List.length_append,r3,hk,g2,List.length_cons,Nat.succ_mul,Nat.add_comm],?_,fun pre rst hp hr=>?_⟩
  ·intro c hc
   rcases List.mem_append.1 hc with hc | hc
   ·exact he.st c hc
   ·exact g3 c hc
  ·simp only[List.map_cons]
   have hv:(a.eval x).cells.size=k:=by have:=r3.trans hk;simpa using this
   rw[List.length_cons,Nat.succ_mul] at hr;rw[WA0 _ _ i (a.eval x) _ (off:=i * k) (size:=k) rfl hv (by simp;omega)]
   have hsp:splice (pre++rst) (i * k) (a.eval x).cells.toList=(pre++(a.eval x).cells.toList)++rst.drop k:=by
    unfold splice;rw[<-hp,List.take_left',List.drop_append,List.drop_of_length_le (by omega)]
    ·have:pre.length+(a.eval x).cells.toList.length - pre.length=k:=by rw[r3,hk];omega
     rw[this];simp
    ·rfl
   rw[hsp,g4 (pre++(a.eval x).cells.toList) (rst.drop k) (by rw[List.length_append,hp,r3,hk,Nat.succ_mul]) (by rw[List.length_drop];omega)]
   simp
theorem HH0 {i:Nat} {dst:Option Tmp} {d:Bool} {k:Nat} {els:List (List T)} {v:Value} {own:List Nat} (h:InvAt C X σ a w S L bl O1 O2) (hi:i∈X) (hf:Fresh σ (σ.epoch,i)) (hr:RepO S w d k els v own) (hn:own.Nodup)
  (ho:∀b∈own,b∉O1++O2/\¬L b/\(b∈C.O0\/C.w0.heap.size<=b)):Inv C X (σ.putO dst (one (.ow (σ.epoch,i) d k els))) (a.put dst v) w:=by
 have hv1:isTuple v=false/\yV0 v=false:=by obtain ⟨ad,cap,rfl,_⟩:=RepO.head hr;exact ⟨rfl,rfl⟩
 exact h.done (i:=i) (o':=own) hf ⟨hv1,by rw[yQ0 hv1];exact ⟨v,[],own,[],rfl,by simp,hr,rfl,rfl⟩⟩ (fun c hc=>by simp[one] at hc;subst hc;exact .inl rfl)
  (fun c hc g hg=>by simp[one] at hc;subst hc;simp[A.stamp] at hg;subst hg;exact .inr ⟨rfl,hi⟩) (fun g d k els hm=>by simp[one] at hm;exact hm.1) hn ho
theorem jW0 {i:Nat} {dst:Option Tmp} {k:Nat} {els:List (List T)} {us rest:List Value} {e:TypeId} {cap:Nat} (h:InvAt C X σ a w S L bl O1 O2) (hi:i∈X) (hf:Fresh σ (σ.epoch,i)) (hk:∀x∈els,x.length=k)
  (hr:RepTs S w els.flatten us) (hc:els.length<=cap) (hl:cap * k<=us.length+rest.length) :
  Inv C X (σ.putO dst (one (.ow (σ.epoch,i) false k els))) (a.put dst (.slice (some ⟨w.heap.size,0,none⟩) els.length cap)) (w.alloc (.cells (us++rest).toArray e)):=by
 have hSame:∀b,S b->(w.alloc (.cells (us++rest).toArray e)).heap[b]?=w.heap[b]?:=fun b hb=>zR0 _ _ _ (h.stable b (h.sl b hb)).1;have h2:=h.world (w':=w.alloc (.cells (us++rest).toArray e)) (fun b hb=>by
   rcases hb with hb | hb
   ·exact zR0 _ _ _ (h.stable b hb).1
   ·exact zR0 _ _ _ (h.own_lt hb)) (h.keeps.alloc _) (by simp)
 refine HH0 h2 hi hf (own:=[w.heap.size]) ⟨_,cap,rfl,hc,hk,.inr ⟨w.heap.size,0,_,e,(0,0),rfl,rfl,heap_alloc_new _ _,by simpa using hl,fun x _ _=>by omega,?_⟩⟩ (by simp) ?_
 ·refine RepSE.ofFlat (hr.mono (fun _ h=>h) hSame) fun j u hj=>?_
  simp only[World.cell?,heap_alloc_new,Nat.zero_add,Option.isSome_none,Bool.false_eq_true,if_false];have:=(List.getElem?_eq_some_iff.1 hj).1;simp[List.getElem?_append_left this,hj]
 ·intro b hb
  simp at hb;subst hb;exact ⟨fun hm=>by have:=h.own_lt hm;omega,fun hS=>by have:=(h.stable _ hS).1;omega,.inr h.keeps.size⟩
theorem XE0 {i:Nat} {dst:Option Tmp} {k:Nat} {els:List (List T)} {us rest:List Value} {e:TypeId} {cap:Nat} {own:List Nat} (h:InvAt C X σ a w S L bl O1 O2) (hi:i∈X) (hf:Fresh σ (σ.epoch,i)) (hk:∀x∈els,x.length=k)
  (hr:RepTL S w els.flatten us own) (hn:own.Nodup) (ho:∀b∈own,b < w.heap.size/\b∉O1++O2/\¬L b/\(b∈C.O0\/C.w0.heap.size<=b)) (hc:els.length<=cap) (hl:cap * k<=us.length+rest.length) :
  Inv C X (σ.putO dst (one (.ow (σ.epoch,i) true k els))) (a.put dst (.slice (some ⟨w.heap.size,0,none⟩) els.length cap)) (w.alloc (.cells (us++rest).toArray e)):=by
 have hSame:∀b,S b->(w.alloc (.cells (us++rest).toArray e)).heap[b]?=w.heap[b]?:=fun b hb=>zR0 _ _ _ (h.stable b (h.sl b hb)).1;have h2:=h.world (w':=w.alloc (.cells (us++rest).toArray e)) (fun b hb=>by
   rcases hb with hb | hb
   ·exact zR0 _ _ _ (h.stable b hb).1
   ·exact zR0 _ _ _ (h.own_lt hb)) (h.keeps.alloc _) (by simp)
 refine HH0 h2 hi hf (own:=w.heap.size::own) ⟨_,cap,rfl,hc,hk,.inr ⟨w.heap.size,0,_,e,(0,0),own,rfl,rfl,heap_alloc_new _ _,by simpa using hl,fun x _ _=>by omega,?_⟩⟩ (List.nodup_cons.2 ⟨fun h=>by have:=(ho _ h).1;omega,hn⟩) ?_
 ·refine RepLE.ofFlat (hr.mono (fun _ h=>h) hSame (fun x hx=>zR0 _ _ _ (ho x hx).1)) fun j u hj=>?_
  simp only[World.cell?,heap_alloc_new,Nat.zero_add,Option.isSome_none,Bool.false_eq_true,if_false];have:=(List.getElem?_eq_some_iff.1 hj).1;simp[List.getElem?_append_left this,hj]
 ·intro b hb
  rcases List.mem_cons.1 hb with rfl | hb
  ·exact ⟨fun hm=>by have:=h.own_lt hm;omega,fun hS=>by have:=(h.stable _ hS).1;omega,.inr h.keeps.size⟩
  ·exact (ho b hb).2
theorem rK0 (h:InvAt C X σ a w S L bl O1 O2) {k:Nat}:∀{parts:List (Nat×Operand)} {j:Nat} {cs:List A},zY0 σ k parts j=some cs->∀g d k els,A.ow g d k els∉cs
 | [],j,cs,hx=>by simp[zY0] at hx;subst hx;simp
 | (i,x)::rest,j,cs,hx=>by
  simp only[zY0,Option.bind_eq_some_iff] at hx;obtain ⟨av,hav,hx⟩:=hx
  split at hx<;>try (simp at hx;done)
  have hx':(zY0 σ k rest (j+1)).map (fun cs=>av.cs++cs)=some cs:=by
   cases hs:av.sh<;>simp[hs] at hx<;>simpa using hx
  simp only[Option.map_eq_some_iff] at hx';obtain ⟨cs',hcs',rfl⟩:=hx';intro g d k els hm;rcases List.mem_append.1 hm with hm | hm
  ·exact (h.ev hav).noOw g d k els hm
  ·exact rK0 h hcs' g d k els hm
theorem YB0 {i:Nat} {dst:Option Tmp} {av:AV} {σ1:AS} {t:TypeId} {len:Nat} {parts:Array (Nat×Operand)} (hx:xC0 P i σ t len parts=some (av,σ1)):OpOk P C i (.buildSlice t len parts) dst σ av σ1:=by
 rintro X a w ⟨S,L,bl,O1,O2,h⟩ hi type pos after guard;have h':=h.mono (fun x hx=>List.mem_cons_of_mem i hx);simp only[xC0,Option.bind_eq_some_iff] at hx;obtain ⟨ti,ht,hx⟩:=hx
 split at hx<;>try (simp at hx;done)
 rename_i e hk;simp only[Option.bind_eq_some_iff] at hx;obtain ⟨te,he,cs,hcs,hx⟩:=hx
 split at hx<;>try (simp at hx;done)
 rename_i hc;obtain ⟨hpl,hlim⟩:=hc;obtain ⟨us,g1,g2,g3,g4⟩:=mG0 h hcs;have hpl':parts.toList.length=len:=by simpa using hpl
 have hul:us.length=len * te.size:=by rw[g2,hpl']
 obtain ⟨z,hz,hzc⟩:=jE0 he w;have hfin:Inv C (i::X) (σ1.putO dst av) (a.put dst (.slice (some ⟨w.heap.size,0,none⟩) len len)) (w.alloc (.cells us.toArray e)):=by
  split at hx
  ·simp only[holdCells,Option.map_map,Option.map_eq_some_iff,Function.comp,Prod.mk.injEq] at hx
   obtain ⟨ts,hts,rfl,rfl⟩:=hx;have hnoow:∀g d k els,A.ow g d k els∉cs:=rK0 h hcs;obtain ⟨O1',O2',own',q1,q2,q3,q4,q5,q6,q7,q8,q9,q10,q11,q12,q13,q14⟩:=yE0 (rF0 0) h' (i:=i) (by simp) (h.fresh hi) g1 (uM0 g3) (bX0 g3 hi) hnoow
   have q2:=q2.toOwn hts;obtain ⟨c1,c2,c3⟩:=nX0 (k:=te.size) (n:=len) (ts:=ts) (by rw[<-q2.length,hul])
   have hfin:=XE0 (i:=i) (dst:=dst) (e:=e) (cap:=len) (rest:=[]) q1 (by simp) (by rw[q9];exact q8) c3 (by rw[c2];exact q2) q3 (fun b hb=>⟨h.own_lt (q11 b hb),q4 b hb⟩) (by rw[c1];exact Nat.le_refl _) (by simp[hul])
   rw[q9,c1,List.append_nil] at hfin;exact hfin
  ·simp only[Option.map_eq_some_iff,Prod.mk.injEq] at hx
   obtain ⟨⟨ts,σ'⟩,hfz,rfl,rfl⟩:=hx;obtain ⟨S',L',O1',O2',q1,q2,q3,qL,q4,q5,q6,q7,q8,q9⟩:=wN0 h' (i:=i) (h.fresh hi) g1 hfz;obtain ⟨c1,c2,c3⟩:=nX0 (k:=te.size) (n:=len) (ts:=ts) (by rw[<-q2.length,hul])
   have hfin:=jW0 (i:=i) (dst:=dst) (e:=e) (cap:=len) (rest:=[]) q1 (by simp) (by rw[q6];exact q5) c3 (by rw[c2];exact q2) (by rw[c1];exact Nat.le_refl _) (by simp[hul])
   rw[q6,c1,List.append_nil] at hfin;exact hfin
 refine ⟨_,.slice (some ⟨w.heap.size,0,none⟩) len len,w.alloc (.cells us.toArray e),?_,.inl rfl,hfin⟩;have hfill:∀zz:Array Value,Instr.fill (fun i=>some (i * te.size,te.size)) ((Array.range (len * te.size)).map (zz[· % zz.size]!)) (parts.toList.map fun x=>(x.1,a.eval x.2))=some us.toArray:=by
  intro zz;have:=g4 [] ((Array.range (len * te.size)).map (zz[· % zz.size]!)).toList (by simp) (by rw[hpl'];simp)
  simpa only [List.nil_append,Array.toArray_toList] using this
 have e1:(parts.map fun (x:Nat×Operand)=>match x with|(i,x)=>(i,a.eval x))=parts.map fun x=>(x.1,a.eval x.2):=rfl
 have hnot:¬(len * te.size > 2 ^ 24):=by
  have:(2:Nat) ^ 24=16777216:=by decide
  omega
 simp only[execOp,Instr.buildSlice,Sem.run_bind,yH0 ht w hk,Result.andThen,yJ0 he,if_neg hnot]
 by_cases h0:len * te.size=0
 ·have hf0:=hfill #[]
  simp[h0] at hf0;simp[h0,hf0,newRow,Result.andThen]
 ·simp[h0,hz,Result.andThen,hfill,newRow]
end
end Go.Av
/- Avs, part 21: functions: how they are entered and left. -/
namespace Go.Av
def Env.zero (S L:Nat->Prop) (bl:List Bk) (w:World):Env:=⟨S,L,bl,⟨#[],[]⟩,w,fun _ _=>none⟩
def ACl (P:Program) (f:FuncId) (args:List AV) (bx:List (Option (List A))) (R:AV->List (Option (List A))->Prop):Prop:=
 ∀(w:World) (vals:Array Value) (S L:Nat->Prop) (bl:List Bk) (O1 O2:List Nat),
  RpS (Env.zero S L bl w) args vals.toList O1->RpB (Env.zero S L bl w) bx bl O2->(O1++O2).Nodup->(∀b,S b->L b)->(∀b,L b->b < w.heap.size/\b∉O1++O2)->Gd w S->
  Calls P f vals w fun e w'=>∃v,e=.returned v/\∃res bx' S' bl' o1 o2,R res bx'/\RepV (Env.zero S' S' bl' w') res v o1/\RpB (Env.zero S' S' bl' w') bx' bl' o2/\
   (o1++o2).Nodup/\(∀b,S' b->b < w'.heap.size/\b∉o1++o2)/\(∀b,S b->S' b)/\(∀b,S' b->S b\/b∈O1++O2\/w.heap.size<=b)/\Keeps (O1++O2) w w'/\
   (∀b∈o1++o2,b∈O1++O2\/w.heap.size<=b)/\bl <+: bl'
def A.leaves:A->Bool
 | .ro false _ | .rptr false _ | .sref .. | .eptr ..=>false
 | _=>true
def A.reset:A->A
 | .ow _ d k els=>.ow (0,0) d k els
 | c=>c
theorem RepA.reset {E:Env} {c:A} {u:Value} {own:List Nat} (h:RepA E c u own):RepA E c.reset u own:=by
 cases c<;>exact h
theorem RpA.reset {E:Env}:∀{cs:List A} {us:List Value} {own:List Nat},RpA E cs us own->RpA E (cs.map A.reset) us own
 | [],_,_,h=>h
 | c::cs,us,own,h=>by
  obtain ⟨u,us',o1,o2,h1,h2,h3,h4⟩:=h;exact ⟨u,us',o1,o2,h1,h2,h3.reset,RpA.reset h4⟩
def gR0 (nb:Nat):A->Bool
 | .ptr b _=>decide (b < nb)
 | .bsl b _ _=>decide (b < nb)
 | .fn _ caps=>caps.all fun c=>decide (c.1 < nb)
 | _=>true
def goes (nb:Nat) (c:A):Bool:=c.leaves && gR0 nb c
theorem RepA.leave {S L:Nat->Prop} {bl:List Bk} {a:Act} {w:World} {ca:Root->Nat->Option A} {nb:Nat} {c:A} {u:Value} {own:List Nat} (hl:goes nb c=true) (h:RepA ⟨S,L,bl,a,w,ca⟩ c u own):RepA (Env.zero S S (bl.take nb) w) c.reset u own:=by
 simp only[goes,Bool.and_eq_true] at hl;obtain ⟨hl,hp⟩:=hl;cases c with
 | ro st els=>
  cases st with
  | true=>exact h
  | false=>simp[A.leaves] at hl
 | rptr st cells=>
  cases st with
  | true=>exact h
  | false=>simp[A.leaves] at hl
 | sref r c g lo len=>simp[A.leaves] at hl
 | eptr r c g i off=>simp[A.leaves] at hl
 | ptr b off=>
  obtain ⟨h0,blk,h2,rfl⟩:=h;simp only[gR0,decide_eq_true_eq] at hp;exact ⟨h0,blk,by simp only[Env.zero,List.getElem?_take,if_pos hp];exact h2,rfl⟩
 | bsl b k len=>
  obtain ⟨h0,blk,cap,h2,h3⟩:=h;simp only[gR0,decide_eq_true_eq] at hp;exact ⟨h0,blk,cap,by simp only[Env.zero,List.getElem?_take,if_pos hp];exact h2,h3⟩
 | fn f caps=>
  obtain ⟨h0,vs,h2,h3,h4⟩:=h;refine ⟨h0,vs,h2,h3,fun j b off hj=>?_⟩;obtain ⟨blk,k1,k2⟩:=h4 j b off hj;simp only[gR0,List.all_eq_true,decide_eq_true_eq] at hp;exact ⟨blk,by simp only[Env.zero,List.getElem?_take,if_pos (hp (b,off) (List.mem_of_getElem? hj))];exact k1,k2⟩
 | _=>exact h
theorem RpA.leave {S L:Nat->Prop} {bl:List Bk} {a:Act} {w:World} {ca:Root->Nat->Option A} {nb:Nat}:∀{cs:List A} {us:List Value} {own:List Nat},(∀c∈cs,goes nb c=true)->RpA ⟨S,L,bl,a,w,ca⟩ cs us own->RpA (Env.zero S S (bl.take nb) w) (cs.map A.reset) us own
 | [],_,_,_,h=>h
 | c::cs,us,own,hl,h=>by
  obtain ⟨u,us',o1,o2,h1,h2,h3,h4⟩:=h;exact ⟨u,us',o1,o2,h1,h2,h3.leave (hl c List.mem_cons_self),RpA.leave (fun x hx=>hl x (List.mem_cons_of_mem _ hx)) h4⟩
def wM0 (nb:Nat) (o:Option (List A)):Option (List A):=match o with
 | some cs=>if cs.all (goes nb) then some (cs.map A.reset) else none
 | none=>none
theorem RpB.leave {S L:Nat->Prop} {bl:List Bk} {a:Act} {w:World} {ca:Root->Nat->Option A} {nb:Nat}:∀{bx:List (Option (List A))} {bs:List Bk} {own:List Nat} (n:Nat),RpB ⟨S,L,bl,a,w,ca⟩ bx bs own->
  ∃own',RpB (Env.zero S S (bl.take nb) w) ((bx.take n).map (wM0 nb)) (bs.take n) own'/\List.Sublist own' own
 | [],bs,own,n,h=>by obtain ⟨rfl,rfl⟩:=h;exact ⟨[],by simp[RpB],List.Sublist.refl _⟩
 | x::bx,bs,own,0,h=>⟨[],by simp[RpB],List.nil_sublist _⟩
 | x::bx,bs,own,n+1,h=>by
  obtain ⟨b,bs',o1,o2,rfl,rfl,h3,h4⟩:=h;obtain ⟨ow,k1,k2⟩:=RpB.leave (nb:=nb) n h4;have hdrop:wM0 nb x=none->∃own',RpB (Env.zero S S (bl.take nb) w) (((x::bx).take (n+1)).map (wM0 nb)) ((b::bs').take (n+1)) own'/\List.Sublist own' (o1++o2):=fun e=>by
   refine ⟨ow,⟨b,bs'.take n,[],ow,rfl,rfl,?_,k1⟩,k2.trans (List.sublist_append_right _ _)⟩;rw[e];rfl
  cases x with
  | none=>exact hdrop rfl
  | some cs=>
   by_cases hc:cs.all (goes nb)=true
   ·obtain ⟨o,us0,m1,m2,m3⟩:=h3
    refine ⟨o1++ow,⟨b,bs'.take n,o1,ow,rfl,rfl,?_,k1⟩,List.Sublist.append (List.Sublist.refl _) k2⟩;simp only[wM0,if_pos hc];exact ⟨o,us0,m1,m2,m3.leave (List.all_eq_true.1 hc)⟩
   ·exact hdrop (by simp only[wM0,if_neg hc])
def yT0:AV:=⟨.tup [],[]⟩
def nD0 (args:List AV) (n:Nat):List AV:=args++List.replicate (n - args.length) yT0
def tE0 (args:List AV) (n:Nat) (bx:List (Option (List A))):AS:=⟨nD0 args n,bx,1⟩
theorem RpS.append {E:Env}:∀{a b:List AV} {us vs:List Value} {o p:List Nat},RpS E a us o->RpS E b vs p->RpS E (a++b) (us++vs) (o++p)
 | [],b,us,vs,o,p,h,h'=>by obtain ⟨rfl,rfl⟩:=h;exact h'
 | x::a,b,us,vs,o,p,h,h'=>by
  obtain ⟨u,us',o1,o2,rfl,rfl,h3,h4⟩:=h;exact ⟨u,us'++vs,o1,o2++p,rfl,by simp,h3,RpS.append h4 h'⟩
theorem RpS.undef {E:Env}:∀n,RpS E (List.replicate n yT0) (List.replicate n Go.undef) []
 | 0=>⟨rfl,rfl⟩
 | n+1=>⟨Go.undef,List.replicate n Go.undef,[],[],rfl,rfl,⟨⟨#[],rfl,rfl,by simp⟩,rfl,rfl⟩,RpS.undef n⟩
def xD0 (cs:List A):Prop:=∀c∈cs,stampIn [] 1 c/\c.rstamp=none
def RT0 (av:AV):Option (Bool×Nat×List A):=match av.sh with
 | .one=>some (false,av.cs.length,av.cs)
 | .agg=>some (true,av.cs.length,av.cs)
 | _=>none
def PX0 (P:Program) (σ:AS):ResultVar->Option AV
 | .tmp t=>σ.ev (.tmp t)
 | .cell t ty=>(σ.ev (.tmp t)).bind fun x=>match x with
  | ⟨.one,[c]⟩=>YE0 P σ ty c
  | _=>none
def nZ0 (P:Program) (σ:AS) (r:ResultVar):Option (Bool×Nat×List A):=(PX0 P σ r).bind RT0
def uV0 (P:Program) (σ:AS):List ResultVar->Option (List (Bool×Nat)×List A)
 | []=>some ([],[])
 | r::rest=>(nZ0 P σ r).bind fun r=>(uV0 P σ rest).map fun q=>((r.1,r.2.1)::q.1,r.2.2++q.2)
def gG0 (P:Program) (σ:AS) (rs:List ResultVar):Option AV:=match rs with
 | [r]=>(nZ0 P σ r).map fun r=>⟨if r.1 then .agg else .one,r.2.2⟩
 | rs=>(uV0 P σ rs).map fun q=>⟨.tup q.1,q.2⟩
def yV1 (base:Nat) (r:Root) (_:Nat):Bool:=match r with | .slot _=>true | .box b=>decide (base<=b)
def bA0 (base:Nat) (r:List A×AS):Nat:=if r.1.all (gR0 base) && (r.2.boxes.take base).all (fun o=>match o with | none=>true | some cs=>cs.all (gR0 base)) then base else r.2.boxes.length
def aRes (P:Program) (base:Nat) (rs:List ResultVar) (σ:AS):Option (AV×List (Option (List A))):=
 (gG0 P σ rs).bind fun av=>
  let r:=tkC (yV1 base) (σ.epoch,0) av.cs σ
  if r.1.all (goes (bA0 base r)) && decide (base<=bA0 base r) then some (⟨av.sh,r.1.map A.reset⟩,(r.2.boxes.take (bA0 base r)).map (wM0 (bA0 base r))) else none
section
variable {P:Program} {C:Ctx} {X:List Nat} {σ:AS} {a:Act} {w:World} {S L:Nat->Prop} {bl:List Bk} {O1 O2:List Nat}
theorem RepA.free {a':Act} {ca ca':Root->Nat->Option A} {c:A} {u:Value} {own:List Nat} (hl:c.rstamp=none) (h:RepA ⟨S,L,bl,a,w,ca⟩ c u own):RepA ⟨S,L,bl,a',w,ca'⟩ c u own:=by
 cases c with
 | sref r c g lo len=>simp[A.rstamp] at hl
 | eptr r c g i off=>simp[A.rstamp] at hl
 | _=>exact h
theorem RpA.free {a':Act} {ca ca':Root->Nat->Option A}:∀{cs:List A} {us:List Value} {own:List Nat},(∀c∈cs,c.rstamp=none)->RpA ⟨S,L,bl,a,w,ca⟩ cs us own->RpA ⟨S,L,bl,a',w,ca'⟩ cs us own
 | [],_,_,_,h=>h
 | c::cs,us,own,hl,h=>by
  obtain ⟨u,us',o1,o2,h1,h2,h3,h4⟩:=h;exact ⟨u,us',o1,o2,h1,h2,h3.free (hl c List.mem_cons_self),RpA.free (fun x hx=>hl x (List.mem_cons_of_mem _ hx)) h4⟩
theorem RpS.free {a':Act} {ca ca':Root->Nat->Option A}:∀{sl:List AV} {us:List Value} {own:List Nat},(∀av∈sl,∀c∈av.cs,c.rstamp=none)->RpS ⟨S,L,bl,a,w,ca⟩ sl us own->RpS ⟨S,L,bl,a',w,ca'⟩ sl us own
 | [],_,_,_,h=>h
 | av::sl,us,own,hl,h=>by
  obtain ⟨u,us',o1,o2,h1,h2,h3,h4⟩:=h;refine ⟨u,us',o1,o2,h1,h2,?_,RpS.free (fun x hx=>hl x (List.mem_cons_of_mem _ hx)) h4⟩;have hl0:=hl av List.mem_cons_self;obtain ⟨sh,cs⟩:=av;cases sh with
  | any=>exact h3
  | one=>exact ⟨h3.1,h3.2.free hl0⟩
  | agg=>exact ⟨h3.1,h3.2.free hl0⟩
  | tup ns=>exact ⟨h3.1,h3.2.free hl0⟩
theorem RpB.free {a':Act} {ca ca':Root->Nat->Option A}:∀{bx:List (Option (List A))} {bs:List Bk} {own:List Nat},(∀cs,some cs∈bx->∀c∈cs,c.rstamp=none)->RpB ⟨S,L,bl,a,w,ca⟩ bx bs own->RpB ⟨S,L,bl,a',w,ca'⟩ bx bs own
 | [],_,_,_,h=>h
 | x::bx,bs,own,hl,h=>by
  obtain ⟨b,bs',o1,o2,h1,h2,h3,h4⟩:=h;refine ⟨b,bs',o1,o2,h1,h2,?_,RpB.free (fun cs hcs=>hl cs (List.mem_cons_of_mem _ hcs)) h4⟩;cases x with
  | none=>exact h3
  | some cs=>
   obtain ⟨o,us0,k1,k2,k3⟩:=h3;exact ⟨o,us0,k1,k2,k3.free (hl cs List.mem_cons_self)⟩
def jK0 (tmps:Array Value):ResultVar->Sem Value
 | .tmp t=>pure (tmps.getD t undef)
 | .cell a t=>do loadVar t (<-asAddr (tmps.getD a undef))
theorem zF1 (h:InvAt C X σ a w S L bl O1 O2) {r:ResultVar} {av:AV} (hx:PX0 P σ r=some av):∃v,(jK0 a.tmps r).run P w=.ok v w/\EvOk C X σ ⟨S,L,bl,a,w,σ.cell⟩ av v:=by
 cases r with
 | tmp t=>exact ⟨a.eval (.tmp t),rfl,h.ev hx⟩
 | cell t ty=>
  simp only[PX0,Option.bind_eq_some_iff] at hx;obtain ⟨x',h1,hx⟩:=hx
  split at hx<;>try (simp at hx;done)
  rename_i c;unfold YE0 at hx;obtain ⟨ti,cs,h2,h3,hx⟩:=zU0 hx;have he:=h.ev h1;obtain ⟨r1,r2,r3,r4,r5⟩:=he.cell;obtain ⟨b,o,hv,hrow,hst,hno⟩:=vG1 h r1 r4 h3;obtain ⟨v,h4,h5,h6⟩:=jH0 (P:=P) h2 (hrow.take ti.size) hx;refine ⟨v,?_,h5,fun x hx=>hst x (List.mem_of_mem_take (h6 ▸ hx)),fun g d k els hx=>hno g d k els (List.mem_of_mem_take (h6 ▸ hx))⟩;have hv':a.tmps.getD t undef=.pointer (some ⟨b,o,none⟩):=hv
  simp only[jK0,hv',asAddr,pure_bind];exact h4
theorem dQ0 (h:InvAt C X σ a w S L bl O1 O2) {rv:ResultVar} {r:Bool×Nat×List A} (hx:nZ0 P σ rv=some r):∃v,(jK0 a.tmps rv).run P w=.ok v w/\
  isTuple v=false/\shapeOf v=(r.1,r.2.1)/\yV0 v=r.1/\RpA ⟨S,L,bl,a,w,σ.cell⟩ r.2.2 v.cells.toList []/\
   (∀c∈r.2.2,stampIn X σ.epoch c)/\∀g d k els,A.ow g d k els∉r.2.2:=by
 simp only[nZ0,Option.bind_eq_some_iff] at hx;obtain ⟨av,hev,hx⟩:=hx;obtain ⟨v,hrun,he⟩:=zF1 h hev;refine ⟨v,hrun,?_⟩;unfold RT0 at hx;cases hs:av.sh<;>simp only[hs,reduceCtorEq,Option.some.injEq] at hx
 ·subst hx
  obtain ⟨r1,r2,r3⟩:=xK0 he (.inl hs);have hr:=he.rep;obtain ⟨sh,cs⟩:=av;simp only at hs;subst hs;refine ⟨hr.1.1,?_,hr.1.2,r1,he.st,he.noOw⟩;have h1:=hr.1;simp only[shOk] at h1;have hfl:=RpA.length hr.2;rw[yQ0 h1] at hfl;simp only[List.length_singleton] at hfl;simp only[<-hfl];cases hv:v<;>first | rfl|(rw[hv] at h1;simp[yV0] at h1)
 ·subst hx
  obtain ⟨r1,r2,r3⟩:=xK0 he (.inr hs);have hr:=he.rep;obtain ⟨sh,cs⟩:=av;simp only at hs;subst hs;have h1:=hr.1;simp only[shOk] at h1;cases hv:v<;>first|(rw[hv] at h1;simp[yV0] at h1;done) | skip
  rw[hv] at r1 r3;refine ⟨rfl,?_,rfl,r1,he.st,he.noOw⟩;simp only[shapeOf,Prod.mk.injEq,true_and];simpa [Value.cells] using r3
theorem gF0 (h:InvAt C X σ a w S L bl O1 O2):∀{rs:List ResultVar} {q:List (Bool×Nat)×List A},uV0 P σ rs=some q->
  ∃vs:List Value,(rs.mapM (jK0 a.tmps)).run P w=.ok vs w/\vs.length=rs.length/\vs.map shapeOf=q.1/\(∀v∈vs,isTuple v=false)/\RpA ⟨S,L,bl,a,w,σ.cell⟩ q.2 (vs.flatMap (·.cells.toList)) []/\
   (∀c∈q.2,stampIn X σ.epoch c)/\∀g d k els,A.ow g d k els∉q.2
 | [],q,hx=>by simp[uV0] at hx;subst hx;exact ⟨[],rfl,rfl,rfl,by simp,⟨rfl,rfl⟩,by simp,by simp⟩
 | rv::rest,q,hx=>by
  simp only[uV0,Option.bind_eq_some_iff,Option.map_eq_some_iff] at hx;obtain ⟨r,hr,q',hq,rfl⟩:=hx;obtain ⟨vs,g0,g1,g2,g3,g4,g5,g6⟩:=gF0 h hq;obtain ⟨v,k0,k1,k2,k3,k4,k5,k6⟩:=dQ0 h hr;refine ⟨v::vs,?_,by simp[g1],?_,fun x hx=>?_,?_,fun c hc=>?_,fun g d k els hm=>?_⟩
  ·simp only[List.mapM_cons,Sem.run_bind,k0,Result.andThen,g0]
   rfl
  ·simp only[List.map_cons,k2]
   rw[<-g2]
  ·rcases List.mem_cons.1 hx with rfl | hx
   ·exact k1
   ·exact g3 x hx
  ·simp only[List.flatMap_cons]
   exact RpA.append_iff.2 ⟨_,_,[],[],rfl,rfl,k4,g4⟩
  ·rcases List.mem_append.1 hc with hc | hc
   ·exact k5 c hc
   ·exact g5 c hc
  ·rcases List.mem_append.1 hm with hm | hm
   ·exact k6 g d k els hm
   ·exact g6 g d k els hm
theorem jG0 (fn:Func) (a:Act) (w:World) {vs:List Value} (hall:(fn.results.toList.mapM (jK0 a.tmps)).run P w=.ok vs w) :
  (results fn a.tmps).run P w=.ok (if h:vs.length=1 then vs[0] else .tuple vs.toArray) w:=by
 unfold results;rw[Array.mapM_eq_mapM_toList];simp only[map_eq_pure_bind,bind_assoc,pure_bind,Sem.run_bind];have e:∀f:ResultVar->Sem Value,(∀x,f x=jK0 a.tmps x)->List.mapM f fn.results.toList=fn.results.toList.mapM (jK0 a.tmps):=fun f hf=>by rw[funext hf]
 rw[e _ (fun x=>by cases x<;>rfl),hall]
 simp only[Result.andThen]
 rfl
theorem KH0 (h:InvAt C X σ a w S L bl O1 O2) {fn:Func} {av:AV} (hx:gG0 P σ fn.results.toList=some av) :
  ∃v,(results fn a.tmps).run P w=.ok v w/\RepV ⟨S,L,bl,a,w,σ.cell⟩ av v []/\(∀c∈av.cs,stampIn X σ.epoch c)/\(∀g d k els,A.ow g d k els∉av.cs)/\av.sh≠.any:=by
 unfold gG0 at hx
 split at hx
 ·rename_i rv ht
  simp only[Option.map_eq_some_iff] at hx;obtain ⟨r,hr,rfl⟩:=hx;obtain ⟨v,k0,k1,k2,k3,k4,k5,k6⟩:=dQ0 h hr;refine ⟨v,?_,?_,k5,k6,by cases r.1<;>simp⟩
  ·rw[jG0 fn a w (vs:=[v]) (by rw[ht];simp only[List.mapM_cons,List.mapM_nil,Sem.run_bind,k0,Result.andThen];rfl)]
   rfl
  ·cases hb:r.1 with
   | false=>
    rw[hb] at k3;exact ⟨⟨k1,k3⟩,by rw[uB0 k1];exact k4⟩
   | true=>
    rw[hb] at k3;exact ⟨k3,by rw[uB0 k1];exact k4⟩
 ·rename_i hne
  simp only[Option.map_eq_some_iff] at hx;obtain ⟨q,hq,rfl⟩:=hx;obtain ⟨vs,g0,g1,g2,g3,g4,g5,g6⟩:=gF0 h hq;have hl:¬vs.length=1:=by
   intro hl;rw[g1] at hl;obtain ⟨r,hr⟩:=List.length_eq_one_iff.1 hl;exact hne r hr
  refine ⟨.tuple vs.toArray,?_,⟨⟨_,rfl,by simpa using g2,by simpa using g3⟩,?_⟩,g5,g6,by simp⟩
  ·rw[jG0 fn a w g0,dif_neg hl]
  ·simpa [flat] using g4
end
end Go.Av
/- Avs, part 23: what a call takes along: shared, lent; boxes that are handed over. -/
namespace Go.Av
def erD (d:Bool) (els:List (List T)):List (List T):=match d with
 | false=>els
 | true=>erE els
theorem RepO.toR {S S':Nat->Prop} {w:World} {d:Bool} {k:Nat} {els:List (List T)} {u:Value} {own:List Nat} (hS:∀b,S b->S' b) (ho:∀b∈own,S' b) (h:RepO S w d k els u own):RepS S' w (.sl (erD d els)) u:=by
 cases d
 ·exact RepO.toS hS ho h
 ·exact RepO.toE hS ho h
def shC (sh:Root->Nat->Bool):List A->AS->List A×AS
 | [],σ=>([],σ)
 | c::cs,σ=>
  match c with
  | .sref r x g lo len=>
   if sh r x then
    match σ.ad? r x g with
    | some (d,_,els)=>(.ro true (erD d ((els.drop lo).take len))::(shC sh cs (σ.setCell r x (.ro true (erD d els)))).1,(shC sh cs (σ.setCell r x (.ro true (erD d els)))).2)
    | none=>(.dead::(shC sh cs σ).1,(shC sh cs σ).2)
   else (c::(shC sh cs σ).1,(shC sh cs σ).2)
  | _=>(c::(shC sh cs σ).1,(shC sh cs σ).2)
section
variable {P:Program} {C:Ctx} {X:List Nat} {σ:AS} {a:Act} {w:World} {S L:Nat->Prop} {bl:List Bk} {O1 O2:List Nat}
def zL1 (C:Ctx) (X:List Nat) (a:Act) (w:World) (S L:Nat->Prop) (bl:List Bk) (O1 O2:List Nat) (i:Nat) (us:List Value) (oa:List Nat) (σ:AS) (cs':List A) (σ':AS):Prop:=
 ∃S' L' O1' O2',InvAt C X σ' a w S' L' bl O1' O2'/\RpA ⟨S',L',bl,a,w,σ'.cell⟩ cs' us oa/\(∀b,S b->S' b)/\(∀b,L b->L' b)/\(∀b,L' b->L b\/b∈O1++O2)/\
  (∀b,b∈O1'++O2'->b∈O1++O2)/\Fresh σ' (σ.epoch,i)/\σ'.epoch=σ.epoch/\
  Env.Le none ⟨S,L,bl,a,w,σ.cell⟩ ⟨S',L',bl,a,w,σ'.cell⟩/\σ'.boxes.length=σ.boxes.length/\σ'.slots.length=σ.slots.length
theorem yF0 {c:A}:c.rstamp=none\/c.rstamp≠none:=by cases c.rstamp<;>simp
theorem uK0 (sh:Root->Nat->Bool) {i:Nat}:∀{cs:List A} {us:List Value} {S L:Nat->Prop} {σ:AS} {O1 O2 oa:List Nat},InvAt C X σ a w S L bl O1 O2->Fresh σ (σ.epoch,i)->
  RpA ⟨S,L,bl,a,w,σ.cell⟩ cs us oa->zL1 C X a w S L bl O1 O2 i us oa σ (shC sh cs σ).1 (shC sh cs σ).2
 | [],us,S,L,σ,O1,O2,oa,h,hf,hr=>⟨S,L,O1,O2,h,hr,fun _ h=>h,fun _ h=>h,fun _ h=>.inl h,fun _ h=>h,hf,rfl,.rfl',rfl,rfl⟩
 | c::cs,us,S,L,σ,O1,O2,oa,h,hf,hr=>by
  obtain ⟨u,us',o1,o2,rfl,rfl,h3,h4⟩:=hr;have plain:∀d,(d=c\/d=.dead/\o1=[])->zL1 C X a w S L bl O1 O2 i (u::us') (o1++o2) σ (d::(shC sh cs σ).1) (shC sh cs σ).2:=by
   intro d hd;obtain ⟨S',L',O1',O2',g1,g2,g3,g4,g5,g6,g7,g8,g9,g10,g11⟩:=uK0 sh (i:=i) h hf h4;refine ⟨S',L',O1',O2',g1,⟨u,us',o1,o2,rfl,rfl,?_,g2⟩,g3,g4,g5,g6,g7,g8,g9,g10,g11⟩;rcases hd with rfl | ⟨rfl,rfl⟩
   ·exact RepA.go g9 (fun _ _=>rfl) yF0 h3
   ·exact ⟨rfl,RepA.oneC h3⟩
  cases c with
  | sref r x g lo len=>
   have ho1:o1=[]:=h3.1;simp only[shC]
   split
   ·cases hat:σ.ad? r x g with
    | none=>exact plain .dead (.inr ⟨rfl,ho1⟩)
    | some p=>
     obtain ⟨d,k,els⟩:=p;simp only;have hcell:=AS.ad?_some hat;obtain ⟨hlo,ad,cap,xx,e1,e2,e3⟩:=h3.2.2 d k els hcell;obtain ⟨u0,o,k1,k2,k3,k4,k5⟩:=h.recell hcell hf;rw[e1] at k1;simp at k1;subst k1;have hS1:∀b,S b->(fun b=>S b\/b∈o) b:=fun b hb=>.inl hb;have hL1:∀b,L b->(fun b=>L b\/b∈o) b:=fun b hb=>.inl hb;obtain ⟨O1a,O2a,ha,hmem⟩:=k5 (fun b=>S b\/b∈o) (fun b=>L b\/b∈o) w (.ro true (erD d els)) [] hS1 hL1 (fun b hb=>hb.imp (h.sl b) id) (fun b hb=>hb) (fun b hb=>hb) (by simp) (.inr rfl) (fun _ _ _=>rfl) h.keeps (Nat.le_refl _)
      ⟨RepO.toR hS1 (fun b hb=>.inr hb) (show RepO S w d k els _ o from k2),rfl⟩ (fun g hg=>by simp[A.stamp] at hg) (fun g d k els' he=>by simp at he)
     have hle:=QG0 (S:=S) (bl:=bl) (a:=a) (w:=w) (els:=erD d els) hS1 hL1 hcell;have hep:(σ.setCell r x (.ro true (erD d els))).epoch=σ.epoch:=yR0;have ih:=uK0 sh (i:=i) (cs:=cs) (us:=us') ha (by rw[hep];exact hf.setDead rfl) (RpA.go hle (fun _ _=>rfl) (fun y _=>yF0) h4)
     unfold zL1 at ih;rw[hep] at ih;obtain ⟨S',L',O1',O2',g1,g2,g3,g4,g5,g6,g7,g8,g9,g10,g11⟩:=ih;obtain ⟨own',s1,s2⟩:=RepO.sub (show RepO S w d k els _ o from k2) hlo e3
     have hSS:∀b,S b->S' b:=fun b hb=>g3 b (.inl hb);have hu:RepS S' w (.sl (erD d ((els.drop lo).take len))) u:=by
      rw[e2];exact RepO.toR hSS (fun b hb=>g3 b (.inr (s2.subset hb))) s1
     have hsub:∀b,b∈O1a++O2a->b∈O1++O2:=fun b hb=>by
      have:=(hmem b).1 hb;simp only[List.not_mem_nil,or_false] at this;exact this.1
     subst ho1;exact ⟨S',L',O1',O2',g1,⟨u,us',[],o2,rfl,rfl,⟨hu,rfl⟩,g2⟩,hSS,fun b hb=>g4 b (.inl hb),fun b hb=>(g5 b hb).elim (fun h=>h.imp id (k4 b)) (fun h=>.inr (hsub b h)),fun b hb=>hsub b (g6 b hb),g7,g8,hle.trans g9,g10.trans boxes_setCell.1,g11.trans boxes_setCell.2⟩
   ·exact plain _ (.inl rfl)
  | _=>exact plain _ (.inl rfl)
def AS.hide (σ:AS) (b:Nat):AS:={ σ with boxes:=σ.boxes.set b none }
def maskBoxes:List Nat->AS->Option (List (List A)×AS)
 | [],σ=>some ([],σ)
 | b::ids,σ=>match σ.boxes[b]? with
  | some (some cs)=>(maskBoxes ids (σ.hide b)).map fun q=>(cs::q.1,q.2)
  | _=>none
theorem GH0 {b:Nat}:Env.Le none ⟨S,L,bl,a,w,σ.cell⟩ ⟨S,L,bl,a,w,(σ.hide b).cell⟩:=by
 refine ⟨fun _ h=>h,fun _ h=>h,fun _ _=>rfl,fun _ _ h=>h,fun r c g d k els' _ he=>⟨d,els',?_,rfl,fun x hx=>by cases r<;>exact hx⟩⟩
 cases r with
 | slot t=>exact he
 | box b'=>
  simp only[AS.cell,AS.hide] at he |-
  by_cases hb:b=b'
  ·subst hb
   by_cases hlt:b < σ.boxes.length
   ·simp[List.getElem?_set_self hlt] at he
   ·rw[List.getElem?_eq_none (by simp;omega)] at he
    simp at he
  ·rw[List.getElem?_set_ne hb] at he
   exact he
theorem rC1 (h:InvAt C X σ a w S L bl O1 O2) {b:Nat} {cs:List A} (hb:σ.boxes[b]?=some (some cs)) :
  ∃blk p o q,bl[b]?=some blk/\O2=p++o++q/\RepBox ⟨S,L,bl,a,w,σ.cell⟩ (some cs) blk o/\InvAt C X (σ.hide b) a w S L bl O1 (p++q):=by
 obtain ⟨blk,p,o,q,g1,g2,g3,g4⟩:=RpB.split b _ h.boxes hb;refine ⟨blk,p,o,q,g1,g2,g3,?_⟩;have hle:=GH0 (S:=S) (L:=L) (bl:=bl) (a:=a) (w:=w) (σ:=σ) (b:=b);have hsub:∀x,x∈O1++(p++q)->x∈O1++O2:=fun x hx=>by
  subst g2;simp only[List.mem_append] at hx |-;rcases hx with hx | hx | hx<;>simp[hx]
 refine ⟨h.defers,RpS.go hle (fun _ _=>rfl) (fun _ _ _ _=>yF0) h.slots,?_,?_,h.sl,fun x hx=>⟨(h.stable x hx).1,fun hm=>(h.stable x hx).2 (hsub x hm)⟩,h.s0,h.keeps,fun x hx=>h.own x (hsub x hx),h.pre,h.stS,fun cs' hcs c hc=>?_⟩
 ·have:=g4 none [] rfl
  simp only[List.append_nil] at this;exact RpB.go hle (fun _ _=>rfl) (fun _ _ _ _ _ _=>yF0) this
 ·have hnd:=h.nodup
  subst g2;have hs:List.Sublist (O1++(p++q)) (O1++(p++o++q)):=
   List.Sublist.append (List.Sublist.refl _) (List.Sublist.append (List.sublist_append_left _ _) (List.Sublist.refl _))
  exact hnd.sublist hs
 ·rcases List.mem_or_eq_of_mem_set hcs with hcs | hcs
  ·exact h.stB cs' hcs c hc
  ·simp at hcs
theorem HU0:∀{ids:List Nat} {σ σ':AS} {O2:List Nat} {pcs:List (List A)},InvAt C X σ a w S L bl O1 O2->maskBoxes ids σ=some (pcs,σ')->
  ∃Or op blks,InvAt C X σ' a w S L bl O1 Or/\RpB ⟨S,L,bl,a,w,σ'.cell⟩ (pcs.map some) blks op/\(∀(j b:Nat),ids[j]?=some b->∃blk,blks[j]?=some blk/\bl[b]?=some blk)/\blks.length=ids.length/\
   (∀b∈op,b∈O2)/\(∀b∈Or,b∈O2)/\(Or++op).Nodup/\Env.Le none ⟨S,L,bl,a,w,σ.cell⟩ ⟨S,L,bl,a,w,σ'.cell⟩/\σ'.epoch=σ.epoch/\σ'.boxes.length=σ.boxes.length/\σ'.slots=σ.slots
 | [],σ,σ',O2,pcs,h,hx=>by
  simp[maskBoxes] at hx;obtain ⟨rfl,rfl⟩:=hx;exact ⟨O2,[],[],h,⟨rfl,rfl⟩,by simp,rfl,by simp,fun _ h=>h,by simpa using (List.nodup_append.1 h.nodup).2.1,.rfl',rfl,rfl,rfl⟩
 | b::ids,σ,σ',O2,pcs,h,hx=>by
  simp only[maskBoxes] at hx
  split at hx<;>try (simp at hx;done)
  rename_i cs hb;simp only[Option.map_eq_some_iff,Prod.mk.injEq] at hx;obtain ⟨⟨pcs',σ2⟩,hx,rfl,rfl⟩:=hx;obtain ⟨blk,p,o,q,g1,rfl,g3,g4⟩:=rC1 h hb;obtain ⟨Or,op,blks,k1,k2,k3,k4,k5,k6,k7,k8,k9,k10,k11⟩:=HU0 g4 hx;have hle:=GH0 (S:=S) (L:=L) (bl:=bl) (a:=a) (w:=w) (σ:=σ) (b:=b);have hnd:=(List.nodup_append.1 h.nodup).2.1;have hdis:∀x,x∈o->x∉p++q:=fun x hx hm=>by
   simp only[List.append_assoc,List.nodup_append,List.mem_append] at hnd hm;rcases hm with hm | hm
   ·exact hnd.2.2 x hm x (.inl hx) rfl
   ·exact hnd.2.1.2.2 x hx x hm rfl
  have hon:o.Nodup:=by
   simp only[List.append_assoc,List.nodup_append] at hnd;exact hnd.2.1.1
  refine ⟨Or,o++op,blk::blks,k1,⟨blk,blks,o,op,rfl,rfl,RepBox.go (hle.trans k8) (fun _ _=>rfl) (fun _ _ _ _=>yF0) g3,k2⟩,fun j b' hj=>?_,by simp[k4],fun x hx=>?_,fun x hx=>?_,?_,hle.trans k8,k9,by rw[k10];simp[AS.hide],k11⟩
  ·cases j with
   | zero=>simp at hj;subst hj;exact ⟨blk,rfl,g1⟩
   | succ j=>simp at hj;simpa using k3 j b' hj
  ·rcases List.mem_append.1 hx with hx | hx
   ·simp[hx]
   ·have:=k5 x hx;simp only[List.mem_append] at this |-;rcases this with h | h<;>simp[h]
  ·have:=k6 x hx;simp only[List.mem_append] at this |-;rcases this with h | h<;>simp[h]
  ·rw[List.nodup_append] at k7 |-
   refine ⟨k7.1,List.nodup_append.2 ⟨hon,k7.2.1,fun x hx y hy he=>hdis x hx (he ▸ k5 y hy)⟩,fun x hx y hy he=>?_⟩;rcases List.mem_append.1 hy with hy | hy
   ·exact hdis y hy (he ▸ k6 x hx)
   ·exact k7.2.2 x hx y hy he
def lendCells (σ:AS):List A->Option (List A)
 | []=>some []
 | .sref r x g lo len::cs=>match σ.ad? r x g with
  | some (d,_,els)=>(lendCells σ cs).map fun q=>.ro false (erD d ((els.drop lo).take len))::q
  | none=>none
 | .eptr ..::_=>none
 | c::cs=>(lendCells σ cs).map fun q=>c::q
theorem GA0 (h:InvAt C X σ a w S L bl O1 O2):∀{cs cs':List A} {us:List Value} {oa:List Nat},RpA ⟨S,L,bl,a,w,σ.cell⟩ cs us oa->lendCells σ cs=some cs'->
  RpA (Env.zero S (fun b=>L b\/b∈O1++O2) bl w) cs' us oa
 | [],cs',us,oa,hr,hx=>by simp[lendCells] at hx;subst hx;exact hr
 | c::cs,cs',us,oa,hr,hx=>by
  obtain ⟨u,us',o1,o2,rfl,rfl,h3,h4⟩:=hr;have ih:=fun q (hq:lendCells σ cs=some q)=>GA0 h h4 hq;have hLE:∀b,L b->(fun b=>L b\/b∈O1++O2) b:=fun b hb=>.inl hb;have up:∀c:A,c.rstamp=none->RepA ⟨S,L,bl,a,w,σ.cell⟩ c u o1->RepA (Env.zero S (fun b=>L b\/b∈O1++O2) bl w) c u o1:=by
   intro c hc hr;refine RepA.free (a:=a) (ca:=σ.cell) hc ?_;refine RepA.go (gn:=none) (E:=⟨S,L,bl,a,w,σ.cell⟩) (E':=⟨S,fun b=>L b\/b∈O1++O2,bl,a,w,σ.cell⟩) ⟨fun _ h=>h,hLE,fun _ _=>rfl,fun _ _ h=>h,fun r c g d k els' _ he=>⟨d,els',he,rfl,fun x hx=>?_⟩⟩ (fun _ _=>rfl) yF0 hr;cases r<;>exact hx
  cases c with
  | sref r x g lo len=>
   simp only[lendCells] at hx
   split at hx<;>try (simp at hx;done)
   rename_i d k els hat;simp only[Option.map_eq_some_iff] at hx;obtain ⟨q,hq,rfl⟩:=hx;have hcell:=AS.ad?_some hat;obtain ⟨ho1,_,h3⟩:=h3;obtain ⟨hlo,ad,cap,xx,e1,e2,e3⟩:=h3 d k els hcell;obtain ⟨u0,o,k1,k2,k3⟩:=h.peek hcell;rw[e1] at k1;simp at k1;subst k1;obtain ⟨own',s1,s2⟩:=RepO.sub (show RepO S w d k els _ o from k2) hlo e3
   subst ho1;refine ⟨u,us',[],o2,rfl,rfl,⟨?_,rfl⟩,ih q hq⟩;rw[e2];exact RepO.toR (fun b hb=>.inl (h.sl b hb)) (fun b hb=>.inr (k3 b (s2.subset hb))) s1
  | eptr r x g i off=>simp[lendCells] at hx
  | _=>
   simp only[lendCells,Option.map_eq_some_iff] at hx;obtain ⟨q,hq,rfl⟩:=hx;exact ⟨u,us',o1,o2,rfl,rfl,up _ rfl h3,ih q hq⟩
end
end Go.Av
/- Avs, part 24: a function is called. -/
namespace Go.Av
def jM0 (ids:List Nat):List (Nat×Nat)->Option (List (Nat×Nat))
 | []=>some []
 | c::cs=>(ids.idxOf? c.1).bind fun j=>(jM0 ids cs).map fun q=>(j,c.2)::q
def renP (ids:List Nat):A->Option A
 | .ptr b off=>(ids.idxOf? b).map fun j=>.ptr j off
 | .bsl b k len=>(ids.idxOf? b).map fun j=>.bsl j k len
 | .fn f caps=>(jM0 ids caps).map fun q=>.fn f q
 | c=>some c
def qT0 (ids:List Nat):List A->Option (List A)
 | []=>some []
 | c::cs=>(renP ids c).bind fun d=>(qT0 ids cs).map fun q=>d::q
def tK0 (ids:List Nat):List (List A)->Option (List (List A))
 | []=>some []
 | c::cs=>(qT0 ids c).bind fun d=>(tK0 ids cs).map fun q=>d::q
def KV0 (ids:List Nat) (nb j:Nat):Nat:=if j < ids.length then ids.getD j 0 else nb+(j - ids.length)
def unP (ids:List Nat) (nb:Nat) (g:yA0):A->A
 | .ptr j off=>.ptr (KV0 ids nb j) off
 | .bsl j k len=>.bsl (KV0 ids nb j) k len
 | .fn f caps=>.fn f (caps.map fun c=>(KV0 ids nb c.1,c.2))
 | .ow _ d k els=>.ow g d k els
 | .sref .. | .eptr ..=>.dead
 | c=>c
def pD0 (σ:AS):List Operand->Option (List AV)
 | []=>some []
 | x::xs=>(σ.ev x).bind fun av=>match av.sh with
  | .any=>none
  | _=>(pD0 σ xs).map fun q=>av::q
def kZ0:List AV->List A->List AV
 | [],_=>[]
 | av::avs,cs=>⟨av.sh,cs.take av.cs.length⟩::kZ0 avs (cs.drop av.cs.length)
def yC0:List Nat->List (Option (List A))->List (Option (List A))->List (Option (List A))
 | b::ids,x::xs,bs=>yC0 ids xs (bs.set b x)
 | _,_,bs=>bs
structure Hint where
 mv:Root->Nat->Bool
 sh:Root->Nat->Bool
 ids:List Nat
def xX0 (caps:List (Nat×Nat)):List AV:=caps.map fun c=>one (.ptr c.1 c.2)
def vD0 (h:Hint) (i:Nat) (σ:AS) (fop:Operand) (args:List Operand):Option (FuncId×List AV×List (Option (List A))×AS):=
 (σ.ev fop).bind fun fv=>match fv with
 | ⟨.one,[.fn f caps]⟩=>(pD0 σ args).bind fun avs=>
   let all:=avs++xX0 caps
   let q1:=tkC h.mv (σ.epoch,i) (all.flatMap (·.cs)) σ
   let q2:=shC h.sh q1.1 q1.2
   (maskBoxes h.ids q2.2).bind fun q3=>
    if q3.1.all (·.all fun c=>c.rstamp.isNone) then
     (lendCells q3.2 q2.1).bind fun cs=>(qT0 h.ids cs).bind fun cs=>(tK0 h.ids q3.1).map fun pcs=>
      (f,kZ0 all (cs.map A.reset),pcs.map (fun c=>some (c.map A.reset)),q3.2)
    else none
 | _=>none
def vZ0 (ids:List Nat) (nb:Nat) (g:yA0) (o:Option (List A)):Option (List A):=o.map (·.map (unP ids nb g))
def zH0 (ids:List Nat) (i:Nat) (σ:AS) (res:AV) (bx:List (Option (List A))):AV×AS:=
 (⟨res.sh,res.cs.map (unP ids σ.boxes.length (σ.epoch,i))⟩,
  { σ with boxes:=yC0 ids ((bx.take ids.length).map (vZ0 ids σ.boxes.length (σ.epoch,i))) σ.boxes++(bx.drop ids.length).map (vZ0 ids σ.boxes.length (σ.epoch,i)) })
section
variable {P:Program} {C:Ctx} {X:List Nat} {σ:AS} {a:Act} {w:World} {S L:Nat->Prop} {bl:List Bk} {O1 O2:List Nat}
theorem idxOf?_get {ids:List Nat} {b j:Nat} (h:ids.idxOf? b=some j):ids[j]?=some b:=by
 induction ids generalizing j with
 | nil=>simp at h
 | cons x ids ih=>
  rw[List.idxOf?_cons] at h
  split at h
  ·rename_i hx
   simp at h;subst h;simpa using hx
  ·simp only[Option.map_eq_some_iff] at h
   obtain ⟨j',h1,rfl⟩:=h;simpa using ih h1
def Lies (ids:List Nat) (blks bl:List Bk):Prop:=∀(j b:Nat),ids[j]?=some b->∃blk,blks[j]?=some blk/\bl[b]?=some blk
theorem fM0 {ids:List Nat}:∀{caps caps':List (Nat×Nat)},jM0 ids caps=some caps'->caps'.length=caps.length/\∀(j b' off:Nat),caps'[j]?=some (b',off)->∃b,caps[j]?=some (b,off)/\ids[b']?=some b
 | [],caps',h=>by simp[jM0] at h;subst h;simp
 | c::cs,caps',h=>by
  simp only[jM0,Option.bind_eq_some_iff,Option.map_eq_some_iff] at h;obtain ⟨j0,hj,q,hq,rfl⟩:=h;obtain ⟨h1,h2⟩:=fM0 hq;refine ⟨by simp[h1],fun j b' off hj'=>?_⟩
  cases j with
  | zero=>simp at hj';obtain ⟨rfl,rfl⟩:=hj';exact ⟨c.1,rfl,idxOf?_get hj⟩
  | succ j=>simp at hj';simpa using h2 j b' off hj'
theorem RepA.ren {E:Env} {ids:List Nat} {blks:List Bk} (hl:Lies ids blks E.bl) {c c':A} {u:Value} {own:List Nat} (hc:c.rstamp=none) (hx:renP ids c=some c') (h:RepA E c u own):RepA (Env.zero E.S E.L blks E.w) c' u own:=by
 cases c with
 | ptr b off=>
  simp only[renP,Option.map_eq_some_iff] at hx;obtain ⟨j,hj,rfl⟩:=hx;obtain ⟨h0,blk,h1,rfl⟩:=h;obtain ⟨blk',k1,k2⟩:=hl j b (idxOf?_get hj);rw[h1] at k2;simp at k2;subst k2;exact ⟨h0,blk,k1,rfl⟩
 | bsl b k len=>
  simp only[renP,Option.map_eq_some_iff] at hx;obtain ⟨j,hj,rfl⟩:=hx;obtain ⟨h0,blk,cap,h1,h5⟩:=h;obtain ⟨blk',k1,k2⟩:=hl j b (idxOf?_get hj);rw[h1] at k2;simp at k2;subst k2;exact ⟨h0,blk,cap,k1,h5⟩
 | fn f caps=>
  simp only[renP,Option.map_eq_some_iff] at hx;obtain ⟨q,hq,rfl⟩:=hx;obtain ⟨q1,q2⟩:=fM0 hq;obtain ⟨h0,vs,h1,h2,h3⟩:=h;refine ⟨h0,vs,h1,by rw[h2,q1],fun j b' off hj=>?_⟩
  obtain ⟨b,k1,k2⟩:=q2 j b' off hj;obtain ⟨blk,m1,m2⟩:=h3 j b off k1;obtain ⟨blk',n1,n2⟩:=hl b' b k2;rw[m1] at n2;simp at n2;subst n2;exact ⟨blk,n1,m2⟩
 | sref r c g lo len=>simp[A.rstamp] at hc
 | eptr r c g i off=>simp[A.rstamp] at hc
 | lit v=>simp only[renP,Option.some.injEq] at hx;subst hx;exact h
 | nil=>simp only[renP,Option.some.injEq] at hx;subst hx;exact h
 | ro st els=>simp only[renP,Option.some.injEq] at hx;subst hx;cases st<;>exact h
 | ow g d k els=>simp only[renP,Option.some.injEq] at hx;subst hx;exact h
 | rptr st cells=>simp only[renP,Option.some.injEq] at hx;subst hx;cases st<;>exact h
 | dead=>simp only[renP,Option.some.injEq] at hx;subst hx;exact h
theorem RpA.ren {E:Env} {ids:List Nat} {blks:List Bk} (hl:Lies ids blks E.bl):∀{cs cs':List A} {us:List Value} {own:List Nat},(∀c∈cs,c.rstamp=none)->qT0 ids cs=some cs'->RpA E cs us own->RpA (Env.zero E.S E.L blks E.w) cs' us own
 | [],cs',us,own,_,hx,h=>by simp[qT0] at hx;subst hx;exact h
 | c::cs,cs',us,own,hc,hx,h=>by
  simp only[qT0,Option.bind_eq_some_iff,Option.map_eq_some_iff] at hx;obtain ⟨d,hd,q,hq,rfl⟩:=hx;obtain ⟨u,us',o1,o2,h1,h2,h3,h4⟩:=h;exact ⟨u,us',o1,o2,h1,h2,h3.ren hl (hc c List.mem_cons_self) hd,RpA.ren hl (fun x hx=>hc x (List.mem_cons_of_mem _ hx)) hq h4⟩
theorem RpB.ren {E:Env} {ids:List Nat} {blks:List Bk} (hl:Lies ids blks E.bl):∀{pcs pcs':List (List A)} {bs:List Bk} {own:List Nat},(∀cs∈pcs,∀c∈cs,c.rstamp=none)->tK0 ids pcs=some pcs'->RpB E (pcs.map some) bs own->
  RpB (Env.zero E.S E.L blks E.w) (pcs'.map fun c=>some (c.map A.reset)) bs own
 | [],pcs',us,own,_,hx,h=>by simp[tK0] at hx;subst hx;exact h
 | c::cs,pcs',us,own,hc,hx,h=>by
  simp only[tK0,Option.bind_eq_some_iff,Option.map_eq_some_iff] at hx;obtain ⟨d,hd,q,hq,rfl⟩:=hx;obtain ⟨b,bs',o1,o2,h1,h2,⟨o,us0,k1,k2,k3⟩,h4⟩:=h;exact ⟨b,bs',o1,o2,h1,h2,⟨o,us0,k1,k2,(RpA.ren hl (hc c List.mem_cons_self) hd k3).reset⟩,RpB.ren hl (fun x hx=>hc x (List.mem_cons_of_mem _ hx)) hq h4⟩
theorem RepA.un {S' L':Nat->Prop} {bl' blks new:List Bk} {w':World} {ca:Root->Nat->Option A} {ids:List Nat} {g:yA0} (hS:∀b,S' b->L' b) (hl:Lies ids blks bl) (hlen:blks.length=ids.length) (hbl:bl'=blks++new)
  {c:A} {u:Value} {own:List Nat} (h:RepA (Env.zero S' S' bl' w') c u own):RepA ⟨S',L',bl++new,a,w',ca⟩ (unP ids bl.length g c) u own:=by
 have key:∀(j:Nat) (blk:Bk),bl'[j]?=some blk->(bl++new)[KV0 ids bl.length j]?=some blk:=by
  intro j blk hj;subst hbl;unfold KV0
  split
  ·rename_i hlt
   rw[List.getElem?_append_left (by omega)] at hj
   have hb:ids[j]?=some (ids.getD j 0):=by simp[List.getElem?_eq_getElem hlt]
   obtain ⟨blk',k1,k2⟩:=hl j _ hb;rw[hj] at k1;simp at k1;subst k1;rw[List.getElem?_append_left (List.getElem?_eq_some_iff.1 k2).1];exact k2
  ·rename_i hge
   rw[List.getElem?_append_right (by omega)] at hj
   rw[List.getElem?_append_right (by omega),<-hj]
   congr 1
   omega
 cases c with
 | ptr b off=>
  obtain ⟨h0,blk,h1,rfl⟩:=h;exact ⟨h0,blk,key b blk h1,rfl⟩
 | bsl b k len=>
  obtain ⟨h0,blk,cap,h1,h2⟩:=h;exact ⟨h0,blk,cap,key b blk h1,h2⟩
 | fn f caps=>
  obtain ⟨h0,vs,h1,h2,h3⟩:=h;refine ⟨h0,vs,h1,by simpa using h2,fun j b off hj=>?_⟩
  simp only[List.getElem?_map,Option.map_eq_some_iff,Prod.mk.injEq] at hj;obtain ⟨⟨b0,off0⟩,hj,rfl,rfl⟩:=hj;obtain ⟨blk,m1,m2⟩:=h3 j b0 off0 hj;exact ⟨blk,key b0 blk m1,m2⟩
 | sref r c g lo len=>obtain ⟨h1,⟨x,cp,rfl,_⟩,_⟩:=h;exact ⟨h1,rfl,rfl⟩
 | eptr r c g i off=>exact ⟨h.1,h.2.1⟩
 | ro st els=>
  cases st with
  | true=>exact h
  | false=>exact ⟨RepS.mono hS (fun _ _=>rfl) _ _ h.1,h.2⟩
 | rptr st cells=>
  cases st with
  | true=>exact h
  | false=>
   obtain ⟨h0,b,o,h1,h2,h3⟩:=h;exact ⟨h0,b,o,h1,hS _ h2,RepSC.mono hS (fun _ _=>rfl) b rfl o _ h3⟩
 | _=>exact h
theorem RpA.un {S' L':Nat->Prop} {bl' blks new:List Bk} {w':World} {ca:Root->Nat->Option A} {ids:List Nat} {g:yA0} (hS:∀b,S' b->L' b) (hl:Lies ids blks bl) (hlen:blks.length=ids.length) (hbl:bl'=blks++new) :
  ∀{cs:List A} {us:List Value} {own:List Nat},RpA (Env.zero S' S' bl' w') cs us own->RpA ⟨S',L',bl++new,a,w',ca⟩ (cs.map (unP ids bl.length g)) us own
 | [],us,own,h=>h
 | c::cs,us,own,h=>by
  obtain ⟨u,us',o1,o2,h1,h2,h3,h4⟩:=h;exact ⟨u,us',o1,o2,h1,h2,h3.un hS hl hlen hbl,RpA.un hS hl hlen hbl h4⟩
theorem RpB.un {S' L':Nat->Prop} {bl' blks new:List Bk} {w':World} {ca:Root->Nat->Option A} {ids:List Nat} {g:yA0} (hS:∀b,S' b->L' b) (hl:Lies ids blks bl) (hlen:blks.length=ids.length) (hbl:bl'=blks++new) :
  ∀{bx:List (Option (List A))} {bs:List Bk} {own:List Nat},RpB (Env.zero S' S' bl' w') bx bs own->RpB ⟨S',L',bl++new,a,w',ca⟩ (bx.map (vZ0 ids bl.length g)) bs own
 | [],us,own,h=>h
 | x::bx,us,own,h=>by
  obtain ⟨b,bs',o1,o2,h1,h2,h3,h4⟩:=h;refine ⟨b,bs',o1,o2,h1,h2,?_,RpB.un hS hl hlen hbl h4⟩;cases x with
  | none=>exact h3
  | some cs=>
   obtain ⟨o,us0,k1,k2,k3⟩:=h3;exact ⟨o,us0,k1,k2,k3.un hS hl hlen hbl⟩
theorem RpB.split_append {E:Env}:∀{x y:List (Option (List A))} {bs:List Bk} {own:List Nat},RpB E (x++y) bs own->∃b1 b2 o1 o2,bs=b1++b2/\own=o1++o2/\RpB E x b1 o1/\RpB E y b2 o2
 | [],y,bs,own,h=>⟨[],bs,[],own,rfl,rfl,⟨rfl,rfl⟩,h⟩
 | c::x,y,bs,own,h=>by
  obtain ⟨b,bs',o1,o2,rfl,rfl,h3,h4⟩:=h;obtain ⟨b1,b2,p1,p2,rfl,rfl,h5,h6⟩:=RpB.split_append h4;exact ⟨b::b1,b2,o1++p1,p2,rfl,by simp,⟨b,b1,o1,p1,rfl,rfl,h3,h5⟩,h6⟩
theorem RpB.join {E:Env}:∀{x y:List (Option (List A))} {b1 b2:List Bk} {o1 o2:List Nat},RpB E x b1 o1->RpB E y b2 o2->RpB E (x++y) (b1++b2) (o1++o2)
 | [],y,b1,b2,o1,o2,h,h'=>by obtain ⟨rfl,rfl⟩:=h;exact h'
 | c::x,y,b1,b2,o1,o2,h,h'=>by
  obtain ⟨b,bs',p1,p2,rfl,rfl,h3,h4⟩:=h;exact ⟨b,bs'++b2,p1,p2++o2,rfl,by simp,h3,RpB.join h4 h'⟩
theorem jN0 {E:Env}:∀{ids:List Nat} {blks:List Bk} {xs bs:List (Option (List A))} {bl:List Bk} {O o:List Nat},Lies ids blks bl->RpB E bs bl O->RpB E xs blks o->(O++o).Nodup->
  ∃O',RpB E (yC0 ids xs bs) bl O'/\O'.Nodup/\∀b∈O',b∈O\/b∈o
 | [],blks,xs,bs,bl,O,o,hl,h,hx,hn=>by
  rw[show yC0 [] xs bs=bs by cases xs<;>rfl]
  exact ⟨O,h,(List.nodup_append.1 hn).1,fun b hb=>.inl hb⟩
 | b::ids,blks,[],bs,bl,O,o,hl,h,hx,hn=>⟨O,h,(List.nodup_append.1 hn).1,fun b hb=>.inl hb⟩
 | b::ids,blks,x::xs,bs,bl,O,o,hl,h,hx,hn=>by
  obtain ⟨blk,blks',o1,o2,rfl,rfl,h3,h4⟩:=hx;obtain ⟨blk',k1,k2⟩:=hl 0 b rfl;simp at k1;subst k1;have hlt:b < bs.length:=by rw[<-RpB.length h];exact (List.getElem?_eq_some_iff.1 k2).1
  obtain ⟨blk'',p,oo,q,g1,rfl,g3,g4⟩:=RpB.split b _ h (List.getElem?_eq_getElem hlt);rw[k2] at g1;simp at g1;subst g1;have hset:=g4 x o1 h3;have hn':((p++o1++q)++o2).Nodup:=by
   simp only[List.append_assoc,List.nodup_append,List.mem_append] at hn |-;obtain ⟨n1,⟨n2,⟨n3,⟨n4,n5,n6⟩,n7⟩,n8⟩,n9⟩:=hn;refine ⟨n1,⟨n4,⟨n3,n5,fun x hx y hy=>n7 x hx y (.inr hy)⟩,fun x hx y hy=>?_⟩,fun x hx y hy=>?_⟩
   ·rintro rfl
    rcases hy with hy | hy
    ·exact n7 x hy x (.inl hx) rfl
    ·exact n6 x hx x hy rfl
   ·rintro rfl
    rcases hy with hy | hy | hy
    ·exact n9 x hx x (.inr (.inr (.inl hy))) rfl
    ·exact n9 x hx x (.inr (.inl hy)) rfl
    ·exact n9 x hx x (.inr (.inr (.inr hy))) rfl
  obtain ⟨O',m1,m2,m3⟩:=jN0 (fun j b' hj=>by simpa using hl (j+1) b' (by simpa using hj)) hset h4 hn'
  refine ⟨O',m1,m2,fun y hy=>?_⟩;rcases m3 y hy with hy | hy
  ·simp only[List.mem_append] at hy |-
   rcases hy with (hy | hy) | hy<;>simp[hy]
  ·simp[hy]
theorem QU0 (h:InvAt C X σ a w S L bl O1 O2):∀{xs:List Operand} {avs:List AV},pD0 σ xs=some avs->
  RpS ⟨S,L,bl,a,w,σ.cell⟩ avs (xs.map a.eval) []/\(∀av∈avs,av.sh≠.any)/\(∀av∈avs,∀c∈av.cs,stampIn X σ.epoch c)/\∀av∈avs,∀g d k els,A.ow g d k els∉av.cs
 | [],avs,hx=>by simp[pD0] at hx;subst hx;exact ⟨⟨rfl,rfl⟩,by simp,by simp,by simp⟩
 | x::xs,avs,hx=>by
  simp only[pD0,Option.bind_eq_some_iff] at hx;obtain ⟨av,hav,hx⟩:=hx;have hsh:av.sh≠.any/\(pD0 σ xs).map (fun q=>av::q)=some avs:=by
   cases hs:av.sh<;>simp only[hs,reduceCtorEq] at hx<;>exact ⟨by simp,hx⟩
  obtain ⟨hsh,hx⟩:=hsh;simp only[Option.map_eq_some_iff] at hx;obtain ⟨q,hq,rfl⟩:=hx;obtain ⟨g1,g2,g3,g4⟩:=QU0 h hq;have he:=h.ev hav;refine ⟨⟨a.eval x,xs.map a.eval,[],[],rfl,rfl,he.rep,g1⟩,fun y hy=>?_,fun y hy=>?_,fun y hy=>?_⟩<;>rcases List.mem_cons.1 hy with rfl | hy
  ·exact hsh
  ·exact g2 y hy
  ·exact he.st
  ·exact g3 y hy
  ·exact he.noOw
  ·exact g4 y hy
theorem RepV.cells {E:Env} {av:AV} {v:Value} {o:List Nat} (h:RepV E av v o) (hs:av.sh≠.any):shOk av.sh v/\RpA E av.cs (flat v) o:=by
 obtain ⟨sh,cs⟩:=av;cases sh with
 | any=>exact absurd rfl hs
 | one=>exact h
 | agg=>exact h
 | tup ns=>exact h
theorem RepV.ofCells {E:Env} {sh:Sh} {cs:List A} {v:Value} {o:List Nat} (hs:sh≠.any) (h1:shOk sh v) (h2:RpA E cs (flat v) o):RepV E ⟨sh,cs⟩ v o:=by
 cases sh with
 | any=>exact absurd rfl hs
 | one=>exact ⟨h1,h2⟩
 | agg=>exact ⟨h1,h2⟩
 | tup ns=>exact ⟨h1,h2⟩
theorem RpS.flatten {E:Env}:∀{avs:List AV} {vs:List Value} {o:List Nat},(∀av∈avs,av.sh≠.any)->RpS E avs vs o->RpA E (avs.flatMap (·.cs)) (vs.flatMap flat) o
 | [],vs,o,_,h=>by obtain ⟨rfl,rfl⟩:=h;exact ⟨rfl,rfl⟩
 | av::avs,vs,o,hs,h=>by
  obtain ⟨v,vs',o1,o2,rfl,rfl,h3,h4⟩:=h;simp only[List.flatMap_cons];exact RpA.append_iff.2 ⟨_,_,_,_,rfl,rfl,(h3.cells (hs av List.mem_cons_self)).2,RpS.flatten (fun x hx=>hs x (List.mem_cons_of_mem _ hx)) h4⟩
theorem RpS.split_cells {E E':Env}:∀{avs:List AV} {vs:List Value} {o o':List Nat} {cs:List A},(∀av∈avs,av.sh≠.any)->RpS E avs vs o->RpA E' cs (vs.flatMap flat) o'->RpS E' (kZ0 avs cs) vs o'
 | [],vs,o,o',cs,_,h,h'=>by
  obtain ⟨rfl,rfl⟩:=h;have:o'=[]:=by
   cases cs with
   | nil=>exact h'.2
   | cons c cs=>obtain ⟨u,us',_,_,h1,_⟩:=h';simp at h1
  exact ⟨rfl,this⟩
 | av::avs,vs,o,o',cs,hs,h,h'=>by
  obtain ⟨v,vs',o1,o2,rfl,rfl,h3,h4⟩:=h;obtain ⟨k1,k2⟩:=h3.cells (hs av List.mem_cons_self);simp only[List.flatMap_cons] at h';have hlen:=RpA.length k2;have hlen':=RpA.length h';rw[List.length_append,hlen] at hlen';rw[<-List.take_append_drop av.cs.length cs] at h';obtain ⟨u1,u2,p1,p2,e1,rfl,m1,m2⟩:=RpA.append_iff.1 h';have hl1:=RpA.length m1;rw[List.length_take,Nat.min_eq_left (by omega)] at hl1
  have hu:flat v=u1/\vs'.flatMap flat=u2:=List.append_inj e1 (by omega)
  obtain ⟨rfl,rfl⟩:=hu;exact ⟨v,vs',p1,p2,rfl,rfl,RepV.ofCells (hs av List.mem_cons_self) k1 m1,RpS.split_cells (fun x hx=>hs x (List.mem_cons_of_mem _ hx)) h4 m2⟩
theorem WE0 {E:Env}:∀{caps:List (Nat×Nat)} {vs:List Value},vs.length=caps.length->(∀(j b off:Nat),caps[j]?=some (b,off)->∃blk,E.bl[b]?=some blk/\vs[j]?=some (.pointer (some ⟨blk.b,blk.o+off,none⟩)))->RpS E (xX0 caps) vs []
 | [],vs,h,_=>by simp at h;subst h;exact ⟨rfl,rfl⟩
 | c::caps,[],h,_=>by simp at h
 | c::caps,v::vs,h,hc=>by
  obtain ⟨blk,k1,k2⟩:=hc 0 c.1 c.2 rfl;simp at k2;subst k2;exact ⟨_,vs,[],[],rfl,rfl,⟨⟨rfl,rfl⟩,_,[],[],[],rfl,rfl,⟨rfl,blk,k1,rfl⟩,rfl,rfl⟩,WE0 (by simpa using h) fun j b off hj=>by simpa using hc (j+1) b off (by simpa using hj)⟩
end
end Go.Av
/- Avs, part 25: the rule for a call. -/
namespace Go.Av
def zT0 (P:Program) (f:FuncId):Bool:=match P.funcs[f]? with
 | some fn=>fn.name != "runtime.NumGoroutine" && fn.body.isSome
 | none=>false
theorem yJ1 {P:Program} {f:FuncId} (he:zT0 P f=true) {ρ:Operand->Value} {fop:Operand} {vs:Array Value} (hf:ρ fop=.func (.func f) #[] vs) {args:Array Operand} {argTypes:Array TypeId} {dst:Option Tmp} {type:TypeId} {pos:String}
  {after:Array Edge} {guard:Option (Nat×Bool)} (w:World) :
  (execOp ρ ⟨dst,.call ⟨.value fop,args,argTypes⟩,type,pos,after,guard⟩).run P w=.ok (.enter f (args.map ρ++vs)) w:=by
 unfold zT0 at he;cases hfn:P.funcs[f]? with
 | none=>simp[hfn] at he
 | some fn=>
  simp only[hfn,Bool.and_eq_true,bne_iff_ne,ne_eq] at he;obtain ⟨h1,h2⟩:=he;simp[execOp,resolve,hf,Deferred.ofValue,invoke,callFunc,hfn,h1,Result.andThen];intro h0;simp[h0] at h2
theorem Fresh.mask {g:yA0}:∀{ids:List Nat} {σ σ':AS} {pcs:List (List A)},Fresh σ g->maskBoxes ids σ=some (pcs,σ')->Fresh σ' g
 | [],σ,σ',pcs,h,hx=>by simp[maskBoxes] at hx;obtain ⟨_,rfl⟩:=hx;exact h
 | b::ids,σ,σ',pcs,h,hx=>by
  simp only[maskBoxes] at hx
  split at hx<;>try (simp at hx;done)
  simp only[Option.map_eq_some_iff,Prod.mk.injEq] at hx;obtain ⟨⟨pcs',σ2⟩,hx,_,rfl⟩:=hx;refine Fresh.mask (σ:=σ.hide b) ⟨h.1,fun cs hcs=>?_⟩ hx;rcases List.mem_or_eq_of_mem_set hcs with hcs | hcs
  ·exact h.2 cs hcs
  ·simp at hcs
theorem XL0 {σ:AS}:∀{cs cs':List A},lendCells σ cs=some cs'->∀c∈cs',c.rstamp=none
 | [],cs',hx=>by simp[lendCells] at hx;subst hx;simp
 | c::cs,cs',hx=>by
  have key:∀d:A,d.rstamp=none->(lendCells σ cs).map (fun q=>d::q)=some cs'->∀c∈cs',c.rstamp=none:=by
   intro d hd hx;simp only[Option.map_eq_some_iff] at hx;obtain ⟨q,hq,rfl⟩:=hx;intro y hy;rcases List.mem_cons.1 hy with rfl | hy
   ·exact hd
   ·exact XL0 hq y hy
  cases c with
  | sref r x g lo len=>
   simp only[lendCells] at hx
   split at hx
   ·exact key _ rfl hx
   ·simp at hx
  | eptr r x g i off=>simp[lendCells] at hx
  | _=>exact key _ rfl hx
theorem tW0 (ids:List Nat) (nb:Nat) (g:yA0) (c:A):(unP ids nb g c).rstamp=none/\(∀g' d k els,unP ids nb g c=.ow g' d k els->g'=g)/\∀s,(unP ids nb g c).stamp=some s->s=g:=by
 cases c with
 | ow g0 d0 k0 els0=>exact ⟨rfl,fun g' d k els h=>by simp only[unP,A.ow.injEq] at h;exact h.1.symm,fun s h=>by simp only[unP,A.stamp,Option.some.injEq] at h;exact h.symm⟩
 | _=>simp[unP,A.rstamp,A.stamp]
theorem tN0:∀{ids:List Nat} {xs bs:List (Option (List A))} {y:Option (List A)},y∈yC0 ids xs bs->y∈bs\/y∈xs
 | [],xs,bs,y,h=>by rw[show yC0 [] xs bs=bs by cases xs<;>rfl] at h;exact .inl h
 | b::ids,[],bs,y,h=>.inl h
 | b::ids,x::xs,bs,y,h=>by
  rcases tN0 (ids:=ids) (xs:=xs) (bs:=bs.set b x) h with h | h
  ·rcases List.mem_or_eq_of_mem_set h with h | rfl
   ·exact .inl h
   ·exact .inr (by simp)
  ·exact .inr (by simp[h])
theorem getElem?_putBoxes:∀{ids:List Nat} {xs bs:List (Option (List A))} {b:Nat},b∉ids->(yC0 ids xs bs)[b]?=bs[b]?
 | [],xs,bs,b,h=>by rw[show yC0 [] xs bs=bs by cases xs<;>rfl]
 | c::ids,[],bs,b,h=>rfl
 | c::ids,x::xs,bs,b,h=>by
  simp only[List.mem_cons,not_or] at h
  show (yC0 ids xs (bs.set c x))[b]?=_
  rw[getElem?_putBoxes h.2,List.getElem?_set_ne (fun e=>h.1 e.symm)]
theorem wC0:∀{ids:List Nat} {xs bs:List (Option (List A))},(yC0 ids xs bs).length=bs.length
 | [],xs,bs=>by rw[show yC0 [] xs bs=bs by cases xs<;>rfl]
 | c::ids,[],bs=>rfl
 | c::ids,x::xs,bs=>by
  show (yC0 ids xs (bs.set c x)).length=_
  rw[wC0];simp
theorem mE0:∀{ids:List Nat} {xs bs:List (Option (List A))} {b:Nat},b∈ids->b < bs.length->xs.length=ids.length->∃y∈xs,(yC0 ids xs bs)[b]?=some y
 | [],xs,bs,b,h,_,_=>by simp at h
 | c::ids,[],bs,b,h,_,hl=>by simp at hl
 | c::ids,x::xs,bs,b,h,hb,hl=>by
  by_cases hm:b∈ids
  ·obtain ⟨y,hy,he⟩:=mE0 (xs:=xs) (bs:=bs.set c x) hm (by simpa using hb) (by simpa using hl)
   exact ⟨y,by simp[hy],he⟩
  ·have hbc:b=c:=by simpa [hm] using h
   subst hbc;refine ⟨x,by simp,?_⟩
   show (yC0 ids xs (bs.set b x))[b]?=_
   rw[getElem?_putBoxes hm,List.getElem?_set_self hb]
section
variable {P:Program} {C:Ctx} {X:List Nat} {σ:AS} {a:Act} {w:World} {Q:Exit->Act->World->Prop}
theorem rK1 {h:Hint} {i:Nat} {fop:Operand} {args:Array Operand} {argTypes:Array TypeId} {dst:Option Tmp} {type:TypeId} {pos:String} {after:Array Edge} {guard:Option (Nat×Bool)} {f:FuncId} {cargs:List AV} {cbx:List (Option (List A))} {σm:AS}
  {R:AV->List (Option (List A))->Prop} {K:AS->Prop} (hx:vD0 h i σ fop args.toList=some (f,cargs,cbx,σm)) (hent:zT0 P f=true) (hc:ACl P f cargs cbx R)
  (hK:∀res bx,R res bx->K ((zH0 h.ids i σm res bx).2.putO dst (zH0 h.ids i σm res bx).1)) (hinv:Inv C X σ a w) (hi:i∉X) :
  (⟨dst,.call ⟨.value fop,args,argTypes⟩,type,pos,after,guard⟩:Oper).wp P a w (fun a' w'=>∃σ',K σ'/\Inv C (i::X) σ' a' w') Q:=by
 obtain ⟨S,L,bl,O1,O2,hv⟩:=hinv;have hv':=hv.mono (fun x hx=>List.mem_cons_of_mem i hx);simp only[vD0,Option.bind_eq_some_iff] at hx;obtain ⟨fv,hfv,hx⟩:=hx
 split at hx<;>try (simp at hx;done)
 rename_i f' caps;simp only[Option.bind_eq_some_iff] at hx;obtain ⟨avs,havs,⟨pcs,σ3⟩,hmask,hx⟩:=hx
 split at hx<;>try (simp at hx;done)
 rename_i hfree;simp only[Option.bind_eq_some_iff,Option.map_eq_some_iff,Prod.mk.injEq] at hx;obtain ⟨cs1,hlend,cs2,hren,pcs',hrens,rfl,rfl,rfl,rfl⟩:=hx;obtain ⟨⟨_,vs,hfun,hvsz,hcaps⟩,_⟩:=(hv.ev hfv).cell;obtain ⟨e1,e2,e3,e4⟩:=QU0 hv havs;have ecap:=WE0 (E:=⟨S,L,bl,a,w,σ.cell⟩) (caps:=caps) (vs:=vs.toList) (by simpa using hvsz) (fun j b off hj=>by simpa using hcaps j b off hj)
 have eall:=e1.append ecap;have hany:∀av∈avs++xX0 caps,av.sh≠.any:=by
  intro av hav;rcases List.mem_append.1 hav with hav | hav
  ·exact e2 av hav
  ·simp only[xX0,List.mem_map] at hav
   obtain ⟨c,_,rfl⟩:=hav;simp[one]
 have hcapc:∀av∈xX0 caps,∀c∈av.cs,c.stamp=none/\isOw c=false:=by
  intro av hav c hcm;simp only[xX0,List.mem_map] at hav;obtain ⟨c0,_,rfl⟩:=hav;simp[one] at hcm;subst hcm;exact ⟨rfl,rfl⟩
 have eflat:=eall.flatten hany;have hst:∀c∈(avs++xX0 caps).flatMap (·.cs),stampIn X σ.epoch c:=by
  intro c hcm;simp only[List.mem_flatMap,List.mem_append] at hcm;obtain ⟨av,hav | hav,hcm⟩:=hcm
  ·exact e3 av hav c hcm
  ·intro g hg;rw[(hcapc av hav c hcm).1] at hg;simp at hg
 have hno:∀g d k els,A.ow g d k els∉(avs++xX0 caps).flatMap (·.cs):=by
  intro g d k els hcm;simp only[List.mem_flatMap,List.mem_append] at hcm;obtain ⟨av,hav | hav,hcm⟩:=hcm
  ·exact e4 av hav g d k els hcm
  ·have:=(hcapc av hav _ hcm).2;simp[isOw] at this
 obtain ⟨O1a,O2a,oa,a1,a2,a3,a4,a5,a6,a7,a8,a9,a10,a11,a12,a13,a14⟩:=yE0 h.mv hv' (i:=i) (by simp) (hv.fresh hi) eflat (uM0 hst) (bX0 hst hi) hno
 generalize hq1:tkC h.mv (σ.epoch,i) ((avs++xX0 caps).flatMap (·.cs)) σ=q1 at *
 obtain ⟨cA,σA⟩:=q1;simp only at a1 a2 a5 a6 a7 a8 a9 a12 a13 a14 hmask hlend;obtain ⟨S3,L3,O1b,O2b,b1,b2,b3,b4,b5,b6,b7,b8,b9,b10,b11⟩:=uK0 h.sh (i:=i) a1 (by rw[a9];exact a8) a2
 generalize hq2:shC h.sh cA σA=q2 at *;obtain ⟨cB,σB⟩:=q2;simp only at b1 b2 b7 b8 b9 b10 b11 hmask hlend;obtain ⟨Or,op,blks,m1,m2,m3,m4,m5,m6,m7,m8,m9,m10,m11⟩:=HU0 b1 hmask;have hlies:Lies h.ids blks bl:=m3;have hfr3:Fresh σ3 (σ3.epoch,i):=by rw[m9,b8,a9];rw[a9] at b7;exact b7.mask hmask
 have hrl:=GA0 m1 (RpA.go m8 (fun _ _=>rfl) (fun _ _=>yF0) b2) hlend;have hargs:=(RpA.ren (E:=Env.zero S3 (fun b=>L3 b\/b∈O1b++Or) bl w) hlies (XL0 hlend) hren hrl).reset;have hslots:RpS (Env.zero S3 (fun b=>L3 b\/b∈O1b++Or) blks w) (kZ0 (avs++xX0 caps) (cs2.map A.reset)) (args.map a.eval++vs).toList oa:=by
  rw[show (args.map a.eval++vs).toList=args.toList.map a.eval++vs.toList by simp]
  exact RpS.split_cells hany eall hargs
 have hfreeP:∀cs∈pcs,∀c∈cs,c.rstamp=none:=by
  intro cs hcs c hcm;have:=List.all_eq_true.1 hfree cs hcs;have:=List.all_eq_true.1 this c hcm;simpa using this
 have hle4:Env.Le none ⟨S3,L3,bl,a,w,σ3.cell⟩ ⟨S3,fun b=>L3 b\/b∈O1b++Or,bl,a,w,σ3.cell⟩:=
  ⟨fun _ h=>h,fun b hb=>.inl hb,fun _ _=>rfl,fun _ _ h=>h,fun r c g d k els' _ he=>⟨d,els',he,rfl,fun x hx=>by cases r<;>exact hx⟩⟩
 have hboxes:=RpB.ren (E:=⟨S3,fun b=>L3 b\/b∈O1b++Or,bl,a,w,σ3.cell⟩) hlies hfreeP hrens (RpB.go hle4 (fun _ _=>rfl) (fun _ _ _ _ _ _=>yF0) m2);have hOb:∀b,b∈O1b++Or->b∈O1b++O2b:=fun b hb=>by
  rcases List.mem_append.1 hb with hb | hb
  ·simp[hb]
  ·simp[m6 b hb]
 have hopb:∀b,b∈op->b∈O1b++O2b:=fun b hb=>by simp[m5 b hb]
 have hOrop:∀b,b∈op->b∉O1b++Or:=fun b hb hm=>by
  rcases List.mem_append.1 hm with hm | hm
  ·exact (List.nodup_append.1 b1.nodup).2.2 b hm b (m5 b hb) rfl
  ·exact (List.nodup_append.1 m7).2.2 b hm b hb rfl
 have hoaL:∀b,b∈oa->¬L3 b:=fun b hb hL=>(b5 b hL).elim (a4 b hb).2.1 (a4 b hb).1;have hoaO:∀b,b∈oa->b∉O1b++O2b:=fun b hb hm=>(a4 b hb).1 (b6 b hm);have hopL:∀b,b∈op->¬L3 b:=fun b hb hL=>(b1.stable b hL).2 (hopb b hb);have hnd:(oa++op).Nodup:=List.nodup_append.2 ⟨a3,(List.nodup_append.1 m7).2.1,fun x hx y hy he=>hoaO x hx (by rw[he];exact hopb y hy)⟩
 have hown:∀b∈oa++op,b∈C.O0\/C.w0.heap.size<=b:=fun b hb=>by
  rcases List.mem_append.1 hb with hb | hb
  ·exact (a4 b hb).2.2
  ·exact b1.own b (hopb b hb)
 have hstab:∀b,(L3 b\/b∈O1b++Or)->b < w.heap.size/\b∉oa++op:=by
  intro b hb;rcases hb with hb | hb
  ·refine ⟨(b1.stable b hb).1,fun hm=>?_⟩
   rcases List.mem_append.1 hm with hm | hm
   ·exact hoaL b hm hb
   ·exact hopL b hm hb
  ·refine ⟨b1.own_lt (hOb b hb),fun hm=>?_⟩
   rcases List.mem_append.1 hm with hm | hm
   ·exact hoaO b hm (hOb b hb)
   ·exact hOrop b hm hb
 have hcalls:=hc w _ S3 (fun b=>L3 b\/b∈O1b++Or) blks oa op hslots hboxes hnd (fun b hb=>.inl (b1.sl b hb)) hstab (C.gd.keeps C.gs b1.keeps b1.s0.1);unfold Oper.wp;rw[yJ1 hent hfun w];simp only[Oper.upon_enter];refine Calls.mono hcalls ?_;rintro e w' ⟨v,rfl,res,bx',S',bl',o1,o2,hR,r1,r2,r3,r4,r5,r6,r7,r8,r9⟩;obtain ⟨new,hnew⟩:=r9;refine ⟨_,hK res bx' hR,?_⟩;have hlbl:=RpB.length m1.boxes;have hlen2:=RpB.length r2
 have hge:h.ids.length<=bx'.length:=by rw[<-hlen2,<-hnew,List.length_append,m4];omega
 have hbx:bx'=bx'.take h.ids.length++bx'.drop h.ids.length:=(List.take_append_drop _ _).symm;have r2':=r2;rw[hbx] at r2';obtain ⟨c1,c2,p1,p2,hcc,rfl,s1,s2⟩:=RpB.split_append r2';have hc1:c1=blks/\c2=new:=by
  have hl1:=RpB.length s1;rw[List.length_take,Nat.min_eq_left hge] at hl1;have:=List.append_inj (hcc.symm.trans hnew.symm) (by omega)
  exact this
 obtain ⟨rfl,rfl⟩:=hc1;have hsize:w.heap.size<=w'.heap.size:=r7.size;have hblk:∀b,(L3 b\/b∈O1b++Or)->w'.heap[b]?=w.heap[b]?:=fun b hb=>r7.block b (hstab b hb).1 (hstab b hb).2;have hS':∀b,S' b->(fun b=>L3 b\/S' b) b:=fun b hb=>.inr hb
 let σ4:AS:=(zH0 h.ids i σ3 res bx').2
 let g:yA0:=(σ3.epoch,i)
 have hcell4:∀r c,(∀b,r=.box b->b∉h.ids/\b < σ3.boxes.length)->σ4.cell r c=σ3.cell r c:=by
  intro r c hr;cases r with
  | slot t=>rfl
  | box b=>
   obtain ⟨hb1,hb2⟩:=hr b rfl;simp only[σ4,zH0,AS.cell];rw[List.getElem?_append_left (by rw[wC0];exact hb2),getElem?_putBoxes hb1]
 have hcellg:∀b c g0 d k els,σ4.cell (.box b) c=some (.ow g0 d k els)->¬(b∉h.ids/\b < σ3.boxes.length)->g0=g:=by
  intro b c g0 d k els he hb;have huse:∀y:Option (List A),σ4.boxes[b]?=some (vZ0 h.ids σ3.boxes.length g y)->g0=g:=by
   intro y hy;simp only[AS.cell,hy,Option.bind_some] at he;cases y with
   | none=>simp[vZ0] at he
   | some cs=>
    simp only[vZ0,Option.map_some,Option.bind_some,List.getElem?_map,Option.map_eq_some_iff] at he;obtain ⟨c0,_,hc0⟩:=he;exact (tW0 h.ids σ3.boxes.length g c0).2.1 _ _ _ _ hc0
  by_cases hb2:b < σ3.boxes.length
  ·have hbi:b∈h.ids:=Classical.byContradiction fun hbi=>hb ⟨hbi,hb2⟩
   obtain ⟨y,hy,hy2⟩:=mE0 (xs:=(bx'.take h.ids.length).map (vZ0 h.ids σ3.boxes.length g)) hbi hb2 (by simp;omega)
   obtain ⟨y0,_,rfl⟩:=List.mem_map.1 hy;refine huse y0 ?_
   show (yC0 _ _ _++_)[b]?=_
   rw[List.getElem?_append_left (by rw[wC0];exact hb2)]
   exact hy2
  ·have hlp:(yC0 h.ids ((bx'.take h.ids.length).map (vZ0 h.ids σ3.boxes.length g)) σ3.boxes).length=σ3.boxes.length:=wC0
   cases hy:σ4.boxes[b]? with
   | none=>simp[AS.cell,hy] at he
   | some y=>
    have hy':=hy
    change (yC0 h.ids ((bx'.take h.ids.length).map (vZ0 h.ids σ3.boxes.length g)) σ3.boxes++(bx'.drop h.ids.length).map (vZ0 h.ids σ3.boxes.length g))[b]?=_ at hy'
    rw[List.getElem?_append_right (by omega),List.getElem?_map,Option.map_eq_some_iff] at hy'
    obtain ⟨y0,_,rfl⟩:=hy';exact huse y0 hy
 have hE:Env.Le (some g) ⟨S3,L3,bl,a,w,σ3.cell⟩ ⟨S',fun b=>L3 b\/S' b,bl++c2,a,w',σ4.cell⟩:=by
  refine ⟨r5,fun b hb=>.inl hb,fun b hb=>hblk b (.inl (hb.elim (b1.sl b) id)),fun j blk hj=>by
   show (bl++c2)[j]?=some blk
   rw[List.getElem?_append_left (List.getElem?_eq_some_iff.1 hj).1];exact hj,fun r c g0 d k els' hg he=>?_⟩
  simp only at he;cases r with
  | slot t=>exact ⟨d,els',he,rfl,fun x hx=>hx⟩
  | box b=>
   by_cases hb:b∉h.ids/\b < σ3.boxes.length
   ·rw[hcell4 (.box b) c (fun b' hb'=>by cases hb';exact hb)] at he
    refine ⟨d,els',he,rfl,fun x hx=>?_⟩;simp only[Env.cv] at hx |-;simp only[AS.cell] at he;cases hb':σ3.boxes[b]? with
    | none=>simp[hb'] at he
    | some y=>
     cases y with
     | none=>simp[hb'] at he
     | some cs=>
      obtain ⟨blk,p,o,q,k1,k2,⟨o',us0,k3,k4,k5⟩,_⟩:=RpB.split b _ m1.boxes hb';rw[List.getElem?_append_left (List.getElem?_eq_some_iff.1 k1).1];simp only[k1,Option.bind_some] at hx |-;rw[cell?_congr (hblk blk.b (.inr (by simp[k2,k3])))]
      exact hx
   ·exact absurd (congrArg some (hcellg b c g0 d k els' he hb)) hg
 have hdisj:∀b∈o1++(p1++p2),¬(L3 b\/b∈O1b++Or):=fun b hb hm=>by
  rcases r8 b hb with h1 | h1
  ·exact (hstab b hm).2 h1
  ·have:=(hstab b hm).1;omega
 have hnewOwn:∀b∈o1++(p1++p2),b∈C.O0\/C.w0.heap.size<=b:=fun b hb=>by
  rcases r8 b hb with h1 | h1
  ·exact hown b h1
  ·exact .inr (Nat.le_trans hv.keeps.size h1)
 obtain ⟨d1,d2,d3⟩:=List.nodup_append.1 r3;obtain ⟨d4,d5,d6⟩:=List.nodup_append.1 d2;obtain ⟨d7,d8,d9⟩:=List.nodup_append.1 m1.nodup;have t1:=RpS.go hE (fun b hb=>hblk b (.inr (by simp[hb]))) hfr3.1 m1.slots
 have t2:=RpB.go hE (fun b hb=>hblk b (.inr (by simp[hb]))) (fun c cs' hc he=>hfr3.2 cs' (he ▸ hc)) m1.boxes
 have u1:=RpB.un (L':=fun b=>L3 b\/S' b) (a:=a) (ca:=σ4.cell) (g:=g) hS' hlies m4 hnew.symm s1;have u2:=RpB.un (L':=fun b=>L3 b\/S' b) (a:=a) (ca:=σ4.cell) (g:=g) hS' hlies m4 hnew.symm s2;rw[hlbl] at u1 u2;obtain ⟨O',t3,t4,t5⟩:=jN0 hlies t2 u1 (List.nodup_append.2 ⟨d8,d4,fun x hx y hy he=>hdisj y (by simp[hy]) (.inr (by simp[<-he,hx]))⟩)
 have t6:=t3.join u2;have hO':∀b,b∈O'++p2->b∈Or\/b∈p1++p2:=fun b hb=>by
  rcases List.mem_append.1 hb with hb | hb
  ·rcases t5 b hb with hb | hb
   ·exact .inl hb
   ·exact .inr (by simp[hb])
  ·exact .inr (by simp[hb])
 have hfin:InvAt C (i::X) σ4 a w' S' (fun b=>L3 b\/S' b) (bl++c2) O1b (O'++p2):=by
  refine ⟨m1.defers,t1,t6,?_,hS',?_,⟨fun b hb=>r5 b (m1.s0.1 b hb),fun b hb=>?_⟩,?_,?_,m1.pre.trans (List.prefix_append _ _),m1.stS,?_⟩
  ·refine List.nodup_append.2 ⟨d7,List.nodup_append.2 ⟨t4,d5,fun x hx y hy he=>?_⟩,fun x hx y hy he=>?_⟩
   ·rcases t5 x hx with hx | hx
    ·exact hdisj y (by simp[hy]) (.inr (by simp[<-he,hx]))
    ·exact d6 x hx y hy he
   ·rcases hO' y hy with hy | hy
    ·exact d9 x hx y hy he
    ·exact hdisj y (by simp only[List.mem_append] at hy |-;exact .inr hy) (.inr (by simp[<-he,hx]))
  ·intro b hb
   rcases hb with hb | hb
   ·refine ⟨Nat.lt_of_lt_of_le (hstab b (.inl hb)).1 hsize,fun hm=>?_⟩
    rcases List.mem_append.1 hm with hm | hm
    ·exact (m1.stable b hb).2 (by simp[hm])
    ·rcases hO' b hm with hm | hm
     ·exact (m1.stable b hb).2 (by simp[hm])
     ·exact hdisj b (by simp only[List.mem_append] at hm |-;exact .inr hm) (.inl hb)
   ·refine ⟨(r4 b hb).1,fun hm=>?_⟩
    have hold:b∉O1b++Or:=fun hm=>by
     rcases r6 b hb with h1 | h1 | h1
     ·exact (m1.stable b (b1.sl b h1)).2 hm
     ·exact (hstab b (.inr hm)).2 h1
     ·have:=(hstab b (.inr hm)).1;omega
    rcases List.mem_append.1 hm with hm | hm
    ·exact hold (by simp[hm])
    ·rcases hO' b hm with hm | hm
     ·exact hold (by simp[hm])
     ·exact (r4 b hb).2 (by simp only[List.mem_append] at hm |-;exact .inr hm)
  ·rcases r6 b hb with h1 | h1 | h1
   ·exact m1.s0.2 b h1
   ·exact .inr (hown b h1)
   ·exact .inr (.inr (Nat.le_trans hv.keeps.size h1))
  ·refine ⟨r7.os.trans hv.keeps.os,r7.tape.trans hv.keeps.tape,r7.output.trans hv.keeps.output,Nat.le_trans hv.keeps.size hsize,fun b hb hn=>?_⟩
   rw[r7.block b (Nat.lt_of_lt_of_le hb hv.keeps.size) (fun hm=>by
    rcases hown b hm with h1 | h1
    ·exact hn h1
    ·omega)]
   exact hv.keeps.block b hb hn
  ·intro b hb
   rcases List.mem_append.1 hb with hb | hb
   ·exact m1.own b (by simp[hb])
   ·rcases hO' b hb with hb | hb
    ·exact m1.own b (by simp[hb])
    ·exact hnewOwn b (by simp only[List.mem_append] at hb |-;exact .inr hb)
  ·intro cs hcs c hcm
   have hun:∀y:Option (List A),some cs=vZ0 h.ids σ3.boxes.length g y->stampIn (i::X) σ4.epoch c:=by
    intro y hy s hs;cases y with
    | none=>simp[vZ0] at hy
    | some cs0=>
     simp only[vZ0,Option.map_some,Option.some.injEq] at hy;subst hy;obtain ⟨c0,_,rfl⟩:=List.mem_map.1 hcm;have:=(tW0 h.ids σ3.boxes.length g c0).2.2 s hs;subst this;exact .inr ⟨rfl,List.mem_cons_self⟩
   have hcs':some cs∈yC0 h.ids ((bx'.take h.ids.length).map (vZ0 h.ids σ3.boxes.length g)) σ3.boxes++(bx'.drop h.ids.length).map (vZ0 h.ids σ3.boxes.length g):=hcs;rcases List.mem_append.1 hcs' with hcs' | hcs'
   ·rcases tN0 hcs' with hcs' | hcs'
    ·exact m1.stB cs hcs' c hcm
    ·obtain ⟨y,_,hy⟩:=List.mem_map.1 hcs'
     exact hun y hy.symm
   ·obtain ⟨y,_,hy⟩:=List.mem_map.1 hcs'
    exact hun y hy.symm
 refine hfin.done (i:=i) (o':=o1) ?_ ?_ ?_ ?_ ?_ d1 ?_
 ·refine ⟨hfr3.1,fun cs hcs c hcm=>?_⟩
  have hcs':some cs∈yC0 h.ids ((bx'.take h.ids.length).map (vZ0 h.ids σ3.boxes.length g)) σ3.boxes++(bx'.drop h.ids.length).map (vZ0 h.ids σ3.boxes.length g):=hcs;have hun:∀y:Option (List A),some cs=vZ0 h.ids σ3.boxes.length g y->c.rstamp=none:=by
   intro y hy;cases y with
   | none=>simp[vZ0] at hy
   | some cs0=>
    simp only[vZ0,Option.map_some,Option.some.injEq] at hy;subst hy;obtain ⟨c0,_,rfl⟩:=List.mem_map.1 hcm;exact (tW0 h.ids σ3.boxes.length g c0).1
  rcases List.mem_append.1 hcs' with hcs' | hcs'
  ·rcases tN0 hcs' with hcs' | hcs'
   ·exact hfr3.2 cs hcs' c hcm
   ·obtain ⟨y,_,hy⟩:=List.mem_map.1 hcs'
    exact .inl (hun y hy.symm)
  ·obtain ⟨y,_,hy⟩:=List.mem_map.1 hcs'
   exact .inl (hun y hy.symm)
 ·by_cases hsh:res.sh=.any
  ·obtain ⟨sh,cs⟩:=res
   simp only at hsh;subst hsh;obtain ⟨k1,k2⟩:=r1;simp only at k1;subst k1;exact ⟨rfl,k2⟩
  ·obtain ⟨k1,k2⟩:=r1.cells hsh
   have:=RpA.un (L':=fun b=>L3 b\/S' b) (a:=a) (ca:=σ4.cell) (g:=g) hS' hlies m4 hnew.symm k2;rw[hlbl] at this;exact RepV.ofCells hsh k1 this
 ·intro c hcm
  obtain ⟨c0,_,rfl⟩:=List.mem_map.1 hcm;exact .inl (tW0 h.ids σ3.boxes.length g c0).1
 ·intro c hcm s hs
  obtain ⟨c0,_,rfl⟩:=List.mem_map.1 hcm;have:=(tW0 h.ids σ3.boxes.length g c0).2.2 s hs;subst this;exact .inr ⟨rfl,List.mem_cons_self⟩
 ·intro g0 d k els hcm
  obtain ⟨c0,_,hc0⟩:=List.mem_map.1 hcm;exact (tW0 h.ids σ3.boxes.length g c0).2.1 _ _ _ _ hc0
 ·intro b hb
  have hdb:=hdisj b (by simp[hb])
  refine ⟨fun hm=>?_,fun hL=>?_,hnewOwn b (by simp[hb])⟩
  ·rcases List.mem_append.1 hm with hm | hm
   ·exact hdb (.inr (by simp[hm]))
   ·rcases hO' b hm with hm | hm
    ·exact hdb (.inr (by simp[hm]))
    ·exact d3 b hb b hm rfl
  ·rcases hL with hL | hL
   ·exact hdb (.inl hL)
   ·exact (r4 b hL).2 (by simp[hb])
end
end Go.Av
/- Avs, part 19a: bytes to a text. -/
namespace Go.Av
def bytesOf:List (List T)->Option (List Int)
 | []=>some []
 | e::es=>match e with
  | [.lit (.int .u8 n)]=>(bytesOf es).map (n::·)
  | _=>none
def textOf (ns:List Int):ByteArray:=ns.foldl (fun r n=>r.push (UInt8.ofNat n.toNat)) ByteArray.empty
def YD0 (P:Program) (σ:AS) (s d:TypeId) (x:Operand):Option AV:=
 (σ.ev x).bind fun x=>match x with
 | ⟨.one,[c]⟩=>opt2 (tyOf P s) (tyOf P d) fun ts td=>match ts.tk,td.tk with
  | .slice e,.str=>(tyOf P e).bind fun te=>match te.tk with
   | .int .u8=>(σ.els c).bind fun els=>(bytesOf els).map fun ns=>one (.lit (.string (textOf ns)))
   | _=>none
  | _,_=>none
 | _=>none
section
variable {P:Program} {C:Ctx} {X:List Nat} {σ:AS} {a:Act} {w:World} {S L:Nat->Prop} {bl:List Bk} {O1 O2:List Nat}
theorem NH0 (h:InvAt C X σ a w S L bl O1 O2) {xo:Operand} {c:A} {els:List (List T)} (hxe:σ.ev xo=some ⟨.one,[c]⟩) (hxs:σ.els c=some els) :
  ∃ad cap,a.eval xo=.slice ad els.length cap/\(els≠[]->∃b o,ad=some ⟨b,o,none⟩/\RepSE L w b o els):=by
 obtain ⟨r1,_⟩:=(h.ev hxe).cell;cases c<;>simp only[AS.els,reduceCtorEq] at hxs
 ·simp at hxs;subst hxs;obtain ⟨⟨ad,hv⟩,_⟩:=r1;exact ⟨ad,0,by simpa using hv,by simp⟩
 ·simp only[Option.some.injEq] at hxs
  subst hxs;obtain ⟨r1,_⟩:=r1;simp only[RepS] at r1;obtain ⟨ad,cap,h1,h2,h3⟩:=r1;refine ⟨ad,cap,h1,fun hne=>?_⟩;obtain ⟨b,o,e1,e2,e3⟩:=h3 hne;refine ⟨b,o,e1,?_⟩
  rename Bool=>bst
  cases hst:bst with
  | true=>rw[hst] at e3;exact RepSE.mono h.sl (fun _ _=>rfl) b rfl o _ e3
  | false=>rw[hst] at e3;exact e3
 ·simp only[Option.map_eq_some_iff] at hxs
  obtain ⟨⟨k,els⟩,hat,rfl⟩:=hxs;have hcell:=AS.at?_some hat;obtain ⟨hlo,ad,cap,xx,e1,e2,e3⟩:=r1.2.2 false k els hcell;obtain ⟨u0,o,q1,q2,q3⟩:=h.peek hcell;rw[e1] at q1;simp at q1;subst q1;obtain ⟨own',s1,s2⟩:=RepO.sub (show RepO S w false k els _ o from q2) hlo e3
  obtain ⟨ad',cap',m1,m2,m3,m4⟩:=s1;rw[e2,m1];refine ⟨ad',cap',rfl,fun hne=>?_⟩;rcases m4 with ⟨_,h0,_⟩ | ⟨b,o,arr,ty,fz,rfl,_,_,_,_,g6⟩
  ·exact absurd h0 hne
  ·exact ⟨b,o,rfl,RepSE.mono h.sl (fun _ _=>rfl) b rfl o _ g6⟩
theorem mP0 {S:Nat->Prop}:∀{els:List (List T)} {ns:List Int} {us:List Value},bytesOf els=some ns->RepTs S w els.flatten us->us=ns.map (Value.int .u8)/\els.length=ns.length
 | [],ns,us,h,hr=>by simp[bytesOf] at h;subst h;exact ⟨hr,rfl⟩
 | e::es,ns,us,h,hr=>by
  simp only[bytesOf] at h
  split at h<;>try (simp at h;done)
  rename_i n;simp only[Option.map_eq_some_iff] at h;obtain ⟨ns',h1,rfl⟩:=h;obtain ⟨u,us',rfl,h2,h3⟩:=hr;obtain ⟨k1,k2⟩:=mP0 (us:=us') h1 (by simpa using h3)
  simp only[RepS] at h2;exact ⟨by simp[h2.1,k1],by simp[k2]⟩
theorem uL1 {i:Nat} {dst:Option Tmp} {s d:TypeId} {x:Operand} {av:AV} (hx:YD0 P σ s d x=some av):OpOk P C i (.convert s d x) dst σ av σ:=by
 rintro X a w ⟨S,L,bl,O1,O2,h⟩ hi type pos after guard;have h':=h.mono (fun x hx=>List.mem_cons_of_mem i hx);simp only[YD0,Option.bind_eq_some_iff] at hx;obtain ⟨x',hxe,hx⟩:=hx
 split at hx<;>try (simp at hx;done)
 rename_i c;obtain ⟨ts,td,hs,hd,hx⟩:=zU0 hx
 split at hx<;>try (simp at hx;done)
 rename_i e hk1 hk2;simp only[Option.bind_eq_some_iff] at hx;obtain ⟨te,he,hx⟩:=hx
 split at hx<;>try (simp at hx;done)
 rename_i hk3;simp only[Option.bind_eq_some_iff,Option.map_eq_some_iff] at hx;obtain ⟨els,hels,ns,hns,rfl⟩:=hx;obtain ⟨ad,cap,hv,hne⟩:=NH0 h hxe hels;have hb:(Conv.bytesToString (a.eval x)).run P w=.ok (.string (textOf ns)) w:=by
  rw[hv];cases ad with
  | none=>
   have h0:els=[]:=Classical.byContradiction fun hn=>by obtain ⟨b,o,h1,_⟩:=hne hn;simp at h1
   subst h0;simp[bytesOf] at hns;subst hns
   rfl
  | some ad=>
   refine run_bytesToString w ad els.length cap ns ?_
   by_cases h0:els=[]
   ·subst h0
    simp[bytesOf] at hns;subst hns;exact run_loadCells_list (P:=P) (w:=w) ad [] (by simp)
   ·obtain ⟨b,o,h1,h2⟩:=hne h0
    simp at h1;subst h1;obtain ⟨us,p1,p2⟩:=h2.flat;obtain ⟨k1,k2⟩:=mP0 hns p1;subst k1;have:=run_loadCells_list (P:=P) (w:=w) ⟨b,o,none⟩ (ns.map (Value.int .u8)) (fun j v hj=>by rw[xB0];exact p2 j v hj)
    rw[k2];simpa using this
 refine ⟨_,.string (textOf ns),w,?_,.inl rfl,h'.done (h.fresh hi) (o':=[]) (EvOk.lit (C:=C) (X:=X) (σ:=σ) (E:=⟨S,L,bl,a,w,σ.cell⟩) (v:=.string (textOf ns)) rfl).rep (fun c hc=>by simp[one] at hc;subst hc;exact .inl rfl) (fun c hc g hg=>by simp[one] at hc;subst hc;simp[A.stamp] at hg) (fun g d k els hm=>by simp[one] at hm) List.nodup_nil (by simp)⟩
 have hc:(convert s d (a.eval x)).run P w=.ok (.string (textOf ns)) w:=by
  rw[<-hb];rw[hv];simp only[convert,Sem.run_bind,yH0 hs w hk1,xP0 hd w hk2,Result.andThen,xQ0 he w hk3]
 simp only[execOp,Sem.run_bind,hc,Result.andThen]
 rfl
end
end Go.Av
/- Avs, part 19b: slices that are made. -/
namespace Go.Av
theorem gN0 (z:List Value) (_h:0 < z.length) (n:Nat):(List.range z.length).map (fun j=>z.toArray[(n * z.length+j) % z.toArray.size]!)=z:=by
 apply List.ext_getElem?;intro j
 by_cases hj:j < z.length
 ·simp[hj,Nat.mod_eq_of_lt hj]
 ·simp[hj]
theorem qZ0 (z:List Value) (_h:0 < z.length):∀n:Nat,(madeCells z.toArray (n * z.length)).toList=(List.replicate n z).flatten
 | 0=>by simp[madeCells]
 | n+1=>by
  have ih:=qZ0 z _h n;simp only[madeCells,Array.toList_map,Array.toList_range] at ih |-;rw[Nat.succ_mul,List.range_add,List.map_append,ih,List.replicate_succ',List.flatten_append,List.map_map]
  congr 1
  simpa [Function.comp_def] using gN0 z _h n
def qX1:Value->Option T
 | .slice none 0 0=>some (.sl [])
 | v=>if isLit v then some (.lit v) else none
def kN0:List Value->Option (List T)
 | []=>some []
 | v::vs=>(qX1 v).bind fun t=>(kN0 vs).map fun q=>t::q
theorem kM0 {S:Nat->Prop} {w:World}:∀{vs:List Value} {ts:List T},kN0 vs=some ts->RepTs S w ts vs
 | [],ts,h=>by simp[kN0] at h;subst h;rfl
 | v::vs,ts,h=>by
  simp only[kN0,Option.bind_eq_some_iff,Option.map_eq_some_iff] at h;obtain ⟨t,h1,q,h2,rfl⟩:=h;refine ⟨v,vs,rfl,?_,kM0 h2⟩;unfold qX1 at h1
  split at h1
  ·simp at h1;subst h1;simp only[RepS];exact ⟨none,0,rfl,by simp,by simp⟩
  ·obtain ⟨h3,rfl⟩:=zQ0 h1
   simp only[RepS];exact ⟨trivial,h3⟩
theorem JR0 {S:Nat->Prop} {w:World} {vs:List Value} {ts:List T} (h:RepTs S w ts vs):∀n,RepTs S w (List.replicate n ts).flatten (List.replicate n vs).flatten
 | 0=>rfl
 | n+1=>by
  simp only[List.replicate_succ,List.flatten_cons];exact h.append (JR0 h n)
def zH1 (P:Program) (g:yA0) (t:TypeId) (l c:Option AV):Option AV:=
 (tyOf P t).bind fun ti=>match ti.tk with
 | .slice e=>(tyOf P e).bind fun te=>opt2 l c fun l c=>match l.lit?,c.lit? with
  | some (.int _ l),some (.int _ c)=>if 0<=l/\l<=c/\(te.bytes:Int) * c<=281474976710656/\c<=9223372036854775807/\0 < te.size then
    (kN0 te.zero).map fun zs=>one (.ow g false te.size (List.replicate l.toNat zs)) else none
  | _,_=>none
 | _=>none
def VQ0 (P:Program) (i:Nat) (σ:AS) (t:TypeId) (l c:Operand):Option (AV×AS):=(zH1 P (σ.epoch,i) t (σ.ev l) (σ.ev c)).map fun av=>(av,σ)
section
variable {P:Program} {C:Ctx} {X:List Nat} {σ:AS} {a:Act} {w:World} {S L:Nat->Prop} {bl:List Bk} {O1 O2:List Nat}
theorem tP1 {i:Nat} {dst:Option Tmp} {t:TypeId} {l c:Operand} {av:AV} {σ1:AS} (hx:VQ0 P i σ t l c=some (av,σ1)):OpOk P C i (.makeSlice t l c) dst σ av σ1:=by
 rintro X a w ⟨S,L,bl,O1,O2,h⟩ hi type pos after guard;have h':=h.mono (fun x hx=>List.mem_cons_of_mem i hx);simp only[VQ0,Option.map_eq_some_iff,Prod.mk.injEq] at hx;obtain ⟨av0,hx,rfl,rfl⟩:=hx;simp only[zH1,Option.bind_eq_some_iff] at hx;obtain ⟨ti,ht,hx⟩:=hx
 split at hx<;>try (simp at hx;done)
 rename_i e hk;simp only[Option.bind_eq_some_iff] at hx;obtain ⟨te,he,hx⟩:=hx;obtain ⟨l',c',hl,hc,hx'⟩:=zU0 hx;clear hx
 split at hx'<;>try (simp at hx';done)
 rename_i kl l0 kc c0 hl0 hc0
 split at hx'<;>try (simp at hx';done)
 rename_i hcond;obtain ⟨q1,q2,q3,q4,q5⟩:=hcond;simp only[Option.map_eq_some_iff] at hx';obtain ⟨zs,hzs,rfl⟩:=hx';obtain ⟨e1,_,_⟩:=(h.ev hl).lit? hl0;obtain ⟨e2,_,_⟩:=(h.ev hc).lit? hc0;have hzero:=kX0 he;obtain ⟨ie,de,ze,k1,k2,k3,rfl⟩:=zM0 he;obtain ⟨it,dt,zt,m1,m2,m3,rfl⟩:=zM0 ht;simp only at hzs hzero q3 q5 hk |-;have hut:P.underlying t=some (.slice e):=by cases dt<;>simp[tkOf] at hk;subst hk;exact m2
 have hz0:0 < ze.cells.toList.length:=by rw[hzero];exact q5
 have hcells:madeCells ze.cells (c0.toNat * ie.size)=((List.replicate l0.toNat ze.cells.toList).flatten++(List.replicate (c0.toNat - l0.toNat) ze.cells.toList).flatten).toArray:=by
  have hm:=qZ0 ze.cells.toList hz0 c0.toNat;rw[hzero,Array.toArray_toList] at hm;rw[<-List.flatten_append,List.replicate_append_replicate,show l0.toNat+(c0.toNat - l0.toNat)=c0.toNat by omega,<-hm]
 have hr:=run_make (P:=P) w t e ie ze hut k1 k3 kl kc l0 c0 q1 q2 q3 q4;rw[hcells] at hr;have hlen:∀x∈List.replicate l0.toNat zs,x.length=ie.size:=fun x hx=>by
  have:=List.eq_of_mem_replicate hx;subst this;rw[<-(kM0 (S:=S) (w:=w) hzs).length,hzero]
 have hfin:=jW0 (i:=i) (dst:=dst) (e:=e) (cap:=c0.toNat) (k:=ie.size) (els:=List.replicate l0.toNat zs) (rest:=(List.replicate (c0.toNat - l0.toNat) ze.cells.toList).flatten) h' (by simp) (h.fresh hi) hlen
  (JR0 (kM0 hzs) l0.toNat) (by rw[List.length_replicate];omega) (by
   have hsz:((List.replicate l0.toNat ze.cells.toList).flatten++(List.replicate (c0.toNat - l0.toNat) ze.cells.toList).flatten).length=c0.toNat * ie.size:=by
    have:=congrArg Array.size hcells;rw[size_madeCells] at this;simpa using this.symm
   rw[List.length_append] at hsz;omega)
 rw[List.length_replicate] at hfin;refine ⟨_,.slice (some ⟨w.heap.size,0,none⟩) l0.toNat c0.toNat,_,?_,.inl rfl,hfin⟩;simp only[execOp,e1,e2,Sem.run_bind,hr,Result.andThen]
 rfl
end
end Go.Av
