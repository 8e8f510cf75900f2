/- Part A4 of the proof: Avs, part 21: functions: how they are entered and left. / Avs, part 23: what a call takes along: shared, lent boxes that are handed over. / Avs, part 24: a function is called. / Avs, part 25: the rule for a call. / Avs, part 26: a regions operations, one behind the other. / Avs, part 27: functions are entered and left. / Avs, part 29: a state is let grow vague at the head of a loop. -/
import Derived.Test.YtjeejieaalnbeaaGreatA3
set_option linter.all false
/- Avs, part 21: functions: how they are entered and left. -/
namespace Go.Av
def Env.zero (S L:Nat->Prop) (bl:List Nat) (w:World):Env:=⟨S,L,bl,⟨#[],[]⟩,w,fun _ _=>none⟩
def ACl (P:Program) (f:FuncId) (args:List AV) (bx:List (Option (List A))) (R:AV->List (Option (List A))->Prop):Prop:=
 ∀(w:World) (vals:Array Value) (S L:Nat->Prop) (bl O1 O2:List Nat),
  RpS (Env.zero S L bl w) args vals.toList O1->RpB (Env.zero S L bl w) bx bl O2->(O1++O2).Nodup->(∀b,S b->L b)->(∀b,L b->b < w.heap.size/\b∉O1++O2)->
  Calls P f vals w fun e w'=>∃v,e=.returned v/\∃res bx' S' bl' o1 o2,R res bx'/\RepV (Env.zero S' S' bl' w') res v o1/\RpB (Env.zero S' S' bl' w') bx' bl' o2/\
   (o1++o2).Nodup/\(∀b,S' b->b < w'.heap.size/\b∉o1++o2)/\(∀b,S b->S' b)/\(∀b,S' b->S b\/b∈O1++O2\/w.heap.size<=b)/\Keeps (O1++O2) w w'/\
   (∀b∈o1++o2,b∈O1++O2\/w.heap.size<=b)/\bl <+: bl'
def A.leaves:A->Bool
 | .ro false _ | .rptr false _ | .sref .. | .eptr ..=>false
 | _=>true
def A.reset:A->A
 | .ow _ k els=>.ow (0,0) k els
 | c=>c
theorem RepA.reset {E:Env} {c:A} {u:Value} {own:List Nat} (h:RepA E c u own):RepA E c.reset u own:=by
 cases c<;>exact h
theorem RpA.reset {E:Env}:∀{cs:List A} {us:List Value} {own:List Nat},RpA E cs us own->RpA E (cs.map A.reset) us own
 | [],_,_,h=>h
 | c::cs,us,own,h=>by
  obtain ⟨u,us',o1,o2,h1,h2,h3,h4⟩:=h;exact ⟨u,us',o1,o2,h1,h2,h3.reset,RpA.reset h4⟩
def ptrOk (nb:Nat):A->Bool
 | .ptr b _=>decide (b < nb)
 | .fn _ caps=>caps.all fun c=>decide (c.1 < nb)
 | _=>true
def goes (nb:Nat) (c:A):Bool:=c.leaves && ptrOk nb c
theorem RepA.leave {S L:Nat->Prop} {bl:List Nat} {a:Act} {w:World} {ca:Root->Nat->Option A} {nb:Nat} {c:A} {u:Value} {own:List Nat} (hl:goes nb c=true) (h:RepA ⟨S,L,bl,a,w,ca⟩ c u own):RepA (Env.zero S S (bl.take nb) w) c.reset u own:=by
 simp only[goes,Bool.and_eq_true] at hl;obtain ⟨hl,hp⟩:=hl;cases c with
 | ro st els=>
  cases st with
  | true=>exact h
  | false=>simp[A.leaves] at hl
 | rptr st cells=>
  cases st with
  | true=>exact h
  | false=>simp[A.leaves] at hl
 | sref r c g lo len=>simp[A.leaves] at hl
 | eptr r c g i off=>simp[A.leaves] at hl
 | ptr b off=>
  obtain ⟨h0,blk,h2,rfl⟩:=h;simp only[ptrOk,decide_eq_true_eq] at hp;exact ⟨h0,blk,by simp only[Env.zero,List.getElem?_take,if_pos hp];exact h2,rfl⟩
 | fn f caps=>
  obtain ⟨h0,vs,h2,h3,h4⟩:=h;refine ⟨h0,vs,h2,h3,fun j b off hj=>?_⟩;obtain ⟨blk,k1,k2⟩:=h4 j b off hj;simp only[ptrOk,List.all_eq_true,decide_eq_true_eq] at hp;exact ⟨blk,by simp only[Env.zero,List.getElem?_take,if_pos (hp (b,off) (List.mem_of_getElem? hj))];exact k1,k2⟩
 | _=>exact h
theorem RpA.leave {S L:Nat->Prop} {bl:List Nat} {a:Act} {w:World} {ca:Root->Nat->Option A} {nb:Nat}:∀{cs:List A} {us:List Value} {own:List Nat},(∀c∈cs,goes nb c=true)->RpA ⟨S,L,bl,a,w,ca⟩ cs us own->RpA (Env.zero S S (bl.take nb) w) (cs.map A.reset) us own
 | [],_,_,_,h=>h
 | c::cs,us,own,hl,h=>by
  obtain ⟨u,us',o1,o2,h1,h2,h3,h4⟩:=h;exact ⟨u,us',o1,o2,h1,h2,h3.leave (hl c List.mem_cons_self),RpA.leave (fun x hx=>hl x (List.mem_cons_of_mem _ hx)) h4⟩
def leaveBox (nb:Nat) (o:Option (List A)):Option (List A):=match o with
 | some cs=>if cs.all (goes nb) then some (cs.map A.reset) else none
 | none=>none
theorem RpB.leave {S L:Nat->Prop} {bl:List Nat} {a:Act} {w:World} {ca:Root->Nat->Option A} {nb:Nat}:∀{bx:List (Option (List A))} {bs own:List Nat} (n:Nat),RpB ⟨S,L,bl,a,w,ca⟩ bx bs own->
  ∃own',RpB (Env.zero S S (bl.take nb) w) ((bx.take n).map (leaveBox nb)) (bs.take n) own'/\List.Sublist own' own
 | [],bs,own,n,h=>by obtain ⟨rfl,rfl⟩:=h;exact ⟨[],by simp[RpB],List.Sublist.refl _⟩
 | x::bx,bs,own,0,h=>⟨[],by simp[RpB],List.nil_sublist _⟩
 | x::bx,bs,own,n+1,h=>by
  obtain ⟨b,bs',o1,o2,rfl,rfl,h3,h4⟩:=h;obtain ⟨ow,k1,k2⟩:=RpB.leave (nb:=nb) n h4;have hdrop:leaveBox nb x=none->∃own',RpB (Env.zero S S (bl.take nb) w) (((x::bx).take (n+1)).map (leaveBox nb)) ((b::bs').take (n+1)) own'/\List.Sublist own' (o1++o2):=fun e=>by
   refine ⟨ow,⟨b,bs'.take n,[],ow,rfl,rfl,?_,k1⟩,k2.trans (List.sublist_append_right _ _)⟩;rw[e];rfl
  cases x with
  | none=>exact hdrop rfl
  | some cs=>
   by_cases hc:cs.all (goes nb)=true
   ·obtain ⟨o,arr,ty,m1,m2,m3⟩:=h3
    refine ⟨o1++ow,⟨b,bs'.take n,o1,ow,rfl,rfl,?_,k1⟩,List.Sublist.append (List.Sublist.refl _) k2⟩;simp only[leaveBox,if_pos hc];exact ⟨o,arr,ty,m1,m2,m3.leave (List.all_eq_true.1 hc)⟩
   ·exact hdrop (by simp only[leaveBox,if_neg hc])
def undefAV:AV:=⟨.tup [],[]⟩
def startSlots (args:List AV) (n:Nat):List AV:=args++List.replicate (n - args.length) undefAV
def startAS (args:List AV) (n:Nat) (bx:List (Option (List A))):AS:=⟨startSlots args n,bx,1⟩
theorem RpS.append {E:Env}:∀{a b:List AV} {us vs:List Value} {o p:List Nat},RpS E a us o->RpS E b vs p->RpS E (a++b) (us++vs) (o++p)
 | [],b,us,vs,o,p,h,h'=>by obtain ⟨rfl,rfl⟩:=h;exact h'
 | x::a,b,us,vs,o,p,h,h'=>by
  obtain ⟨u,us',o1,o2,rfl,rfl,h3,h4⟩:=h;exact ⟨u,us'++vs,o1,o2++p,rfl,by simp,h3,RpS.append h4 h'⟩
theorem RpS.undef {E:Env}:∀n,RpS E (List.replicate n undefAV) (List.replicate n Go.undef) []
 | 0=>⟨rfl,rfl⟩
 | n+1=>⟨Go.undef,List.replicate n Go.undef,[],[],rfl,rfl,⟨⟨#[],rfl,rfl,by simp⟩,rfl,rfl⟩,RpS.undef n⟩
def stampFree (cs:List A):Prop:=∀c∈cs,stampIn [] 1 c/\c.rstamp=none
def resShape (av:AV):Option (Bool×Nat×List A):=match av.sh with
 | .one=>some (false,av.cs.length,av.cs)
 | .agg=>some (true,av.cs.length,av.cs)
 | _=>none
def aResAt (P:Program) (σ:AS):ResultVar->Option AV
 | .tmp t=>σ.ev (.tmp t)
 | .cell t ty=>(σ.ev (.tmp t)).bind fun x=>match x with
  | ⟨.one,[c]⟩=>aLoad P σ ty c
  | _=>none
def aResOne (P:Program) (σ:AS) (r:ResultVar):Option (Bool×Nat×List A):=(aResAt P σ r).bind resShape
def aResMany (P:Program) (σ:AS):List ResultVar->Option (List (Bool×Nat)×List A)
 | []=>some ([],[])
 | r::rest=>(aResOne P σ r).bind fun r=>(aResMany P σ rest).map fun q=>((r.1,r.2.1)::q.1,r.2.2++q.2)
def aResAll (P:Program) (σ:AS) (rs:List ResultVar):Option AV:=match rs with
 | [r]=>(aResOne P σ r).map fun r=>⟨if r.1 then .agg else .one,r.2.2⟩
 | rs=>(aResMany P σ rs).map fun q=>⟨.tup q.1,q.2⟩
def mvAll (base:Nat) (r:Root) (_:Nat):Bool:=match r with | .slot _=>true | .box b=>decide (base<=b)
def resNb (base:Nat) (r:List A×AS):Nat:=if r.1.all (ptrOk base) && (r.2.boxes.take base).all (fun o=>match o with | none=>true | some cs=>cs.all (ptrOk base)) then base else r.2.boxes.length
def aRes (P:Program) (base:Nat) (rs:List ResultVar) (σ:AS):Option (AV×List (Option (List A))):=
 (aResAll P σ rs).bind fun av=>
  let r:=tkC (mvAll base) (σ.epoch,0) av.cs σ
  if r.1.all (goes (resNb base r)) && decide (base<=resNb base r) then some (⟨av.sh,r.1.map A.reset⟩,(r.2.boxes.take (resNb base r)).map (leaveBox (resNb base r))) else none
section
variable {P:Program} {C:Ctx} {X:List Nat} {σ:AS} {a:Act} {w:World} {S L:Nat->Prop} {bl O1 O2:List Nat}
theorem RepA.free {a':Act} {ca ca':Root->Nat->Option A} {c:A} {u:Value} {own:List Nat} (hl:c.rstamp=none) (h:RepA ⟨S,L,bl,a,w,ca⟩ c u own):RepA ⟨S,L,bl,a',w,ca'⟩ c u own:=by
 cases c with
 | sref r c g lo len=>simp[A.rstamp] at hl
 | eptr r c g i off=>simp[A.rstamp] at hl
 | _=>exact h
theorem RpA.free {a':Act} {ca ca':Root->Nat->Option A}:∀{cs:List A} {us:List Value} {own:List Nat},(∀c∈cs,c.rstamp=none)->RpA ⟨S,L,bl,a,w,ca⟩ cs us own->RpA ⟨S,L,bl,a',w,ca'⟩ cs us own
 | [],_,_,_,h=>h
 | c::cs,us,own,hl,h=>by
  obtain ⟨u,us',o1,o2,h1,h2,h3,h4⟩:=h;exact ⟨u,us',o1,o2,h1,h2,h3.free (hl c List.mem_cons_self),RpA.free (fun x hx=>hl x (List.mem_cons_of_mem _ hx)) h4⟩
theorem RpS.free {a':Act} {ca ca':Root->Nat->Option A}:∀{sl:List AV} {us:List Value} {own:List Nat},(∀av∈sl,∀c∈av.cs,c.rstamp=none)->RpS ⟨S,L,bl,a,w,ca⟩ sl us own->RpS ⟨S,L,bl,a',w,ca'⟩ sl us own
 | [],_,_,_,h=>h
 | av::sl,us,own,hl,h=>by
  obtain ⟨u,us',o1,o2,h1,h2,h3,h4⟩:=h;refine ⟨u,us',o1,o2,h1,h2,?_,RpS.free (fun x hx=>hl x (List.mem_cons_of_mem _ hx)) h4⟩;have hl0:=hl av List.mem_cons_self;obtain ⟨sh,cs⟩:=av;cases sh with
  | any=>exact h3
  | one=>exact ⟨h3.1,h3.2.free hl0⟩
  | agg=>exact ⟨h3.1,h3.2.free hl0⟩
  | tup ns=>exact ⟨h3.1,h3.2.free hl0⟩
theorem RpB.free {a':Act} {ca ca':Root->Nat->Option A}:∀{bx:List (Option (List A))} {bs own:List Nat},(∀cs,some cs∈bx->∀c∈cs,c.rstamp=none)->RpB ⟨S,L,bl,a,w,ca⟩ bx bs own->RpB ⟨S,L,bl,a',w,ca'⟩ bx bs own
 | [],_,_,_,h=>h
 | x::bx,bs,own,hl,h=>by
  obtain ⟨b,bs',o1,o2,h1,h2,h3,h4⟩:=h;refine ⟨b,bs',o1,o2,h1,h2,?_,RpB.free (fun cs hcs=>hl cs (List.mem_cons_of_mem _ hcs)) h4⟩;cases x with
  | none=>exact h3
  | some cs=>
   obtain ⟨o,arr,ty,k1,k2,k3⟩:=h3;exact ⟨o,arr,ty,k1,k2,k3.free (hl cs List.mem_cons_self)⟩
def resSem (tmps:Array Value):ResultVar->Sem Value
 | .tmp t=>pure (tmps.getD t undef)
 | .cell a t=>do loadVar t (<-asAddr (tmps.getD a undef))
theorem aResAt_ok (h:InvAt C X σ a w S L bl O1 O2) {r:ResultVar} {av:AV} (hx:aResAt P σ r=some av):∃v,(resSem a.tmps r).run P w=.ok v w/\EvOk C X σ ⟨S,L,bl,a,w,σ.cell⟩ av v:=by
 cases r with
 | tmp t=>exact ⟨a.eval (.tmp t),rfl,h.ev hx⟩
 | cell t ty=>
  simp only[aResAt,Option.bind_eq_some_iff] at hx;obtain ⟨x',h1,hx⟩:=hx
  split at hx<;>try (simp at hx;done)
  rename_i c;unfold aLoad at hx;obtain ⟨ti,cs,h2,h3,hx⟩:=opt2_some hx;have he:=h.ev h1;obtain ⟨r1,r2,r3,r4,r5⟩:=he.cell;obtain ⟨b,o,hv,hrow,hst,hno⟩:=row_at h r1 r4 h3;obtain ⟨v,h4,h5,h6⟩:=run_loadVar (P:=P) h2 (hrow.take ti.size) hx;refine ⟨v,?_,h5,fun x hx=>hst x (List.mem_of_mem_take (h6 ▸ hx)),fun g k els hx=>hno g k els (List.mem_of_mem_take (h6 ▸ hx))⟩;have hv':a.tmps.getD t undef=.pointer (some ⟨b,o,none⟩):=hv
  simp only[resSem,hv',asAddr,pure_bind];exact h4
theorem aResOne_ok (h:InvAt C X σ a w S L bl O1 O2) {rv:ResultVar} {r:Bool×Nat×List A} (hx:aResOne P σ rv=some r):∃v,(resSem a.tmps rv).run P w=.ok v w/\
  isTuple v=false/\shapeOf v=(r.1,r.2.1)/\isAggV v=r.1/\RpA ⟨S,L,bl,a,w,σ.cell⟩ r.2.2 v.cells.toList []/\
   (∀c∈r.2.2,stampIn X σ.epoch c)/\∀g k els,A.ow g k els∉r.2.2:=by
 simp only[aResOne,Option.bind_eq_some_iff] at hx;obtain ⟨av,hev,hx⟩:=hx;obtain ⟨v,hrun,he⟩:=aResAt_ok h hev;refine ⟨v,hrun,?_⟩;unfold resShape at hx;cases hs:av.sh<;>simp only[hs,reduceCtorEq,Option.some.injEq] at hx
 ·subst hx
  obtain ⟨r1,r2,r3⟩:=stored_cells he (.inl hs);have hr:=he.rep;obtain ⟨sh,cs⟩:=av;simp only at hs;subst hs;refine ⟨hr.1.1,?_,hr.1.2,r1,he.st,he.noOw⟩;have h1:=hr.1;simp only[shOk] at h1;have hfl:=RpA.length hr.2;rw[flat_one h1] at hfl;simp only[List.length_singleton] at hfl;simp only[<-hfl];cases hv:v<;>first | rfl|(rw[hv] at h1;simp[isAggV] at h1)
 ·subst hx
  obtain ⟨r1,r2,r3⟩:=stored_cells he (.inr hs);have hr:=he.rep;obtain ⟨sh,cs⟩:=av;simp only at hs;subst hs;have h1:=hr.1;simp only[shOk] at h1;cases hv:v<;>first|(rw[hv] at h1;simp[isAggV] at h1;done) | skip
  rw[hv] at r1 r3;refine ⟨rfl,?_,rfl,r1,he.st,he.noOw⟩;simp only[shapeOf,Prod.mk.injEq,true_and];simpa [Value.cells] using r3
theorem aResMany_ok (h:InvAt C X σ a w S L bl O1 O2):∀{rs:List ResultVar} {q:List (Bool×Nat)×List A},aResMany P σ rs=some q->
  ∃vs:List Value,(rs.mapM (resSem a.tmps)).run P w=.ok vs w/\vs.length=rs.length/\vs.map shapeOf=q.1/\(∀v∈vs,isTuple v=false)/\RpA ⟨S,L,bl,a,w,σ.cell⟩ q.2 (vs.flatMap (·.cells.toList)) []/\
   (∀c∈q.2,stampIn X σ.epoch c)/\∀g k els,A.ow g k els∉q.2
 | [],q,hx=>by simp[aResMany] at hx;subst hx;exact ⟨[],rfl,rfl,rfl,by simp,⟨rfl,rfl⟩,by simp,by simp⟩
 | rv::rest,q,hx=>by
  simp only[aResMany,Option.bind_eq_some_iff,Option.map_eq_some_iff] at hx;obtain ⟨r,hr,q',hq,rfl⟩:=hx;obtain ⟨vs,g0,g1,g2,g3,g4,g5,g6⟩:=aResMany_ok h hq;obtain ⟨v,k0,k1,k2,k3,k4,k5,k6⟩:=aResOne_ok h hr;refine ⟨v::vs,?_,by simp[g1],?_,fun x hx=>?_,?_,fun c hc=>?_,fun g k els hm=>?_⟩
  ·simp only[List.mapM_cons,Sem.run_bind,k0,Result.andThen,g0]
   rfl
  ·simp only[List.map_cons,k2]
   rw[<-g2]
  ·rcases List.mem_cons.1 hx with rfl | hx
   ·exact k1
   ·exact g3 x hx
  ·simp only[List.flatMap_cons]
   exact RpA.append_iff.2 ⟨_,_,[],[],rfl,rfl,k4,g4⟩
  ·rcases List.mem_append.1 hc with hc | hc
   ·exact k5 c hc
   ·exact g5 c hc
  ·rcases List.mem_append.1 hm with hm | hm
   ·exact k6 g k els hm
   ·exact g6 g k els hm
theorem run_results (fn:Func) (a:Act) (w:World) {vs:List Value} (hall:(fn.results.toList.mapM (resSem a.tmps)).run P w=.ok vs w) :
  (results fn a.tmps).run P w=.ok (if h:vs.length=1 then vs[0] else .tuple vs.toArray) w:=by
 unfold results;rw[Array.mapM_eq_mapM_toList];simp only[map_eq_pure_bind,bind_assoc,pure_bind,Sem.run_bind];have e:∀f:ResultVar->Sem Value,(∀x,f x=resSem a.tmps x)->List.mapM f fn.results.toList=fn.results.toList.mapM (resSem a.tmps):=fun f hf=>by rw[funext hf]
 rw[e _ (fun x=>by cases x<;>rfl),hall]
 simp only[Result.andThen]
 rfl
theorem aResAll_ok (h:InvAt C X σ a w S L bl O1 O2) {fn:Func} {av:AV} (hx:aResAll P σ fn.results.toList=some av) :
  ∃v,(results fn a.tmps).run P w=.ok v w/\RepV ⟨S,L,bl,a,w,σ.cell⟩ av v []/\(∀c∈av.cs,stampIn X σ.epoch c)/\(∀g k els,A.ow g k els∉av.cs)/\av.sh≠.any:=by
 unfold aResAll at hx
 split at hx
 ·rename_i rv ht
  simp only[Option.map_eq_some_iff] at hx;obtain ⟨r,hr,rfl⟩:=hx;obtain ⟨v,k0,k1,k2,k3,k4,k5,k6⟩:=aResOne_ok h hr;refine ⟨v,?_,?_,k5,k6,by cases r.1<;>simp⟩
  ·rw[run_results fn a w (vs:=[v]) (by rw[ht];simp only[List.mapM_cons,List.mapM_nil,Sem.run_bind,k0,Result.andThen];rfl)]
   rfl
  ·cases hb:r.1 with
   | false=>
    rw[hb] at k3;exact ⟨⟨k1,k3⟩,by rw[flat_cells k1];exact k4⟩
   | true=>
    rw[hb] at k3;exact ⟨k3,by rw[flat_cells k1];exact k4⟩
 ·rename_i hne
  simp only[Option.map_eq_some_iff] at hx;obtain ⟨q,hq,rfl⟩:=hx;obtain ⟨vs,g0,g1,g2,g3,g4,g5,g6⟩:=aResMany_ok h hq;have hl:¬vs.length=1:=by
   intro hl;rw[g1] at hl;obtain ⟨r,hr⟩:=List.length_eq_one_iff.1 hl;exact hne r hr
  refine ⟨.tuple vs.toArray,?_,⟨⟨_,rfl,by simpa using g2,by simpa using g3⟩,?_⟩,g5,g6,by simp⟩
  ·rw[run_results fn a w g0,dif_neg hl]
  ·simpa [flat] using g4
end
end Go.Av
/- Avs, part 23: what a call takes along: shared, lent; boxes that are handed over. -/
namespace Go.Av
def shC (sh:Root->Nat->Bool):List A->AS->List A×AS
 | [],σ=>([],σ)
 | c::cs,σ=>
  match c with
  | .sref r x g lo len=>
   if sh r x then
    match σ.at? r x g with
    | some (_,els)=>(.ro true ((els.drop lo).take len)::(shC sh cs (σ.setCell r x (.ro true els))).1,(shC sh cs (σ.setCell r x (.ro true els))).2)
    | none=>(.dead::(shC sh cs σ).1,(shC sh cs σ).2)
   else (c::(shC sh cs σ).1,(shC sh cs σ).2)
  | _=>(c::(shC sh cs σ).1,(shC sh cs σ).2)
section
variable {P:Program} {C:Ctx} {X:List Nat} {σ:AS} {a:Act} {w:World} {S L:Nat->Prop} {bl O1 O2:List Nat}
def Shared (C:Ctx) (X:List Nat) (a:Act) (w:World) (S L:Nat->Prop) (bl O1 O2:List Nat) (i:Nat) (us:List Value) (oa:List Nat) (σ:AS) (cs':List A) (σ':AS):Prop:=
 ∃S' L' O1' O2',InvAt C X σ' a w S' L' bl O1' O2'/\RpA ⟨S',L',bl,a,w,σ'.cell⟩ cs' us oa/\(∀b,S b->S' b)/\(∀b,L b->L' b)/\(∀b,L' b->L b\/b∈O1++O2)/\
  (∀b,b∈O1'++O2'->b∈O1++O2)/\Fresh σ' (σ.epoch,i)/\σ'.epoch=σ.epoch/\
  Env.Le none ⟨S,L,bl,a,w,σ.cell⟩ ⟨S',L',bl,a,w,σ'.cell⟩/\σ'.boxes.length=σ.boxes.length/\σ'.slots.length=σ.slots.length
theorem rstamp_none_or {c:A}:c.rstamp=none\/c.rstamp≠none:=by cases c.rstamp<;>simp
theorem shareCells_ok (sh:Root->Nat->Bool) {i:Nat}:∀{cs:List A} {us:List Value} {S L:Nat->Prop} {σ:AS} {O1 O2 oa:List Nat},InvAt C X σ a w S L bl O1 O2->Fresh σ (σ.epoch,i)->
  RpA ⟨S,L,bl,a,w,σ.cell⟩ cs us oa->Shared C X a w S L bl O1 O2 i us oa σ (shC sh cs σ).1 (shC sh cs σ).2
 | [],us,S,L,σ,O1,O2,oa,h,hf,hr=>⟨S,L,O1,O2,h,hr,fun _ h=>h,fun _ h=>h,fun _ h=>.inl h,fun _ h=>h,hf,rfl,.rfl',rfl,rfl⟩
 | c::cs,us,S,L,σ,O1,O2,oa,h,hf,hr=>by
  obtain ⟨u,us',o1,o2,rfl,rfl,h3,h4⟩:=hr;have plain:∀d,(d=c\/d=.dead/\o1=[])->Shared C X a w S L bl O1 O2 i (u::us') (o1++o2) σ (d::(shC sh cs σ).1) (shC sh cs σ).2:=by
   intro d hd;obtain ⟨S',L',O1',O2',g1,g2,g3,g4,g5,g6,g7,g8,g9,g10,g11⟩:=shareCells_ok sh (i:=i) h hf h4;refine ⟨S',L',O1',O2',g1,⟨u,us',o1,o2,rfl,rfl,?_,g2⟩,g3,g4,g5,g6,g7,g8,g9,g10,g11⟩;rcases hd with rfl | ⟨rfl,rfl⟩
   ·exact RepA.go g9 (fun _ _=>rfl) rstamp_none_or h3
   ·exact ⟨rfl,RepA.oneC h3⟩
  cases c with
  | sref r x g lo len=>
   have ho1:o1=[]:=h3.1;simp only[shC]
   split
   ·cases hat:σ.at? r x g with
    | none=>exact plain .dead (.inr ⟨rfl,ho1⟩)
    | some p=>
     obtain ⟨k,els⟩:=p;simp only;have hcell:=AS.at?_some hat;obtain ⟨hlo,ad,cap,xx,e1,e2,e3⟩:=h3.2.2 k els hcell;obtain ⟨u0,o,k1,k2,k3,k4,k5⟩:=h.recell hcell hf;rw[e1] at k1;simp at k1;subst k1;have hS1:∀b,S b->(fun b=>S b\/b∈o) b:=fun b hb=>.inl hb;have hL1:∀b,L b->(fun b=>L b\/b∈o) b:=fun b hb=>.inl hb;obtain ⟨O1a,O2a,ha,hmem⟩:=k5 (fun b=>S b\/b∈o) (fun b=>L b\/b∈o) w (.ro true els) [] hS1 hL1 (fun b hb=>hb.imp (h.sl b) id) (fun b hb=>hb) (fun b hb=>hb) (by simp) (.inr rfl) (fun _ _ _=>rfl) h.keeps (Nat.le_refl _)
      ⟨RepO.toS hS1 (fun b hb=>.inr hb) k2,rfl⟩ (fun g hg=>by simp[A.stamp] at hg) (fun g k els' he=>by simp at he)
     have hle:=le_setRo (S:=S) (bl:=bl) (a:=a) (w:=w) (els:=els) hS1 hL1 hcell;have hep:(σ.setCell r x (.ro true els)).epoch=σ.epoch:=epoch_setCell;have ih:=shareCells_ok sh (i:=i) (cs:=cs) (us:=us') ha (by rw[hep];exact hf.setDead rfl) (RpA.go hle (fun _ _=>rfl) (fun y _=>rstamp_none_or) h4)
     unfold Shared at ih;rw[hep] at ih;obtain ⟨S',L',O1',O2',g1,g2,g3,g4,g5,g6,g7,g8,g9,g10,g11⟩:=ih;obtain ⟨own',s1,s2⟩:=RepO.sub k2 hlo e3;have hSS:∀b,S b->S' b:=fun b hb=>g3 b (.inl hb);have hu:RepS S' w (.sl ((els.drop lo).take len)) u:=by
      rw[e2];refine RepO.toS hSS (fun b hb=>g3 b (.inr ?_)) s1;rcases s2 with rfl | rfl
      ·exact hb
      ·simp at hb
     have hsub:∀b,b∈O1a++O2a->b∈O1++O2:=fun b hb=>by
      have:=(hmem b).1 hb;simp only[List.not_mem_nil,or_false] at this;exact this.1
     subst ho1;exact ⟨S',L',O1',O2',g1,⟨u,us',[],o2,rfl,rfl,⟨hu,rfl⟩,g2⟩,hSS,fun b hb=>g4 b (.inl hb),fun b hb=>(g5 b hb).elim (fun h=>h.imp id (k4 b)) (fun h=>.inr (hsub b h)),fun b hb=>hsub b (g6 b hb),g7,g8,hle.trans g9,g10.trans boxes_setCell.1,g11.trans boxes_setCell.2⟩
   ·exact plain _ (.inl rfl)
  | _=>exact plain _ (.inl rfl)
def AS.hide (σ:AS) (b:Nat):AS:={ σ with boxes:=σ.boxes.set b none }
def maskBoxes:List Nat->AS->Option (List (List A)×AS)
 | [],σ=>some ([],σ)
 | b::ids,σ=>match σ.boxes[b]? with
  | some (some cs)=>(maskBoxes ids (σ.hide b)).map fun q=>(cs::q.1,q.2)
  | _=>none
theorem le_hide {b:Nat}:Env.Le none ⟨S,L,bl,a,w,σ.cell⟩ ⟨S,L,bl,a,w,(σ.hide b).cell⟩:=by
 refine ⟨fun _ h=>h,fun _ h=>h,fun _ _=>rfl,fun _ _ h=>h,fun r c g k els' _ he=>⟨els',?_,rfl,fun x hx=>by cases r<;>exact hx⟩⟩
 cases r with
 | slot t=>exact he
 | box b'=>
  simp only[AS.cell,AS.hide] at he |-
  by_cases hb:b=b'
  ·subst hb
   by_cases hlt:b < σ.boxes.length
   ·simp[List.getElem?_set_self hlt] at he
   ·rw[List.getElem?_eq_none (by simp;omega)] at he
    simp at he
  ·rw[List.getElem?_set_ne hb] at he
   exact he
theorem hide_ok (h:InvAt C X σ a w S L bl O1 O2) {b:Nat} {cs:List A} (hb:σ.boxes[b]?=some (some cs)) :
  ∃blk p o q,bl[b]?=some blk/\O2=p++o++q/\RepBox ⟨S,L,bl,a,w,σ.cell⟩ (some cs) blk o/\InvAt C X (σ.hide b) a w S L bl O1 (p++q):=by
 obtain ⟨blk,p,o,q,g1,g2,g3,g4⟩:=RpB.split b _ h.boxes hb;refine ⟨blk,p,o,q,g1,g2,g3,?_⟩;have hle:=le_hide (S:=S) (L:=L) (bl:=bl) (a:=a) (w:=w) (σ:=σ) (b:=b);have hsub:∀x,x∈O1++(p++q)->x∈O1++O2:=fun x hx=>by
  subst g2;simp only[List.mem_append] at hx |-;rcases hx with hx | hx | hx<;>simp[hx]
 refine ⟨h.defers,RpS.go hle (fun _ _=>rfl) (fun _ _ _ _=>rstamp_none_or) h.slots,?_,?_,h.sl,fun x hx=>⟨(h.stable x hx).1,fun hm=>(h.stable x hx).2 (hsub x hm)⟩,h.s0,h.keeps,fun x hx=>h.own x (hsub x hx),h.pre,h.stS,fun cs' hcs c hc=>?_⟩
 ·have:=g4 none [] rfl
  simp only[List.append_nil] at this;exact RpB.go hle (fun _ _=>rfl) (fun _ _ _ _ _ _=>rstamp_none_or) this
 ·have hnd:=h.nodup
  subst g2;have hs:List.Sublist (O1++(p++q)) (O1++(p++o++q)):=
   List.Sublist.append (List.Sublist.refl _) (List.Sublist.append (List.sublist_append_left _ _) (List.Sublist.refl _))
  exact hnd.sublist hs
 ·rcases List.mem_or_eq_of_mem_set hcs with hcs | hcs
  ·exact h.stB cs' hcs c hc
  ·simp at hcs
theorem mask_ok:∀{ids:List Nat} {σ σ':AS} {O2:List Nat} {pcs:List (List A)},InvAt C X σ a w S L bl O1 O2->maskBoxes ids σ=some (pcs,σ')->
  ∃Or op blks,InvAt C X σ' a w S L bl O1 Or/\RpB ⟨S,L,bl,a,w,σ'.cell⟩ (pcs.map some) blks op/\(∀(j b:Nat),ids[j]?=some b->∃blk,blks[j]?=some blk/\bl[b]?=some blk)/\blks.length=ids.length/\
   (∀b∈op,b∈O2)/\(∀b∈Or,b∈O2)/\(Or++op).Nodup/\Env.Le none ⟨S,L,bl,a,w,σ.cell⟩ ⟨S,L,bl,a,w,σ'.cell⟩/\σ'.epoch=σ.epoch/\σ'.boxes.length=σ.boxes.length/\σ'.slots=σ.slots
 | [],σ,σ',O2,pcs,h,hx=>by
  simp[maskBoxes] at hx;obtain ⟨rfl,rfl⟩:=hx;exact ⟨O2,[],[],h,⟨rfl,rfl⟩,by simp,rfl,by simp,fun _ h=>h,by simpa using (List.nodup_append.1 h.nodup).2.1,.rfl',rfl,rfl,rfl⟩
 | b::ids,σ,σ',O2,pcs,h,hx=>by
  simp only[maskBoxes] at hx
  split at hx<;>try (simp at hx;done)
  rename_i cs hb;simp only[Option.map_eq_some_iff,Prod.mk.injEq] at hx;obtain ⟨⟨pcs',σ2⟩,hx,rfl,rfl⟩:=hx;obtain ⟨blk,p,o,q,g1,rfl,g3,g4⟩:=hide_ok h hb;obtain ⟨Or,op,blks,k1,k2,k3,k4,k5,k6,k7,k8,k9,k10,k11⟩:=mask_ok g4 hx;have hle:=le_hide (S:=S) (L:=L) (bl:=bl) (a:=a) (w:=w) (σ:=σ) (b:=b);have hnd:=(List.nodup_append.1 h.nodup).2.1;have hdis:∀x,x∈o->x∉p++q:=fun x hx hm=>by
   simp only[List.append_assoc,List.nodup_append,List.mem_append] at hnd hm;rcases hm with hm | hm
   ·exact hnd.2.2 x hm x (.inl hx) rfl
   ·exact hnd.2.1.2.2 x hx x hm rfl
  have hon:o.Nodup:=by
   simp only[List.append_assoc,List.nodup_append] at hnd;exact hnd.2.1.1
  refine ⟨Or,o++op,blk::blks,k1,⟨blk,blks,o,op,rfl,rfl,RepBox.go (hle.trans k8) (fun _ _=>rfl) (fun _ _ _ _=>rstamp_none_or) g3,k2⟩,fun j b' hj=>?_,by simp[k4],fun x hx=>?_,fun x hx=>?_,?_,hle.trans k8,k9,by rw[k10];simp[AS.hide],k11⟩
  ·cases j with
   | zero=>simp at hj;subst hj;exact ⟨blk,rfl,g1⟩
   | succ j=>simp at hj;simpa using k3 j b' hj
  ·rcases List.mem_append.1 hx with hx | hx
   ·simp[hx]
   ·have:=k5 x hx;simp only[List.mem_append] at this |-;rcases this with h | h<;>simp[h]
  ·have:=k6 x hx;simp only[List.mem_append] at this |-;rcases this with h | h<;>simp[h]
  ·rw[List.nodup_append] at k7 |-
   refine ⟨k7.1,List.nodup_append.2 ⟨hon,k7.2.1,fun x hx y hy he=>hdis x hx (he ▸ k5 y hy)⟩,fun x hx y hy he=>?_⟩;rcases List.mem_append.1 hy with hy | hy
   ·exact hdis y hy (he ▸ k6 x hx)
   ·exact k7.2.2 x hx y hy he
def lendCells (σ:AS):List A->Option (List A)
 | []=>some []
 | .sref r x g lo len::cs=>match σ.at? r x g with
  | some (_,els)=>(lendCells σ cs).map fun q=>.ro false ((els.drop lo).take len)::q
  | none=>none
 | .eptr ..::_=>none
 | c::cs=>(lendCells σ cs).map fun q=>c::q
theorem RepO.toL {S L:Nat->Prop} {w:World} {k:Nat} {els:List (List T)} {u:Value} {own:List Nat} (hS:∀b,S b->L b) (ho:∀b∈own,L b) (h:RepO S w k els u own):RepS L w (.sl els) u:=RepO.toS hS ho h
theorem lend_ok (h:InvAt C X σ a w S L bl O1 O2):∀{cs cs':List A} {us:List Value} {oa:List Nat},RpA ⟨S,L,bl,a,w,σ.cell⟩ cs us oa->lendCells σ cs=some cs'->
  RpA (Env.zero S (fun b=>L b\/b∈O1++O2) bl w) cs' us oa
 | [],cs',us,oa,hr,hx=>by simp[lendCells] at hx;subst hx;exact hr
 | c::cs,cs',us,oa,hr,hx=>by
  obtain ⟨u,us',o1,o2,rfl,rfl,h3,h4⟩:=hr;have ih:=fun q (hq:lendCells σ cs=some q)=>lend_ok h h4 hq;have hLE:∀b,L b->(fun b=>L b\/b∈O1++O2) b:=fun b hb=>.inl hb;have up:∀c:A,c.rstamp=none->RepA ⟨S,L,bl,a,w,σ.cell⟩ c u o1->RepA (Env.zero S (fun b=>L b\/b∈O1++O2) bl w) c u o1:=by
   intro c hc hr;refine RepA.free (a:=a) (ca:=σ.cell) hc ?_;refine RepA.go (gn:=none) (E:=⟨S,L,bl,a,w,σ.cell⟩) (E':=⟨S,fun b=>L b\/b∈O1++O2,bl,a,w,σ.cell⟩) ⟨fun _ h=>h,hLE,fun _ _=>rfl,fun _ _ h=>h,fun r c g k els' _ he=>⟨els',he,rfl,fun x hx=>?_⟩⟩ (fun _ _=>rfl) rstamp_none_or hr;cases r<;>exact hx
  cases c with
  | sref r x g lo len=>
   simp only[lendCells] at hx
   split at hx<;>try (simp at hx;done)
   rename_i k els hat;simp only[Option.map_eq_some_iff] at hx;obtain ⟨q,hq,rfl⟩:=hx;have hcell:=AS.at?_some hat;obtain ⟨ho1,_,h3⟩:=h3;obtain ⟨hlo,ad,cap,xx,e1,e2,e3⟩:=h3 k els hcell;obtain ⟨u0,o,k1,k2,k3⟩:=h.peek hcell;rw[e1] at k1;simp at k1;subst k1;obtain ⟨own',s1,s2⟩:=RepO.sub k2 hlo e3;subst ho1;refine ⟨u,us',[],o2,rfl,rfl,⟨?_,rfl⟩,ih q hq⟩;rw[e2];refine RepO.toL (fun b hb=>.inl (h.sl b hb)) (fun b hb=>.inr ?_) s1
   rcases s2 with rfl | rfl
   ·exact k3 b hb
   ·simp at hb
  | eptr r x g i off=>simp[lendCells] at hx
  | _=>
   simp only[lendCells,Option.map_eq_some_iff] at hx;obtain ⟨q,hq,rfl⟩:=hx;exact ⟨u,us',o1,o2,rfl,rfl,up _ rfl h3,ih q hq⟩
end
end Go.Av
/- Avs, part 24: a function is called. -/
namespace Go.Av
def renCaps (ids:List Nat):List (Nat×Nat)->Option (List (Nat×Nat))
 | []=>some []
 | c::cs=>(ids.idxOf? c.1).bind fun j=>(renCaps ids cs).map fun q=>(j,c.2)::q
def renP (ids:List Nat):A->Option A
 | .ptr b off=>(ids.idxOf? b).map fun j=>.ptr j off
 | .fn f caps=>(renCaps ids caps).map fun q=>.fn f q
 | c=>some c
def renAll (ids:List Nat):List A->Option (List A)
 | []=>some []
 | c::cs=>(renP ids c).bind fun d=>(renAll ids cs).map fun q=>d::q
def renAlls (ids:List Nat):List (List A)->Option (List (List A))
 | []=>some []
 | c::cs=>(renAll ids c).bind fun d=>(renAlls ids cs).map fun q=>d::q
def unNat (ids:List Nat) (nb j:Nat):Nat:=if j < ids.length then ids.getD j 0 else nb+(j - ids.length)
def unP (ids:List Nat) (nb:Nat) (g:Stamp):A->A
 | .ptr j off=>.ptr (unNat ids nb j) off
 | .fn f caps=>.fn f (caps.map fun c=>(unNat ids nb c.1,c.2))
 | .ow _ k els=>.ow g k els
 | .sref .. | .eptr ..=>.dead
 | c=>c
def evAll (σ:AS):List Operand->Option (List AV)
 | []=>some []
 | x::xs=>(σ.ev x).bind fun av=>match av.sh with
  | .any=>none
  | _=>(evAll σ xs).map fun q=>av::q
def splitAV:List AV->List A->List AV
 | [],_=>[]
 | av::avs,cs=>⟨av.sh,cs.take av.cs.length⟩::splitAV avs (cs.drop av.cs.length)
def putBoxes:List Nat->List (Option (List A))->List (Option (List A))->List (Option (List A))
 | b::ids,x::xs,bs=>putBoxes ids xs (bs.set b x)
 | _,_,bs=>bs
structure Hint where
 mv:Root->Nat->Bool
 sh:Root->Nat->Bool
 ids:List Nat
def capAVs (caps:List (Nat×Nat)):List AV:=caps.map fun c=>one (.ptr c.1 c.2)
def aCallPre (h:Hint) (i:Nat) (σ:AS) (fop:Operand) (args:List Operand):Option (FuncId×List AV×List (Option (List A))×AS):=
 (σ.ev fop).bind fun fv=>match fv with
 | ⟨.one,[.fn f caps]⟩=>(evAll σ args).bind fun avs=>
   let all:=avs++capAVs caps
   let q1:=tkC h.mv (σ.epoch,i) (all.flatMap (·.cs)) σ
   let q2:=shC h.sh q1.1 q1.2
   (maskBoxes h.ids q2.2).bind fun q3=>
    if q3.1.all (·.all fun c=>c.rstamp.isNone) then
     (lendCells q3.2 q2.1).bind fun cs=>(renAll h.ids cs).bind fun cs=>(renAlls h.ids q3.1).map fun pcs=>
      (f,splitAV all (cs.map A.reset),pcs.map (fun c=>some (c.map A.reset)),q3.2)
    else none
 | _=>none
def unBox (ids:List Nat) (nb:Nat) (g:Stamp) (o:Option (List A)):Option (List A):=o.map (·.map (unP ids nb g))
def aCallPost (ids:List Nat) (i:Nat) (σ:AS) (res:AV) (bx:List (Option (List A))):AV×AS:=
 (⟨res.sh,res.cs.map (unP ids σ.boxes.length (σ.epoch,i))⟩,
  { σ with boxes:=putBoxes ids ((bx.take ids.length).map (unBox ids σ.boxes.length (σ.epoch,i))) σ.boxes++(bx.drop ids.length).map (unBox ids σ.boxes.length (σ.epoch,i)) })
section
variable {P:Program} {C:Ctx} {X:List Nat} {σ:AS} {a:Act} {w:World} {S L:Nat->Prop} {bl O1 O2:List Nat}
theorem idxOf?_get {ids:List Nat} {b j:Nat} (h:ids.idxOf? b=some j):ids[j]?=some b:=by
 induction ids generalizing j with
 | nil=>simp at h
 | cons x ids ih=>
  rw[List.idxOf?_cons] at h
  split at h
  ·rename_i hx
   simp at h;subst h;simpa using hx
  ·simp only[Option.map_eq_some_iff] at h
   obtain ⟨j',h1,rfl⟩:=h;simpa using ih h1
def Lies (ids blks bl:List Nat):Prop:=∀(j b:Nat),ids[j]?=some b->∃blk,blks[j]?=some blk/\bl[b]?=some blk
theorem renCaps_ok {ids:List Nat}:∀{caps caps':List (Nat×Nat)},renCaps ids caps=some caps'->caps'.length=caps.length/\∀(j b' off:Nat),caps'[j]?=some (b',off)->∃b,caps[j]?=some (b,off)/\ids[b']?=some b
 | [],caps',h=>by simp[renCaps] at h;subst h;simp
 | c::cs,caps',h=>by
  simp only[renCaps,Option.bind_eq_some_iff,Option.map_eq_some_iff] at h;obtain ⟨j0,hj,q,hq,rfl⟩:=h;obtain ⟨h1,h2⟩:=renCaps_ok hq;refine ⟨by simp[h1],fun j b' off hj'=>?_⟩
  cases j with
  | zero=>simp at hj';obtain ⟨rfl,rfl⟩:=hj';exact ⟨c.1,rfl,idxOf?_get hj⟩
  | succ j=>simp at hj';simpa using h2 j b' off hj'
theorem RepA.ren {E:Env} {ids blks:List Nat} (hl:Lies ids blks E.bl) {c c':A} {u:Value} {own:List Nat} (hc:c.rstamp=none) (hx:renP ids c=some c') (h:RepA E c u own):RepA (Env.zero E.S E.L blks E.w) c' u own:=by
 cases c with
 | ptr b off=>
  simp only[renP,Option.map_eq_some_iff] at hx;obtain ⟨j,hj,rfl⟩:=hx;obtain ⟨h0,blk,h1,rfl⟩:=h;obtain ⟨blk',k1,k2⟩:=hl j b (idxOf?_get hj);rw[h1] at k2;simp at k2;subst k2;exact ⟨h0,blk,k1,rfl⟩
 | fn f caps=>
  simp only[renP,Option.map_eq_some_iff] at hx;obtain ⟨q,hq,rfl⟩:=hx;obtain ⟨q1,q2⟩:=renCaps_ok hq;obtain ⟨h0,vs,h1,h2,h3⟩:=h;refine ⟨h0,vs,h1,by rw[h2,q1],fun j b' off hj=>?_⟩
  obtain ⟨b,k1,k2⟩:=q2 j b' off hj;obtain ⟨blk,m1,m2⟩:=h3 j b off k1;obtain ⟨blk',n1,n2⟩:=hl b' b k2;rw[m1] at n2;simp at n2;subst n2;exact ⟨blk,n1,m2⟩
 | sref r c g lo len=>simp[A.rstamp] at hc
 | eptr r c g i off=>simp[A.rstamp] at hc
 | lit v=>simp only[renP,Option.some.injEq] at hx;subst hx;exact h
 | nil=>simp only[renP,Option.some.injEq] at hx;subst hx;exact h
 | ro st els=>simp only[renP,Option.some.injEq] at hx;subst hx;cases st<;>exact h
 | ow g k els=>simp only[renP,Option.some.injEq] at hx;subst hx;exact h
 | rptr st cells=>simp only[renP,Option.some.injEq] at hx;subst hx;cases st<;>exact h
 | dead=>simp only[renP,Option.some.injEq] at hx;subst hx;exact h
theorem RpA.ren {E:Env} {ids blks:List Nat} (hl:Lies ids blks E.bl):∀{cs cs':List A} {us:List Value} {own:List Nat},(∀c∈cs,c.rstamp=none)->renAll ids cs=some cs'->RpA E cs us own->RpA (Env.zero E.S E.L blks E.w) cs' us own
 | [],cs',us,own,_,hx,h=>by simp[renAll] at hx;subst hx;exact h
 | c::cs,cs',us,own,hc,hx,h=>by
  simp only[renAll,Option.bind_eq_some_iff,Option.map_eq_some_iff] at hx;obtain ⟨d,hd,q,hq,rfl⟩:=hx;obtain ⟨u,us',o1,o2,h1,h2,h3,h4⟩:=h;exact ⟨u,us',o1,o2,h1,h2,h3.ren hl (hc c List.mem_cons_self) hd,RpA.ren hl (fun x hx=>hc x (List.mem_cons_of_mem _ hx)) hq h4⟩
theorem RpB.ren {E:Env} {ids blks:List Nat} (hl:Lies ids blks E.bl):∀{pcs pcs':List (List A)} {bs own:List Nat},(∀cs∈pcs,∀c∈cs,c.rstamp=none)->renAlls ids pcs=some pcs'->RpB E (pcs.map some) bs own->
  RpB (Env.zero E.S E.L blks E.w) (pcs'.map fun c=>some (c.map A.reset)) bs own
 | [],pcs',us,own,_,hx,h=>by simp[renAlls] at hx;subst hx;exact h
 | c::cs,pcs',us,own,hc,hx,h=>by
  simp only[renAlls,Option.bind_eq_some_iff,Option.map_eq_some_iff] at hx;obtain ⟨d,hd,q,hq,rfl⟩:=hx;obtain ⟨b,bs',o1,o2,h1,h2,⟨o,arr,ty,k1,k2,k3⟩,h4⟩:=h;exact ⟨b,bs',o1,o2,h1,h2,⟨o,arr,ty,k1,k2,(RpA.ren hl (hc c List.mem_cons_self) hd k3).reset⟩,RpB.ren hl (fun x hx=>hc x (List.mem_cons_of_mem _ hx)) hq h4⟩
theorem RepA.un {S' L':Nat->Prop} {bl' blks new:List Nat} {w':World} {ca:Root->Nat->Option A} {ids:List Nat} {g:Stamp} (hS:∀b,S' b->L' b) (hl:Lies ids blks bl) (hlen:blks.length=ids.length) (hbl:bl'=blks++new)
  {c:A} {u:Value} {own:List Nat} (h:RepA (Env.zero S' S' bl' w') c u own):RepA ⟨S',L',bl++new,a,w',ca⟩ (unP ids bl.length g c) u own:=by
 have key:∀(j blk:Nat),bl'[j]?=some blk->(bl++new)[unNat ids bl.length j]?=some blk:=by
  intro j blk hj;subst hbl;unfold unNat
  split
  ·rename_i hlt
   rw[List.getElem?_append_left (by omega)] at hj
   have hb:ids[j]?=some (ids.getD j 0):=by simp[List.getElem?_eq_getElem hlt]
   obtain ⟨blk',k1,k2⟩:=hl j _ hb;rw[hj] at k1;simp at k1;subst k1;rw[List.getElem?_append_left (List.getElem?_eq_some_iff.1 k2).1];exact k2
  ·rename_i hge
   rw[List.getElem?_append_right (by omega)] at hj
   rw[List.getElem?_append_right (by omega),<-hj]
   congr 1
   omega
 cases c with
 | ptr b off=>
  obtain ⟨h0,blk,h1,rfl⟩:=h;exact ⟨h0,blk,key b blk h1,rfl⟩
 | fn f caps=>
  obtain ⟨h0,vs,h1,h2,h3⟩:=h;refine ⟨h0,vs,h1,by simpa using h2,fun j b off hj=>?_⟩
  simp only[List.getElem?_map,Option.map_eq_some_iff,Prod.mk.injEq] at hj;obtain ⟨⟨b0,off0⟩,hj,rfl,rfl⟩:=hj;obtain ⟨blk,m1,m2⟩:=h3 j b0 off0 hj;exact ⟨blk,key b0 blk m1,m2⟩
 | sref r c g lo len=>exact ⟨h.1,h.2.1⟩
 | eptr r c g i off=>exact ⟨h.1,h.2.1⟩
 | ro st els=>
  cases st with
  | true=>exact h
  | false=>exact ⟨RepS.mono hS (fun _ _=>rfl) _ _ h.1,h.2⟩
 | rptr st cells=>
  cases st with
  | true=>exact h
  | false=>
   obtain ⟨h0,b,o,h1,h2,h3⟩:=h;exact ⟨h0,b,o,h1,hS _ h2,RepSC.mono hS (fun _ _=>rfl) b rfl o _ h3⟩
 | _=>exact h
theorem RpA.un {S' L':Nat->Prop} {bl' blks new:List Nat} {w':World} {ca:Root->Nat->Option A} {ids:List Nat} {g:Stamp} (hS:∀b,S' b->L' b) (hl:Lies ids blks bl) (hlen:blks.length=ids.length) (hbl:bl'=blks++new) :
  ∀{cs:List A} {us:List Value} {own:List Nat},RpA (Env.zero S' S' bl' w') cs us own->RpA ⟨S',L',bl++new,a,w',ca⟩ (cs.map (unP ids bl.length g)) us own
 | [],us,own,h=>h
 | c::cs,us,own,h=>by
  obtain ⟨u,us',o1,o2,h1,h2,h3,h4⟩:=h;exact ⟨u,us',o1,o2,h1,h2,h3.un hS hl hlen hbl,RpA.un hS hl hlen hbl h4⟩
theorem RpB.un {S' L':Nat->Prop} {bl' blks new:List Nat} {w':World} {ca:Root->Nat->Option A} {ids:List Nat} {g:Stamp} (hS:∀b,S' b->L' b) (hl:Lies ids blks bl) (hlen:blks.length=ids.length) (hbl:bl'=blks++new) :
  ∀{bx:List (Option (List A))} {bs own:List Nat},RpB (Env.zero S' S' bl' w') bx bs own->RpB ⟨S',L',bl++new,a,w',ca⟩ (bx.map (unBox ids bl.length g)) bs own
 | [],us,own,h=>h
 | x::bx,us,own,h=>by
  obtain ⟨b,bs',o1,o2,h1,h2,h3,h4⟩:=h;refine ⟨b,bs',o1,o2,h1,h2,?_,RpB.un hS hl hlen hbl h4⟩;cases x with
  | none=>exact h3
  | some cs=>
   obtain ⟨o,arr,ty,k1,k2,k3⟩:=h3;exact ⟨o,arr,ty,k1,k2,k3.un hS hl hlen hbl⟩
theorem RpB.split_append {E:Env}:∀{x y:List (Option (List A))} {bs own:List Nat},RpB E (x++y) bs own->∃b1 b2 o1 o2,bs=b1++b2/\own=o1++o2/\RpB E x b1 o1/\RpB E y b2 o2
 | [],y,bs,own,h=>⟨[],bs,[],own,rfl,rfl,⟨rfl,rfl⟩,h⟩
 | c::x,y,bs,own,h=>by
  obtain ⟨b,bs',o1,o2,rfl,rfl,h3,h4⟩:=h;obtain ⟨b1,b2,p1,p2,rfl,rfl,h5,h6⟩:=RpB.split_append h4;exact ⟨b::b1,b2,o1++p1,p2,rfl,by simp,⟨b,b1,o1,p1,rfl,rfl,h3,h5⟩,h6⟩
theorem RpB.join {E:Env}:∀{x y:List (Option (List A))} {b1 b2 o1 o2:List Nat},RpB E x b1 o1->RpB E y b2 o2->RpB E (x++y) (b1++b2) (o1++o2)
 | [],y,b1,b2,o1,o2,h,h'=>by obtain ⟨rfl,rfl⟩:=h;exact h'
 | c::x,y,b1,b2,o1,o2,h,h'=>by
  obtain ⟨b,bs',p1,p2,rfl,rfl,h3,h4⟩:=h;exact ⟨b,bs'++b2,p1,p2++o2,rfl,by simp,h3,RpB.join h4 h'⟩
theorem putBoxes_ok {E:Env}:∀{ids blks:List Nat} {xs bs:List (Option (List A))} {bl O o:List Nat},Lies ids blks bl->RpB E bs bl O->RpB E xs blks o->(O++o).Nodup->
  ∃O',RpB E (putBoxes ids xs bs) bl O'/\O'.Nodup/\∀b∈O',b∈O\/b∈o
 | [],blks,xs,bs,bl,O,o,hl,h,hx,hn=>by
  rw[show putBoxes [] xs bs=bs by cases xs<;>rfl]
  exact ⟨O,h,(List.nodup_append.1 hn).1,fun b hb=>.inl hb⟩
 | b::ids,blks,[],bs,bl,O,o,hl,h,hx,hn=>⟨O,h,(List.nodup_append.1 hn).1,fun b hb=>.inl hb⟩
 | b::ids,blks,x::xs,bs,bl,O,o,hl,h,hx,hn=>by
  obtain ⟨blk,blks',o1,o2,rfl,rfl,h3,h4⟩:=hx;obtain ⟨blk',k1,k2⟩:=hl 0 b rfl;simp at k1;subst k1;have hlt:b < bs.length:=by rw[<-RpB.length h];exact (List.getElem?_eq_some_iff.1 k2).1
  obtain ⟨blk'',p,oo,q,g1,rfl,g3,g4⟩:=RpB.split b _ h (List.getElem?_eq_getElem hlt);rw[k2] at g1;simp at g1;subst g1;have hset:=g4 x o1 h3;have hn':((p++o1++q)++o2).Nodup:=by
   simp only[List.append_assoc,List.nodup_append,List.mem_append] at hn |-;obtain ⟨n1,⟨n2,⟨n3,⟨n4,n5,n6⟩,n7⟩,n8⟩,n9⟩:=hn;refine ⟨n1,⟨n4,⟨n3,n5,fun x hx y hy=>n7 x hx y (.inr hy)⟩,fun x hx y hy=>?_⟩,fun x hx y hy=>?_⟩
   ·rintro rfl
    rcases hy with hy | hy
    ·exact n7 x hy x (.inl hx) rfl
    ·exact n6 x hx x hy rfl
   ·rintro rfl
    rcases hy with hy | hy | hy
    ·exact n9 x hx x (.inr (.inr (.inl hy))) rfl
    ·exact n9 x hx x (.inr (.inl hy)) rfl
    ·exact n9 x hx x (.inr (.inr (.inr hy))) rfl
  obtain ⟨O',m1,m2,m3⟩:=putBoxes_ok (fun j b' hj=>by simpa using hl (j+1) b' (by simpa using hj)) hset h4 hn'
  refine ⟨O',m1,m2,fun y hy=>?_⟩;rcases m3 y hy with hy | hy
  ·simp only[List.mem_append] at hy |-
   rcases hy with (hy | hy) | hy<;>simp[hy]
  ·simp[hy]
theorem evAll_ok (h:InvAt C X σ a w S L bl O1 O2):∀{xs:List Operand} {avs:List AV},evAll σ xs=some avs->
  RpS ⟨S,L,bl,a,w,σ.cell⟩ avs (xs.map a.eval) []/\(∀av∈avs,av.sh≠.any)/\(∀av∈avs,∀c∈av.cs,stampIn X σ.epoch c)/\∀av∈avs,∀g k els,A.ow g k els∉av.cs
 | [],avs,hx=>by simp[evAll] at hx;subst hx;exact ⟨⟨rfl,rfl⟩,by simp,by simp,by simp⟩
 | x::xs,avs,hx=>by
  simp only[evAll,Option.bind_eq_some_iff] at hx;obtain ⟨av,hav,hx⟩:=hx;have hsh:av.sh≠.any/\(evAll σ xs).map (fun q=>av::q)=some avs:=by
   cases hs:av.sh<;>simp only[hs,reduceCtorEq] at hx<;>exact ⟨by simp,hx⟩
  obtain ⟨hsh,hx⟩:=hsh;simp only[Option.map_eq_some_iff] at hx;obtain ⟨q,hq,rfl⟩:=hx;obtain ⟨g1,g2,g3,g4⟩:=evAll_ok h hq;have he:=h.ev hav;refine ⟨⟨a.eval x,xs.map a.eval,[],[],rfl,rfl,he.rep,g1⟩,fun y hy=>?_,fun y hy=>?_,fun y hy=>?_⟩<;>rcases List.mem_cons.1 hy with rfl | hy
  ·exact hsh
  ·exact g2 y hy
  ·exact he.st
  ·exact g3 y hy
  ·exact he.noOw
  ·exact g4 y hy
theorem RepV.cells {E:Env} {av:AV} {v:Value} {o:List Nat} (h:RepV E av v o) (hs:av.sh≠.any):shOk av.sh v/\RpA E av.cs (flat v) o:=by
 obtain ⟨sh,cs⟩:=av;cases sh with
 | any=>exact absurd rfl hs
 | one=>exact h
 | agg=>exact h
 | tup ns=>exact h
theorem RepV.ofCells {E:Env} {sh:Sh} {cs:List A} {v:Value} {o:List Nat} (hs:sh≠.any) (h1:shOk sh v) (h2:RpA E cs (flat v) o):RepV E ⟨sh,cs⟩ v o:=by
 cases sh with
 | any=>exact absurd rfl hs
 | one=>exact ⟨h1,h2⟩
 | agg=>exact ⟨h1,h2⟩
 | tup ns=>exact ⟨h1,h2⟩
theorem RpS.flatten {E:Env}:∀{avs:List AV} {vs:List Value} {o:List Nat},(∀av∈avs,av.sh≠.any)->RpS E avs vs o->RpA E (avs.flatMap (·.cs)) (vs.flatMap flat) o
 | [],vs,o,_,h=>by obtain ⟨rfl,rfl⟩:=h;exact ⟨rfl,rfl⟩
 | av::avs,vs,o,hs,h=>by
  obtain ⟨v,vs',o1,o2,rfl,rfl,h3,h4⟩:=h;simp only[List.flatMap_cons];exact RpA.append_iff.2 ⟨_,_,_,_,rfl,rfl,(h3.cells (hs av List.mem_cons_self)).2,RpS.flatten (fun x hx=>hs x (List.mem_cons_of_mem _ hx)) h4⟩
theorem RpS.split_cells {E E':Env}:∀{avs:List AV} {vs:List Value} {o o':List Nat} {cs:List A},(∀av∈avs,av.sh≠.any)->RpS E avs vs o->RpA E' cs (vs.flatMap flat) o'->RpS E' (splitAV avs cs) vs o'
 | [],vs,o,o',cs,_,h,h'=>by
  obtain ⟨rfl,rfl⟩:=h;have:o'=[]:=by
   cases cs with
   | nil=>exact h'.2
   | cons c cs=>obtain ⟨u,us',_,_,h1,_⟩:=h';simp at h1
  exact ⟨rfl,this⟩
 | av::avs,vs,o,o',cs,hs,h,h'=>by
  obtain ⟨v,vs',o1,o2,rfl,rfl,h3,h4⟩:=h;obtain ⟨k1,k2⟩:=h3.cells (hs av List.mem_cons_self);simp only[List.flatMap_cons] at h';have hlen:=RpA.length k2;have hlen':=RpA.length h';rw[List.length_append,hlen] at hlen';rw[<-List.take_append_drop av.cs.length cs] at h';obtain ⟨u1,u2,p1,p2,e1,rfl,m1,m2⟩:=RpA.append_iff.1 h';have hl1:=RpA.length m1;rw[List.length_take,Nat.min_eq_left (by omega)] at hl1
  have hu:flat v=u1/\vs'.flatMap flat=u2:=List.append_inj e1 (by omega)
  obtain ⟨rfl,rfl⟩:=hu;exact ⟨v,vs',p1,p2,rfl,rfl,RepV.ofCells (hs av List.mem_cons_self) k1 m1,RpS.split_cells (fun x hx=>hs x (List.mem_cons_of_mem _ hx)) h4 m2⟩
theorem capAVs_ok {E:Env}:∀{caps:List (Nat×Nat)} {vs:List Value},vs.length=caps.length->(∀(j b off:Nat),caps[j]?=some (b,off)->∃blk,E.bl[b]?=some blk/\vs[j]?=some (.pointer (some ⟨blk,off,none⟩)))->RpS E (capAVs caps) vs []
 | [],vs,h,_=>by simp at h;subst h;exact ⟨rfl,rfl⟩
 | c::caps,[],h,_=>by simp at h
 | c::caps,v::vs,h,hc=>by
  obtain ⟨blk,k1,k2⟩:=hc 0 c.1 c.2 rfl;simp at k2;subst k2;exact ⟨_,vs,[],[],rfl,rfl,⟨⟨rfl,rfl⟩,_,[],[],[],rfl,rfl,⟨rfl,blk,k1,rfl⟩,rfl,rfl⟩,capAVs_ok (by simpa using h) fun j b off hj=>by simpa using hc (j+1) b off (by simpa using hj)⟩
end
end Go.Av
/- Avs, part 25: the rule for a call. -/
namespace Go.Av
def enterable (P:Program) (f:FuncId):Bool:=match P.funcs[f]? with
 | some fn=>fn.name != "runtime.NumGoroutine" && fn.body.isSome
 | none=>false
theorem run_call {P:Program} {f:FuncId} (he:enterable P f=true) {ρ:Operand->Value} {fop:Operand} {vs:Array Value} (hf:ρ fop=.func (.func f) #[] vs) {args:Array Operand} {argTypes:Array TypeId} {dst:Option Tmp} {type:TypeId} {pos:String}
  {after:Array Edge} {guard:Option (Nat×Bool)} (w:World) :
  (execOp ρ ⟨dst,.call ⟨.value fop,args,argTypes⟩,type,pos,after,guard⟩).run P w=.ok (.enter f (args.map ρ++vs)) w:=by
 unfold enterable at he;cases hfn:P.funcs[f]? with
 | none=>simp[hfn] at he
 | some fn=>
  simp only[hfn,Bool.and_eq_true,bne_iff_ne,ne_eq] at he;obtain ⟨h1,h2⟩:=he;simp[execOp,resolve,hf,Deferred.ofValue,invoke,callFunc,hfn,h1,Result.andThen];intro h0;simp[h0] at h2
theorem Fresh.mask {g:Stamp}:∀{ids:List Nat} {σ σ':AS} {pcs:List (List A)},Fresh σ g->maskBoxes ids σ=some (pcs,σ')->Fresh σ' g
 | [],σ,σ',pcs,h,hx=>by simp[maskBoxes] at hx;obtain ⟨_,rfl⟩:=hx;exact h
 | b::ids,σ,σ',pcs,h,hx=>by
  simp only[maskBoxes] at hx
  split at hx<;>try (simp at hx;done)
  simp only[Option.map_eq_some_iff,Prod.mk.injEq] at hx;obtain ⟨⟨pcs',σ2⟩,hx,_,rfl⟩:=hx;refine Fresh.mask (σ:=σ.hide b) ⟨h.1,fun cs hcs=>?_⟩ hx;rcases List.mem_or_eq_of_mem_set hcs with hcs | hcs
  ·exact h.2 cs hcs
  ·simp at hcs
theorem lend_free {σ:AS}:∀{cs cs':List A},lendCells σ cs=some cs'->∀c∈cs',c.rstamp=none
 | [],cs',hx=>by simp[lendCells] at hx;subst hx;simp
 | c::cs,cs',hx=>by
  have key:∀d:A,d.rstamp=none->(lendCells σ cs).map (fun q=>d::q)=some cs'->∀c∈cs',c.rstamp=none:=by
   intro d hd hx;simp only[Option.map_eq_some_iff] at hx;obtain ⟨q,hq,rfl⟩:=hx;intro y hy;rcases List.mem_cons.1 hy with rfl | hy
   ·exact hd
   ·exact lend_free hq y hy
  cases c with
  | sref r x g lo len=>
   simp only[lendCells] at hx
   split at hx
   ·exact key _ rfl hx
   ·simp at hx
  | eptr r x g i off=>simp[lendCells] at hx
  | _=>exact key _ rfl hx
theorem unP_free (ids:List Nat) (nb:Nat) (g:Stamp) (c:A):(unP ids nb g c).rstamp=none/\(∀g' k els,unP ids nb g c=.ow g' k els->g'=g)/\∀s,(unP ids nb g c).stamp=some s->s=g:=by
 cases c<;>simp[unP,A.rstamp,A.stamp]
theorem mem_putBoxes:∀{ids:List Nat} {xs bs:List (Option (List A))} {y:Option (List A)},y∈putBoxes ids xs bs->y∈bs\/y∈xs
 | [],xs,bs,y,h=>by rw[show putBoxes [] xs bs=bs by cases xs<;>rfl] at h;exact .inl h
 | b::ids,[],bs,y,h=>.inl h
 | b::ids,x::xs,bs,y,h=>by
  rcases mem_putBoxes (ids:=ids) (xs:=xs) (bs:=bs.set b x) h with h | h
  ·rcases List.mem_or_eq_of_mem_set h with h | rfl
   ·exact .inl h
   ·exact .inr (by simp)
  ·exact .inr (by simp[h])
theorem getElem?_putBoxes:∀{ids:List Nat} {xs bs:List (Option (List A))} {b:Nat},b∉ids->(putBoxes ids xs bs)[b]?=bs[b]?
 | [],xs,bs,b,h=>by rw[show putBoxes [] xs bs=bs by cases xs<;>rfl]
 | c::ids,[],bs,b,h=>rfl
 | c::ids,x::xs,bs,b,h=>by
  simp only[List.mem_cons,not_or] at h
  show (putBoxes ids xs (bs.set c x))[b]?=_
  rw[getElem?_putBoxes h.2,List.getElem?_set_ne (fun e=>h.1 e.symm)]
theorem length_putBoxes:∀{ids:List Nat} {xs bs:List (Option (List A))},(putBoxes ids xs bs).length=bs.length
 | [],xs,bs=>by rw[show putBoxes [] xs bs=bs by cases xs<;>rfl]
 | c::ids,[],bs=>rfl
 | c::ids,x::xs,bs=>by
  show (putBoxes ids xs (bs.set c x)).length=_
  rw[length_putBoxes];simp
theorem putBoxes_mem:∀{ids:List Nat} {xs bs:List (Option (List A))} {b:Nat},b∈ids->b < bs.length->xs.length=ids.length->∃y∈xs,(putBoxes ids xs bs)[b]?=some y
 | [],xs,bs,b,h,_,_=>by simp at h
 | c::ids,[],bs,b,h,_,hl=>by simp at hl
 | c::ids,x::xs,bs,b,h,hb,hl=>by
  by_cases hm:b∈ids
  ·obtain ⟨y,hy,he⟩:=putBoxes_mem (xs:=xs) (bs:=bs.set c x) hm (by simpa using hb) (by simpa using hl)
   exact ⟨y,by simp[hy],he⟩
  ·have hbc:b=c:=by simpa [hm] using h
   subst hbc;refine ⟨x,by simp,?_⟩
   show (putBoxes ids xs (bs.set b x))[b]?=_
   rw[getElem?_putBoxes hm,List.getElem?_set_self hb]
section
variable {P:Program} {C:Ctx} {X:List Nat} {σ:AS} {a:Act} {w:World} {Q:Exit->Act->World->Prop}
theorem call_ok {h:Hint} {i:Nat} {fop:Operand} {args:Array Operand} {argTypes:Array TypeId} {dst:Option Tmp} {type:TypeId} {pos:String} {after:Array Edge} {guard:Option (Nat×Bool)} {f:FuncId} {cargs:List AV} {cbx:List (Option (List A))} {σm:AS}
  {R:AV->List (Option (List A))->Prop} {K:AS->Prop} (hx:aCallPre h i σ fop args.toList=some (f,cargs,cbx,σm)) (hent:enterable P f=true) (hc:ACl P f cargs cbx R)
  (hK:∀res bx,R res bx->K ((aCallPost h.ids i σm res bx).2.putO dst (aCallPost h.ids i σm res bx).1)) (hinv:Inv C X σ a w) (hi:i∉X) :
  (⟨dst,.call ⟨.value fop,args,argTypes⟩,type,pos,after,guard⟩:Oper).wp P a w (fun a' w'=>∃σ',K σ'/\Inv C (i::X) σ' a' w') Q:=by
 obtain ⟨S,L,bl,O1,O2,hv⟩:=hinv;have hv':=hv.mono (fun x hx=>List.mem_cons_of_mem i hx);simp only[aCallPre,Option.bind_eq_some_iff] at hx;obtain ⟨fv,hfv,hx⟩:=hx
 split at hx<;>try (simp at hx;done)
 rename_i f' caps;simp only[Option.bind_eq_some_iff] at hx;obtain ⟨avs,havs,⟨pcs,σ3⟩,hmask,hx⟩:=hx
 split at hx<;>try (simp at hx;done)
 rename_i hfree;simp only[Option.bind_eq_some_iff,Option.map_eq_some_iff,Prod.mk.injEq] at hx;obtain ⟨cs1,hlend,cs2,hren,pcs',hrens,rfl,rfl,rfl,rfl⟩:=hx;obtain ⟨⟨_,vs,hfun,hvsz,hcaps⟩,_⟩:=(hv.ev hfv).cell;obtain ⟨e1,e2,e3,e4⟩:=evAll_ok hv havs;have ecap:=capAVs_ok (E:=⟨S,L,bl,a,w,σ.cell⟩) (caps:=caps) (vs:=vs.toList) (by simpa using hvsz) (fun j b off hj=>by simpa using hcaps j b off hj)
 have eall:=e1.append ecap;have hany:∀av∈avs++capAVs caps,av.sh≠.any:=by
  intro av hav;rcases List.mem_append.1 hav with hav | hav
  ·exact e2 av hav
  ·simp only[capAVs,List.mem_map] at hav
   obtain ⟨c,_,rfl⟩:=hav;simp[one]
 have hcapc:∀av∈capAVs caps,∀c∈av.cs,c.stamp=none/\isOw c=false:=by
  intro av hav c hcm;simp only[capAVs,List.mem_map] at hav;obtain ⟨c0,_,rfl⟩:=hav;simp[one] at hcm;subst hcm;exact ⟨rfl,rfl⟩
 have eflat:=eall.flatten hany;have hst:∀c∈(avs++capAVs caps).flatMap (·.cs),stampIn X σ.epoch c:=by
  intro c hcm;simp only[List.mem_flatMap,List.mem_append] at hcm;obtain ⟨av,hav | hav,hcm⟩:=hcm
  ·exact e3 av hav c hcm
  ·intro g hg;rw[(hcapc av hav c hcm).1] at hg;simp at hg
 have hno:∀g k els,A.ow g k els∉(avs++capAVs caps).flatMap (·.cs):=by
  intro g k els hcm;simp only[List.mem_flatMap,List.mem_append] at hcm;obtain ⟨av,hav | hav,hcm⟩:=hcm
  ·exact e4 av hav g k els hcm
  ·have:=(hcapc av hav _ hcm).2;simp[isOw] at this
 obtain ⟨O1a,O2a,oa,a1,a2,a3,a4,a5,a6,a7,a8,a9,a10,a11,a12,a13,a14⟩:=takeCells_ok h.mv hv' (i:=i) (by simp) (hv.fresh hi) eflat (ev_mono hst) (ev_ne hst hi) hno
 generalize hq1:tkC h.mv (σ.epoch,i) ((avs++capAVs caps).flatMap (·.cs)) σ=q1 at *
 obtain ⟨cA,σA⟩:=q1;simp only at a1 a2 a5 a6 a7 a8 a9 a12 a13 a14 hmask hlend;obtain ⟨S3,L3,O1b,O2b,b1,b2,b3,b4,b5,b6,b7,b8,b9,b10,b11⟩:=shareCells_ok h.sh (i:=i) a1 (by rw[a9];exact a8) a2
 generalize hq2:shC h.sh cA σA=q2 at *;obtain ⟨cB,σB⟩:=q2;simp only at b1 b2 b7 b8 b9 b10 b11 hmask hlend;obtain ⟨Or,op,blks,m1,m2,m3,m4,m5,m6,m7,m8,m9,m10,m11⟩:=mask_ok b1 hmask;have hlies:Lies h.ids blks bl:=m3;have hfr3:Fresh σ3 (σ3.epoch,i):=by rw[m9,b8,a9];rw[a9] at b7;exact b7.mask hmask
 have hrl:=lend_ok m1 (RpA.go m8 (fun _ _=>rfl) (fun _ _=>rstamp_none_or) b2) hlend;have hargs:=(RpA.ren (E:=Env.zero S3 (fun b=>L3 b\/b∈O1b++Or) bl w) hlies (lend_free hlend) hren hrl).reset;have hslots:RpS (Env.zero S3 (fun b=>L3 b\/b∈O1b++Or) blks w) (splitAV (avs++capAVs caps) (cs2.map A.reset)) (args.map a.eval++vs).toList oa:=by
  rw[show (args.map a.eval++vs).toList=args.toList.map a.eval++vs.toList by simp]
  exact RpS.split_cells hany eall hargs
 have hfreeP:∀cs∈pcs,∀c∈cs,c.rstamp=none:=by
  intro cs hcs c hcm;have:=List.all_eq_true.1 hfree cs hcs;have:=List.all_eq_true.1 this c hcm;simpa using this
 have hle4:Env.Le none ⟨S3,L3,bl,a,w,σ3.cell⟩ ⟨S3,fun b=>L3 b\/b∈O1b++Or,bl,a,w,σ3.cell⟩:=
  ⟨fun _ h=>h,fun b hb=>.inl hb,fun _ _=>rfl,fun _ _ h=>h,fun r c g k els' _ he=>⟨els',he,rfl,fun x hx=>by cases r<;>exact hx⟩⟩
 have hboxes:=RpB.ren (E:=⟨S3,fun b=>L3 b\/b∈O1b++Or,bl,a,w,σ3.cell⟩) hlies hfreeP hrens (RpB.go hle4 (fun _ _=>rfl) (fun _ _ _ _ _ _=>rstamp_none_or) m2);have hOb:∀b,b∈O1b++Or->b∈O1b++O2b:=fun b hb=>by
  rcases List.mem_append.1 hb with hb | hb
  ·simp[hb]
  ·simp[m6 b hb]
 have hopb:∀b,b∈op->b∈O1b++O2b:=fun b hb=>by simp[m5 b hb]
 have hOrop:∀b,b∈op->b∉O1b++Or:=fun b hb hm=>by
  rcases List.mem_append.1 hm with hm | hm
  ·exact (List.nodup_append.1 b1.nodup).2.2 b hm b (m5 b hb) rfl
  ·exact (List.nodup_append.1 m7).2.2 b hm b hb rfl
 have hoaL:∀b,b∈oa->¬L3 b:=fun b hb hL=>(b5 b hL).elim (a4 b hb).2.1 (a4 b hb).1;have hoaO:∀b,b∈oa->b∉O1b++O2b:=fun b hb hm=>(a4 b hb).1 (b6 b hm);have hopL:∀b,b∈op->¬L3 b:=fun b hb hL=>(b1.stable b hL).2 (hopb b hb);have hnd:(oa++op).Nodup:=List.nodup_append.2 ⟨a3,(List.nodup_append.1 m7).2.1,fun x hx y hy he=>hoaO x hx (by rw[he];exact hopb y hy)⟩
 have hown:∀b∈oa++op,b∈C.O0\/C.w0.heap.size<=b:=fun b hb=>by
  rcases List.mem_append.1 hb with hb | hb
  ·exact (a4 b hb).2.2
  ·exact b1.own b (hopb b hb)
 have hstab:∀b,(L3 b\/b∈O1b++Or)->b < w.heap.size/\b∉oa++op:=by
  intro b hb;rcases hb with hb | hb
  ·refine ⟨(b1.stable b hb).1,fun hm=>?_⟩
   rcases List.mem_append.1 hm with hm | hm
   ·exact hoaL b hm hb
   ·exact hopL b hm hb
  ·refine ⟨b1.own_lt (hOb b hb),fun hm=>?_⟩
   rcases List.mem_append.1 hm with hm | hm
   ·exact hoaO b hm (hOb b hb)
   ·exact hOrop b hm hb
 have hcalls:=hc w _ S3 (fun b=>L3 b\/b∈O1b++Or) blks oa op hslots hboxes hnd (fun b hb=>.inl (b1.sl b hb)) hstab;unfold Oper.wp;rw[run_call hent hfun w];simp only[Oper.upon_enter];refine Calls.mono hcalls ?_;rintro e w' ⟨v,rfl,res,bx',S',bl',o1,o2,hR,r1,r2,r3,r4,r5,r6,r7,r8,r9⟩;obtain ⟨new,hnew⟩:=r9;refine ⟨_,hK res bx' hR,?_⟩;have hlbl:=RpB.length m1.boxes;have hlen2:=RpB.length r2;have hge:h.ids.length<=bx'.length:=by rw[<-hlen2,<-hnew,List.length_append,m4];omega
 have hbx:bx'=bx'.take h.ids.length++bx'.drop h.ids.length:=(List.take_append_drop _ _).symm;have r2':=r2;rw[hbx] at r2';obtain ⟨c1,c2,p1,p2,hcc,rfl,s1,s2⟩:=RpB.split_append r2';have hc1:c1=blks/\c2=new:=by
  have hl1:=RpB.length s1;rw[List.length_take,Nat.min_eq_left hge] at hl1;have:=List.append_inj (hcc.symm.trans hnew.symm) (by omega)
  exact this
 obtain ⟨rfl,rfl⟩:=hc1;have hsize:w.heap.size<=w'.heap.size:=r7.size;have hblk:∀b,(L3 b\/b∈O1b++Or)->w'.heap[b]?=w.heap[b]?:=fun b hb=>r7.block b (hstab b hb).1 (hstab b hb).2;have hS':∀b,S' b->(fun b=>L3 b\/S' b) b:=fun b hb=>.inr hb
 let σ4:AS:=(aCallPost h.ids i σ3 res bx').2
 let g:Stamp:=(σ3.epoch,i)
 have hcell4:∀r c,(∀b,r=.box b->b∉h.ids/\b < σ3.boxes.length)->σ4.cell r c=σ3.cell r c:=by
  intro r c hr;cases r with
  | slot t=>rfl
  | box b=>
   obtain ⟨hb1,hb2⟩:=hr b rfl;simp only[σ4,aCallPost,AS.cell];rw[List.getElem?_append_left (by rw[length_putBoxes];exact hb2),getElem?_putBoxes hb1]
 have hcellg:∀b c g0 k els,σ4.cell (.box b) c=some (.ow g0 k els)->¬(b∉h.ids/\b < σ3.boxes.length)->g0=g:=by
  intro b c g0 k els he hb;have huse:∀y:Option (List A),σ4.boxes[b]?=some (unBox h.ids σ3.boxes.length g y)->g0=g:=by
   intro y hy;simp only[AS.cell,hy,Option.bind_some] at he;cases y with
   | none=>simp[unBox] at he
   | some cs=>
    simp only[unBox,Option.map_some,Option.bind_some,List.getElem?_map,Option.map_eq_some_iff] at he;obtain ⟨c0,_,hc0⟩:=he;exact (unP_free h.ids σ3.boxes.length g c0).2.1 _ _ _ hc0
  by_cases hb2:b < σ3.boxes.length
  ·have hbi:b∈h.ids:=Classical.byContradiction fun hbi=>hb ⟨hbi,hb2⟩
   obtain ⟨y,hy,hy2⟩:=putBoxes_mem (xs:=(bx'.take h.ids.length).map (unBox h.ids σ3.boxes.length g)) hbi hb2 (by simp;omega)
   obtain ⟨y0,_,rfl⟩:=List.mem_map.1 hy;refine huse y0 ?_
   show (putBoxes _ _ _++_)[b]?=_
   rw[List.getElem?_append_left (by rw[length_putBoxes];exact hb2)]
   exact hy2
  ·have hlp:(putBoxes h.ids ((bx'.take h.ids.length).map (unBox h.ids σ3.boxes.length g)) σ3.boxes).length=σ3.boxes.length:=length_putBoxes
   cases hy:σ4.boxes[b]? with
   | none=>simp[AS.cell,hy] at he
   | some y=>
    have hy':=hy
    change (putBoxes h.ids ((bx'.take h.ids.length).map (unBox h.ids σ3.boxes.length g)) σ3.boxes++(bx'.drop h.ids.length).map (unBox h.ids σ3.boxes.length g))[b]?=_ at hy'
    rw[List.getElem?_append_right (by omega),List.getElem?_map,Option.map_eq_some_iff] at hy'
    obtain ⟨y0,_,rfl⟩:=hy';exact huse y0 hy
 have hE:Env.Le (some g) ⟨S3,L3,bl,a,w,σ3.cell⟩ ⟨S',fun b=>L3 b\/S' b,bl++c2,a,w',σ4.cell⟩:=by
  refine ⟨r5,fun b hb=>.inl hb,fun b hb=>hblk b (.inl (hb.elim (b1.sl b) id)),fun j blk hj=>by
   show (bl++c2)[j]?=some blk
   rw[List.getElem?_append_left (List.getElem?_eq_some_iff.1 hj).1];exact hj,fun r c g0 k els' hg he=>?_⟩
  simp only at he;cases r with
  | slot t=>exact ⟨els',he,rfl,fun x hx=>hx⟩
  | box b=>
   by_cases hb:b∉h.ids/\b < σ3.boxes.length
   ·rw[hcell4 (.box b) c (fun b' hb'=>by cases hb';exact hb)] at he
    refine ⟨els',he,rfl,fun x hx=>?_⟩;simp only[Env.cv] at hx |-;simp only[AS.cell] at he;cases hb':σ3.boxes[b]? with
    | none=>simp[hb'] at he
    | some y=>
     cases y with
     | none=>simp[hb'] at he
     | some cs=>
      obtain ⟨blk,p,o,q,k1,k2,⟨o',arr,ty,k3,k4,k5⟩,_⟩:=RpB.split b _ m1.boxes hb';rw[List.getElem?_append_left (List.getElem?_eq_some_iff.1 k1).1];simp only[k1,Option.bind_some] at hx |-;rw[cell?_congr (hblk blk (.inr (by simp[k2,k3])))]
      exact hx
   ·exact absurd (congrArg some (hcellg b c g0 k els' he hb)) hg
 have hdisj:∀b∈o1++(p1++p2),¬(L3 b\/b∈O1b++Or):=fun b hb hm=>by
  rcases r8 b hb with h1 | h1
  ·exact (hstab b hm).2 h1
  ·have:=(hstab b hm).1;omega
 have hnewOwn:∀b∈o1++(p1++p2),b∈C.O0\/C.w0.heap.size<=b:=fun b hb=>by
  rcases r8 b hb with h1 | h1
  ·exact hown b h1
  ·exact .inr (Nat.le_trans hv.keeps.size h1)
 obtain ⟨d1,d2,d3⟩:=List.nodup_append.1 r3;obtain ⟨d4,d5,d6⟩:=List.nodup_append.1 d2;obtain ⟨d7,d8,d9⟩:=List.nodup_append.1 m1.nodup;have t1:=RpS.go hE (fun b hb=>hblk b (.inr (by simp[hb]))) hfr3.1 m1.slots
 have t2:=RpB.go hE (fun b hb=>hblk b (.inr (by simp[hb]))) (fun c cs' hc he=>hfr3.2 cs' (he ▸ hc)) m1.boxes
 have u1:=RpB.un (L':=fun b=>L3 b\/S' b) (a:=a) (ca:=σ4.cell) (g:=g) hS' hlies m4 hnew.symm s1;have u2:=RpB.un (L':=fun b=>L3 b\/S' b) (a:=a) (ca:=σ4.cell) (g:=g) hS' hlies m4 hnew.symm s2;rw[hlbl] at u1 u2;obtain ⟨O',t3,t4,t5⟩:=putBoxes_ok hlies t2 u1 (List.nodup_append.2 ⟨d8,d4,fun x hx y hy he=>hdisj y (by simp[hy]) (.inr (by simp[<-he,hx]))⟩)
 have t6:=t3.join u2;have hO':∀b,b∈O'++p2->b∈Or\/b∈p1++p2:=fun b hb=>by
  rcases List.mem_append.1 hb with hb | hb
  ·rcases t5 b hb with hb | hb
   ·exact .inl hb
   ·exact .inr (by simp[hb])
  ·exact .inr (by simp[hb])
 have hfin:InvAt C (i::X) σ4 a w' S' (fun b=>L3 b\/S' b) (bl++c2) O1b (O'++p2):=by
  refine ⟨m1.defers,t1,t6,?_,hS',?_,⟨fun b hb=>r5 b (m1.s0.1 b hb),fun b hb=>?_⟩,?_,?_,m1.pre.trans (List.prefix_append _ _),m1.stS,?_⟩
  ·refine List.nodup_append.2 ⟨d7,List.nodup_append.2 ⟨t4,d5,fun x hx y hy he=>?_⟩,fun x hx y hy he=>?_⟩
   ·rcases t5 x hx with hx | hx
    ·exact hdisj y (by simp[hy]) (.inr (by simp[<-he,hx]))
    ·exact d6 x hx y hy he
   ·rcases hO' y hy with hy | hy
    ·exact d9 x hx y hy he
    ·exact hdisj y (by simp only[List.mem_append] at hy |-;exact .inr hy) (.inr (by simp[<-he,hx]))
  ·intro b hb
   rcases hb with hb | hb
   ·refine ⟨Nat.lt_of_lt_of_le (hstab b (.inl hb)).1 hsize,fun hm=>?_⟩
    rcases List.mem_append.1 hm with hm | hm
    ·exact (m1.stable b hb).2 (by simp[hm])
    ·rcases hO' b hm with hm | hm
     ·exact (m1.stable b hb).2 (by simp[hm])
     ·exact hdisj b (by simp only[List.mem_append] at hm |-;exact .inr hm) (.inl hb)
   ·refine ⟨(r4 b hb).1,fun hm=>?_⟩
    have hold:b∉O1b++Or:=fun hm=>by
     rcases r6 b hb with h1 | h1 | h1
     ·exact (m1.stable b (b1.sl b h1)).2 hm
     ·exact (hstab b (.inr hm)).2 h1
     ·have:=(hstab b (.inr hm)).1;omega
    rcases List.mem_append.1 hm with hm | hm
    ·exact hold (by simp[hm])
    ·rcases hO' b hm with hm | hm
     ·exact hold (by simp[hm])
     ·exact (r4 b hb).2 (by simp only[List.mem_append] at hm |-;exact .inr hm)
  ·rcases r6 b hb with h1 | h1 | h1
   ·exact m1.s0.2 b h1
   ·exact .inr (hown b h1)
   ·exact .inr (.inr (Nat.le_trans hv.keeps.size h1))
  ·refine ⟨r7.os.trans hv.keeps.os,r7.tape.trans hv.keeps.tape,r7.output.trans hv.keeps.output,Nat.le_trans hv.keeps.size hsize,fun b hb hn=>?_⟩
   rw[r7.block b (Nat.lt_of_lt_of_le hb hv.keeps.size) (fun hm=>by
    rcases hown b hm with h1 | h1
    ·exact hn h1
    ·omega)]
   exact hv.keeps.block b hb hn
  ·intro b hb
   rcases List.mem_append.1 hb with hb | hb
   ·exact m1.own b (by simp[hb])
   ·rcases hO' b hb with hb | hb
    ·exact m1.own b (by simp[hb])
    ·exact hnewOwn b (by simp only[List.mem_append] at hb |-;exact .inr hb)
  ·intro cs hcs c hcm
   have hun:∀y:Option (List A),some cs=unBox h.ids σ3.boxes.length g y->stampIn (i::X) σ4.epoch c:=by
    intro y hy s hs;cases y with
    | none=>simp[unBox] at hy
    | some cs0=>
     simp only[unBox,Option.map_some,Option.some.injEq] at hy;subst hy;obtain ⟨c0,_,rfl⟩:=List.mem_map.1 hcm;have:=(unP_free h.ids σ3.boxes.length g c0).2.2 s hs;subst this;exact .inr ⟨rfl,List.mem_cons_self⟩
   have hcs':some cs∈putBoxes h.ids ((bx'.take h.ids.length).map (unBox h.ids σ3.boxes.length g)) σ3.boxes++(bx'.drop h.ids.length).map (unBox h.ids σ3.boxes.length g):=hcs;rcases List.mem_append.1 hcs' with hcs' | hcs'
   ·rcases mem_putBoxes hcs' with hcs' | hcs'
    ·exact m1.stB cs hcs' c hcm
    ·obtain ⟨y,_,hy⟩:=List.mem_map.1 hcs'
     exact hun y hy.symm
   ·obtain ⟨y,_,hy⟩:=List.mem_map.1 hcs'
    exact hun y hy.symm
 refine hfin.done (i:=i) (o':=o1) ?_ ?_ ?_ ?_ ?_ d1 ?_
 ·refine ⟨hfr3.1,fun cs hcs c hcm=>?_⟩
  have hcs':some cs∈putBoxes h.ids ((bx'.take h.ids.length).map (unBox h.ids σ3.boxes.length g)) σ3.boxes++(bx'.drop h.ids.length).map (unBox h.ids σ3.boxes.length g):=hcs;have hun:∀y:Option (List A),some cs=unBox h.ids σ3.boxes.length g y->c.rstamp=none:=by
   intro y hy;cases y with
   | none=>simp[unBox] at hy
   | some cs0=>
    simp only[unBox,Option.map_some,Option.some.injEq] at hy;subst hy;obtain ⟨c0,_,rfl⟩:=List.mem_map.1 hcm;exact (unP_free h.ids σ3.boxes.length g c0).1
  rcases List.mem_append.1 hcs' with hcs' | hcs'
  ·rcases mem_putBoxes hcs' with hcs' | hcs'
   ·exact hfr3.2 cs hcs' c hcm
   ·obtain ⟨y,_,hy⟩:=List.mem_map.1 hcs'
    exact .inl (hun y hy.symm)
  ·obtain ⟨y,_,hy⟩:=List.mem_map.1 hcs'
   exact .inl (hun y hy.symm)
 ·by_cases hsh:res.sh=.any
  ·obtain ⟨sh,cs⟩:=res
   simp only at hsh;subst hsh;obtain ⟨k1,k2⟩:=r1;simp only at k1;subst k1;exact ⟨rfl,k2⟩
  ·obtain ⟨k1,k2⟩:=r1.cells hsh
   have:=RpA.un (L':=fun b=>L3 b\/S' b) (a:=a) (ca:=σ4.cell) (g:=g) hS' hlies m4 hnew.symm k2;rw[hlbl] at this;exact RepV.ofCells hsh k1 this
 ·intro c hcm
  obtain ⟨c0,_,rfl⟩:=List.mem_map.1 hcm;exact .inl (unP_free h.ids σ3.boxes.length g c0).1
 ·intro c hcm s hs
  obtain ⟨c0,_,rfl⟩:=List.mem_map.1 hcm;have:=(unP_free h.ids σ3.boxes.length g c0).2.2 s hs;subst this;exact .inr ⟨rfl,List.mem_cons_self⟩
 ·intro g0 k els hcm
  obtain ⟨c0,_,hc0⟩:=List.mem_map.1 hcm;exact (unP_free h.ids σ3.boxes.length g c0).2.1 _ _ _ hc0
 ·intro b hb
  have hdb:=hdisj b (by simp[hb])
  refine ⟨fun hm=>?_,fun hL=>?_,hnewOwn b (by simp[hb])⟩
  ·rcases List.mem_append.1 hm with hm | hm
   ·exact hdb (.inr (by simp[hm]))
   ·rcases hO' b hm with hm | hm
    ·exact hdb (.inr (by simp[hm]))
    ·exact d3 b hb b hm rfl
  ·rcases hL with hL | hL
   ·exact hdb (.inl hL)
   ·exact (r4 b hL).2 (by simp[hb])
end
end Go.Av
/- Avs, part 26: a region's operations, one behind the other. -/
namespace Go.Av
def aEff (P:Program) (base i:Nat) (dst:Option Tmp) (σ:AS):Op->Option (AV×AS)
 | .assign x=>aAssign i dst σ x
 | .box _ x=>aBox base i σ x
 | .alloc t=>aAlloc P σ t
 | .store t p x=>(aStore P base i σ t p x).map fun s=>(⟨.any,[]⟩,s)
 | .build t parts=>(aBuild P σ t parts).map fun av=>(av,σ)
 | .buildSlice t len parts=>aBuildSlice P i σ t len parts
 | .call ⟨.builtin .append,args,argTypes⟩=>aAppend P i σ args argTypes
 | .makeSlice t l c=>aMake P i σ t l c
 | .convert s d x=>((aopPure P σ (.convert s d x)).or (aText P σ s d x)).map fun av=>(av,σ)
 | op=>(aopPure P σ op).map fun av=>(av,σ)
theorem pure_map {P:Program} {C:Ctx} {i:Nat} {op:Op} {dst:Option Tmp} {σ σ1:AS} {av:AV} (hx:(aopPure P σ op).map (fun av=>(av,σ))=some (av,σ1)):OpOk P C i op dst σ av σ1:=by
 simp only[Option.map_eq_some_iff,Prod.mk.injEq] at hx;obtain ⟨av',h,rfl,rfl⟩:=hx;exact OpOk.pure h
theorem aEff_ok {P:Program} {C:Ctx} {base i:Nat} {op:Op} {dst:Option Tmp} {σ σ1:AS} {av:AV} (hx:aEff P base i dst σ op=some (av,σ1)):OpOk P C i op dst σ av σ1:=by
 unfold aEff at hx
 split at hx
 ·exact assign_ok hx
 ·exact box_ok hx
 ·exact alloc_ok hx
 ·simp only[Option.map_eq_some_iff,Prod.mk.injEq] at hx
  obtain ⟨s,h,rfl,rfl⟩:=hx;exact store_ok h
 ·simp only[Option.map_eq_some_iff,Prod.mk.injEq] at hx
  obtain ⟨s,h,rfl,rfl⟩:=hx;exact build_ok h
 ·exact buildSlice_ok hx
 ·exact append_ok hx
 ·exact make_ok hx
 ·simp only[Option.map_eq_some_iff,Prod.mk.injEq] at hx
  obtain ⟨av',h,rfl,rfl⟩:=hx;rw[Option.or_eq_some_iff] at h;rcases h with h | ⟨_,h⟩
  ·exact OpOk.pure h
  ·exact text_ok h
 ·exact pure_map hx
def aFork (b:Bool) (x y:Unit->Prop):Prop:=(b=true->x ())/\(b=false->y ())
def aCallD (P:Program) (f:FuncId) (cargs:List AV) (cbx:List (Option (List A))) (ids:List Nat) (i:Nat) (dst:Option Tmp) (σm:AS) (K:AS->Prop):Prop:=
 ∃R,enterable P f=true/\ACl P f cargs cbx R/\∀res bx,R res bx->K ((aCallPost ids i σm res bx).2.putO dst (aCallPost ids i σm res bx).1)
def aCallH (P:Program) (h:Hint) (i:Nat) (fop:Operand) (args:Array Operand) (dst:Option Tmp) (σ:AS) (K:AS->Prop):Prop:=
 match aCallPre h i σ fop args.toList with
 | some (f,cargs,cbx,σm)=>aCallD P f cargs cbx h.ids i dst σm K
 | none=>False
def aCall (P:Program) (i:Nat) (fop:Operand) (args:Array Operand) (dst:Option Tmp) (σ:AS) (K:AS->Prop):Prop:=∃h,aCallH P h i fop args dst σ K
def aExec (P:Program) (base:Nat) (i:Nat) (o:Oper) (σ:AS) (K:AS->Prop):Prop:=
 match o.op with
 | .call ⟨.value fop,args,_⟩=>aCall P i fop args o.dst σ K
 | op=>match aEff P base i o.dst σ op with
  | some r=>K (r.2.putO o.dst r.1)
  | none=>False
def AS.known (σ:AS) (ops:Array Oper) (g:Nat) (b:Bool):AS:=match (ops[g]?).bind (·.dst) with
 | some t=>{ σ with slots:=σ.slots.set t ⟨.one,[.lit (.bool b)]⟩ }
 | none=>σ
theorem AS.known_eq {σ:AS} {ops:Array Oper} {g:Nat} {b:Bool} (h:((ops[g]?).bind (·.dst)).bind (σ.slots[·]?)=some ⟨.one,[.lit (.bool b)]⟩):σ.known ops g b=σ:=by
 unfold AS.known;cases hd:(ops[g]?).bind (·.dst) with
 | none=>rfl
 | some t=>
  simp only[hd,Option.bind_some] at h;simp only;obtain ⟨hlt,he⟩:=List.getElem?_eq_some_iff.1 h;rw[<-he,List.set_getElem_self]
def aStep (P:Program) (base:Nat) (ops:Array Oper) (i:Nat) (σ:AS) (K:AS->Prop):Prop:=
 match ops[i]? with
 | none=>K σ
 | some o=>match o.guard with
  | none=>aExec P base i o σ K
  | some (g,want)=>match ((ops[g]?).bind (·.dst)).bind (σ.slots[·]?) with
   | some ⟨.one,[.lit (.bool b)]⟩=>aFork (b == want) (fun _=>aExec P base i o (σ.known ops g want) K) (fun _=>K ((σ.known ops g !want).putO o.dst undefAV))
   | some ⟨.tup [],[]⟩=>K (σ.putO o.dst undefAV)
   | _=>False
def aOps (P:Program) (base:Nat) (ops:Array Oper):List Nat->AS->(AS->Prop)->Prop
 | [],σ,K=>K σ
 | i::rest,σ,K=>aStep P base ops i σ fun σ'=>aOps P base ops rest σ' K
section
variable {P:Program} {C:Ctx} {X:List Nat} {σ:AS} {a:Act} {w:World} {base i:Nat} {ops:Array Oper} {Q:Exit->Act->World->Prop}
theorem Inv.putUndef (h:Inv C X σ a w) (hi:i∉X) (d:Option Tmp):Inv C (i::X) (σ.putO d undefAV) (a.put d undef) w:=by
 obtain ⟨S,L,bl,O1,O2,h⟩:=h;exact (h.mono (fun x hx=>List.mem_cons_of_mem i hx)).done (h.fresh hi) (o':=[]) ⟨⟨#[],rfl,rfl,by simp⟩,rfl,rfl⟩ (fun c hc=>by simp[undefAV] at hc) (fun c hc=>by simp[undefAV] at hc) (fun g k els hm=>by simp[undefAV] at hm) List.nodup_nil (by simp)
theorem aExec_ok {o:Oper} {K:AS->Prop} (hx:aExec P base i o σ K) (h:Inv C X σ a w) (hi:i∉X):o.wp P a w (fun a' w'=>∃σ',K σ'/\Inv C (i::X) σ' a' w') Q:=by
 unfold aExec at hx
 split at hx
 ·rename_i fop args argTypes hop
  obtain ⟨dst,op,type,pos,after,guard⟩:=o;simp only at hop;subst hop;obtain ⟨hh,hx⟩:=hx;unfold aCallH at hx
  split at hx
  ·rename_i f cargs cbx σm hpre
   obtain ⟨R,he,hc,hK⟩:=hx;exact call_ok hpre he hc hK h hi
  ·exact hx.elim
 split at hx
 ·rename_i r hr
  obtain ⟨dst,op,type,pos,after,guard⟩:=o;obtain ⟨n,v,w',h1,h2,h3⟩:=aEff_ok (av:=r.1) (σ1:=r.2) (C:=C) hr X a w h hi type pos after guard;unfold Oper.wp;rw[h1];rcases h2 with rfl | ⟨rfl,rfl⟩
  ·exact ⟨_,hx,h3⟩
  ·exact ⟨_,hx,h3⟩
 ·exact hx.elim
theorem slot_one (h:Inv C X σ a w) {t:Nat} {c:A} (hs:σ.slots[t]?=some ⟨.one,[c]⟩):∃v,a.tmps[t]?=some v/\∀x,c=.lit x->v=x:=by
 obtain ⟨S,L,bl,O1,O2,h⟩:=h;obtain ⟨v,p,o,q,g1,g2,g3,_⟩:=RpS.split t _ h.slots hs;rw[Array.getElem?_toList] at g1;refine ⟨v,g1,?_⟩;rintro x rfl;obtain ⟨h1,h2⟩:=g3;rw[flat_one h1] at h2;obtain ⟨u,us,o1,o2,e1,e2,h3,h4⟩:=h2;simp at e1;rw[e1.1];exact h3.1
theorem slot_undef (h:Inv C X σ a w) {t:Nat} (hs:σ.slots[t]?=some ⟨.tup [],[]⟩):a.tmps[t]?=some undef:=by
 obtain ⟨S,L,bl,O1,O2,h⟩:=h;obtain ⟨v,p,o,q,g1,g2,g3,_⟩:=RpS.split t _ h.slots hs;rw[Array.getElem?_toList] at g1;obtain ⟨⟨vs,rfl,hv,_⟩,_⟩:=g3;have:vs=#[]:=by
  have hl:=congrArg List.length hv;simp at hl;exact hl
 subst this;exact g1
theorem aStep_ok {K:AS->Prop} (hx:aStep P base ops i σ K) (h:Inv C X σ a w) (hi:i∉X):wpOp P ops Q i (fun a' w'=>∃σ',K σ'/\Inv C (i::X) σ' a' w') a w:=by
 unfold aStep at hx;unfold wpOp;cases ho:ops[i]? with
 | none=>
  simp only[ho] at hx |-;obtain ⟨S,L,bl,O1,O2,h⟩:=h;exact ⟨σ,hx,S,L,bl,O1,O2,h.mono (fun x hx=>List.mem_cons_of_mem i hx)⟩
 | some o=>
  simp only[ho] at hx |-;cases hg:o.guard with
  | none=>
   simp only[hg] at hx;have hw:Region.wanted o (yielded ops a.tmps)=true:=by simp[Region.wanted,hg]
   rw[if_pos hw];exact .inl (aExec_ok hx h hi)
  | some gw=>
   obtain ⟨g,want⟩:=gw;simp only[hg] at hx
   split at hx
   ·rename_i b hb
    cases hd:(ops[g]?).bind (·.dst) with
    | none=>simp[hd] at hb
    | some t=>
     simp only[hd,Option.bind_some] at hb;obtain ⟨v,hv1,hv2⟩:=slot_one h hb;have hvb:=hv2 _ rfl;subst hvb;have hy:yielded ops a.tmps g=some b:=by simp[yielded,hd,hv1]
     obtain ⟨hx1,hx2⟩:=hx;have hkn:=AS.known_eq (σ:=σ) (ops:=ops) (g:=g) (b:=b) (by rw[hd];exact hb)
     cases hbw:(b == want) with
     | true=>
      have hw:Region.wanted o (yielded ops a.tmps)=true:=by simp only[Region.wanted,hg,hy];simpa using hbw
      rw[if_pos hw];have hbe:b=want:=by simpa using hbw
      subst hbe;have hx1:=hx1 hbw;rw[hkn] at hx1;exact .inl (aExec_ok hx1 h hi)
     | false=>
      have hw:¬Region.wanted o (yielded ops a.tmps)=true:=by simp only[Region.wanted,hg,hy];simpa using hbw
      rw[if_neg hw];have hbe:b=!want:=by cases b<;>cases want<;>simp_all
      subst hbe;have hx2:=hx2 hbw;rw[hkn] at hx2;exact ⟨_,hx2,h.putUndef hi o.dst⟩
   ·rename_i hb
    cases hd:(ops[g]?).bind (·.dst) with
    | none=>simp[hd] at hb
    | some t=>
     simp only[hd,Option.bind_some] at hb;have hv1:=slot_undef h hb;have hy:yielded ops a.tmps g=none:=by simp[yielded,hd,hv1,undef]
     have hw:¬Region.wanted o (yielded ops a.tmps)=true:=by simp[Region.wanted,hg,hy]
     rw[if_neg hw];exact ⟨_,hx,h.putUndef hi o.dst⟩
   ·exact hx.elim
theorem aOps_ok {K:AS->Prop} (hK:∀X σ a w,K σ->Inv C X σ a w->Q .normal a w):∀(l:List Nat) (X:List Nat) (σ:AS) (a:Act) (w:World),l.Nodup->(∀i∈l,i∉X)->aOps P base ops l σ K->Inv C X σ a w->wpOps P ops Q l a w
 | [],X,σ,a,w,_,_,hx,h=>hK X σ a w hx h
 | i::rest,X,σ,a,w,hn,hd,hx,h=>by
  rw[wpOps_cons];simp only[List.nodup_cons] at hn;refine wpOp_mono ?_ (aStep_ok hx h (hd i List.mem_cons_self));rintro a' w' ⟨σ',hK',h'⟩;refine aOps_ok hK rest (i::X) σ' a' w' hn.2 (fun j hj hm=>?_) hK' h';rcases List.mem_cons.1 hm with rfl | hm
  ·exact hn.1 hj
  ·exact hd j (List.mem_cons_of_mem _ hj) hm
end
def AS.next (σ:AS):AS:={ σ with epoch:=σ.epoch+1 }
theorem Inv.next {C:Ctx} {X:List Nat} {σ:AS} {a:Act} {w:World} (h:Inv C X σ a w):Inv C [] σ.next a w:=by
 obtain ⟨S,L,bl,O1,O2,h⟩:=h;have key:∀c,stampIn X σ.epoch c->stampIn [] (σ.epoch+1) c:=fun c hc g hg=>by
  rcases hc g hg with h1 | ⟨h1,_⟩
  ·exact .inl (Nat.lt_succ_of_lt h1)
  ·exact .inl (by omega)
 exact ⟨S,L,bl,O1,O2,h.defers,h.slots,h.boxes,h.nodup,h.sl,h.stable,h.s0,h.keeps,h.own,h.pre,fun av hav c hc=>key c (h.stS av hav c hc),fun cs hcs c hc=>key c (h.stB cs hcs c hc)⟩
def AWp (P:Program) (C:Ctx) (c:Code) (σ:AS) (Q:Exit->AS->Prop):Prop:=
 ∀a w,Inv C [] σ a w->c.wp P (fun e a' w'=>∃σ',Q e σ'/\Inv C [] σ' a' w') a w
section
variable {P:Program} {C:Ctx} {σ:AS} {Q:Exit->AS->Prop}
theorem AWp.mono {c:Code} {Q':Exit->AS->Prop} (h:AWp P C c σ Q) (hq:∀e σ,Q e σ->Q' e σ):AWp P C c σ Q':=
 fun a w hi=>wp_mono (h a w hi) fun _ _ _ ⟨σ',h1,h2⟩=>⟨σ',hq _ _ h1,h2⟩
def thenA (next:AS->Prop) (Q:Exit->AS->Prop):Exit->AS->Prop
 | .normal,σ=>next σ
 | e,σ=>Q e σ
theorem AWp.seq {x y:Code} (h:AWp P C x σ (thenA (fun σ'=>AWp P C y σ' Q) Q)):AWp P C (.seq x y) σ Q:=by
 intro a w hi;refine wp_seq (wp_mono (h a w hi) ?_);rintro e a' w' ⟨σ',h1,h2⟩;cases e<;>first | exact h1 a' w' h2 | exact ⟨σ',h1,h2⟩
theorem AWp.skip (h:Q .normal σ):AWp P C .skip σ Q:=fun _ _ hi=>wp_skip ⟨σ,h,hi⟩
theorem AWp.ret (h:Q .ret σ):AWp P C .ret σ Q:=fun _ _ hi=>wp_ret ⟨σ,h,hi⟩
theorem AWp.exit {id:Nat} (h:Q (.exit id) σ):AWp P C (.exit id) σ Q:=fun _ _ hi=>wp_exit ⟨σ,h,hi⟩
theorem AWp.region {base:Nat} {id:Nat} {ops:Array Oper} (h:aOps P base ops (List.range ops.size) σ fun σ'=>Q .normal σ'.next):AWp P C (.region id ops false) σ Q:=
 fun _ _ hi=>wp_region (aOps_ok (fun _ _ _ _ hq hv=>⟨_,hq,hv.next⟩) _ [] _ _ _ List.nodup_range (by simp) h hi)
theorem AWp.cond {c:Operand} {x y:Code} {b:Bool} (hc:σ.ev c=some ⟨.one,[.lit (.bool b)]⟩) (h1:b=true->AWp P C x σ Q) (h2:b=false->AWp P C y σ Q):AWp P C (.cond c x y) σ Q:=by
 intro a w hi;obtain ⟨S,L,bl,O1,O2,h⟩:=id hi;obtain ⟨e,_,_⟩:=(h.ev hc).lit? (x:=.bool b) rfl;exact wp_cond_split e (fun hb=>h1 hb a w hi) (fun hb=>h2 hb a w hi)
def inBlockA (id:Nat) (Q:Exit->AS->Prop):Exit->AS->Prop
 | .exit id',σ=>if id'=id then Q .normal σ else Q (.exit id') σ
 | e,σ=>Q e σ
theorem AWp.block {id:Nat} {c:Code} (h:AWp P C c σ (inBlockA id Q)):AWp P C (.block id c) σ Q:=by
 intro a w hi;refine wp_block (wp_mono (h a w hi) ?_);rintro e a' w' ⟨σ',h1,h2⟩;cases e<;>first
  | exact ⟨σ',h1,h2⟩
  | (rename_i id';simp only[Exit.inBlock,inBlockA] at h1 |-;split at h1;(rename_i hid;subst hid;simp only[if_true];exact ⟨σ',h1,h2⟩);(rename_i hid;rw[if_neg hid];exact ⟨σ',h1,h2⟩))
theorem AWp.loop {c:Code} (I:Nat->AS->Prop) {n:Nat} (h0:I n σ) (round:∀n σ,I n σ->AWp P C c σ (thenA (fun σ'=>∃m,m < n/\I m σ') Q)):AWp P C (.loop c) σ Q:=by
 have key:∀n σ,I n σ->∀a w,Inv C [] σ a w->∀(b:Frame) (k:List Item) (cs:List Frame),
   ∃e a' w',(∃σ',Q e σ'/\Inv C [] σ' a' w')/\Arrives P (lone (b.at a (.code c::.inLoop c::k)) cs w) b k cs e a' w':=by
  intro n
  induction n using Nat.strongRecOn with
  | _ n ih=>
   intro σ hI a w hi b k cs;obtain ⟨e,a₁,w₁,⟨σ',hq,hv⟩,harr⟩:=round n σ hI a w hi b (.inLoop c::k) cs;cases e with
   | normal=>
    obtain ⟨m,hlt,hI₁⟩:=hq;obtain ⟨e₂,a₂,w₂,hq₂,harr₂⟩:=ih m hlt σ' hI₁ a₁ w₁ hv b k cs;exact ⟨e₂,a₂,w₂,hq₂,.of_steps (Steps.trans harr (.one step_inLoop)) harr₂⟩
   | exit id=>exact ⟨_,a₁,w₁,⟨σ',hq,hv⟩,.pass (x:=.inLoop c) rfl (fun _ _=>.inl (by simp)) harr⟩
   | goto l=>exact ⟨_,a₁,w₁,⟨σ',hq,hv⟩,.pass (x:=.inLoop c) rfl (fun _ _=>.inl (by simp)) harr⟩
   | ret=>exact ⟨_,a₁,w₁,⟨σ',hq,hv⟩,.pass (x:=.inLoop c) rfl (fun _ _=>.inl (by simp)) harr⟩
   | panic ch=>exact ⟨_,a₁,w₁,⟨σ',hq,hv⟩,.pass (x:=.inLoop c) rfl (fun _ _=>.inl (by simp)) harr⟩
   | outgrown=>exact ⟨_,a₁,w₁,⟨σ',hq,hv⟩,.pass (x:=.inLoop c) rfl (fun _ _=>.inl (by simp)) harr⟩
 intro a w hi b k cs;obtain ⟨e,a',w',hq,harr⟩:=key n σ h0 a w hi b k cs;exact ⟨e,a',w',hq,.of_steps (.one step_loop) harr⟩
end
end Go.Av
/- Avs, part 27: functions are entered and left. -/
namespace Go.Av
section
variable {P:Program} {C:Ctx} {X:List Nat} {σ:AS} {a:Act} {w:World} {S L:Nat->Prop} {bl O1 O2:List Nat}
def aPost (P:Program) (base:Nat) (rs:List ResultVar) (R:AV->List (Option (List A))->Prop):Exit->AS->Prop
 | .normal,σ | .ret,σ=>match aRes P base rs σ with
  | some r=>R r.1 r.2
  | none=>False
 | _,_=>False
theorem aPost_some {base:Nat} {rs:List ResultVar} {R:AV->List (Option (List A))->Prop} {e:Exit} {σ:AS} (h:aPost P base rs R e σ):(e=.normal\/e=.ret)/\∃r,aRes P base rs σ=some r/\R r.1 r.2:=by
 unfold aPost at h
 split at h
 ·split at h
  ·rename_i r hr;exact ⟨.inl rfl,r,hr,h⟩
  ·exact h.elim
 ·split at h
  ·rename_i r hr;exact ⟨.inr rfl,r,hr,h⟩
  ·exact h.elim
 ·exact h.elim
theorem acalls_of {f:FuncId} {fn:Func} {c:Code} {args:List AV} {bx:List (Option (List A))} {R:AV->List (Option (List A))->Prop} (hf:P.funcs[f]?=some fn) (hb:fn.body=some c)
  (hA:∀av∈args,stampFree av.cs) (hB:∀cs,some cs∈bx->stampFree cs)
  (h:∀C,C.bl0.length=bx.length->AWp P C c (startAS args fn.ntmps bx) (aPost P bx.length fn.results.toList R)):ACl P f args bx R:=by
 intro w vals S L bl O1 O2 h1 h2 hn hsl hst;refine calls_of_wp hf hb ?_;have hlen:=RpS.length h1;have hlen':vals.size=args.length:=by simpa using hlen
 have hinv:Inv ⟨w,O1++O2,S,bl⟩ [] (startAS args fn.ntmps bx) { tmps:=vals++Array.replicate (fn.ntmps - vals.size) undef,defers:=[] } w:=by
  refine ⟨S,L,bl,O1,O2,rfl,?_,?_,hn,hsl,hst,⟨fun _ h=>h,fun _ h=>.inl h⟩,.refl _ _,fun b hb=>.inl hb,List.prefix_rfl,?_,?_⟩
  ·have:=(RpS.free (a':={ tmps:=vals++Array.replicate (fn.ntmps - vals.size) undef,defers:=[] }) (ca':=(startAS args fn.ntmps bx).cell) (fun av hav c hc=>(hA av hav c hc).2) h1).append (RpS.undef (fn.ntmps - args.length))
   simpa [startAS,startSlots,hlen'] using this
  ·exact RpB.free (fun cs hcs c hc=>(hB cs hcs c hc).2) h2
  ·intro av hav c hc
   simp only[startAS,startSlots,List.mem_append] at hav;rcases hav with hav | hav
   ·exact (hA av hav c hc).1
   ·have:=List.eq_of_mem_replicate hav
    subst this;simp[undefAV] at hc
  ·intro cs hcs c hc
   exact (hB cs hcs c hc).1
 refine wp_mono (h ⟨w,O1++O2,S,bl⟩ (RpB.length h2) _ w hinv) ?_;rintro e a' w' ⟨σ',hpost,S',L',bl',O1',O2',hv⟩;obtain ⟨he,r,hr,hR⟩:=aPost_some hpost;have fin:a'.defers=[]/\∃v,(results fn a'.tmps).run P w'=.ok v w'/\∃res bx' S' bl' o1 o2,R res bx'/\RepV (Env.zero S' S' bl' w') res v o1/\RpB (Env.zero S' S' bl' w') bx' bl' o2/\
   (o1++o2).Nodup/\(∀b,S' b->b < w'.heap.size/\b∉o1++o2)/\(∀b,S b->S' b)/\(∀b,S' b->S b\/b∈O1++O2\/w.heap.size<=b)/\Keeps (O1++O2) w w'/\
   (∀b∈o1++o2,b∈O1++O2\/w.heap.size<=b)/\bl <+: bl':=by
  refine ⟨hv.defers,?_⟩;simp only[aRes,Option.bind_eq_some_iff] at hr;obtain ⟨av,hav,hr⟩:=hr;generalize hnb:resNb bx.length (tkC (mvAll bx.length) (σ'.epoch,0) av.cs σ')=nb at hr;obtain ⟨hl,rfl⟩:=ite_some hr;simp only[Bool.and_eq_true,List.all_eq_true,decide_eq_true_eq] at hl;obtain ⟨v,r1,r2,r3,r4,r5⟩:=aResAll_ok (P:=P) hv hav;have hv0:=hv.mono (X':=[0]) (fun _ h=>by simp at h)
  have hrep:RpA ⟨S',L',bl',a',w',σ'.cell⟩ av.cs (flat v) []:=(r2.cells r5).2;have hF:Fresh σ' (σ'.epoch,0):=hv.fresh (by simp)
  obtain ⟨O1'',O2'',o',g1,g2,g3,g4,g5,g6,g7,g8,g9,g10,g11,g12,g13,g14⟩:=takeCells_ok (mvAll bx.length) (i:=0) hv0 (by simp) hF hrep (fun c hc=>(r3 c hc).mono (fun _ h=>by simp at h)) (fun c hc=>(r3 c hc).ne (by simp)) r4
  obtain ⟨o2,k1,k2⟩:=RpB.leave (nb:=nb) nb g1.boxes;have hnd:=g1.nodup;rw[List.nodup_append] at hnd;refine ⟨v,r1,_,_,S',bl'.take nb,o',o2,hR,?_,k1,?_,?_,hv.s0.1,hv.s0.2,hv.keeps,?_,?_⟩
  ·exact RepV.ofCells r5 (r2.cells r5).1 (RpA.leave hl.1 g2)
  ·rw[List.nodup_append]
   exact ⟨g3,hnd.2.1.sublist k2,fun x hx y hy he=>(g4 x hx).1 (by rw[he];simp[k2.subset hy])⟩
  ·intro b hb
   have hLb:=hv.sl b hb;refine ⟨(hv.stable b hLb).1,fun hm=>?_⟩;rcases List.mem_append.1 hm with hm | hm
   ·exact (g4 b hm).2.1 hLb
   ·exact (g1.stable b hLb).2 (by simp[k2.subset hm])
  ·intro b hb
   rcases List.mem_append.1 hb with hb | hb
   ·exact (g4 b hb).2.2
   ·exact g1.own b (by simp[k2.subset hb])
  ·have hp:bl <+: bl':=hv.pre
   obtain ⟨r,hr⟩:=hp;have:=RpB.length h2;rw[<-hr,List.take_append,List.take_of_length_le (by omega)]
   exact List.prefix_append _ _
 rcases he with rfl | rfl
 ·obtain ⟨f1,v,f2,f3⟩:=fin
  exact ⟨f1,v,f2,v,rfl,f3⟩
 ·obtain ⟨f1,v,f2,f3⟩:=fin
  exact ⟨f1,v,f2,v,rfl,f3⟩
end
end Go.Av
/- Avs, part 29: a state is let grow vague (at the head of a loop). -/
namespace Go.Av
def wkCell (nb:Nat) (o:Option Nat):A->Option A
 | .nil=>match o with
  | some k=>some (.ow (0,0) k [])
  | none=>some .nil
 | .sref .. | .eptr ..=>none
 | c=>if ptrOk nb c then some c.reset else none
def wkCells (nb:Nat) (kk:Nat->Option Nat):Nat->List A->Option (List A)
 | _,[]=>some []
 | j,c::cs=>(wkCell nb (kk j) c).bind fun d=>(wkCells nb kk (j+1) cs).map fun q=>d::q
def wkSlots (nb:Nat) (keep:Nat->Bool) (kk:Root->Nat->Option Nat):Nat->List AV->Option (List AV)
 | _,[]=>some []
 | t,av::avs=>(if keep t then (wkCells nb (kk (.slot t)) 0 av.cs).map fun cs=>⟨av.sh,cs⟩ else some ⟨.any,[]⟩).bind fun d=>(wkSlots nb keep kk (t+1) avs).map fun q=>d::q
def wkBoxes (nb:Nat) (kk:Root->Nat->Option Nat):Nat->List (Option (List A))->Option (List (Option (List A)))
 | _,[]=>some []
 | b,none::bs=>if b < nb then (wkBoxes nb kk (b+1) bs).map fun q=>none::q else some []
 | b,some cs::bs=>if b < nb then (wkCells nb (kk (.box b)) 0 cs).bind fun d=>(wkBoxes nb kk (b+1) bs).map fun q=>some d::q else some []
def wk (nb:Nat) (keep:Nat->Bool) (kk:Root->Nat->Option Nat) (σ:AS):Option AS:=
 (wkSlots nb keep kk 0 σ.slots).bind fun s=>(wkBoxes nb kk 0 σ.boxes).map fun b=>⟨s,b,1⟩
section
variable {P:Program} {C:Ctx} {X:List Nat} {σ:AS} {a:Act} {w:World} {S L:Nat->Prop} {bl O1 O2:List Nat}
theorem wkCell_ok {nb:Nat} {o:Option Nat} {ca ca':Root->Nat->Option A} {c d:A} {u:Value} {own:List Nat} (hx:wkCell nb o c=some d) (h:RepA ⟨S,L,bl,a,w,ca⟩ c u own) :
  RepA ⟨S,L,bl.take nb,a,w,ca'⟩ d u own/\d.rstamp=none/\∀g,d.stamp=some g->g=(0,0):=by
 cases c with
 | nil=>
  cases o with
  | none=>simp only[wkCell,Option.some.injEq] at hx;subst hx;exact ⟨h,rfl,by simp[A.stamp]⟩
  | some k=>
   simp only[wkCell,Option.some.injEq] at hx;subst hx;obtain ⟨⟨ad,rfl⟩,rfl⟩:=h;exact ⟨⟨ad,0,by simp,by simp,by simp,.inl ⟨rfl,rfl,rfl⟩⟩,rfl,by intro g hg;simp[A.stamp] at hg;exact hg.symm⟩
 | sref r c g lo len=>simp[wkCell] at hx
 | eptr r c g i off=>simp[wkCell] at hx
 | ptr b off=>
  simp only[wkCell] at hx;obtain ⟨h1,rfl⟩:=ite_some hx;obtain ⟨h0,blk,h2,rfl⟩:=h;simp only[ptrOk,decide_eq_true_eq] at h1;exact ⟨⟨h0,blk,by simp only[List.getElem?_take,if_pos h1];exact h2,rfl⟩,rfl,by simp[A.stamp,A.reset]⟩
 | fn f caps=>
  simp only[wkCell] at hx;obtain ⟨h1,rfl⟩:=ite_some hx;obtain ⟨h0,vs,h2,h3,h4⟩:=h;refine ⟨⟨h0,vs,h2,h3,fun j b off hj=>?_⟩,rfl,by simp[A.stamp,A.reset]⟩
  obtain ⟨blk,k1,k2⟩:=h4 j b off hj;simp only[ptrOk,List.all_eq_true,decide_eq_true_eq] at h1;exact ⟨blk,by simp only[List.getElem?_take,if_pos (h1 (b,off) (List.mem_of_getElem? hj))];exact k1,k2⟩
 | ow g k els=>
  simp only[wkCell] at hx;obtain ⟨h1,rfl⟩:=ite_some hx;exact ⟨h,rfl,by intro g hg;simp[A.stamp,A.reset] at hg;exact hg.symm⟩
 | _=>
  simp only[wkCell] at hx;obtain ⟨h1,rfl⟩:=ite_some hx;exact ⟨h,rfl,by simp[A.stamp,A.reset]⟩
def Plain (cs:List A):Prop:=∀c∈cs,c.rstamp=none/\∀g,c.stamp=some g->g=(0,0)
theorem wkCells_ok {nb:Nat} {kk:Nat->Option Nat} {ca ca':Root->Nat->Option A}:∀{cs ds:List A} {j:Nat} {us:List Value} {own:List Nat},wkCells nb kk j cs=some ds->RpA ⟨S,L,bl,a,w,ca⟩ cs us own->RpA ⟨S,L,bl.take nb,a,w,ca'⟩ ds us own/\Plain ds
 | [],ds,j,us,own,hx,h=>by simp[wkCells] at hx;subst hx;exact ⟨h,by simp[Plain]⟩
 | c::cs,ds,j,us,own,hx,h=>by
  simp only[wkCells,Option.bind_eq_some_iff,Option.map_eq_some_iff] at hx;obtain ⟨d,hd,q,hq,rfl⟩:=hx;obtain ⟨u,us',o1,o2,h1,h2,h3,h4⟩:=h;obtain ⟨k1,k2⟩:=wkCell_ok (ca':=ca') hd h3;obtain ⟨k3,k4⟩:=wkCells_ok (ca':=ca') hq h4;refine ⟨⟨u,us',o1,o2,h1,h2,k1,k3⟩,fun c hc=>?_⟩;rcases List.mem_cons.1 hc with rfl | hc
  ·exact k2
  ·exact k4 c hc
theorem wkSlots_ok {nb:Nat} {keep:Nat->Bool} {kk:Root->Nat->Option Nat} {ca ca':Root->Nat->Option A}:∀{sl sl':List AV} {t:Nat} {us:List Value} {own:List Nat},wkSlots nb keep kk t sl=some sl'->RpS ⟨S,L,bl,a,w,ca⟩ sl us own->
  ∃own',RpS ⟨S,L,bl.take nb,a,w,ca'⟩ sl' us own'/\List.Sublist own' own/\∀av∈sl',Plain av.cs
 | [],sl',t,us,own,hx,h=>by simp[wkSlots] at hx;subst hx;exact ⟨own,h,List.Sublist.refl _,by simp⟩
 | av::sl,sl',t,us,own,hx,h=>by
  simp only[wkSlots,Option.bind_eq_some_iff,Option.map_eq_some_iff] at hx;obtain ⟨d,hd,q,hq,rfl⟩:=hx;obtain ⟨u,us',o1,o2,rfl,rfl,h3,h4⟩:=h;obtain ⟨ow',k1,k2,k3⟩:=wkSlots_ok (ca':=ca') hq h4
  split at hd
  ·simp only[Option.map_eq_some_iff] at hd
   obtain ⟨ds,hds,rfl⟩:=hd;have key:∀sh,shOk sh u->sh≠.any->RpA ⟨S,L,bl,a,w,ca⟩ av.cs (flat u) o1->RepV ⟨S,L,bl.take nb,a,w,ca'⟩ ⟨sh,ds⟩ u o1/\Plain ds:=fun sh h1 h2 h3=>by
    obtain ⟨m1,m2⟩:=wkCells_ok (ca':=ca') hds h3;exact ⟨RepV.ofCells h2 h1 m1,m2⟩
   have hv:RepV ⟨S,L,bl.take nb,a,w,ca'⟩ ⟨av.sh,ds⟩ u o1/\Plain ds:=by
    by_cases hs:av.sh=.any
    ·obtain ⟨sh,cs⟩:=av
     simp only at hs;subst hs;obtain ⟨e1,e2⟩:=h3;simp only at e1;subst e1;simp[wkCells] at hds;subst hds;exact ⟨⟨rfl,e2⟩,by simp[Plain]⟩
    ·obtain ⟨e1,e2⟩:=h3.cells hs
     exact key _ e1 hs e2
   refine ⟨o1++ow',⟨u,us',o1,ow',rfl,rfl,hv.1,k1⟩,List.Sublist.append (List.Sublist.refl _) k2,fun x hx=>?_⟩;rcases List.mem_cons.1 hx with rfl | hx
   ·exact hv.2
   ·exact k3 x hx
  ·simp only[Option.some.injEq] at hd
   subst hd;refine ⟨ow',⟨u,us',[],ow',rfl,rfl,⟨rfl,rfl⟩,k1⟩,k2.trans (List.sublist_append_right _ _),fun x hx=>?_⟩;rcases List.mem_cons.1 hx with rfl | hx
   ·simp[Plain]
   ·exact k3 x hx
theorem wkBoxes_ok {nb:Nat} {kk:Root->Nat->Option Nat} {ca ca':Root->Nat->Option A}:∀{bx bx':List (Option (List A))} {b:Nat} {bs own:List Nat},b<=nb->wkBoxes nb kk b bx=some bx'->RpB ⟨S,L,bl,a,w,ca⟩ bx bs own->
  ∃own',RpB ⟨S,L,bl.take nb,a,w,ca'⟩ bx' (bs.take (nb - b)) own'/\List.Sublist own' own/\∀cs,some cs∈bx'->Plain cs
 | [],bx',b,bs,own,_,hx,h=>by
  simp[wkBoxes] at hx;subst hx;obtain ⟨rfl,rfl⟩:=h;exact ⟨[],⟨by simp,rfl⟩,List.Sublist.refl _,by simp⟩
 | x::bx,bx',b,bs,own,hb,hx,h=>by
  obtain ⟨blk,bs',o1,o2,rfl,rfl,h3,h4⟩:=h
  by_cases hlt:b < nb
  ·have hn:nb - b=(nb - (b+1))+1:=by omega
   rw[hn,List.take_succ_cons];cases x with
   | none=>
    simp only[wkBoxes,if_pos hlt,Option.map_eq_some_iff] at hx;obtain ⟨q,hq,rfl⟩:=hx;obtain ⟨ow',k1,k2,k3⟩:=wkBoxes_ok (ca':=ca') (by omega) hq h4
    simp only[RepBox] at h3;subst h3;exact ⟨ow',⟨blk,_,[],ow',rfl,rfl,rfl,k1⟩,k2,fun cs hcs=>k3 cs (by simpa using hcs)⟩
   | some cs=>
    simp only[wkBoxes,if_pos hlt,Option.bind_eq_some_iff,Option.map_eq_some_iff] at hx;obtain ⟨d,hd,q,hq,rfl⟩:=hx;obtain ⟨ow',k1,k2,k3⟩:=wkBoxes_ok (ca':=ca') (by omega) hq h4
    obtain ⟨o,arr,ty,m1,m2,m3⟩:=h3;obtain ⟨e1,e2⟩:=wkCells_ok (ca':=ca') hd m3;refine ⟨o1++ow',⟨blk,_,o1,ow',rfl,rfl,⟨o,arr,ty,m1,m2,e1⟩,k1⟩,List.Sublist.append (List.Sublist.refl _) k2,fun y hy=>?_⟩;simp only[List.mem_cons,Option.some.injEq] at hy;rcases hy with rfl | hy
    ·exact e2
    ·exact k3 y hy
  ·have hn:nb - b=0:=by omega
   have hbx:bx'=[]:=by cases x<;>simp[wkBoxes,hlt] at hx<;>exact hx
   subst hbx;rw[hn];exact ⟨[],⟨by simp,rfl⟩,List.nil_sublist _,by simp⟩
theorem wk_ok {nb:Nat} {keep:Nat->Bool} {kk:Root->Nat->Option Nat} {σ':AS} (hx:wk nb keep kk σ=some σ') (hC:C.bl0.length<=nb) (h:Inv C X σ a w):Inv C [] σ' a w:=by
 obtain ⟨S,L,bl,O1,O2,h⟩:=h;simp only[wk,Option.bind_eq_some_iff,Option.map_eq_some_iff] at hx;obtain ⟨sl,hsl,bx,hbx,rfl⟩:=hx;obtain ⟨o1,s1,s2,s3⟩:=wkSlots_ok (ca':=(⟨sl,bx,1⟩:AS).cell) hsl h.slots;obtain ⟨o2,t1,t2,t3⟩:=wkBoxes_ok (ca':=(⟨sl,bx,1⟩:AS).cell) (Nat.zero_le _) hbx h.boxes;have hsub:=List.Sublist.append s2 t2;have hst:∀cs,Plain cs->∀c∈cs,stampIn [] 1 c:=fun cs hcs c hc g hg=>by
  rw[(hcs c hc).2 g hg];exact .inl (by simp)
 refine ⟨S,L,bl.take nb,o1,o2,h.defers,s1,by simpa using t1,h.nodup.sublist hsub,h.sl,fun b hb=>⟨(h.stable b hb).1,fun hm=>(h.stable b hb).2 (hsub.subset hm)⟩,h.s0,h.keeps,fun b hb=>h.own b (hsub.subset hb),?_,fun av hav=>hst _ (s3 av hav),fun cs hcs=>hst _ (t3 cs hcs)⟩
 obtain ⟨r,hr⟩:=h.pre;rw[<-hr,List.take_append,List.take_of_length_le hC];exact List.prefix_append _ _
theorem AWp.weaken {nb:Nat} {keep:Nat->Bool} {kk:Root->Nat->Option Nat} {c:Code} {Q:Exit->AS->Prop} {σ':AS} (hC:C.bl0.length<=nb) (hx:wk nb keep kk σ=some σ') (h:AWp P C c σ' Q):AWp P C c σ Q:=
 fun a w hi=>h a w (wk_ok hx hC hi)
def wkThen (nb:Nat) (keep:Nat->Bool) (kk:Root->Nat->Option Nat) (σ:AS) (K:AS->Prop):Prop:=match wk nb keep kk σ with
 | some σ'=>K σ'
 | none=>False
theorem AWp.loopW {nb:Nat} {keep:Nat->Bool} {kk:Root->Nat->Option Nat} {c:Code} {Q:Exit->AS->Prop} (I:Nat->AS->Prop) (hC:C.bl0.length<=nb) (h0:wkThen nb keep kk σ fun σ'=>∃n,I n σ')
  (round:∀n σ,I n σ->AWp P C c σ (thenA (fun σ'=>wkThen nb keep kk σ' fun σ''=>∃m,m < n/\I m σ'') Q)):AWp P C (.loop c) σ Q:=by
 unfold wkThen at h0
 split at h0
 ·rename_i σ' hx
  obtain ⟨n,hn⟩:=h0;refine AWp.weaken hC hx (AWp.loop I hn fun n σ hI=>?_);intro a w hi;refine wp_mono (round n σ hI a w hi) ?_;rintro e a' w' ⟨σ1,h1,h2⟩;cases e<;>first
   | exact ⟨σ1,h1,h2⟩
   | (simp only[thenA,wkThen] at h1;split at h1;(rename_i σ2 hx2;exact ⟨σ2,h1,wk_ok hx2 hC h2⟩);(exact h1.elim))
 ·exact h0.elim
def vag (n:Nat) (l:List (Nat×AV)):List AV:=(List.range n).map fun t=>(l.lookup t).getD ⟨.any,[]⟩
end
end Go.Av
