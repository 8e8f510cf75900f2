/- Part D3 of the proof: Avs, part 41: in whatever order the operations are taken, the frame ends in the same state. -/
import Derived.Test.YtfobhlmjcnkpiaaGreatDoorD2
set_option linter.all false
/- Avs, part 41: in whatever order the operations are taken, the frame ends in the same state. -/
namespace Go.Gv
open Go.Av
variable {P:Program} {ts:Nat->Option TI} {ops:Array Oper} {C:Ctx} {Q:Exit->Act->World->Prop} {K:AS->Prop} {base:Nat}
theorem ME0 {o:Oper} {acc:List Prop} {kn:List (Nat×Bool)} {pend:List (Nat×AV)} {σ:AS} {K:List Prop->List (Nat×Bool)->List (Nat×AV)->AS->Bool->Prop}
  (hK:∀acc kn pend σ go,K acc kn pend σ go->∀p∈acc,p) (h:hE0 ops o acc kn pend σ K):∀p∈acc,p:=by
 unfold hE0 at h
 split at h
 ·exact hK _ _ _ _ _ h
 ·split at h
  ·rename_i b hb
   split at h
   ·rw[out_iff] at h;exact h.1
   ·cases b<;>exact hK _ _ _ _ _ h
  ·exact hK _ _ _ _ _ h
  ·exact h.elim
theorem rF1 (hts:∀n ti,ts n=some ti->tyOf P n=some ti) {i:Nat} {o:Oper} {acc:List Prop} {σ:AS} {go:Bool} {K:List Prop->AS->Prop} (hK:∀acc σ,K acc σ->∀p∈acc,p) (h:gGo .std ts go P base i o acc σ K):∀p∈acc,p:=by
 cases go with
 | true=>exact (vN0 hts (K':=fun _=>True) (fun acc σ hk=>⟨hK acc σ hk,trivial⟩) h).1
 | false=>exact hK _ _ h
def Lst (listed:Array Bool) (i:Nat):Prop:=listed.getD i false=true
theorem qQ0 (hs:NN0 ops=true) {q:Nat} {o:Oper} (hq:ops[q]?=some o) (hp:yP0 o.op=true) {d:Nat} (hd:o.dst=some d) {j:Nat} {oj:Oper} (hj:ops[j]?=some oj) :
  (j≠q->oj.dst≠some d)/\(d∈oj.looksAt ops->q∈deps oj):=by
 unfold NN0 at hs;rw[List.all_eq_true] at hs;have:=hs q (List.mem_range.2 (Array.getElem?_eq_some_iff.1 hq).1);simp only[hq,hp,hd] at this;rw[List.all_eq_true] at this;have:=this j (List.mem_range.2 (Array.getElem?_eq_some_iff.1 hj).1);simp only[hj,Bool.and_eq_true,Bool.or_eq_true,beq_iff_eq,bne_iff_ne,ne_eq,Bool.not_eq_true',List.contains_eq_mem,decide_eq_true_eq,decide_eq_false_iff_not] at this
 exact ⟨fun h=>this.1.resolve_left h,fun h=>this.2.resolve_left fun h'=>h' h⟩
def Zof (ops:Array Oper) (listed:Array Bool) (t:Nat):Prop:=∃q o,ops[q]?=some o/\yP0 o.op=true/\¬Lst listed q/\o.dst=some t
theorem QB0 (hs:NN0 ops=true) {listed:Array Bool} {i:Nat} {o:Oper} (ho:ops[i]?=some o) (hd:∀d∈deps o,Lst listed d):∀t∈o.looksAt ops,¬Zof ops listed t:=by
 rintro t ht ⟨q,oq,h1,h2,h3,h4⟩;exact h3 (hd q ((qQ0 hs h1 h2 h4 ho).2 ht))
theorem tL0 {listed:Array Bool} (hn:listed.size=ops.size) {i:Nat}:i∈Region.ready .any ops listed↔∃o,ops[i]?=some o/\¬Lst listed i/\∀d∈deps o,Lst listed d:=by
 unfold Region.ready;simp only[List.mem_filter,List.mem_range,Bool.and_eq_true,Bool.not_eq_true']
 constructor
 ·rintro ⟨h1,h2,h3⟩
  refine ⟨ops[i],Array.getElem?_eq_getElem h1,?_,?_⟩
  ·unfold Lst
   have h4:i < listed.size:=by omega
   simp only[Array.getD_eq_getD_getElem?,Array.getElem?_eq_getElem h4,Option.getD_some] at h2 |-;simp[h2]
  ·rw[Array.getElem?_eq_getElem h1] at h3
   simp only[Option.map_some,Option.getD_some] at h3;intro d hd;simp only[deps,List.mem_map,List.mem_filter] at hd;obtain ⟨e,⟨h4,h5⟩,rfl⟩:=hd;rw[Array.all_eq_true'] at h3;have:=h3 e (by simpa using h4)
   rw[h5] at this;simpa [Lst] using this
 ·rintro ⟨o,h1,h2,h3⟩
  obtain ⟨h4,h5⟩:=Array.getElem?_eq_some_iff.1 h1;refine ⟨h4,?_,?_⟩
  ·have h6:i < listed.size:=by omega
   unfold Lst at h2;simp only[Array.getD_eq_getD_getElem?,Array.getElem?_eq_getElem h6,Option.getD_some] at h2 |-;simpa using h2
  ·rw[h1]
   simp only[Option.map_some,Option.getD_some];rw[Array.all_eq_true'];intro e he;cases hb:Region.binds .any e with
   | false=>rfl
   | true=>
    have:=h3 e.on (by simp only[deps,List.mem_map,List.mem_filter];exact ⟨e,⟨by simpa using he,hb⟩,rfl⟩)
    unfold Lst at this;simp[this]
theorem Lst.set {listed:Array Bool} {i:Nat} (hi:i < listed.size) {j:Nat}:Lst (listed.setIfInBounds i true) j↔j=i\/Lst listed j:=by
 unfold Lst;simp only[Array.getD_eq_getD_getElem?]
 by_cases h:i=j
 ·subst h
  simp[hi]
 ·rw[Array.getElem?_setIfInBounds_ne h]
  simp[Ne.symm h]
def left (n:Nat) (listed:Array Bool):Nat:=((List.range n).filter fun i=>!listed.getD i false).length
theorem bM0 {n:Nat} {listed:Array Bool} {i:Nat} (hn:listed.size=n) (hi:i < n) (hl:¬Lst listed i):left n (listed.setIfInBounds i true)+1<=left n listed:=by
 unfold left;have hsub:∀l:List Nat,l.Nodup->((l.filter fun j=>!(listed.setIfInBounds i true).getD j false).length+(if i∈l then 1 else 0))=(l.filter fun j=>!listed.getD j false).length:=by
  intro l
  induction l with
  | nil=>simp
  | cons x l ih=>
   intro hnd;rw[List.nodup_cons] at hnd;have ih:=ih hnd.2
   by_cases hx:x=i
   ·subst hx
    have e1:(listed.setIfInBounds x true).getD x false=true:=(Lst.set (listed:=listed) (i:=x) (by omega)).2 (.inl rfl)
    have e2:listed.getD x false=false:=by simpa [Lst] using hl
    rw[if_neg hnd.1] at ih;simp only[List.filter_cons,e1,e2,Bool.not_true,Bool.not_false,if_true,List.mem_cons,true_or,List.length_cons,Bool.false_eq_true,if_false];omega
   ·have e1:(listed.setIfInBounds i true).getD x false=listed.getD x false:=by
     have:=Lst.set (listed:=listed) (i:=i) (by omega) (j:=x)
     unfold Lst at this;cases h1:(listed.setIfInBounds i true).getD x false<;>cases h2:listed.getD x false<;>simp_all
    have e3:(if i∈x::l then 1 else 0)=(if i∈l then 1 else 0):=by simp[List.mem_cons,Ne.symm hx]
    rw[e3];simp only[List.filter_cons,e1]
    split<;>(try simp only[List.length_cons])<;>omega
 have:=hsub (List.range n) List.nodup_range;rw[if_pos (List.mem_range.2 hi)] at this;omega
theorem XY0 {listed:Array Bool} (hc:∀i o,Lst listed i->ops[i]?=some o->∀d∈deps o,Lst listed d):∀{D acc:List Nat},(∀x∈acc,Lst listed x)->∀x∈forced ops D acc,Lst listed x
 | [],acc,h,x,hx=>h x hx
 | i::D,acc,h,x,hx=>by
  simp only[forced] at hx;refine XY0 hc (acc:=_) ?_ x hx;intro y hy
  split at hy
  ·rename_i hi
   split at hy
   ·rename_i o ho
    rcases List.mem_append.1 hy with hy | hy
    ·exact hc i o (h i (by simpa using hi)) ho y hy
    ·exact h y hy
   ·exact h y hy
  ·exact h y hy
theorem hG0 {l:List Nat} {p:Nat} {v:AV}:∀{pend:List (Nat×AV)},(p,v)∈gW0 l pend->(p,v)∈pend
 | [],h=>h
 | x::r,h=>by
  simp only[gW0] at h
  split at h
  ·exact List.mem_cons_of_mem _ (hG0 h)
  ·rcases List.mem_cons.1 h with h | h
   ·rw[h];exact List.mem_cons_self
   ·exact List.mem_cons_of_mem _ (hG0 h)
theorem nW0 {l:List Nat} {p:Nat} {v:AV} (hp:p∉l):∀{pend:List (Nat×AV)},(p,v)∈pend->(p,v)∈gW0 l pend
 | [],h=>h
 | x::r,h=>by
  simp only[gW0];rcases List.mem_cons.1 h with h | h
  ·subst h
   have:l.contains p=false:=by simpa using hp
   simp only[this];exact List.mem_cons_self
  ·split
   ·exact nW0 hp h
   ·exact List.mem_cons_of_mem _ (nW0 hp h)
theorem HQ0 {v:AV} (h:UF0 v=true):∀g d k els,A.ow g d k els∉v.cs:=by
 intro g d k els hm;unfold UF0 at h;rw[List.all_eq_true] at h;have:=h _ hm;simp[nP1] at this
structure DI (C:Ctx) (P:Program) (ops:Array Oper) (listed:Array Bool) (D rest:List Nat) (pend:List (Nat×AV)) (s τ:AS) (X:List Nat) (a:Act) (w:World):Prop where
 size:listed.size=ops.size
 cover:∀i,i < ops.size->i∈D\/i∈rest
 lD:∀i,Lst listed i->i∈D
 closed:∀i o,Lst listed i->ops[i]?=some o->∀d∈deps o,Lst listed d
 dclosed:∀i o,i∈D->ops[i]?=some o->∀d∈deps o,d∈D
 eff:∀i o,i∈D->ops[i]?=some o->yP0 o.op=false->Lst listed i
 pendD:∀i o,i∈D->ops[i]?=some o->¬Lst listed i->∃v,(i,v)∈pend
 pendOk:∀p v,(p,v)∈pend->∃o d,ops[p]?=some o/\o.dst=some d/\yP0 o.op=true/\s.slots[d]?=some v/\StepV P ops s o v/\UF0 v=true/\p∈D
 sim:Sim (Zof ops listed) s τ
 inv:Inv C X τ a w
 xs:∀i∈X,Lst listed i
theorem Sim.less {Z Z':Nat->Prop} {s τ:AS} (h:Sim Z s τ) {d:Nat} {v:AV} (hz:∀t,Z t->Z' t\/t=d) (hz':∀t,Z' t->Z t/\t≠d) (hs:s.slots[d]?=some v):Sim Z' s (τ.put d v):=by
 have hlt:d < τ.slots.length:=by rw[h.len];exact (List.getElem?_eq_some_iff.1 hs).1
 refine ⟨by simpa [AS.put] using h.len,fun t ht=>?_,fun t ht=>h.no1 t (hz' t ht).1,fun t ht=>?_,h.boxes,h.epoch⟩
 ·simp only[AS.put]
  by_cases htd:d=t
  ·subst htd
   rw[List.getElem?_set_self hlt,hs]
  ·rw[List.getElem?_set_ne htd]
   exact h.slots t fun hzt=>(hz t hzt).elim ht fun e=>htd e.symm
 ·simp only[AS.put]
  obtain ⟨h1,h2⟩:=hz' t ht;rw[List.getElem?_set_ne (Ne.symm h2)];exact h.no2 t h1
theorem Sim.grow {Z:Nat->Prop} {s τ:AS} (h:Sim Z s τ) {d:Nat} {v:AV} (hd:Z d) (hv:UF0 v=true):Sim Z (s.put d v) τ:=by
 refine ⟨by simpa [AS.put] using h.len,fun t ht=>?_,fun t ht=>?_,h.no2,h.boxes,h.epoch⟩
 ·simp only[AS.put]
  rw[List.getElem?_set_ne (fun e=>ht (by rw[<-e];exact hd))]
  exact h.slots t ht
 ·simp only[AS.put]
  by_cases htd:d=t
  ·subst htd
   intro av hav
   by_cases hlt:d < s.slots.length
   ·rw[List.getElem?_set_self hlt] at hav
    simp only[Option.some.injEq] at hav;subst hav;exact HQ0 hv
   ·rw[List.getElem?_eq_none (by simpa using hlt)] at hav;simp at hav
  ·rw[List.getElem?_set_ne htd];exact h.no1 t ht
theorem Sim.self_put {Z:Nat->Prop} {s τ:AS} (h:Sim Z s τ) {d:Nat} {v:AV} (hd:Z d) (hv:UF0 v=true):Sim (·=d) s (s.put d v):=by
 refine ⟨by simp[AS.put],fun t ht=>?_,fun t ht=>ht ▸ h.no1 d hd,fun t ht=>?_,rfl,rfl⟩
 ·simp only[AS.put]
  rw[List.getElem?_set_ne (fun e=>ht e.symm)]
 ·subst ht
  exact (Sim.grow h hd hv).no1 _ hd
theorem Sim.eq {Z:Nat->Prop} {s τ:AS} (h:Sim Z s τ) (hz:∀t,¬Z t):τ=s:=by
 obtain ⟨s1,s2,s3⟩:=s;obtain ⟨t1,t2,t3⟩:=τ;have h1:t1=s1:=List.ext_getElem? fun t=>h.slots t (hz t);have h2:=h.boxes;have h3:=h.epoch;simp only at h2 h3;subst h1;subst h2;subst h3;rfl
end Go.Gv
