/- Part D9 of the proof: Avs: a region whose last two stores are in no order. -/
import Derived.Test.YtomgmhbmchidnaaGreatD5
set_option linter.all false
/- Avs: a region whose last two stores are in no order. -/
namespace Go.Gv
open Go.Av
variable {P:Program} {ts:Nat->Option TI} {ops:Array Oper} {C:Ctx} {Q:Exit->Act->World->Prop} {base:Nat}
theorem NH0 {Q Q':Exit->Act->World->Prop} (hQ:∀e a w,Q e a w->Q' e a w) {i:Nat} {K:Act->World->Prop} {a:Act} {w:World} (h:wpOp P ops Q i K a w):wpOp P ops Q' i K a w:=by
 have hl:LetsOut Q->LetsOut Q':=fun ⟨a,w,h⟩=>⟨a,w,hQ _ _ _ h⟩;unfold wpOp at *
 split
 ·rename_i ho;simp only[ho] at h;exact h
 ·rename_i o ho
  simp only[ho] at h
  split
  ·rename_i hw
   simp only[hw,if_true] at h;refine h.imp (fun hh=>?_) fun hh=>⟨hh.1,hl hh.2⟩;unfold Oper.wp at *;generalize (execOp a.eval o).run P w=r at *;cases r with
   | ok n w'=>
    cases n<;>simp only[Oper.upon] at hh |-<;>
     first
      | exact hh
      | exact Calls.mono hh (fun e w'' he=>by cases e<;>first | exact he | exact hQ _ _ _ he | exact hl he)
   | halt x w'=>cases x<;>simp only[Oper.upon] at hh |-<;>first | exact hh | exact hQ _ _ _ hh
  ·rename_i hw;simp only[hw] at h;exact h
theorem kD0 {Q Q':Exit->Act->World->Prop} (hQ:∀e a w,Q e a w->Q' e a w):∀{fuel:Nat} {listed:Array Bool} {a:Act} {w:World},wpAny P .any ops Q fuel listed a w->wpAny P .any ops Q' fuel listed a w
 | 0,_,_,_,h=>⟨h.1,hQ _ _ _ h.2⟩
 | _+1,_,_,_,h=>⟨fun hr=>hQ _ _ _ (h.1 hr),fun i hi=>NH0 hQ (wpOp_mono (fun _ _ hk=>kD0 hQ hk) (h.2 i hi))⟩
theorem fD0:∀{fuel:Nat} {listed:Array Bool} {a:Act} {w:World},wpAny P .any ops Q fuel listed a w->wpAny P .any ops Q (fuel+1) listed a w
 | 0,listed,a,w,h=>⟨fun _=>h.2,fun i hi=>by rw[h.1] at hi;simp at hi⟩
 | _+1,_,_,_,h=>⟨h.1,fun i hi=>wpOp_mono (fun _ _ hk=>fD0 hk) (h.2 i hi)⟩
theorem YA0 {fuel:Nat} {listed:Array Bool} {a:Act} {w:World} (h:wpAny P .any ops Q fuel listed a w):∀n,wpAny P .any ops Q (fuel+n) listed a w
 | 0=>h
 | n+1=>fD0 (YA0 h n)
def wB1 (ops:Array Oper) (c:Nat):Bool:=decide (1<=c) && decide (c<=ops.size) && (List.range ops.size).all fun k=>match ops[k]? with
 | some o=>match decide (k < c) with
  | true=>(deps o).all (decide <| · < c) && (match o.guard with | some (g,_)=>decide (g < c) | none=>true) && (k+1 == c || (match ops[c - 1]? with | some oc=>(deps oc).contains k | none=>false))
  | false=>(deps o).contains (c - 1)
 | none=>false
structure qV1 (ops:Array Oper) (c:Nat):Prop where
 c1:1<=c
 cs:c<=ops.size
 pre:∀k o,k < c->ops[k]?=some o->(∀d∈deps o,d < c)/\(∀g b,o.guard=some (g,b)->g < c)
 last:∀k o,k+1 < c->ops[c - 1]?=some o->k∈deps o
 post:∀k o,c<=k->ops[k]?=some o->c - 1∈deps o
theorem MK0 {c:Nat} (h:wB1 ops c=true):qV1 ops c:=by
 simp only[wB1,Bool.and_eq_true,decide_eq_true_eq,List.all_eq_true,List.mem_range] at h;obtain ⟨⟨h1,h2⟩,h3⟩:=h;refine ⟨h1,h2,fun k o hk ho=>?_,fun k o hk ho=>?_,fun k o hk ho=>?_⟩
 ·have:=h3 k (by omega)
  simp only[ho,hk,decide_true,Bool.and_eq_true,List.all_eq_true,decide_eq_true_eq] at this;refine ⟨this.1.1,fun g b hg=>?_⟩;have h4:=this.1.2;rw[hg] at h4;simpa using h4
 ·have h5:k < ops.size:=by omega
  have:=h3 k h5;rw[Array.getElem?_eq_getElem h5] at this;simp only[show k < c from by omega,decide_true,Bool.and_eq_true,Bool.or_eq_true,beq_iff_eq,ho] at this
  have h4:=this.2.resolve_left (by omega)
  simpa using h4
 ·have:=h3 k (Array.getElem?_eq_some_iff.1 ho).1
  simp only[ho,show ¬k < c from by omega,decide_false] at this
  simpa using this
def yD0 (ops:Array Oper) (c:Nat):Array Oper:=ops.extract 0 c
theorem vM0 {c:Nat} (hc:c<=ops.size) {k:Nat} (hk:k < c):(yD0 ops c)[k]?=ops[k]?:=by
 unfold yD0;rw[Array.getElem?_extract];simp[hk];omega
theorem jD0 {c:Nat} (hc:c<=ops.size):(yD0 ops c).size=c:=by
 unfold yD0;simp;omega
def Q1 (Q:Exit->Act->World->Prop) (T:Act->World->Prop) (e:Exit) (a:Act) (w:World):Prop:=match e with
 | .normal=>T a w
 | e=>Q e a w
theorem yJ1 {c:Nat} (hc:qV1 ops c) {T:Act->World->Prop} {i:Nat} (hi:i < c) {K K':Act->World->Prop} (hK:∀a w,K a w->K' a w) {a:Act} {w:World} (h:wpOp P (yD0 ops c) (Q1 Q T) i K a w):wpOp P ops Q i K' a w:=by
 refine wpOp_mono hK ?_;have hl:LetsOut (Q1 Q T)->LetsOut Q:=fun ⟨a,w,h⟩=>⟨a,w,h⟩;unfold wpOp at *;rw[vM0 hc.cs hi] at h
 split
 ·rename_i ho;simp only[ho] at h;exact h
 ·rename_i o ho
  simp only[ho] at h;have hw:Region.wanted o (yielded (yD0 ops c) a.tmps)=Region.wanted o (yielded ops a.tmps):=by
   unfold Region.wanted;cases hg:o.guard with
   | none=>rfl
   | some gw=>
    obtain ⟨g,want⟩:=gw;have:=(hc.pre i o hi ho).2 g want hg;simp only[yielded,vM0 hc.cs this]
  rw[hw] at h
  split
  ·rename_i hw
   simp only[hw,if_true] at h;refine h.imp (fun hh=>?_) fun hh=>⟨hh.1,hl hh.2⟩;unfold Oper.wp at *;generalize (execOp a.eval o).run P w=r at *;cases r with
   | ok n w'=>
    cases n<;>simp only[Oper.upon] at hh |-<;>
     first
      | exact hh
      | exact Calls.mono hh (fun e w'' he=>by cases e<;>first | exact he | exact hl he)
   | halt x w'=>cases x<;>simp only[Oper.upon] at hh |-<;>exact hh
  ·rename_i hw;simp only[hw] at h;exact h
structure Same (ops:Array Oper) (c:Nat) (lp l:Array Bool):Prop where
 s1:lp.size=c
 s2:l.size=ops.size
 eq:∀i,i < c->(Lst l i↔Lst lp i)
 no:∀i,c<=i->¬Lst l i
theorem NJ0 {c m:Nat} (hc:qV1 ops c) {ord:List Nat} (hord:okGo (yD0 ops c) [] ord=true) (hcov:∀i,i < c->i∈ord) {T:Act->World->Prop}
  (hT:∀l a w,l.size=ops.size->(∀i,Lst l i↔i < c)->T a w->wpAny P .any ops Q m l a w):∀(fuel:Nat) (lp l:Array Bool) (a:Act) (w:World),Same ops c lp l->
   (∀i o,Lst lp i->(yD0 ops c)[i]?=some o->∀d∈deps o,Lst lp d)->wpAny P .any (yD0 ops c) (Q1 Q T) fuel lp a w->wpAny P .any ops Q (fuel+m) l a w:=by
 have hsz:=jD0 hc.cs;have hend:∀lp l a w,Same ops c lp l->Region.ready .any (yD0 ops c) lp=[]->T a w->wpAny P .any ops Q m l a w:=by
  intro lp l a w hs hr ht;have hall:∀i,i < c->Lst lp i:=fun i hi=>by
   refine nL0 (fun i o ho hd=>?_) hord (by simp) i (hcov i hi)
   refine Classical.byContradiction fun hn=>?_;have:i∈Region.ready .any (yD0 ops c) lp:=(zG0 (by rw[hs.s1,hsz])).2 ⟨o,ho,hn,hd⟩
   rw[hr] at this;simp at this
  exact hT l a w hs.s2 (fun i=>⟨fun h=>Nat.lt_of_not_le fun hn=>hs.no i hn h,fun h=>(hs.eq i h).2 (hall i h)⟩) ht
 intro fuel
 induction fuel with
 | zero=>
  intro lp l a w hs hcl h;rw[Nat.zero_add];exact hend lp l a w hs h.1 h.2
 | succ fuel ih=>
  intro lp l a w hs hcl h
  by_cases hr:Region.ready .any (yD0 ops c) lp=[]
  ·rw[Nat.add_comm]
   exact YA0 (hend lp l a w hs hr (h.1 hr)) _
  ·
   have hlast:¬Lst lp (c - 1):=fun hl=>hr (by
    rw[List.eq_nil_iff_forall_not_mem];intro i hi;obtain ⟨o,ho,hn,_⟩:=(zG0 (by rw[hs.s1,hsz])).1 hi
    have hic:i < c:=by rw[<-hsz];exact (Array.getElem?_eq_some_iff.1 ho).1
    have h1:=hc.c1;have h2:c - 1 < ops.size:=by have:=hc.cs;omega
    by_cases hi1:i+1 < c
    ·exact hn (hcl (c - 1) ops[c - 1] hl (by rw[vM0 hc.cs (by omega)];exact Array.getElem?_eq_getElem h2) i (hc.last i _ hi1 (Array.getElem?_eq_getElem h2)))
    ·exact hn (by rw[show i=c - 1 by omega];exact hl))
   have h1:=hc.c1;have hmem:∀i,i∈Region.ready .any ops l->i < c/\i∈Region.ready .any (yD0 ops c) lp:=by
    intro i hi;obtain ⟨o,ho,hn,hd⟩:=(zG0 hs.s2).1 hi;have hic:i < c:=Nat.lt_of_not_le fun hle=>hlast ((hs.eq (c - 1) (by omega)).1 (hd _ (hc.post i o hle ho)))
    exact ⟨hic,(zG0 (by rw[hs.s1,hsz])).2 ⟨o,by rw[vM0 hc.cs hic];exact ho,fun hl=>hn ((hs.eq i hic).2 hl),fun d hdd=>(hs.eq d ((hc.pre i o hic ho).1 d hdd)).1 (hd d hdd)⟩⟩
   rw[Nat.add_right_comm];refine ⟨fun h0=>absurd ?_ hr,fun i hi=>?_⟩
   ·rw[List.eq_nil_iff_forall_not_mem]
    intro i hi;obtain ⟨o,ho,hn,hd⟩:=(zG0 (by rw[hs.s1,hsz])).1 hi
    have hic:i < c:=by rw[<-hsz];exact (Array.getElem?_eq_some_iff.1 ho).1
    rw[vM0 hc.cs hic] at ho;have:i∈Region.ready .any ops l:=(zG0 hs.s2).2 ⟨o,ho,fun hl=>hn ((hs.eq i hic).1 hl),fun d hdd=>(hs.eq d ((hc.pre i o hic ho).1 d hdd)).2 (hd d hdd)⟩;rw[h0] at this;simp at this
   ·obtain ⟨hic,hip⟩:=hmem i hi
    refine yJ1 hc hic (fun a' w' hk=>?_) (h.2 i hip);obtain ⟨o,ho,hn,hd⟩:=(zG0 (by rw[hs.s1,hsz])).1 hip
    have hl1:i < lp.size:=by rw[hs.s1];exact hic
    have hl2:i < l.size:=by rw[hs.s2];have:=hc.cs;omega
    refine ih _ _ a' w' ⟨by simpa using hs.s1,by simpa using hs.s2,fun j hj=>?_,fun j hj hl=>?_⟩ (fun j oj hj hoj d hdd=>?_) hk
    ·rw[Lst.set hl1,Lst.set hl2,hs.eq j hj]
    ·rcases (Lst.set hl2).1 hl with rfl | hl
     ·omega
     ·exact hs.no j hj hl
    ·rcases (Lst.set hl1).1 hj with rfl | hj
     ·rw[ho] at hoj;simp at hoj;subst hoj
      exact (Lst.set hl1).2 (.inr (hd d hdd))
     ·exact (Lst.set hl1).2 (.inr (hcl j oj hj hoj d hdd))
end Go.Gv
