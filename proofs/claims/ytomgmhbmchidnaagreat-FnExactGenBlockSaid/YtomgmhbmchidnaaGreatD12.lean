/- Part D12 of the proof: Avs: the rule itself. -/
import Derived.Test.YtomgmhbmchidnaaGreatD11
set_option linter.all false
/- Avs: the rule itself. -/
namespace Go.Gv
open Go.Av
variable {P:Program} {ts:Nat->Option TI} {ops:Array Oper} {C:Ctx} {O:Ops} {σ:AS} {Q:Exit->AS->Prop}
def UJ0 (O:Ops) (ts:Nat->Option TI) (P:Program) (base:Nat) (ops:Array Oper) (i j:Nat) (σ:AS) (K:AS->Prop):Prop:=match RL0 ops σ i j with
 | true=>gOps O ts P base ops [i,j] [] [] σ K
 | false=>False
def RV0 (ops:Array Oper) (c:Nat) (ps:List Nat) (i j:Nat):Bool:=
 wB1 ops c && nM1 (yD0 ops c) (HZ0 (yD0 ops c)) && RT0 ops c [] ps && HQ0 ops c ps i j && Region.noSelect ops && (c+(ps.length+2) == ops.size)
theorem GWp.swap {base id:Nat} (c:Nat) (ps:List Nat) (i j:Nat) (hm:P.follows .mixedOrders=true) (hok:RV0 ops c ps i j=true)
  (h:∀K:AS->Prop,(∀σ',Q .normal σ'->K σ')->gCan O ts P base (yD0 ops c) (HZ0 (yD0 ops c)) [] [] [] [] (AS.blank (yT0 (yD0 ops c)) σ) fun σ'=>gOps O ts P base ops ps [] [] σ' fun σp=>UJ0 O ts P base ops i j σp K) :
  GWp O ts P C (.region id ops true) σ Q:=by
 intro hO ht a w hi;subst hO;simp only[RV0,Bool.and_eq_true,beq_iff_eq] at hok;obtain ⟨⟨⟨⟨⟨o1,o2⟩,o3⟩,o4⟩,o5⟩,o6⟩:=hok;have hc:=MK0 o1;refine wp_region_any hm ?_
 let Qn:Exit->Act->World->Prop:=fun e a w=>e=.normal/\∃σ,Q .normal σ/\Inv C [] σ a w
 refine kD0 (Q:=Qn) (fun e a w ⟨h1,h2⟩=>by subst h1;exact h2) ?_
 simp only[nM1,Bool.and_eq_true,decide_eq_true_eq,List.all_eq_true,List.mem_range,List.contains_eq_mem] at o2;obtain ⟨⟨⟨h1,h2⟩,h3⟩,h4⟩:=o2;have hsz:=jD0 hc.cs;rw[<-o6];have hn:∀i,¬Lst (Array.replicate c false) i:=fun i hl=>by
  unfold Lst at hl;simp only[Array.getD_eq_getD_getElem?] at hl;rw[Array.getElem?_replicate] at hl
  split at hl<;>simp at hl
 have hn':∀i,¬Lst (Array.replicate (c+(ps.length+2)) false) i:=fun i hl=>by
  unfold Lst at hl;simp only[Array.getD_eq_getD_getElem?] at hl;rw[Array.getElem?_replicate] at hl
  split at hl<;>simp at hl
 refine NJ0 (m:=ps.length+2) hc h1 (fun i hi=>h3 i (by rw[hsz];exact hi)) (T:=fun a w=>∃σ',gOps .std ts P base ops ps [] [] σ' (fun σp=>UJ0 .std ts P base ops i j σp fun σ'=>Q .normal σ')/\Inv C [] σ' a w) ?_
  c (Array.replicate c false) (Array.replicate (c+(ps.length+2)) false) a _ ⟨by simp,by simp[o6],fun i _=>⟨fun h=>absurd h (hn' i),fun h=>absurd h (hn i)⟩,fun i _=>hn' i⟩ (fun i o hl=>absurd hl (hn i)) ?_
 ·rintro l a w hs hl ⟨σ',hg,hinv⟩
  have hg:=(jY0 ht hg).2;refine JL0 (c:=c) (m:=2) o5 (fun c a w h=>by simp[Qn] at h) ps [] l σ' [] a w _ o3 hs (by simpa using hl) (by simp) hinv hg fun l2 σ2 X2 a2 g1 g2 g3 g4 g5=>?_
  unfold UJ0 at g4
  split at g4
  ·rename_i hap
   exact yQ1 o4 (K:=fun σ=>Q .normal σ.next) (fun σ X a w hk hv=>⟨rfl,_,hk,hv.next⟩) g1 (by simpa using g2) (by simp) (by simp) g5.next hap (jY0 ht g4).2
  ·exact g4.elim
 ·have hinv:=PR0 (yT0 (yD0 ops c)) (InvAt.drawn hi)
  have:=wA1 (Q:=Q1 Qn (fun a w=>∃σ',gOps .std ts P base ops ps [] [] σ' (fun σp=>UJ0 .std ts P base ops i j σp fun σ'=>Q .normal σ')/\Inv C [] σ' a w)) (K:=fun σ'=>gOps .std ts P base ops ps [] [] σ' (fun σp=>UJ0 .std ts P base ops i j σp fun σ'=>Q .normal σ')) ht h2 h1 h3 (fun σ X a w hk hv=>⟨_,hk,hv.next⟩) (yD0 ops c).size (HZ0 (yD0 ops c)) [] [] [] [] (AS.blank (yT0 (yD0 ops c)) σ) (AS.blank (yT0 (yD0 ops c)) σ) (Array.replicate (yD0 ops c).size false) [] a { w with drawn:=w.drawn+1 } ?_ h1 (h (fun σ'=>Q .normal σ') fun _ h=>h) ?_
  ·rw[hsz] at this
   exact this
  ·rw[hsz]
   refine ⟨by simp[hsz],fun i hi=>.inr (h3 i hi),fun i hl=>absurd hl (hn i),fun i o hl=>absurd hl (hn i),fun i o hi=>by simp at hi,fun i o hi=>by simp at hi,fun i o hi=>by simp at hi,fun p v hm=>by simp at hm,?_,hinv,fun i hi=>by simp at hi⟩
   have no:∀t,Zof (yD0 ops c) (Array.replicate c false) t->fR0 (AS.blank (yT0 (yD0 ops c)) σ).slots[t]?:=by
    rintro t ⟨q,o,g1,g2,_,g4⟩ av hav;simp only[AS.blank,wY0,Nat.zero_add] at hav;have:(yT0 (yD0 ops c)).contains t=true:=by simpa using nV0 g1 g2 g4
    rw[this] at hav;cases hs:σ.slots[t]? with
    | none=>rw[hs] at hav;simp at hav
    | some av0=>
     rw[hs] at hav;simp only[Option.map_some,Option.some.injEq] at hav;subst hav;simp
   exact ⟨rfl,fun _ _=>rfl,no,no,rfl,rfl⟩
  ·unfold left
   exact Nat.le_trans (List.length_filter_le _ _) (by simp)
end Go.Gv
namespace Go.Gv
open Go.Av
variable {P:Program} {ts:Nat->Option TI} {ops:Array Oper} {C:Ctx} {O:Ops} {σ:AS} {Q:Exit->AS->Prop}
def RX0 (ops:Array Oper):List Nat:=(List.range ops.size).filter fun k=>match ops[k]? with
 | some o=>tE0 o
 | none=>false
def JQ0 (ops:Array Oper):Nat:=(RX0 ops).reverse.getD 1 0
def JP0 (ops:Array Oper):Nat:=(RX0 ops).reverse.getD 0 0
def bA0 (ops:Array Oper):Nat:=((List.range ops.size).find? fun c=>wB1 ops c && (List.range ops.size).all fun k=>decide (k < c) || match ops[k]? with
 | some o=>tE0 o || tC0 o.op
 | none=>false).getD 0
def yR1 (ops:Array Oper):List Nat:=(List.range ops.size).filter fun k=>!(decide (k < bA0 ops)) && !(k == JQ0 ops) && !(k == JP0 ops)
theorem aSw {base id:Nat} (hm:P.follows .mixedOrders=true) (hok:RV0 ops (bA0 ops) (yR1 ops) (JQ0 ops) (JP0 ops)=true)
  (h:∀K:AS->Prop,(∀σ',Q .normal σ'->K σ')->gCan O ts P base (yD0 ops (bA0 ops)) (HZ0 (yD0 ops (bA0 ops))) [] [] [] [] (AS.blank (yT0 (yD0 ops (bA0 ops))) σ) fun σ'=>gOps O ts P base ops (yR1 ops) [] [] σ' fun σp=>UJ0 O ts P base ops (JQ0 ops) (JP0 ops) σp K) :
  At O ts P C (.region id ops true) σ Q:=⟨GWp.swap _ _ _ _ hm hok h⟩
end Go.Gv
