/- Part S4 of the proof: Avs: the rule itself. -/
import Derived.Test.YtjeejieaalnbeaaGreatS3
set_option linter.all false
/- Avs: the rule itself. -/
namespace Go.Gv
open Go.Av
variable {P:Program} {ts:Nat->Option TI} {ops:Array Oper} {C:Ctx} {O:Ops} {σ:AS} {Q:Exit->AS->Prop}
def gPair (O:Ops) (ts:Nat->Option TI) (P:Program) (base:Nat) (ops:Array Oper) (i j:Nat) (σ:AS) (K:AS->Prop):Prop:=match apartAt ops σ i j with
 | true=>gOps O ts P base ops [i,j] [] [] σ K
 | false=>False
def swapOk (ops:Array Oper) (c:Nat) (ps:List Nat) (i j:Nat):Bool:=
 cutOk ops c && ordOk (preOps ops c) (mkOrd (preOps ops c)) && tailGo ops c [] ps && pairOk ops c ps i j && Region.noSelect ops && (c+(ps.length+2) == ops.size)
theorem GWp.swap {base id:Nat} (c:Nat) (ps:List Nat) (i j:Nat) (hm:P.follows .mixedOrders=true) (hok:swapOk ops c ps i j=true)
  (h:∀K:AS->Prop,(∀σ',Q .normal σ'->K σ')->gCan O ts P base (preOps ops c) (mkOrd (preOps ops c)) [] [] [] [] (AS.blank (pureDsts (preOps ops c)) σ) fun σ'=>gOps O ts P base ops ps [] [] σ' fun σp=>gPair O ts P base ops i j σp K) :
  GWp O ts P C (.region id ops true) σ Q:=by
 intro hO ht a w hi;subst hO;simp only[swapOk,Bool.and_eq_true,beq_iff_eq] at hok;obtain ⟨⟨⟨⟨⟨o1,o2⟩,o3⟩,o4⟩,o5⟩,o6⟩:=hok;have hc:=cutOk_spec o1;refine wp_region_any hm ?_
 let Qn:Exit->Act->World->Prop:=fun e a w=>e=.normal/\∃σ,Q .normal σ/\Inv C [] σ a w
 refine wpAny_monoQ (Q:=Qn) (fun e a w ⟨h1,h2⟩=>by subst h1;exact h2) ?_
 simp only[ordOk,Bool.and_eq_true,decide_eq_true_eq,List.all_eq_true,List.mem_range,List.contains_eq_mem] at o2;obtain ⟨⟨⟨h1,h2⟩,h3⟩,h4⟩:=o2;have hsz:=preOps_size hc.cs;rw[<-o6];have hn:∀i,¬Lst (Array.replicate c false) i:=fun i hl=>by
  unfold Lst at hl;simp only[Array.getD_eq_getD_getElem?] at hl;rw[Array.getElem?_replicate] at hl
  split at hl<;>simp at hl
 have hn':∀i,¬Lst (Array.replicate (c+(ps.length+2)) false) i:=fun i hl=>by
  unfold Lst at hl;simp only[Array.getD_eq_getD_getElem?] at hl;rw[Array.getElem?_replicate] at hl
  split at hl<;>simp at hl
 refine wpAny_lift (m:=ps.length+2) hc h1 (fun i hi=>h3 i (by rw[hsz];exact hi)) (T:=fun a w=>∃σ',gOps .std ts P base ops ps [] [] σ' (fun σp=>gPair .std ts P base ops i j σp fun σ'=>Q .normal σ')/\Inv C [] σ' a w) ?_
  c (Array.replicate c false) (Array.replicate (c+(ps.length+2)) false) a _ ⟨by simp,by simp[o6],fun i _=>⟨fun h=>absurd h (hn' i),fun h=>absurd h (hn i)⟩,fun i _=>hn' i⟩ (fun i o hl=>absurd hl (hn i)) ?_
 ·rintro l a w hs hl ⟨σ',hg,hinv⟩
  have hg:=(gOps_ok ht hg).2;refine tail_go (c:=c) (m:=2) o5 (fun c a w h=>by simp[Qn] at h) ps [] l σ' [] a w _ o3 hs (by simpa using hl) (by simp) hinv hg fun l2 σ2 X2 a2 g1 g2 g3 g4 g5=>?_
  unfold gPair at g4
  split at g4
  ·rename_i hap
   exact tail_end o4 (K:=fun σ=>Q .normal σ.next) (fun σ X a w hk hv=>⟨rfl,_,hk,hv.next⟩) g1 (by simpa using g2) (by simp) (by simp) g5.next hap (gOps_ok ht g4).2
  ·exact g4.elim
 ·have hinv:=blank_ok (pureDsts (preOps ops c)) (InvAt.drawn hi)
  have:=drawn_go (Q:=Q1 Qn (fun a w=>∃σ',gOps .std ts P base ops ps [] [] σ' (fun σp=>gPair .std ts P base ops i j σp fun σ'=>Q .normal σ')/\Inv C [] σ' a w)) (K:=fun σ'=>gOps .std ts P base ops ps [] [] σ' (fun σp=>gPair .std ts P base ops i j σp fun σ'=>Q .normal σ')) ht h2 h1 h3 (fun σ X a w hk hv=>⟨_,hk,hv.next⟩) (preOps ops c).size (mkOrd (preOps ops c)) [] [] [] [] (AS.blank (pureDsts (preOps ops c)) σ) (AS.blank (pureDsts (preOps ops c)) σ) (Array.replicate (preOps ops c).size false) [] a { w with drawn:=w.drawn+1 } ?_ h1 (h (fun σ'=>Q .normal σ') fun _ h=>h) ?_
  ·rw[hsz] at this
   exact this
  ·rw[hsz]
   refine ⟨by simp[hsz],fun i hi=>.inr (h3 i hi),fun i hl=>absurd hl (hn i),fun i o hl=>absurd hl (hn i),fun i o hi=>by simp at hi,fun i o hi=>by simp at hi,fun i o hi=>by simp at hi,fun p v hm=>by simp at hm,?_,hinv,fun i hi=>by simp at hi⟩
   have no:∀t,Zof (preOps ops c) (Array.replicate c false) t->noOwAV (AS.blank (pureDsts (preOps ops c)) σ).slots[t]?:=by
    rintro t ⟨q,o,g1,g2,_,g4⟩ av hav;simp only[AS.blank,blankGo_get,Nat.zero_add] at hav;have:(pureDsts (preOps ops c)).contains t=true:=by simpa using pureDsts_mem g1 g2 g4
    rw[this] at hav;cases hs:σ.slots[t]? with
    | none=>rw[hs] at hav;simp at hav
    | some av0=>
     rw[hs] at hav;simp only[Option.map_some,Option.some.injEq] at hav;subst hav;simp
   exact ⟨rfl,fun _ _=>rfl,no,no,rfl,rfl⟩
  ·unfold left
   exact Nat.le_trans (List.length_filter_le _ _) (by simp)
end Go.Gv
namespace Go.Gv
open Go.Av
variable {P:Program} {ts:Nat->Option TI} {ops:Array Oper} {C:Ctx} {O:Ops} {σ:AS} {Q:Exit->AS->Prop}
def storesOf (ops:Array Oper):List Nat:=(List.range ops.size).filter fun k=>match ops[k]? with
 | some o=>isStore o
 | none=>false
def swapI (ops:Array Oper):Nat:=(storesOf ops).reverse.getD 1 0
def swapJ (ops:Array Oper):Nat:=(storesOf ops).reverse.getD 0 0
def swapC (ops:Array Oper):Nat:=((List.range ops.size).find? fun c=>cutOk ops c && (List.range ops.size).all fun k=>decide (k < c) || match ops[k]? with
 | some o=>isStore o || isYield o.op
 | none=>false).getD 0
def swapP (ops:Array Oper):List Nat:=(List.range ops.size).filter fun k=>!(decide (k < swapC ops)) && !(k == swapI ops) && !(k == swapJ ops)
theorem aSw {base id:Nat} (hm:P.follows .mixedOrders=true) (hok:swapOk ops (swapC ops) (swapP ops) (swapI ops) (swapJ ops)=true)
  (h:∀K:AS->Prop,(∀σ',Q .normal σ'->K σ')->gCan O ts P base (preOps ops (swapC ops)) (mkOrd (preOps ops (swapC ops))) [] [] [] [] (AS.blank (pureDsts (preOps ops (swapC ops))) σ) fun σ'=>gOps O ts P base ops (swapP ops) [] [] σ' fun σp=>gPair O ts P base ops (swapI ops) (swapJ ops) σp K) :
  At O ts P C (.region id ops true) σ Q:=⟨GWp.swap _ _ _ _ hm hok h⟩
end Go.Gv
