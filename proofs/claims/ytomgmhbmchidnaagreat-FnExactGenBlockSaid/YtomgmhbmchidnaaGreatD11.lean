/- Part D11 of the proof: Avs: the rule for such regions. -/
import Derived.Test.YtomgmhbmchidnaaGreatD10
set_option linter.all false
/- Avs: the rule for such regions. -/
namespace Go.Gv
open Go.Av
variable {P:Program} {ts:Nat->Option TI} {ops:Array Oper} {C:Ctx} {Q:Exit->Act->World->Prop} {base:Nat}
def tE0 (o:Oper):Bool:=match o with
 | ⟨none,.store _ _ _,_,_,_,none⟩=>true
 | _=>false
theorem tD0 {o:Oper} (h:tE0 o=true):∃t p x ty pos af,o=⟨none,.store t p x,ty,pos,af,none⟩:=by
 unfold tE0 at h
 split at h
 ·exact ⟨_,_,_,_,_,_,rfl⟩
 ·simp at h
def RT0 (ops:Array Oper) (c:Nat):List Nat->List Nat->Bool
 | _,[]=>true
 | D,p::ps=>(match ops[p]? with
   | some o=>tC0 o.op && o.guard.isNone && (deps o).all (fun d=>decide (d < c) || D.contains d) && (List.range ops.size).all fun k=>k == p || (decide (k < c) || D.contains k) || match ops[k]? with
    | some ok=>(deps ok).contains p || o.apart ops ok
    | none=>true
   | none=>false) && decide (c<=p) && !(D.contains p) && RT0 ops c (p::D) ps
def HQ0 (ops:Array Oper) (c:Nat) (ps:List Nat) (i j:Nat):Bool:=
 (match ops[i]?,ops[j]? with
  | some oi,some oj=>tE0 oi && tE0 oj && (deps oi).all (fun d=>decide (d < c) || ps.contains d) && (deps oj).all (fun d=>decide (d < c) || ps.contains d)
  | _,_=>false) && decide (c<=i) && decide (c<=j) && (i != j) && !(ps.contains i) && !(ps.contains j) && (List.range ops.size).all fun k=>decide (k < c) || ps.contains k || k == i || k == j
theorem zW1 {o:Oper} {σ:AS} {K:AS->Prop} {i:Nat} (hn:∀f args ty,o.op≠.call ⟨.value f,args,ty⟩) (h:nN0 P base i o σ K):∃r,aEff P base i o.dst σ o.op=some r/\K (r.2.putO o.dst r.1):=by
 unfold nN0 at h
 split at h
 ·rename_i hop;exact absurd hop (hn _ _ _)
 ·split at h
  ·rename_i r hr;exact ⟨r,hr,h⟩
  ·exact h.elim
theorem gD0 {o:Oper} {σ:AS} {K:AS->Prop} {i:Nat} (ho:ops[i]?=some o) (hg:o.guard=none) (hn:∀f args ty,o.op≠.call ⟨.value f,args,ty⟩) (h:pN0 P base ops i σ K):∃r,aEff P base i o.dst σ o.op=some r/\K (r.2.putO o.dst r.1):=by
 unfold pN0 at h;simp only[ho,hg] at h;exact zW1 hn h
theorem kH0 {o:Oper} (hg:o.guard=none) (y:Nat->Option Bool):Region.wanted o y=true:=by simp[Region.wanted,hg]
theorem JL0 {c m:Nat} (hsel:Region.noSelect ops=true) (hQ:∀c a w,¬Q (.panic c) a w):∀(ps D:List Nat) (listed:Array Bool) (σ:AS) (X:List Nat) (a:Act) (w:World) (K:AS->Prop),RT0 ops c D ps=true->listed.size=ops.size->
  (∀k,Lst listed k↔k < c\/k∈D)->(∀x∈X,x∈D)->Inv C X σ a w->aOps P base ops ps σ K->
  (∀(l:Array Bool) (σ':AS) (X':List Nat) (a':Act),l.size=ops.size->(∀k,Lst l k↔k < c\/k∈D\/k∈ps)->(∀x∈X',x∈D\/x∈ps)->K σ'->Inv C X' σ' a' w->wpAny P .any ops Q m l a' w)->wpAny P .any ops Q (ps.length+m) listed a w
 | [],D,listed,σ,X,a,w,K,_,hs,hl,hX,hi,ho,hend=>by
  simp only[aOps] at ho;simpa using hend listed σ X a hs (by simpa using hl) (by simpa using hX) ho hi
 | p::ps,D,listed,σ,X,a,w,K,ht,hs,hl,hX,hi,ho,hend=>by
  simp only[RT0,Bool.and_eq_true,Bool.not_eq_true',decide_eq_true_eq,List.contains_eq_mem,decide_eq_false_iff_not] at ht;obtain ⟨⟨⟨ht1,ht2⟩,ht3⟩,ht4⟩:=ht
  split at ht1
  ·rename_i o hop
   simp only[Bool.and_eq_true,List.all_eq_true,Bool.or_eq_true,decide_eq_true_eq,List.mem_range,beq_iff_eq,Option.isNone_iff_eq_none,List.contains_eq_mem] at ht1;obtain ⟨⟨⟨y1,y2⟩,y3⟩,y4⟩:=ht1;simp only[aOps] at ho;have hnl:¬Lst listed p:=fun h=>((hl p).1 h).elim (fun h=>by omega) ht3
   have hpX:p∉X:=fun h=>ht3 (hX p h);obtain ⟨r,hr,hk⟩:=gD0 hop y2 (fun f args ty e=>by rw[e] at y1;simp[tC0] at y1) ho
   obtain ⟨v,hv,hi'⟩:=NG0 hi hpX y1 hr;have hlt:=(Array.getElem?_eq_some_iff.1 hop).1;have hltl:p < listed.size:=by rw[hs];exact hlt
   have hready:p∈Region.ready .any ops listed:=(zG0 hs).2 ⟨o,hop,hnl,fun d hd=>(hl d).2 (by
    have:=y3 d hd;simpa using this)⟩
   have hL:∀k,Lst (listed.setIfInBounds p true) k↔k < c\/k∈p::D:=fun k=>by
    rw[Lst.set hltl,hl,List.mem_cons];grind
   rw[List.length_cons,Nat.add_right_comm];refine wpAny_first (i:=p) (oi:=o) (v:=v) hop (Region.noSelect_spec hsel) (fun c a w h=>absurd h (hQ _ _ _)) _ listed a w (fun k ok hok hkp hkl hkn=>?_) hready (.inl ⟨kH0 y2 _,hv⟩) ?_
   ·have hklt:=(Array.getElem?_eq_some_iff.1 hok).1
    rcases y4 k hklt with h | h
    ·rcases h with h | h
     ·exact absurd h hkp
     ·have h1:Lst listed k:=(hl k).2 h
      unfold Lst at h1;have h2:k < listed.size:=by rw[hs];exact hklt
      simp only[Array.getD_eq_getD_getElem?,Array.getElem?_eq_getElem h2,Option.getD_some] at h1 hkl;rw[h1] at hkl;simp at hkl
    ·simp only[hok,Bool.or_eq_true,List.contains_eq_mem,decide_eq_true_eq] at h
     rcases h with h | h
     ·simp only[deps,List.mem_map,List.mem_filter] at h
      obtain ⟨e,⟨h1,h2⟩,h3⟩:=h;exact absurd h3 (hkn e (by simpa using h1) h2)
     ·exact h
   ·refine JL0 hsel hQ ps (p::D) _ _ (p::X) _ w K ht4 (by simpa using hs) hL (fun x hx=>?_) hi' hk fun l σ' X' a' g1 g2 g3 g4 g5=>?_
    ·rcases List.mem_cons.1 hx with rfl | hx
     ·exact List.mem_cons_self
     ·exact List.mem_cons_of_mem _ (hX x hx)
    ·refine hend l σ' X' a' g1 (fun k=>?_) (fun x hx=>?_) g4 g5
     ·rw[g2,List.mem_cons,List.mem_cons];grind
     ·have:=g3 x hx
      rw[List.mem_cons] at this |-
      grind
  ·simp at ht1
def RL0 (ops:Array Oper) (σ:AS) (i j:Nat):Bool:=match ops[i]?,ops[j]? with
 | some oi,some oj=>match oi.op,oj.op with
  | .store _ p _,.store _ q _=>PX0 σ p q
  | _,_=>false
 | _,_=>false
theorem run_store {a:Act} {w:World} {t:TypeId} {p x:Operand} {g o:Nat} {row:Array Value} (hp:a.eval p=.pointer (some ⟨g,o,none⟩)) (h:(storeVar t ⟨g,o,none⟩ (a.eval x)).run P w=.ok () (w.setRow g row)) (dst:Option Tmp) (type:TypeId) (pos:String) (after:Array Edge) (guard:Option (Nat×Bool)) :
  (execOp a.eval ⟨dst,.store t p x,type,pos,after,guard⟩).run P w=.ok .skip (w.setRow g row):=by
 simp only[execOp,hp,Instr.storeAt,Instr.sureAddr,pure_bind];simp only[Sem.run_bind,h]
 rfl
theorem pT0 {i:Nat} {a:Act} {w w':World} {o:Oper} {K:Act->World->Prop} (ho:ops[i]?=some o) (hs:tE0 o=true) (hr:(execOp a.eval o).run P w=.ok .skip w') (h:K a w'):wpOp P ops Q i K a w:=by
 obtain ⟨t,p,x,ty,pos,af,rfl⟩:=tD0 hs;unfold wpOp;simp only[ho,kH0,if_true];refine .inl ?_;unfold Oper.wp;rw[hr];exact h
theorem YJ0 {X:List Nat} {σ σ1:AS} {a:Act} {w w':World} {i:Nat} {t:TypeId} {p x:Operand} (h:Inv C X σ a w) (hi:i∉X) (hx:vG0 P base i σ t p x=some σ1) {type:TypeId} {pos:String} {after:Array Edge}
  (hr:(execOp a.eval ⟨none,.store t p x,type,pos,after,none⟩).run P w=.ok .skip w'):Inv C (i::X) σ1 a w':=by
 obtain ⟨n,v,w2,h1,_,h3⟩:=RY0 (dst:=none) hx X a w h hi type pos after none;rw[hr] at h1;simp at h1;obtain ⟨rfl,rfl⟩:=h1;exact h3
theorem yQ1 {c:Nat} {ps:List Nat} {i j:Nat} (hp:HQ0 ops c ps i j=true) {K:AS->Prop} (hK:∀σ X a w,K σ->Inv C X σ a w->Q .normal a w) {l:Array Bool} {σ:AS} {X:List Nat} {a:Act} {w:World} (hs:l.size=ops.size)
  (hl:∀k,Lst l k↔k < c\/k∈ps) (hiX:i∉X) (hjX:j∉X) (hi:Inv C X σ a w) (hap:RL0 ops σ i j=true) (ho:aOps P base ops [i,j] σ K):wpAny P .any ops Q 2 l a w:=by
 simp only[HQ0,Bool.and_eq_true,Bool.not_eq_true',decide_eq_true_eq,List.contains_eq_mem,decide_eq_false_iff_not,bne_iff_ne,ne_eq,List.all_eq_true,List.mem_range,Bool.or_eq_true,beq_iff_eq] at hp;obtain ⟨⟨⟨⟨⟨⟨p1,p2⟩,p3⟩,p4⟩,p5⟩,p6⟩,p7⟩:=hp
 split at p1
 ·rename_i oi oj hoi hoj
  simp only[Bool.and_eq_true,List.all_eq_true,Bool.or_eq_true,decide_eq_true_eq] at p1;obtain ⟨⟨⟨q1,q2⟩,q3⟩,q4⟩:=p1;simp only[RL0,hoi,hoj] at hap;have q1':=q1;have q2':=q2;obtain ⟨ti,pi,xi,tyi,posi,afi,rfl⟩:=tD0 q1;obtain ⟨tj,pj,xj,tyj,posj,afj,rfl⟩:=tD0 q2;simp only at hap;simp only[aOps] at ho;obtain ⟨r1,e1,ho⟩:=gD0 hoi rfl (fun _ _ _ h=>by simp at h) ho
  obtain ⟨r2,e2,ho⟩:=gD0 hoj rfl (fun _ _ _ h=>by simp at h) ho
  simp only[aEff,Option.map_eq_some_iff] at e1 e2;obtain ⟨σ1,e1,rfl⟩:=e1;simp only[AS.putO] at e2 ho;obtain ⟨σ2,e2,rfl⟩:=e2;simp only at ho;have hq:∃r c g n off,σ.ev pi=some ⟨.one,[.eptr r c g n off]⟩:=by
   unfold PX0 at hap
   split at hap
   ·rename_i h;exact ⟨_,_,_,_,_,h⟩
   ·simp at hap
  obtain ⟨_,_,_,_,_,hq⟩:=hq;obtain ⟨gi,o1,arr1,row1,ty1,fz1,a1,a2,a3⟩:=bC0 hi hiX e1 hq;have run1:=run_store (w:=w) a1 (a3 w a2) none tyi posi afi none;have inv1:=YJ0 hi hiX e1 run1;have hjX':j∉i::X:=fun h=>(List.mem_cons.1 h).elim (fun h=>p4 h.symm) hjX;have hsb:∃gj,StAt P a tj pj xj (w.setRow gi row1) gj:=by
   have:=e2;simp only[vG0,Option.bind_eq_some_iff] at this;obtain ⟨_,_,this⟩:=this;obtain ⟨p',x',hp',_,hx'⟩:=zK0 this
   split at hx'
   ·exact YK0 inv1 hjX' e2 hp'
   ·exact YK0 inv1 hjX' e2 hp'
   ·exact bC0 inv1 hjX' e2 hp'
   ·exact bC0 inv1 hjX' e2 hp'
   ·simp at hx'
  obtain ⟨gj,o2,arr2,row2,ty2,fz2,b1,b2,b3⟩:=hsb;have hne:gi≠gj:=(vD1 hi hap a1 b1).1;have run2:=run_store (w:=w.setRow gi row1) b1 (b3 _ b2) none tyj posj afj none;have inv2:=YJ0 inv1 hjX' e2 run2;have b2':w.heap[gj]?=some (.cells arr2 ty2 fz2):=by rw[setRow_other _ _ _ _ (Ne.symm hne)] at b2;exact b2
  have run2':=run_store (w:=w) b1 (b3 _ b2') none tyj posj afj none;have a2':(w.setRow gj row2).heap[gi]?=some (.cells arr1 ty1 fz1):=by rw[setRow_other _ _ _ _ hne];exact a2
  have run1':=run_store (w:=w.setRow gj row2) a1 (a3 _ a2') none tyi posi afi none;have fin:Q .normal a ((w.setRow gi row1).setRow gj row2):=hK _ _ _ _ ho inv2;have hni:¬Lst l i:=fun h=>((hl i).1 h).elim (by omega) p5
  have hnj:¬Lst l j:=fun h=>((hl j).1 h).elim (by omega) p6
  have hil:i < l.size:=by rw[hs];exact (Array.getElem?_eq_some_iff.1 hoi).1
  have hjl:j < l.size:=by rw[hs];exact (Array.getElem?_eq_some_iff.1 hoj).1
  have hall:∀k o,ops[k]?=some o->Lst l k\/k=i\/k=j:=fun k o hk=>by
   rcases p7 k (Array.getElem?_eq_some_iff.1 hk).1 with (h | h) | h
   ·exact .inl ((hl k).2 h)
   ·exact .inr (.inl h)
   ·exact .inr (.inr h)
  have hri:i∈Region.ready .any ops l:=(zG0 hs).2 ⟨_,hoi,hni,fun d hd=>(hl d).2 (q3 d hd)⟩;have last:∀(x y:Nat),(x=i/\y=j)\/(x=j/\y=i)->∀(w1 w2:World) (oy:Oper),ops[y]?=some oy->tE0 oy=true->(∀d∈deps oy,Lst l d)->(execOp a.eval oy).run P w1=.ok .skip w2->Q .normal a w2->wpAny P .any ops Q 1 (l.setIfInBounds x true) a w1:=by
   intro x y hxy w1 w2 oy hoy hsy hdy hry hqy;have hx:x < l.size:=by rcases hxy with ⟨rfl,_⟩ | ⟨rfl,_⟩<;>assumption
   have hy:y < l.size:=by rcases hxy with ⟨_,rfl⟩ | ⟨_,rfl⟩<;>assumption
   have hyn:¬Lst l y:=by rcases hxy with ⟨_,rfl⟩ | ⟨_,rfl⟩<;>assumption
   have hne:y≠x:=by rcases hxy with ⟨rfl,rfl⟩ | ⟨rfl,rfl⟩<;>grind
   have hs1:(l.setIfInBounds x true).size=ops.size:=by simpa using hs
   have hyr:y∈Region.ready .any ops (l.setIfInBounds x true):=(zG0 hs1).2 ⟨oy,hoy,fun h=>((Lst.set hx).1 h).elim hne hyn,fun d hd=>(Lst.set hx).2 (.inr (hdy d hd))⟩;refine ⟨fun h=>by rw[h] at hyr;simp at hyr,fun k hk=>?_⟩
   obtain ⟨ok,g1,g2,g3⟩:=(zG0 hs1).1 hk;have hky:k=y:=by
    rcases hall k ok g1 with h | h
    ·exact absurd ((Lst.set hx).2 (.inr h)) g2
    ·have:k≠x:=fun e=>g2 ((Lst.set hx).2 (.inl e))
     rcases hxy with ⟨rfl,rfl⟩ | ⟨rfl,rfl⟩<;>grind
   subst hky;refine pT0 hoy hsy hry ⟨?_,hqy⟩;rw[List.eq_nil_iff_forall_not_mem];intro z hz;obtain ⟨oz,z1,z2,z3⟩:=(zG0 (by simpa using hs)).1 hz
   have hy':k < (l.setIfInBounds x true).size:=by simpa using hy
   refine z2 ((Lst.set hy').2 ?_);rcases hall z oz z1 with h | h
   ·exact .inr ((Lst.set hx).2 (.inr h))
   ·by_cases hzk:z=k
    ·exact .inl hzk
    ·exact .inr ((Lst.set hx).2 (.inl (by rcases hxy with ⟨rfl,rfl⟩ | ⟨rfl,rfl⟩<;>grind)))
  refine ⟨fun h=>by rw[h] at hri;simp at hri,fun k hk=>?_⟩
  obtain ⟨ok,g1,g2,g3⟩:=(zG0 hs).1 hk;rcases hall k ok g1 with h | rfl | rfl
  ·exact absurd h g2
  ·exact pT0 hoi q1' run1 (last k j (.inl ⟨rfl,rfl⟩) _ _ _ hoj q2' (fun d hd=>(hl d).2 (q4 d hd)) run2 fin)
  ·refine pT0 hoj q2' run2' (last k i (.inr ⟨rfl,rfl⟩) _ _ _ hoi q1' (fun d hd=>(hl d).2 (q3 d hd)) run1' ?_)
   rw[VX0 _ _ _ (Ne.symm hne)];exact fin
 ·simp at p1
end Go.Gv
