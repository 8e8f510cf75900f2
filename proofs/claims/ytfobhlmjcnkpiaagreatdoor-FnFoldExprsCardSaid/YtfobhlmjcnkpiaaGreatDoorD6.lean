/- Part D6 of the proof: Avs: regions that draw their order, where effects may change places: every order of the effects, the pure operations as early as may be. -/
import Derived.Test.YtfobhlmjcnkpiaaGreatDoorD5
set_option linter.all false
/- Avs: regions that draw their order, where effects may change places: every order of the effects, the pure operations as early as may be. -/
namespace Go.Gv
open Go.Av
structure qU1 (x y:Unit->Prop):Prop where
 l:x ()
 r:y ()
def gAll (f:Nat->Prop):List Nat->Prop
 | []=>True
 | i::r=>match r with
  | []=>f i
  | _::_=>qU1 (fun _=>f i) (fun _=>gAll f r)
def effs (ops:Array Oper) (D:List Nat):List Nat->List Nat
 | []=>[]
 | i::r=>match D.contains i with
  | true=>effs ops D r
  | false=>match ops[i]? with
   | some o=>match (deps o).all (D.contains ·) with
    | true=>i::effs ops D r
    | false=>effs ops D r
   | none=>effs ops D r
def gExp (O:Ops) (ts:Nat->Option TI) (P:Program) (base:Nat) (ops:Array Oper):Nat->List Nat->List (Nat×AV)->List Prop->List (Nat×Bool)->AS->(AS->Prop)->Prop
 | 0,_,_,_,_,_,_=>False
 | n+1,D,pend,acc,kn,σ,K=>match mF0 ops D true (List.range ops.size) with
  | some i=>match ops[i]? with
   | none=>False
   | some o=>hE0 ops o acc kn pend σ fun acc kn pend σ go=>match o.dst with
    | none=>False
    | some d=>match goV go (bF0 O ts σ o.op) with
     | some (ps,v)=>match UF0 v && decide (d < σ.slots.length) with
      | true=>gExp O ts P base ops n (i::D) ((i,v)::pend) (cat acc ps) kn (σ.put d v) K
      | false=>False
     | none=>False
  | none=>match effs ops D (List.range ops.size) with
   | []=>match σ with
    | ⟨s,b,e⟩=>fin acc K s b (e+1)
   | e::es=>out acc (gAll (fun i=>match ops[i]? with
    | none=>False
    | some o=>hE0 ops o [] kn pend σ fun acc kn pend σ go=>match gW0 (forced ops D (deps o)) pend with
     | pend'=>gGo O ts go P base i o acc σ fun acc' σ'=>match nF0 O ts ops σ' pend' with
      | some qs=>gExp O ts P base ops n (i::D) pend' (cat acc' qs) kn σ' K
      | none=>False) (e::es))
def exOk (ops:Array Oper):Bool:=NN0 ops && (List.range ops.size).all fun i=>match ops[i]? with
 | some o=>(deps o).all fun d=>decide (d < i)
 | none=>false
variable {P:Program} {ts:Nat->Option TI} {ops:Array Oper} {C:Ctx} {Q:Exit->Act->World->Prop} {K:AS->Prop} {base:Nat}
theorem QP0 {f:Nat->Prop}:∀{l:List Nat},gAll f l->∀i∈l,f i
 | [],_,i,hi=>by simp at hi
 | [j],h,i,hi=>by
  simp at hi;subst hi;exact h
 | j::k::r,h,i,hi=>by
  have h:qU1 (fun _=>f j) (fun _=>gAll f (k::r)):=h;rcases List.mem_cons.1 hi with rfl | hi
  ·exact h.l
  ·exact QP0 h.r i hi
theorem effs_mem {D:List Nat} {i:Nat}:∀{l:List Nat},i∈effs ops D l↔i∈l/\i∉D/\∃o,ops[i]?=some o/\∀d∈deps o,d∈D
 | []=>by simp[effs]
 | j::r=>by
  have ih:=effs_mem (D:=D) (i:=i) (l:=r);simp only[effs]
  split
  ·rename_i h
   rw[ih];have hj:j∈D:=by simpa using h
   constructor
   ·rintro ⟨h1,h2⟩;exact ⟨List.mem_cons_of_mem _ h1,h2⟩
   ·rintro ⟨h1,h2,h3⟩
    rcases List.mem_cons.1 h1 with rfl | h1
    ·exact absurd hj h2
    ·exact ⟨h1,h2,h3⟩
  ·rename_i h
   have hj:j∉D:=by simpa using h
   split
   ·rename_i o ho
    split
    ·rename_i hd
     have hd:∀d∈deps o,d∈D:=by simpa using hd
     rw[List.mem_cons,ih]
     constructor
     ·rintro (rfl | ⟨h1,h2⟩)
      ·exact ⟨List.mem_cons_self,hj,o,ho,hd⟩
      ·exact ⟨List.mem_cons_of_mem _ h1,h2⟩
     ·rintro ⟨h1,h2,h3⟩
      rcases List.mem_cons.1 h1 with rfl | h1
      ·exact .inl rfl
      ·exact .inr ⟨h1,h2,h3⟩
    ·rename_i hd
     rw[ih]
     constructor
     ·rintro ⟨h1,h2⟩;exact ⟨List.mem_cons_of_mem _ h1,h2⟩
     ·rintro ⟨h1,h2,o',ho',hd'⟩
      rcases List.mem_cons.1 h1 with rfl | h1
      ·rw[ho] at ho';simp at ho';subst ho'
       rw[show (deps o).all (D.contains ·)=true by simpa using hd'] at hd
       simp at hd
      ·exact ⟨h1,h2,o',ho',hd'⟩
   ·rename_i ho
    rw[ih]
    constructor
    ·rintro ⟨h1,h2⟩;exact ⟨List.mem_cons_of_mem _ h1,h2⟩
    ·rintro ⟨h1,h2,o',ho',hd'⟩
     rcases List.mem_cons.1 h1 with rfl | h1
     ·rw[ho] at ho';simp at ho'
     ·exact ⟨h1,h2,o',ho',hd'⟩
theorem uL0 {D:List Nat} {pu:Bool} {i:Nat}:∀{l:List Nat},mF0 ops D pu l=some i->i∉D/\∃o,ops[i]?=some o/\yP0 o.op=pu/\∀d∈deps o,d∈D
 | [],h=>by simp[mF0] at h
 | j::r,h=>by
  simp only[mF0] at h
  split at h
  ·exact uL0 h
  ·rename_i hj
   split at h
   ·rename_i o ho
    split at h
    ·rename_i hb
     simp only[Option.some.injEq] at h;subst h;simp only[Bool.and_eq_true,beq_iff_eq,List.all_eq_true,List.contains_eq_mem,decide_eq_true_eq] at hb;exact ⟨by simpa using hj,o,ho,hb.1,hb.2⟩
    ·exact uL0 h
   ·simp at h
theorem rV0 {D:List Nat} {pu:Bool}:∀{l:List Nat},(∀i∈l,i < ops.size)->mF0 ops D pu l=none->∀i∈l,i∉D->∀o,ops[i]?=some o->(∀d∈deps o,d∈D)->yP0 o.op≠pu
 | [],_,_,i,hi=>by simp at hi
 | j::r,hl,h,i,hi=>by
  intro hiD o ho hd hp;simp only[mF0] at h
  split at h
  ·rename_i hj
   rcases List.mem_cons.1 hi with rfl | hi
   ·exact hiD (by simpa using hj)
   ·exact rV0 (fun i hi=>hl i (List.mem_cons_of_mem _ hi)) h i hi hiD o ho hd hp
  ·split at h
   ·rename_i o' ho'
    split at h
    ·simp at h
    ·rename_i hb
     rcases List.mem_cons.1 hi with rfl | hi
     ·rw[ho] at ho';simp at ho';subst ho'
      have:(yP0 o.op == pu && (deps o).all (D.contains ·))=true:=by simp[hp];exact hd
      rw[this] at hb;simp at hb
     ·exact rV0 (fun i hi=>hl i (List.mem_cons_of_mem _ hi)) h i hi hiD o ho hd hp
   ·rename_i ho'
    have:=hl j List.mem_cons_self;rw[Array.getElem?_eq_getElem this] at ho';simp at ho'
theorem pB0 (hts:∀n ti,ts n=some ti->tyOf P n=some ti):∀{n:Nat} {D:List Nat} {pend:List (Nat×AV)} {acc:List Prop} {kn:List (Nat×Bool)} {σ:AS},gExp .std ts P base ops n D pend acc kn σ K->∀p∈acc,p
 | 0,D,pend,acc,kn,σ,h=>h.elim
 | n+1,D,pend,acc,kn,σ,h=>by
  simp only[gExp] at h
  split at h
  ·split at h
   ·exact h.elim
   ·refine ME0 ?_ h
    intro acc kn pend σ go h
    split at h
    ·exact h.elim
    ·split at h
     ·split at h
      ·exact (cat_all.1 (pB0 hts h)).1
      ·exact h.elim
     ·exact h.elim
  ·split at h
   ·simp only[fin,out_iff] at h;exact h.1
   ·rw[out_iff] at h;exact h.1
theorem FM0 (hts:∀n ti,ts n=some ti->tyOf P n=some ti) (hs:NN0 ops=true) (hdep:∀i o,ops[i]?=some o->∀d∈deps o,d < i) (hQ:∀σ X a w,K σ.next->Inv C X σ a w->Q .normal a w) :
  ∀(fuel n:Nat) (D:List Nat) (pend:List (Nat×AV)) (acc:List Prop) (kn:List (Nat×Bool)) (s τ:AS) (listed:Array Bool) (X:List Nat) (a:Act) (w:World),
   DI C P ops listed D (List.range ops.size) pend s τ X a w->gExp .std ts P base ops n D pend acc kn s K->left ops.size listed<=fuel->wpAny P .any ops Q fuel listed a w:=by
 have hrange:∀i∈List.range ops.size,i < ops.size:=fun i hi=>List.mem_range.1 hi;have notready:∀{listed:Array Bool},listed.size=ops.size->Region.ready .any ops listed=[]->∀i,i < ops.size->Lst listed i:=by
  intro listed hn hr i
  induction i using Nat.strongRecOn with
  | _ i ih=>
   intro hi;refine Classical.byContradiction fun hc=>?_;have ho:=Array.getElem?_eq_getElem hi;have:i∈Region.ready .any ops listed:=(tL0 hn).2 ⟨_,ho,hc,fun d hd=>by have:=hdep i _ ho d hd;exact ih d this (by omega)⟩
   rw[hr] at this;simp at this
 have done:∀{n:Nat} {D:List Nat} {pend:List (Nat×AV)} {acc:List Prop} {kn:List (Nat×Bool)} {s τ:AS} {listed:Array Bool} {X:List Nat} {a:Act} {w:World},
   DI C P ops listed D (List.range ops.size) pend s τ X a w->gExp .std ts P base ops n D pend acc kn s K->(∀i,i < ops.size->Lst listed i)->Q .normal a w:=by
  intro n D pend acc kn s τ listed X a w hI hg hall;cases n with
  | zero=>exact hg.elim
  | succ n=>
   simp only[gExp] at hg
   split at hg
   ·rename_i i hi
    obtain ⟨h1,o,h2,_⟩:=uL0 hi;exact absurd (hI.lD i (hall i (Array.getElem?_eq_some_iff.1 h2).1)) h1
   ·split at hg
    ·simp only[fin,out_iff] at hg
     have:τ=s:=Sim.eq hI.sim fun t ⟨q,o,h1,h2,h3,h4⟩=>h3 (hall q (Array.getElem?_eq_some_iff.1 h1).1);subst this;exact hQ _ X a w hg.2 hI.inv
    ·rename_i e es he
     have hm:e∈effs ops D (List.range ops.size):=by rw[he];exact List.mem_cons_self
     obtain ⟨h0,h1,_⟩:=effs_mem.1 hm;exact absurd (hI.lD e (hall e (hrange e h0))) h1
 intro fuel
 induction fuel with
 | zero=>
  intro n D pend acc kn s τ listed X a w hI hg hf;have hall:∀i,i < ops.size->Lst listed i:=by
   intro i hi;refine Classical.byContradiction fun hc=>?_;have:=bM0 hI.size hi hc;omega
  refine ⟨?_,done hI hg hall⟩;cases hr:Region.ready .any ops listed with
  | nil=>rfl
  | cons i l=>
   have:i∈Region.ready .any ops listed:=by rw[hr];exact List.mem_cons_self
   obtain ⟨o,h1,h2,_⟩:=(tL0 hI.size).1 this;exact absurd (hall i (Array.getElem?_eq_some_iff.1 h1).1) h2
 | succ fuel ihf=>
  have late:∀{n:Nat} {D:List Nat} {pend:List (Nat×AV)} {acc:List Prop} {kn:List (Nat×Bool)} {s τ:AS} {listed:Array Bool} {X:List Nat} {a:Act} {w:World},
    DI C P ops listed D (List.range ops.size) pend s τ X a w->gExp .std ts P base ops n D pend acc kn s K->left ops.size listed<=fuel+1->
    ∀i∈Region.ready .any ops listed,i∈D->wpOp P ops Q i (wpAny P .any ops Q fuel (listed.setIfInBounds i true)) a w:=by
   intro n D pend acc kn s τ listed X a w hI hg hf i hr hiD;obtain ⟨o,ho,hnl,hdl⟩:=(tL0 hI.size).1 hr;have hlt:=(Array.getElem?_eq_some_iff.1 ho).1;have hlt':i < listed.size:=by rw[hI.size];exact hlt
   have hp:yP0 o.op=true:=by
    cases hp:yP0 o.op with
    | true=>rfl
    | false=>exact absurd (hI.eff i o hiD ho hp) hnl
   obtain ⟨v,hv⟩:=hI.pendD i o hiD ho hnl;obtain ⟨o',d,e1,e2,e3,e4,e5,e6,e7⟩:=hI.pendOk i v hv;rw[ho] at e1;simp at e1;subst e1;have hlook:=QB0 hs ho hdl;have hst:=StepV.step (base:=base) ho hp (e5.sim hI.sim hp hlook);refine wpOp_mono ?_ (kL0 hst hI.inv fun hx=>hnl (hI.xs i hx));rintro a' w' ⟨τ',rfl,hinv⟩;rw[e2] at hinv;have hls:=bM0 hI.size hlt hnl;refine ihf n D pend acc kn s (τ.put d v) _ (i::X) a' w' ?_ hg (by omega)
   refine ⟨by simpa using hI.size,hI.cover,fun j hj=>?_,fun j oj hj hoj dd hdd=>?_,hI.dclosed,fun j oj hj hoj hpj=>(Lst.set hlt').2 (.inr (hI.eff j oj hj hoj hpj)),
    fun j oj hj hoj hnj=>hI.pendD j oj hj hoj fun h=>hnj ((Lst.set hlt').2 (.inr h)),hI.pendOk,?_,hinv,fun j hj=>?_⟩
   ·rcases (Lst.set hlt').1 hj with rfl | hj
    ·exact hiD
    ·exact hI.lD j hj
   ·rcases (Lst.set hlt').1 hj with rfl | hj
    ·rw[ho] at hoj;simp at hoj;subst hoj
     exact (Lst.set hlt').2 (.inr (hdl dd hdd))
    ·exact (Lst.set hlt').2 (.inr (hI.closed j oj hj hoj dd hdd))
   ·refine Sim.less hI.sim (fun t ⟨q,oq,h1,h2,h3,h4⟩=>?_) (fun t ⟨q,oq,h1,h2,h3,h4⟩=>?_) e4
    ·by_cases hqi:q=i
     ·subst hqi
      rw[ho] at h1;simp at h1;subst h1;rw[e2] at h4;simp at h4;exact .inr h4.symm
     ·exact .inl ⟨q,oq,h1,h2,fun hl=>((Lst.set hlt').1 hl).elim hqi h3,h4⟩
    ·have hqi:q≠i:=fun e=>h3 ((Lst.set hlt').2 (.inl e))
     refine ⟨⟨q,oq,h1,h2,fun hl=>h3 ((Lst.set hlt').2 (.inr hl)),h4⟩,?_⟩;rintro rfl;exact (qQ0 hs ho hp e2 h1).1 hqi h4
   ·rcases List.mem_cons.1 hj with rfl | hj
    ·exact (Lst.set hlt').2 (.inl rfl)
    ·exact (Lst.set hlt').2 (.inr (hI.xs j hj))
  intro n
  induction n with
  | zero=>intro D pend acc kn s τ listed X a w hI hg hf;exact hg.elim
  | succ n ihr=>
   intro D pend acc kn s τ listed X a w hI hg hf;have hg0:=hg;simp only[gExp] at hg
   split at hg
   ·rename_i i hi
    obtain ⟨hiD,o,ho,hp,hdD⟩:=uL0 hi;have hnl:¬Lst listed i:=fun h=>hiD (hI.lD i h);simp only[ho] at hg;obtain ⟨_,acc',kn',go,hK,hsays⟩:=XV0 (fun acc kn pend σ go h=>by
     split at h
     ·exact h.elim
     ·split at h
      ·split at h
       ·exact (cat_all.1 (pB0 hts h)).1
       ·exact h.elim
      ·exact h.elim) (fun p v hm=>by
     obtain ⟨o,d,h1,h2,_,h3,_⟩:=hI.pendOk p v hm;exact ⟨o,d,h1,h2,h3⟩) hg
    clear hg
    split at hK
    ·exact hK.elim
    ·rename_i d hd
     split at hK
     ·rename_i ps v hv
      split at hK
      ·rename_i hb
       simp only[Bool.and_eq_true,decide_eq_true_eq] at hb;obtain ⟨hno,hdl⟩:=hb;have hps:=(cat_all.1 (pB0 hts hK)).2;have hsv:StepV P ops s o v:=yH1 hts hp hsays hv hps;have hZ:Zof ops listed d:=⟨i,o,ho,hp,hnl,hd⟩;have hself:=Sim.self_put hI.sim hZ hno;have hstay:∀{p:Nat} {op:Oper} {v':AV},ops[p]?=some op->yP0 op.op=true->(∀x∈deps op,x∈D)->StepV P ops s op v'->StepV P ops (s.put d v) op v':=by
        intro p op v' hop hpp hdp hv';refine hv'.sim hself hpp fun t ht e=>?_;subst e;exact hiD (hdp i ((qQ0 hs ho hp hd hop).2 ht))
       refine ihr (i::D) ((i,v)::pend) _ _ (s.put d v) τ listed X a w ?_ hK hf;refine ⟨hI.size,fun j hj=>.inr (List.mem_range.2 hj),fun j hj=>List.mem_cons_of_mem _ (hI.lD j hj),hI.closed,fun j oj hj hoj dd hdd=>?_,fun j oj hj hoj hpj=>?_,fun j oj hj hoj hnj=>?_,fun p v' hm=>?_,Sim.grow hI.sim hZ hno,hI.inv,hI.xs⟩
       ·rcases List.mem_cons.1 hj with rfl | hj
        ·rw[ho] at hoj;simp at hoj;subst hoj
         exact List.mem_cons_of_mem _ (hdD dd hdd)
        ·exact List.mem_cons_of_mem _ (hI.dclosed j oj hj hoj dd hdd)
       ·rcases List.mem_cons.1 hj with rfl | hj
        ·rw[ho] at hoj;simp at hoj;subst hoj
         rw[hp] at hpj;simp at hpj
        ·exact hI.eff j oj hj hoj hpj
       ·rcases List.mem_cons.1 hj with rfl | hj
        ·exact ⟨v,List.mem_cons_self⟩
        ·obtain ⟨v',h⟩:=hI.pendD j oj hj hoj hnj
         exact ⟨v',List.mem_cons_of_mem _ h⟩
       ·rcases List.mem_cons.1 hm with hm | hm
        ·simp only[Prod.mk.injEq] at hm
         obtain ⟨rfl,rfl⟩:=hm;exact ⟨o,d,ho,hd,hp,by simp[AS.put,hdl],hstay ho hp hdD hsv,hno,List.mem_cons_self⟩
        ·obtain ⟨o',d',h1,h2,h3,h4,h5,h6,h7⟩:=hI.pendOk p v' hm
         have hpi:p≠i:=fun e=>hiD (e ▸ h7);refine ⟨o',d',h1,h2,h3,?_,hstay h1 h3 (hI.dclosed p o' h7 h1) h5,h6,List.mem_cons_of_mem _ h7⟩;have hne:d≠d':=fun e=>(qQ0 hs ho hp hd h1).1 hpi (by rw[h2,e])
         simp only[AS.put];rw[List.getElem?_set_ne hne];exact h4
      ·exact hK.elim
     ·exact hK.elim
   ·rename_i hnp
    split at hg
    ·rename_i he
     refine ⟨fun hr=>done hI hg0 (notready hI.size hr),fun j hj=>?_⟩;obtain ⟨oj,hoj,hnj,hdj⟩:=(tL0 hI.size).1 hj
     by_cases hjD:j∈D
     ·exact late hI hg0 hf j hj hjD
     ·have:j∈effs ops D (List.range ops.size):=effs_mem.2 ⟨List.mem_range.2 (Array.getElem?_eq_some_iff.1 hoj).1,hjD,oj,hoj,fun d hd=>hI.lD d (hdj d hd)⟩
      rw[he] at this;simp at this
    ·rename_i e es he
     rw[out_iff] at hg;refine ⟨fun hr=>done hI hg0 (notready hI.size hr),fun j hj=>?_⟩;obtain ⟨oj,hoj,hnj,hdj⟩:=(tL0 hI.size).1 hj
     by_cases hjD:j∈D
     ·exact late hI hg0 hf j hj hjD
     have hdD:∀d∈deps oj,d∈D:=fun d hd=>hI.lD d (hdj d hd);have hlt:=(Array.getElem?_eq_some_iff.1 hoj).1;have hlt':j < listed.size:=by rw[hI.size];exact hlt
     have hm:j∈effs ops D (List.range ops.size):=effs_mem.2 ⟨List.mem_range.2 hlt,hjD,oj,hoj,hdD⟩;have hp:yP0 oj.op=false:=by
      have:=rV0 hrange hnp j (List.mem_range.2 hlt) hjD oj hoj hdD;simpa using this
     rw[he] at hm;have hg1:=QP0 hg.2 j hm;simp only[hoj] at hg1;obtain ⟨_,acc',kn',go,hK,hsays⟩:=XV0 (fun acc kn pend σ go h=>by
      refine rF1 hts ?_ h;intro acc' σ' h
      split at h
      ·exact (cat_all.1 (pB0 hts h)).1
      ·exact h.elim) (fun p v hm=>by
      obtain ⟨o,d,h1,h2,_,h3,_⟩:=hI.pendOk p v hm;exact ⟨o,d,h1,h2,h3⟩) hg1
     obtain ⟨_,hst⟩:=mD1 (K':=fun σ'=>∃acc' qs,nF0 .std ts ops σ' (gW0 (forced ops D (deps oj)) pend)=some qs/\(∀q∈qs,q)/\gExp .std ts P base ops n (j::D) (gW0 (forced ops D (deps oj)) pend) (cat acc' qs) kn' σ' K) hts hoj (fun acc σ h=>by
      split at h
      ·rename_i qs hq
       have:=cat_all.1 (pB0 hts h);exact ⟨this.1,acc,qs,hq,this.2,h⟩
      ·exact h.elim) hsays hK
     have hst2:=zE1 hI.sim hoj (QB0 hs hoj hdj) (NM0 hs hoj hp) hst;refine wpOp_mono ?_ (kL0 hst2 hI.inv fun hx=>hnj (hI.xs j hx));rintro a' w' ⟨τ',⟨s',⟨acc2,qs,hq1,hq2,hq3⟩,hsim⟩,hinv⟩;have hls:=bM0 hI.size hlt hnj;refine ihf n (j::D) _ _ _ s' τ' _ (j::X) a' w' ?_ hq3 (by omega)
     have hL:∀k,Lst (listed.setIfInBounds j true) k↔k=j\/Lst listed k:=fun k=>Lst.set hlt';refine ⟨by simpa using hI.size,fun k hk=>.inr (List.mem_range.2 hk),fun k hk=>?_,fun k ok hk hkk dd hdd=>?_,fun k ok hk hkk dd hdd=>?_,fun k ok hk hkk hpk=>?_,fun k ok hk hkk hnk=>?_,fun p v hm=>?_,?_,hinv,fun k hk=>?_⟩
     ·rcases (hL k).1 hk with rfl | hk
      ·exact List.mem_cons_self
      ·exact List.mem_cons_of_mem _ (hI.lD k hk)
     ·rcases (hL k).1 hk with rfl | hk
      ·rw[hoj] at hkk;simp at hkk;subst hkk
       exact (hL dd).2 (.inr (hdj dd hdd))
      ·exact (hL dd).2 (.inr (hI.closed k ok hk hkk dd hdd))
     ·rcases List.mem_cons.1 hk with rfl | hk
      ·rw[hoj] at hkk;simp at hkk;subst hkk
       exact List.mem_cons_of_mem _ (hdD dd hdd)
      ·exact List.mem_cons_of_mem _ (hI.dclosed k ok hk hkk dd hdd)
     ·rcases List.mem_cons.1 hk with rfl | hk
      ·exact (hL _).2 (.inl rfl)
      ·exact (hL k).2 (.inr (hI.eff k ok hk hkk hpk))
     ·rcases List.mem_cons.1 hk with rfl | hk
      ·exact absurd ((hL _).2 (.inl rfl)) hnk
      ·have hnk':¬Lst listed k:=fun h=>hnk ((hL k).2 (.inr h))
       obtain ⟨v,hv⟩:=hI.pendD k ok hk hkk hnk';exact ⟨v,nW0 (fun hm=>hnk' (XY0 hI.closed hdj k hm)) hv⟩
     ·obtain ⟨o1,d1,g1,g2,g3,g4⟩:=fN0 hts hq1 hq2 p v hm
      obtain ⟨o2,d2,h1,h2,h3,h4,h5,h6,h7⟩:=hI.pendOk p v (hG0 hm);rw[g1] at h1;simp at h1;subst h1;exact ⟨o1,d1,g1,g2,h3,g3,g4 h3,h6,List.mem_cons_of_mem _ h7⟩
     ·refine Sim.congr hsim fun t=>?_
      constructor
      ·rintro ⟨q,oq,h1,h2,h3,h4⟩
       refine ⟨q,oq,h1,h2,fun hl=>((hL q).1 hl).elim (fun e=>?_) h3,h4⟩;subst e;rw[hoj] at h1;simp at h1;subst h1;rw[hp] at h2;simp at h2
      ·rintro ⟨q,oq,h1,h2,h3,h4⟩
       exact ⟨q,oq,h1,h2,fun hl=>h3 ((hL q).2 (.inr hl)),h4⟩
     ·rcases List.mem_cons.1 hk with rfl | hk
      ·exact (hL _).2 (.inl rfl)
      ·exact (hL k).2 (.inr (hI.xs k hk))
theorem aE {O:Ops} {base id:Nat} {σ:AS} {Q:Exit->AS->Prop} (hm:P.follows .mixedOrders=true) (hok:exOk ops=true)
  (h:∀K:AS->Prop,(∀σ',Q .normal σ'->K σ')->gExp O ts P base ops (ops.size+1) [] [] [] [] (AS.blank (vC0 ops) σ) K):At O ts P C (.region id ops true) σ Q:=⟨by
 intro hO ht a w hi;subst hO;refine wp_region_any hm ?_;simp only[exOk,Bool.and_eq_true,List.all_eq_true,List.mem_range] at hok;obtain ⟨h2,h3⟩:=hok;have hdep:∀i o,ops[i]?=some o->∀d∈deps o,d < i:=fun i o ho d hd=>by
  have:=h3 i (Array.getElem?_eq_some_iff.1 ho).1;simp only[ho,List.all_eq_true,decide_eq_true_eq] at this;exact this d hd
 have hn:∀i,¬Lst (Array.replicate ops.size false) i:=fun i hl=>by
  unfold Lst at hl;simp only[Array.getD_eq_getD_getElem?] at hl;rw[Array.getElem?_replicate] at hl
  split at hl<;>simp at hl
 have hinv:=wP1 (vC0 ops) (InvAt.drawn hi);refine FM0 (K:=fun σ'=>Q .normal σ') ht h2 hdep (fun σ X a w hk hv=>⟨_,hk,hv.next⟩) ops.size _ [] [] [] [] (AS.blank (vC0 ops) σ) (AS.blank (vC0 ops) σ) _ [] a _ ?_ (h (fun σ'=>Q .normal σ') fun _ h=>h) ?_
 ·refine ⟨by simp,fun i hi=>.inr (List.mem_range.2 hi),fun i hl=>absurd hl (hn i),fun i o hl=>absurd hl (hn i),fun i o hi=>by simp at hi,fun i o hi=>by simp at hi,fun i o hi=>by simp at hi,fun p v hm=>by simp at hm,?_,hinv,fun i hi=>by simp at hi⟩
  have no:∀t,Zof ops (Array.replicate ops.size false) t->XD0 (AS.blank (vC0 ops) σ).slots[t]?:=by
   rintro t ⟨q,o,g1,g2,_,g4⟩ av hav;simp only[AS.blank,uU0,Nat.zero_add] at hav;have:(vC0 ops).contains t=true:=by simpa using XA0 g1 g2 g4
   rw[this] at hav;cases hs:σ.slots[t]? with
   | none=>rw[hs] at hav;simp at hav
   | some av0=>
    rw[hs] at hav;simp only[Option.map_some,Option.some.injEq] at hav;subst hav;simp
  exact ⟨rfl,fun _ _=>rfl,no,no,rfl,rfl⟩
 ·unfold left
  exact Nat.le_trans (List.length_filter_le _ _) (by simp)⟩
theorem tG1 {x y:Unit->Prop} (h:x ()) (k:y ()):qU1 x y:=⟨h,k⟩
end Go.Gv
