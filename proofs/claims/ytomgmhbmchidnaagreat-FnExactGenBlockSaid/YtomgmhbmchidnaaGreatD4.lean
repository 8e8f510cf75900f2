/- Part D4 of the proof: Avs, part 42: the rule for regions that draw their order. -/
import Derived.Test.YtomgmhbmchidnaaGreatD3
set_option linter.all false
/- Avs, part 42: the rule for regions that draw their order. -/
namespace Go.Gv
open Go.Av
variable {P:Program} {ts:Nat->Option TI} {ops:Array Oper} {C:Ctx} {Q:Exit->Act->World->Prop} {K:AS->Prop} {base:Nat}
theorem qR0 {D:List Nat} {i:Nat} {rest:List Nat} (h:okGo ops D (i::rest)=true):∃o,ops[i]?=some o/\(∀d∈deps o,d∈D)/\
  (zX0 o.op=true\/∀k∈rest,∃ok,ops[k]?=some ok/\∃d∈deps ok,d=i\/d∈rest)/\i∉D/\okGo ops (i::D) rest=true:=by
 simp only[okGo] at h
 split at h
 ·simp at h
 ·rename_i o ho
  simp only[Bool.and_eq_true,Bool.or_eq_true,Bool.not_eq_true',List.all_eq_true,List.contains_eq_mem,decide_eq_true_eq,decide_eq_false_iff_not] at h;obtain ⟨⟨⟨h1,h2⟩,h3⟩,h4⟩:=h;refine ⟨o,ho,h1,h2.imp id fun h2 k hk=>?_,h3,h4⟩;have:=h2 k hk
  split at this
  ·rename_i ok hok
   rw[List.any_eq_true] at this;obtain ⟨d,hd,h5⟩:=this;simp only[Bool.or_eq_true,beq_iff_eq,decide_eq_true_eq] at h5;exact ⟨ok,hok,d,hd,h5⟩
  ·simp at this
theorem jK0:∀{rest D:List Nat},okGo ops D rest=true->∀i∈rest,i∉D
 | [],D,_,i,hi=>by simp at hi
 | j::rest,D,h,i,hi=>by
  obtain ⟨o,_,_,_,h3,h4⟩:=qR0 h;rcases List.mem_cons.1 hi with rfl | hi
  ·exact h3
  ·exact fun hm=>jK0 h4 i hi (List.mem_cons_of_mem _ hm)
theorem nL0 {listed:Array Bool} (hno:∀i o,ops[i]?=some o->(∀d∈deps o,Lst listed d)->Lst listed i):∀{rest D:List Nat},okGo ops D rest=true->(∀d∈D,Lst listed d)->∀i∈rest,Lst listed i
 | [],D,_,_,i,hi=>by simp at hi
 | j::rest,D,h,hD,i,hi=>by
  obtain ⟨o,h1,h2,_,_,h4⟩:=qR0 h;have hj:Lst listed j:=hno j o h1 fun d hd=>hD d (h2 d hd);rcases List.mem_cons.1 hi with rfl | hi
  ·exact hj
  ·exact nL0 hno h4 (fun d hd=>by
    rcases List.mem_cons.1 hd with rfl | hd
    ·exact hj
    ·exact hD d hd) i hi
theorem VJ0 {Z:Nat->Prop} {s τ:AS} (h:Sim Z s τ) {i:Nat} {o:Oper} (ho:ops[i]?=some o) (hl:∀t∈o.looksAt ops,¬Z t) (hd:∀d,o.dst=some d->¬Z d) {K:AS->Prop} (hx:pN0 P base ops i s K) :
  pN0 P base ops i τ fun τ'=>∃s',K s'/\Sim Z s' τ':=by
 have put:∀{s τ:AS} (av:AV),Sim Z s τ->Sim Z (s.putO o.dst av) (τ.putO o.dst av):=by
  intro s τ av h;cases hdst:o.dst with
  | none=>exact h
  | some d=>exact h.put (hd d hdst) av
 have ex:∀{s τ:AS},Sim Z s τ->nN0 P base i o s K->nN0 P base i o τ fun τ'=>∃s',K s'/\Sim Z s' τ':=by
  intro s τ h hx;have hev:=Sim.evs_of h hl;unfold nN0 at *
  split at hx
  ·rename_i fop args at' hop
   simp only[hop] at hev |-;obtain ⟨hh,hx⟩:=hx;refine ⟨hh,?_⟩;unfold NE0 at *;have hpre:=VM0 h (hh:=hh) (i:=i) (fop:=fop) (args:=args.toList) (hev _ (by simp[Op.operands,Call.operands])) (fun x hx=>hev _ (by simp only[Op.operands,Call.operands];simpa using Or.inr hx))
   split at hx
   ·rename_i f cargs cbx σm hq
    rw[hq] at hpre;cases hq2:wP0 hh i τ fop args.toList with
    | none=>rw[hq2] at hpre;simp[pre4,SimO] at hpre
    | some r=>
     obtain ⟨f2,cargs2,cbx2,σm2⟩:=r;rw[hq2] at hpre;obtain ⟨e1,e2⟩:=hpre;simp only[Prod.mk.injEq] at e1;obtain ⟨rfl,rfl,rfl⟩:=e1;simp only;obtain ⟨R,g1,g2,g3⟩:=hx;refine ⟨R,g1,g2,fun res bx hR=>⟨_,g3 res bx hR,?_⟩⟩;obtain ⟨k1,k2⟩:=ZX0 e2 hh.ids i res bx;simp only at k1 k2;rw[k1];exact put _ k2
   ·exact hx.elim
  ·rename_i op hne
   have hs:=ND0 (P:=P) h (base:=base) (i:=i) (dst:=o.dst) hev
   split at hx
   ·rename_i r hr
    rw[hr] at hs;cases hq2:aEff P base i o.dst τ o.op with
    | none=>rw[hq2] at hs;simp[SimO] at hs
    | some r2=>
     rw[hq2] at hs;obtain ⟨e1,e2⟩:=hs;simp only[e1];exact ⟨_,hx,put _ e2⟩
   ·exact hx.elim
 unfold pN0 at *;simp only[ho] at hx |-
 split at hx
 ·exact ex h hx
 ·rename_i g want hg
  have hgv:=Sim.guard_of h hl hg;unfold wK0 at hgv;rw[hgv];have kn:∀b,Sim Z (s.known ops g b) (τ.known ops g b):=by
   intro b;unfold AS.known;cases hdst:(ops[g]?).bind (·.dst) with
   | none=>exact h
   | some t=>exact h.put (hl t (guard_looks hg hdst)) _
  split at hx
  ·exact ⟨fun e=>ex (kn _) (hx.1 e),fun e=>⟨_,hx.2 e,put _ (kn _)⟩⟩
  ·exact ⟨_,hx,put _ h⟩
  ·exact hx.elim
theorem fK0 (hs:YQ0 ops=true) {listed:Array Bool} {i:Nat} {o:Oper} (ho:ops[i]?=some o) (hp:zX0 o.op=false):∀d,o.dst=some d->¬Zof ops listed d:=by
 rintro d hd ⟨q,oq,h1,h2,h3,h4⟩;have hne:i≠q:=by
  rintro rfl;rw[ho] at h1;simp at h1;subst h1;rw[hp] at h2;simp at h2
 exact (vB0 hs h1 h2 h4 ho).1 hne hd
theorem QF0 (hts:∀n ti,ts n=some ti->tyOf P n=some ti) {σ:AS} {o:Oper} (hp:zX0 o.op=true) {go:Bool} (hs:Says ops σ o go) {ps:List Prop} {v:AV}
  (h:goV go (gR0 .std ts σ o.op)=some (ps,v)) (hn:∀p∈ps,p):StepV P ops σ o v:=by
 unfold Says at hs;unfold StepV
 split
 ·rename_i hg
  simp only[hg] at hs;subst hs;exact qN0 hts hp h hn
 ·rename_i g want hg
  simp only[hg] at hs
  split at hs
  ·rename_i b hb
   try simp only[hb]
   cases go with
   | true=>
    have hbw:b=want:=by simpa using hs.symm
    exact ⟨fun _=>qN0 hts hp h hn,fun e=>by subst hbw;cases b<;>simp at e⟩
   | false=>
    simp[goV,ret] at h;exact ⟨fun e=>by subst e;simp at hs,fun _=>h.2.symm⟩
  ·rename_i hb
   try simp only[hb]
   subst hs;simp[goV,ret] at h;exact h.2.symm
  ·exact hs.elim
theorem Sim.congr {Z Z':Nat->Prop} {s τ:AS} (h:Sim Z s τ) (hz:∀t,Z t↔Z' t):Sim Z' s τ:=by
 have:Z=Z':=funext fun t=>propext (hz t);subst this;exact h
theorem wA1 (hts:∀n ti,ts n=some ti->tyOf P n=some ti) (hs:YQ0 ops=true) {ord:List Nat} (hord:okGo ops [] ord=true) (hcov:∀i,i < ops.size->i∈ord) (hQ:∀σ X a w,K σ.next->Inv C X σ a w->Q .normal a w) :
  ∀(fuel:Nat) (rest D:List Nat) (pend:List (Nat×AV)) (acc:List Prop) (kn:List (Nat×Bool)) (s τ:AS) (listed:Array Bool) (X:List Nat) (a:Act) (w:World),
   DI C P ops listed D rest pend s τ X a w->okGo ops D rest=true->gCan .std ts P base ops rest D pend acc kn s K->left ops.size listed<=fuel->wpAny P .any ops Q fuel listed a w:=by
 have done:∀{rest D:List Nat} {pend:List (Nat×AV)} {acc:List Prop} {kn:List (Nat×Bool)} {s τ:AS} {listed:Array Bool} {X:List Nat} {a:Act} {w:World},
   DI C P ops listed D rest pend s τ X a w->okGo ops D rest=true->gCan .std ts P base ops rest D pend acc kn s K->(∀i,i < ops.size->Lst listed i)->Q .normal a w:=by
  intro rest D pend acc kn s τ listed X a w hI hok hg hall;cases rest with
  | cons i rest=>
   obtain ⟨o,h1,_⟩:=qR0 hok;exact absurd (hI.lD i (hall i (Array.getElem?_eq_some_iff.1 h1).1)) (jK0 hok i List.mem_cons_self)
  | nil=>
   simp only[gCan,fin,out_iff] at hg;have:τ=s:=Sim.eq hI.sim fun t ⟨q,o,h1,h2,h3,h4⟩=>h3 (hall q (Array.getElem?_eq_some_iff.1 h1).1);subst this;exact hQ _ X a w hg.2 hI.inv
 have notready:∀{listed:Array Bool},listed.size=ops.size->Region.ready .any ops listed=[]->∀i,i < ops.size->Lst listed i:=by
  intro listed hn hr i hi;refine nL0 (fun i o ho hd=>?_) hord (by simp) i (hcov i hi)
  refine Classical.byContradiction fun hc=>?_;have:i∈Region.ready .any ops listed:=(zG0 hn).2 ⟨o,ho,hc,hd⟩;rw[hr] at this;simp at this
 intro fuel
 induction fuel with
 | zero=>
  intro rest D pend acc kn s τ listed X a w hI hok hg hf;have hall:∀i,i < ops.size->Lst listed i:=by
   intro i hi;refine Classical.byContradiction fun hc=>?_;have:=tW0 hI.size hi hc;omega
  refine ⟨?_,done hI hok hg hall⟩;cases hr:Region.ready .any ops listed with
  | nil=>rfl
  | cons i l=>
   have:i∈Region.ready .any ops listed:=by rw[hr];exact List.mem_cons_self
   obtain ⟨o,h1,h2,_⟩:=(zG0 hI.size).1 this;exact absurd (hall i (Array.getElem?_eq_some_iff.1 h1).1) h2
 | succ fuel ihf=>
  have late:∀{rest D:List Nat} {pend:List (Nat×AV)} {acc:List Prop} {kn:List (Nat×Bool)} {s τ:AS} {listed:Array Bool} {X:List Nat} {a:Act} {w:World},
    DI C P ops listed D rest pend s τ X a w->okGo ops D rest=true->gCan .std ts P base ops rest D pend acc kn s K->left ops.size listed<=fuel+1->
    ∀i∈Region.ready .any ops listed,i∈D->wpOp P ops Q i (wpAny P .any ops Q fuel (listed.setIfInBounds i true)) a w:=by
   intro rest D pend acc kn s τ listed X a w hI hok hg hf i hr hiD;obtain ⟨o,ho,hnl,hdl⟩:=(zG0 hI.size).1 hr;have hlt:=(Array.getElem?_eq_some_iff.1 ho).1;have hlt':i < listed.size:=by rw[hI.size];exact hlt
   have hp:zX0 o.op=true:=by
    cases hp:zX0 o.op with
    | true=>rfl
    | false=>exact absurd (hI.eff i o hiD ho hp) hnl
   obtain ⟨v,hv⟩:=hI.pendD i o hiD ho hnl;obtain ⟨o',d,e1,e2,e3,e4,e5,e6,e7⟩:=hI.pendOk i v hv;rw[ho] at e1;simp at e1;subst e1;have hlook:=mU0 hs ho hdl;have hst:=StepV.step (base:=base) ho hp (e5.sim hI.sim hp hlook);refine wpOp_mono ?_ (rE0 hst hI.inv fun hx=>hnl (hI.xs i hx));rintro a' w' ⟨τ',rfl,hinv⟩;rw[e2] at hinv;have hls:=tW0 hI.size hlt hnl;refine ihf rest D pend acc kn s (τ.put d v) _ (i::X) a' w' ?_ hok hg (by omega)
   refine ⟨by simpa using hI.size,hI.cover,fun j hj=>?_,fun j oj hj hoj dd hdd=>?_,hI.dclosed,fun j oj hj hoj hpj=>(Lst.set hlt').2 (.inr (hI.eff j oj hj hoj hpj)),
    fun j oj hj hoj hnj=>hI.pendD j oj hj hoj fun h=>hnj ((Lst.set hlt').2 (.inr h)),hI.pendOk,?_,hinv,fun j hj=>?_⟩
   ·rcases (Lst.set hlt').1 hj with rfl | hj
    ·exact hiD
    ·exact hI.lD j hj
   ·rcases (Lst.set hlt').1 hj with rfl | hj
    ·rw[ho] at hoj;simp at hoj;subst hoj
     exact (Lst.set hlt').2 (.inr (hdl dd hdd))
    ·exact (Lst.set hlt').2 (.inr (hI.closed j oj hj hoj dd hdd))
   ·refine Sim.less hI.sim (fun t ⟨q,oq,h1,h2,h3,h4⟩=>?_) (fun t ⟨q,oq,h1,h2,h3,h4⟩=>?_) e4
    ·by_cases hqi:q=i
     ·subst hqi
      rw[ho] at h1;simp at h1;subst h1;rw[e2] at h4;simp at h4;exact .inr h4.symm
     ·exact .inl ⟨q,oq,h1,h2,fun hl=>((Lst.set hlt').1 hl).elim hqi h3,h4⟩
    ·have hqi:q≠i:=fun e=>h3 ((Lst.set hlt').2 (.inl e))
     refine ⟨⟨q,oq,h1,h2,fun hl=>h3 ((Lst.set hlt').2 (.inr hl)),h4⟩,?_⟩;rintro rfl;exact (vB0 hs ho hp e2 h1).1 hqi h4
   ·rcases List.mem_cons.1 hj with rfl | hj
    ·exact (Lst.set hlt').2 (.inl rfl)
    ·exact (Lst.set hlt').2 (.inr (hI.xs j hj))
  intro rest
  induction rest with
  | nil=>
   intro D pend acc kn s τ listed X a w hI hok hg hf;refine ⟨fun hr=>done hI hok hg (notready hI.size hr),fun i hi=>?_⟩;obtain ⟨o,ho,_⟩:=(zG0 hI.size).1 hi;have:=hI.cover i (Array.getElem?_eq_some_iff.1 ho).1;exact late hI hok hg hf i hi (by simpa using this)
  | cons i rest ihr=>
   intro D pend acc kn s τ listed X a w hI hok hg hf;obtain ⟨o,ho,hdD,hblk,hiD,hok'⟩:=qR0 hok;have hg0:=hg;have hnl:¬Lst listed i:=fun h=>hiD (hI.lD i h);have hlt:=(Array.getElem?_eq_some_iff.1 ho).1;have hlt':i < listed.size:=by rw[hI.size];exact hlt
   simp only[gCan,ho] at hg;have hacc:∀acc kn pend σ go,(match zX0 o.op with
     | true=>match o.dst with
      | none=>False
      | some d=>match goV go (gR0 .std ts σ o.op) with
       | some (ps,v)=>match XA0 v && decide (d < σ.slots.length) with
        | true=>gCan .std ts P base ops rest (i::D) ((i,v)::pend) (cat acc ps) kn (σ.put d v) K
        | false=>False
       | none=>False
     | false=>match nE0 (forced ops D (deps o)) pend with
      | pend'=>gGo .std ts go P base i o acc σ fun acc' σ'=>match uV0 .std ts ops σ' pend' with
       | some qs=>gCan .std ts P base ops rest (i::D) pend' (cat acc' qs) kn σ' K
       | none=>False)->∀p∈acc,p:=by
    intro acc kn pend σ go h
    split at h
    ·split at h
     ·exact h.elim
     ·split at h
      ·split at h
       ·exact (cat_all.1 (tX0 hts h)).1
       ·exact h.elim
      ·exact h.elim
    ·refine UK0 hts ?_ h
     intro acc' σ' h
     split at h
     ·exact (cat_all.1 (tX0 hts h)).1
     ·exact h.elim
   obtain ⟨_,acc',kn',go,hK,hsays⟩:=jZ0 hacc (fun p v hm=>by
    obtain ⟨o,d,h1,h2,_,h3,_⟩:=hI.pendOk p v hm;exact ⟨o,d,h1,h2,h3⟩) hg
   clear hg hacc;cases hp:zX0 o.op with
   | true=>
    simp only[hp] at hK
    split at hK
    ·exact hK.elim
    ·rename_i d hd
     split at hK
     ·rename_i ps v hv
      split at hK
      ·rename_i hb
       simp only[Bool.and_eq_true,decide_eq_true_eq] at hb;obtain ⟨hno,hdl⟩:=hb;have hps:=(cat_all.1 (tX0 hts hK)).2;have hsv:StepV P ops s o v:=QF0 hts hp hsays hv hps;have hZ:Zof ops listed d:=⟨i,o,ho,hp,hnl,hd⟩;have hself:=Sim.self_put hI.sim hZ hno;have hstay:∀{p:Nat} {op:Oper} {v':AV},ops[p]?=some op->zX0 op.op=true->(∀x∈deps op,x∈D)->StepV P ops s op v'->StepV P ops (s.put d v) op v':=by
        intro p op v' hop hpp hdp hv';refine hv'.sim hself hpp fun t ht e=>?_;subst e;exact hiD (hdp i ((vB0 hs ho hp hd hop).2 ht))
       refine ihr (i::D) ((i,v)::pend) _ _ (s.put d v) τ listed X a w ?_ hok' hK hf;refine ⟨hI.size,fun j hj=>?_,fun j hj=>List.mem_cons_of_mem _ (hI.lD j hj),hI.closed,fun j oj hj hoj dd hdd=>?_,fun j oj hj hoj hpj=>?_,fun j oj hj hoj hnj=>?_,fun p v' hm=>?_,Sim.grow hI.sim hZ hno,hI.inv,hI.xs⟩
       ·rcases hI.cover j hj with h | h
        ·exact .inl (List.mem_cons_of_mem _ h)
        ·rcases List.mem_cons.1 h with rfl | h
         ·exact .inl List.mem_cons_self
         ·exact .inr h
       ·rcases List.mem_cons.1 hj with rfl | hj
        ·rw[ho] at hoj;simp at hoj;subst hoj
         exact List.mem_cons_of_mem _ (hdD dd hdd)
        ·exact List.mem_cons_of_mem _ (hI.dclosed j oj hj hoj dd hdd)
       ·rcases List.mem_cons.1 hj with rfl | hj
        ·rw[ho] at hoj;simp at hoj;subst hoj
         rw[hp] at hpj;simp at hpj
        ·exact hI.eff j oj hj hoj hpj
       ·rcases List.mem_cons.1 hj with rfl | hj
        ·exact ⟨v,List.mem_cons_self⟩
        ·obtain ⟨v',h⟩:=hI.pendD j oj hj hoj hnj
         exact ⟨v',List.mem_cons_of_mem _ h⟩
       ·rcases List.mem_cons.1 hm with hm | hm
        ·simp only[Prod.mk.injEq] at hm
         obtain ⟨rfl,rfl⟩:=hm;exact ⟨o,d,ho,hd,hp,by simp[AS.put,hdl],hstay ho hp hdD hsv,hno,List.mem_cons_self⟩
        ·obtain ⟨o',d',h1,h2,h3,h4,h5,h6,h7⟩:=hI.pendOk p v' hm
         have hpi:p≠i:=fun e=>hiD (e ▸ h7);refine ⟨o',d',h1,h2,h3,?_,hstay h1 h3 (hI.dclosed p o' h7 h1) h5,h6,List.mem_cons_of_mem _ h7⟩;have hne:d≠d':=fun e=>(vB0 hs ho hp hd h1).1 hpi (by rw[h2,e])
         simp only[AS.put];rw[List.getElem?_set_ne hne];exact h4
      ·exact hK.elim
     ·exact hK.elim
   | false=>
    simp only[hp] at hK;have hblk':∀k∈rest,∃ok,ops[k]?=some ok/\∃d∈deps ok,d=i\/d∈rest:=hblk.resolve_left (by rw[hp];simp)
    refine ⟨fun hr=>done hI hok hg0 (notready hI.size hr),fun j hj=>?_⟩;obtain ⟨oj,hoj,hnj,hdj⟩:=(zG0 hI.size).1 hj;rcases hI.cover j (Array.getElem?_eq_some_iff.1 hoj).1 with h | h
    ·exact late hI hok hg0 hf j hj h
    rcases List.mem_cons.1 h with rfl | h
    ·rw[ho] at hoj;simp at hoj;subst hoj
     obtain ⟨_,hst⟩:=uG1 (K':=fun σ'=>∃acc' qs,uV0 .std ts ops σ' (nE0 (forced ops D (deps o)) pend)=some qs/\(∀q∈qs,q)/\gCan .std ts P base ops rest (j::D) (nE0 (forced ops D (deps o)) pend) (cat acc' qs) kn' σ' K) hts ho (fun acc σ h=>by
      split at h
      ·rename_i qs hq
       have:=cat_all.1 (tX0 hts h);exact ⟨this.1,acc,qs,hq,this.2,h⟩
      ·exact h.elim) hsays hK
     have hst2:=VJ0 hI.sim ho (mU0 hs ho hdj) (fK0 hs ho hp) hst;refine wpOp_mono ?_ (rE0 hst2 hI.inv fun hx=>hnj (hI.xs j hx));rintro a' w' ⟨τ',⟨s',⟨acc2,qs,hq1,hq2,hq3⟩,hsim⟩,hinv⟩;have hls:=tW0 hI.size hlt hnl;refine ihf rest (j::D) _ _ _ s' τ' _ (j::X) a' w' ?_ hok' hq3 (by omega)
     have hL:∀k,Lst (listed.setIfInBounds j true) k↔k=j\/Lst listed k:=fun k=>Lst.set hlt';refine ⟨by simpa using hI.size,fun k hk=>?_,fun k hk=>?_,fun k ok hk hkk dd hdd=>?_,fun k ok hk hkk dd hdd=>?_,fun k ok hk hkk hpk=>?_,fun k ok hk hkk hnk=>?_,fun p v hm=>?_,?_,hinv,fun k hk=>?_⟩
     ·rcases hI.cover k hk with h | h
      ·exact .inl (List.mem_cons_of_mem _ h)
      ·rcases List.mem_cons.1 h with rfl | h
       ·exact .inl List.mem_cons_self
       ·exact .inr h
     ·rcases (hL k).1 hk with rfl | hk
      ·exact List.mem_cons_self
      ·exact List.mem_cons_of_mem _ (hI.lD k hk)
     ·rcases (hL k).1 hk with rfl | hk
      ·rw[ho] at hkk;simp at hkk;subst hkk
       exact (hL dd).2 (.inr (hdj dd hdd))
      ·exact (hL dd).2 (.inr (hI.closed k ok hk hkk dd hdd))
     ·rcases List.mem_cons.1 hk with rfl | hk
      ·rw[ho] at hkk;simp at hkk;subst hkk
       exact List.mem_cons_of_mem _ (hdD dd hdd)
      ·exact List.mem_cons_of_mem _ (hI.dclosed k ok hk hkk dd hdd)
     ·rcases List.mem_cons.1 hk with rfl | hk
      ·exact (hL _).2 (.inl rfl)
      ·exact (hL k).2 (.inr (hI.eff k ok hk hkk hpk))
     ·rcases List.mem_cons.1 hk with rfl | hk
      ·exact absurd ((hL _).2 (.inl rfl)) hnk
      ·have hnk':¬Lst listed k:=fun h=>hnk ((hL k).2 (.inr h))
       obtain ⟨v,hv⟩:=hI.pendD k ok hk hkk hnk';exact ⟨v,tY0 (fun hm=>hnk' (hE0 hI.closed hdj k hm)) hv⟩
     ·obtain ⟨o1,d1,g1,g2,g3,g4⟩:=nA0 hts hq1 hq2 p v hm
      obtain ⟨o2,d2,h1,h2,h3,h4,h5,h6,h7⟩:=hI.pendOk p v (pB0 hm);rw[g1] at h1;simp at h1;subst h1;exact ⟨o1,d1,g1,g2,h3,g3,g4 h3,h6,List.mem_cons_of_mem _ h7⟩
     ·refine Sim.congr hsim fun t=>?_
      constructor
      ·rintro ⟨q,oq,h1,h2,h3,h4⟩
       refine ⟨q,oq,h1,h2,fun hl=>((hL q).1 hl).elim (fun e=>?_) h3,h4⟩;subst e;rw[ho] at h1;simp at h1;subst h1;rw[hp] at h2;simp at h2
      ·rintro ⟨q,oq,h1,h2,h3,h4⟩
       exact ⟨q,oq,h1,h2,fun hl=>h3 ((hL q).2 (.inr hl)),h4⟩
     ·rcases List.mem_cons.1 hk with rfl | hk
      ·exact (hL _).2 (.inl rfl)
      ·exact (hL k).2 (.inr (hI.xs k hk))
    ·exfalso
     obtain ⟨ok,hok2,dd,hdd,hor⟩:=hblk' j h;rw[hoj] at hok2;simp at hok2;subst hok2;have hdl:=hI.lD dd (hdj dd hdd);rcases hor with rfl | hor
     ·exact hiD hdl
     ·exact jK0 hok dd (List.mem_cons_of_mem _ hor) hdl
theorem wY0 (ds:List Nat):∀(l:List AV) (t k:Nat),(qC0 ds k l)[t]?=(l[t]?).map fun av=>match ds.contains (k+t) with | true=>⟨.any,[]⟩ | false=>av
 | [],t,k=>by simp[qC0]
 | av::r,0,k=>rfl
 | av::r,t+1,k=>by
  simp only[qC0,List.getElem?_cons_succ];rw[wY0 ds r t (k+1),show k+1+t=k+(t+1) by omega]
theorem VB0 {E:Env} {ca':Root->Nat->Option A} (hc:∀r c g d k els,ca' r c=some (.ow g d k els)->E.ca r c=some (.ow g d k els)) (ds:List Nat):∀{sl:List AV} {us:List Value} {own:List Nat} (t:Nat),RpS E sl us own->
  ∃own',RpS { E with ca:=ca' } (qC0 ds t sl) us own'/\List.Sublist own' own
 | [],us,own,t,h=>⟨own,h,List.Sublist.refl _⟩
 | av::sl,us,own,t,h=>by
  obtain ⟨u,us',o1,o2,rfl,rfl,h3,h4⟩:=h;obtain ⟨own',k1,k2⟩:=VB0 hc ds (t+1) h4;have le:Env.Le none E { E with ca:=ca' }:=⟨fun _ h=>h,fun _ h=>h,fun _ _=>rfl,fun _ _ h=>h,fun r c g d k els' _ he=>⟨d,els',hc r c g d k els' he,rfl,fun x hx=>by cases r<;>exact hx⟩⟩
  simp only[qC0];cases ds.contains t with
  | true=>exact ⟨own',⟨u,us',[],own',rfl,rfl,⟨rfl,rfl⟩,k1⟩,k2.trans (List.sublist_append_right _ _)⟩
  | false=>
   refine ⟨o1++own',⟨u,us',o1,own',rfl,rfl,RepV.go le (fun _ _=>rfl) (fun c _=>?_) h3,k1⟩,List.Sublist.append (List.Sublist.refl _) k2⟩;cases hs:c.rstamp with
   | none=>exact .inl rfl
   | some g=>exact .inr (by simp)
theorem PR0 (ds:List Nat) {X:List Nat} {σ:AS} {a:Act} {w:World} (h:Inv C X σ a w):Inv C X (AS.blank ds σ) a w:=by
 obtain ⟨S,L,bl,O1,O2,h⟩:=h;have hc:∀r c g d k els,(AS.blank ds σ).cell r c=some (.ow g d k els)->σ.cell r c=some (.ow g d k els):=by
  intro r c g d k els he;cases r with
  | box b=>exact he
  | slot t=>
   simp only[AS.cell,AS.blank,wY0,Nat.zero_add] at he |-;cases hs:σ.slots[t]? with
   | none=>rw[hs] at he;simp at he
   | some av=>
    rw[hs] at he;simp only[Option.map_some,Option.bind_some] at he |-;cases hd:ds.contains t<;>rw[hd] at he
    ·exact he
    ·simp at he
 obtain ⟨o1,s1,s2⟩:=VB0 (ca':=(AS.blank ds σ).cell) hc ds 0 h.slots;have le:Env.Le none ⟨S,L,bl,a,w,σ.cell⟩ ⟨S,L,bl,a,w,(AS.blank ds σ).cell⟩:=⟨fun _ h=>h,fun _ h=>h,fun _ _=>rfl,fun _ _ h=>h,fun r c g d k els' _ he=>⟨d,els',hc r c g d k els' he,rfl,fun x hx=>by cases r<;>exact hx⟩⟩
 have hb:RpB ⟨S,L,bl,a,w,(AS.blank ds σ).cell⟩ σ.boxes bl O2:=RpB.go le (fun _ _=>rfl) (fun c cs' _ _ x _=>by
  cases hs:x.rstamp with
  | none=>exact .inl rfl
  | some g=>exact .inr (by simp)) h.boxes
 have hsub:List.Sublist (o1++O2) (O1++O2):=List.Sublist.append s2 (List.Sublist.refl _);refine ⟨S,L,bl,o1,O2,h.defers,s1,hb,h.nodup.sublist hsub,h.sl,fun b hb=>⟨(h.stable b hb).1,fun hm=>(h.stable b hb).2 (hsub.subset hm)⟩,h.s0,h.keeps,fun b hb=>h.own b (hsub.subset hb),h.pre,fun av hav c hc'=>?_,h.stB⟩;rw[List.mem_iff_getElem?] at hav;obtain ⟨t,ht⟩:=hav;simp only[AS.blank,wY0,Nat.zero_add] at ht
 cases hs:σ.slots[t]? with
 | none=>rw[hs] at ht;simp at ht
 | some av0=>
  rw[hs] at ht;simp only[Option.map_some,Option.some.injEq] at ht;cases hd:ds.contains t<;>rw[hd] at ht<;>simp only at ht<;>subst ht
  ·exact h.stS av0 (List.mem_of_getElem? hs) c hc'
  ·simp at hc'
theorem InvAt.drawn {X:List Nat} {σ:AS} {a:Act} {w:World} (h:Inv C X σ a w):Inv C X σ a { w with drawn:=w.drawn+1 }:=by
 obtain ⟨S,L,bl,O1,O2,h⟩:=h;have le:Env.Le none ⟨S,L,bl,a,w,σ.cell⟩ ⟨S,L,bl,a,{ w with drawn:=w.drawn+1 },σ.cell⟩:=⟨fun _ h=>h,fun _ h=>h,fun _ _=>rfl,fun _ _ h=>h,fun r c g d k els' _ he=>⟨d,els',he,rfl,fun x hx=>by cases r<;>exact hx⟩⟩
 have ne:∀c:A,c.rstamp=none\/c.rstamp≠none:=fun c=>by
  cases hs:c.rstamp with
  | none=>exact .inl rfl
  | some g=>exact .inr (by simp)
 exact ⟨S,L,bl,O1,O2,h.defers,RpS.go le (fun _ _=>rfl) (fun c _ x _=>ne x) h.slots,RpB.go le (fun _ _=>rfl) (fun c cs' _ _ x _=>ne x) h.boxes,h.nodup,h.sl,h.stable,h.s0,
  ⟨h.keeps.os,h.keeps.tape,h.keeps.output,h.keeps.size,h.keeps.block⟩,h.own,h.pre,h.stS,h.stB⟩
theorem nV0 {q:Nat} {o:Oper} (h:ops[q]?=some o) (hp:zX0 o.op=true) {d:Nat} (hd:o.dst=some d):d∈yT0 ops:=by
 unfold yT0;rw[List.mem_filterMap];exact ⟨o,by simpa using Array.mem_of_getElem? h,by simp[hp,hd]⟩
end Go.Gv
namespace Go.Gv
open Go.Av
def rL0 (ops:Array Oper) (D:List Nat) (pu:Bool):List Nat->Option Nat
 | []=>none
 | i::r=>match D.contains i with
  | true=>rL0 ops D pu r
  | false=>match ops[i]? with
   | some o=>match (zX0 o.op == pu) && (deps o).all (D.contains ·) with
    | true=>some i
    | false=>rL0 ops D pu r
   | none=>none
def mkGo (ops:Array Oper) (is:List Nat):Nat->List Nat->List Nat
 | 0,_=>[]
 | n+1,D=>match rL0 ops D true is with
  | some i=>i::mkGo ops is n (i::D)
  | none=>match rL0 ops D false is with
   | some i=>i::mkGo ops is n (i::D)
   | none=>[]
def HZ0 (ops:Array Oper):List Nat:=mkGo ops (List.range ops.size) ops.size []
variable {P:Program} {ts:Nat->Option TI} {ops:Array Oper} {C:Ctx}
theorem ndC {p:Prop} {ps:List Prop} {X:Prop} (h:p) (hx:vH1 ps X):vH1 (p::ps) X:=⟨fun q hq=>by
 rcases List.mem_cons.1 hq with rfl | hq
 ·exact h
 ·exact hx.all q hq,hx.go⟩
theorem ndN {X:Prop} (hx:X):vH1 [] X:=⟨by simp,hx⟩
end Go.Gv
namespace Go.Gv
open Go.Av
variable {O:Ops} {ts:Nat->Option TI} {P:Program} {C:Ctx} {σ:AS} {Q:Exit->AS->Prop}
theorem dE0 {x y:Unit->Prop} (h:x ()):GFork true x y:=⟨fun _=>h,fun e=>Bool.noConfusion e⟩
theorem dF0 {x y:Unit->Prop} (h:y ()):GFork false x y:=⟨fun e=>Bool.noConfusion e,fun _=>h⟩
theorem GWp.cond_t {c:Operand} {x y:Code} (hc:σ.ev c=some ⟨.one,[.lit (.bool true)]⟩) (h:GWp O ts P C x σ Q):GWp O ts P C (.cond c x y) σ Q:=GWp.cond hc (fun _=>h) (fun h=>by cases h)
theorem GWp.cond_f {c:Operand} {x y:Code} (hc:σ.ev c=some ⟨.one,[.lit (.bool false)]⟩) (h:GWp O ts P C y σ Q):GWp O ts P C (.cond c x y) σ Q:=GWp.cond hc (fun h=>by cases h) (fun _=>h)
end Go.Gv
