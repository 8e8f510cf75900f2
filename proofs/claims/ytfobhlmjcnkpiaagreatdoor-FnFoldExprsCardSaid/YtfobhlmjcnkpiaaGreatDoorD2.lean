/- Part D2 of the proof: Avs, part 40: operations whose value may be asked at another time. -/
import Derived.Test.YtfobhlmjcnkpiaaGreatDoorD1
set_option linter.all false
/- Avs, part 40: operations whose value may be asked at another time. -/
namespace Go.Gv
open Go.Av
variable {P:Program} {ts:Nat->Option TI} {ops:Array Oper}
theorem NY0 {σ:AS} {op:Op} (hp:yP0 op=true) (base i:Nat) (dst:Option Tmp):effG .std ts base i dst σ op=keep σ (bF0 .std ts σ op):=by
 unfold effG
 split<;>first
  | rfl
  | (simp[yP0] at hp;done)
  | skip
 rename_i h1 h2 h3 h4 h5 h6 h7 h8 h9;unfold bF0
 split
 ·exact absurd rfl (h5 _ _)
 ·exact absurd rfl (h9 _ _ _)
 ·rfl
def EffV (P:Program) (s:AS) (op:Op) (v:AV):Prop:=∀base i dst,aEff P base i dst s op=some (v,s)
theorem qV0 (hts:∀n ti,ts n=some ti->tyOf P n=some ti) {σ:AS} {op:Op} (hp:yP0 op=true) {ps:List Prop} {v:AV} (h:bF0 .std ts σ op=some (ps,v)) (hn:∀p∈ps,p):EffV P σ op v:=by
 intro base i dst;refine FL0 hts base i dst σ op ps (v,σ) ?_ hn;rw[NY0 hp,h];rfl
theorem JX0 {base i:Nat} {dst:Option Tmp} {σ σ1:AS} {op:Op} {v:AV} (hp:yP0 op=true) (h:aEff P base i dst σ op=some (v,σ1)):σ1=σ:=by
 unfold aEff at h
 split at h<;>first
  | (simp[yP0] at hp;done)
  | (simp only[Option.map_eq_some_iff,Prod.mk.injEq] at h;obtain ⟨_,_,_,rfl⟩:=h;rfl)
theorem EffV.sim {Z:Nat->Prop} {s τ:AS} (h:Sim Z s τ) {op:Op} {v:AV} (hp:yP0 op=true) (hx:∀x∈op.operands,τ.ev x=s.ev x) (hv:EffV P s op v):EffV P τ op v:=by
 intro base i dst;have:=PZ0 (P:=P) h (base:=base) (i:=i) (dst:=dst) hx;rw[hv base i dst] at this;cases hq:aEff P base i dst τ op with
 | none=>rw[hq] at this;simp[SimO] at this
 | some r=>
  rw[hq] at this;obtain ⟨e1,e2⟩:=this;obtain ⟨r1,r2⟩:=r;simp only at e1 e2;rw[e1] at hq |-;rw[JX0 hp hq]
def StepV (P:Program) (ops:Array Oper) (s:AS) (o:Oper) (v:AV):Prop:=match o.guard with
 | none=>EffV P s o.op v
 | some (g,want)=>match wX0 ops s g with
  | some ⟨.one,[.lit (.bool b)]⟩=>(b=want->EffV P s o.op v)/\(b=!want->v=yT0)
  | some ⟨.tup [],[]⟩=>v=yT0
  | _=>False
theorem operand_looks {o:Oper} {t:Nat} (h:Operand.tmp t∈o.op.operands):t∈o.looksAt ops:=
 List.mem_append_left _ (List.mem_filterMap.2 ⟨.tmp t,by simpa using h,rfl⟩)
theorem guard_looks {o:Oper} {g:Nat} {want:Bool} {t:Nat} (hg:o.guard=some (g,want)) (h:(ops[g]?).bind (·.dst)=some t):t∈o.looksAt ops:=by
 unfold Oper.looksAt;rw[hg];exact List.mem_append_right _ (by simp[h])
theorem Sim.evs_of {Z:Nat->Prop} {s τ:AS} (h:Sim Z s τ) {o:Oper} (hl:∀t∈o.looksAt ops,¬Z t):∀x∈o.op.operands,τ.ev x=s.ev x:=
 fun _ hx=>h.ev fun t ht=>hl t (operand_looks (ht ▸ hx))
theorem Sim.guard_of {Z:Nat->Prop} {s τ:AS} (h:Sim Z s τ) {o:Oper} (hl:∀t∈o.looksAt ops,¬Z t) {g:Nat} {want:Bool} (hg:o.guard=some (g,want)):wX0 ops τ g=wX0 ops s g:=by
 unfold wX0;cases hd:(ops[g]?).bind (·.dst) with
 | none=>rfl
 | some t=>exact h.slots t (hl t (guard_looks hg hd))
theorem StepV.sim {Z:Nat->Prop} {s τ:AS} (h:Sim Z s τ) {o:Oper} {v:AV} (hp:yP0 o.op=true) (hl:∀t∈o.looksAt ops,¬Z t) (hv:StepV P ops s o v):StepV P ops τ o v:=by
 unfold StepV at *
 split at hv
 ·exact hv.sim h hp (Sim.evs_of h hl)
 ·rename_i g want hg
  rw[Sim.guard_of h hl hg]
  split at hv
  ·rename_i b hb
   try simp only[hb]
   exact ⟨fun e=>(hv.1 e).sim h hp (Sim.evs_of h hl),hv.2⟩
  ·rename_i hb
   (try simp only[hb]);exact hv
  ·exact hv.elim
theorem StepV.step {base i:Nat} {τ:AS} {o:Oper} {v:AV} (ho:ops[i]?=some o) (hp:yP0 o.op=true) (hv:StepV P ops τ o v):mZ0 P base ops i τ fun τ'=>τ'=τ.putO o.dst v:=by
 have ex:∀σ,EffV P σ o.op v->gJ0 P base i o σ fun τ'=>τ'=σ.putO o.dst v:=by
  intro σ hE;unfold gJ0
  split
  ·rename_i hop;rw[hop] at hp;simp[yP0] at hp
  ·rw[hE]
 unfold mZ0;simp only[ho];unfold StepV at hv
 split
 ·rename_i hg;rw[hg] at hv;exact ex τ hv
 ·rename_i g want hg
  simp only[hg] at hv
  change match wX0 ops τ g with
   | some ⟨.one,[.lit (.bool b)]⟩=>_
   | some ⟨.tup [],[]⟩=>_
   | _=>False
  split at hv
  ·rename_i b hb
   try simp only[hb]
   refine ⟨fun h=>?_,fun h=>?_⟩
   ·have hbw:b=want:=by simpa using h
    subst hbw;rw[xG0 hb];exact ex τ (hv.1 rfl)
   ·have hbw:b=!want:=by cases b<;>cases want<;>simp at h |-
    subst hbw;rw[xG0 hb];rw[hv.2 rfl]
  ·rename_i hb
   try simp only[hb]
   rw[hv]
  ·exact hv.elim
theorem uK1 (hts:∀n ti,ts n=some ti->tyOf P n=some ti) {σ:AS} {o:Oper} (hp:yP0 o.op=true) {ps:List Prop} {v:AV} (h:valG .std ts ops σ o=some (ps,v)) (hn:∀p∈ps,p):StepV P ops σ o v:=by
 unfold valG at h;unfold StepV
 split at h
 ·rename_i hg;simp only[hg];exact qV0 hts hp h hn
 ·rename_i g want hg
  simp only[hg]
  split at h
  ·rename_i b hb
   try simp only[hb]
   cases b<;>cases want<;>simp only at h
   ·exact ⟨fun _=>qV0 hts hp h hn,fun e=>by simp at e⟩
   ·simp[ret] at h;exact ⟨fun e=>by simp at e,fun _=>h.2.symm⟩
   ·simp[ret] at h;exact ⟨fun e=>by simp at e,fun _=>h.2.symm⟩
   ·exact ⟨fun _=>qV0 hts hp h hn,fun e=>by simp at e⟩
  ·rename_i hb
   try simp only[hb]
   simp[ret] at h;exact h.2.symm
  ·simp at h
theorem fN0 (hts:∀n ti,ts n=some ti->tyOf P n=some ti) {σ:AS}:∀{pend:List (Nat×AV)} {qs:List Prop},nF0 .std ts ops σ pend=some qs->(∀q∈qs,q)->
  ∀p v,(p,v)∈pend->∃o d,ops[p]?=some o/\o.dst=some d/\σ.slots[d]?=some v/\(yP0 o.op=true->StepV P ops σ o v)
 | [],qs,h,hq,p,v,hm=>by simp at hm
 | (p,v)::r,qs,h,hq,p',v',hm=>by
  simp only[nF0] at h
  split at h<;>try (simp at h;done)
  rename_i o ho
  split at h<;>try (simp at h;done)
  rename_i d hd
  split at h<;>try (simp at h;done)
  rename_i v0 hv0
  split at h<;>try (simp at h;done)
  rename_i ps v1 hv1
  split at h<;>try (simp at h;done)
  rename_i qs' hqs;simp only[Option.some.injEq] at h;subst h;rw[cat_all] at hq;obtain ⟨q1,q2⟩:=hq;have e0:v0=v:=q2 _ (by simp)
  have e1:v1=v:=q2 _ (by simp)
  rcases List.mem_cons.1 hm with hm | hm
  ·simp only[Prod.mk.injEq] at hm
   obtain ⟨rfl,rfl⟩:=hm;refine ⟨o,d,ho,hd,by rw[hv0,e0],fun hp=>?_⟩
   rw[<-e1];exact uK1 hts hp hv1 q1
  ·exact fN0 hts hqs (fun q hq=>q2 q (by simp[hq])) p' v' hm
def Says (ops:Array Oper) (σ:AS) (o:Oper) (go:Bool):Prop:=match o.guard with
 | none=>go=true
 | some (g,want)=>match wX0 ops σ g with
  | some ⟨.one,[.lit (.bool b)]⟩=>go=(b == want)
  | some ⟨.tup [],[]⟩=>go=false
  | _=>False
theorem jD0 {σ:AS} {g:Nat} {b:Bool} (hb:wX0 ops σ g=some ⟨.one,[.lit (.bool b)]⟩):∀{pend:List (Nat×AV)},(∀p v,(p,v)∈pend->∃o d,ops[p]?=some o/\o.dst=some d/\σ.slots[d]?=some v)->setp g b pend=pend
 | [],_=>rfl
 | (p,v)::r,h=>by
  have ih:=jD0 hb (pend:=r) fun p v hm=>h p v (List.mem_cons_of_mem _ hm);simp only[setp]
  split
  ·rename_i hpg
   have hpg':p=g:=Nat.eq_of_beq_eq_true hpg;subst hpg';obtain ⟨o,d,h1,h2,h3⟩:=h p v List.mem_cons_self;unfold wX0 at hb;rw[h1] at hb;simp only[Option.bind_some,h2,h3,Option.some.injEq] at hb;rw[ih,hb]
  ·rw[ih]
theorem XV0 {o:Oper} {acc:List Prop} {kn:List (Nat×Bool)} {pend:List (Nat×AV)} {σ:AS} {K:List Prop->List (Nat×Bool)->List (Nat×AV)->AS->Bool->Prop}
  (hK:∀acc kn pend σ go,K acc kn pend σ go->∀p∈acc,p) (hpend:∀p v,(p,v)∈pend->∃o d,ops[p]?=some o/\o.dst=some d/\σ.slots[d]?=some v) (h:hE0 ops o acc kn pend σ K) :
  (∀p∈acc,p)/\∃acc' kn' go,K acc' kn' pend σ go/\Says ops σ o go:=by
 unfold hE0 at h;unfold Says
 split at h
 ·exact ⟨hK _ _ _ _ _ h,acc,kn,true,h,by simp[*]⟩
 ·rename_i g want hg
  simp only[hg]
  split at h
  ·rename_i b hb
   try simp only[hb]
   split at h
   ·rw[out_iff] at h
    refine ⟨h.1,?_⟩;obtain ⟨hy,hn⟩:=h.2;cases b with
    | true=>
     have:=hy rfl;rw[jD0 hb hpend,xG0 hb] at this;exact ⟨_,_,_,this,by simp⟩
    | false=>
     have:=hn rfl;rw[jD0 hb hpend,xG0 hb] at this;exact ⟨_,_,_,this,by simp⟩
   ·cases b with
    | true=>exact ⟨hK _ _ _ _ _ h,_,_,_,h,by simp⟩
    | false=>exact ⟨hK _ _ _ _ _ h,_,_,_,h,by simp⟩
  ·rename_i hb
   try simp only[hb]
   exact ⟨hK _ _ _ _ _ h,_,_,_,h,rfl⟩
  ·exact h.elim
theorem mD1 (hts:∀n ti,ts n=some ti->tyOf P n=some ti) {base i:Nat} {o:Oper} (ho:ops[i]?=some o) {acc:List Prop} {σ:AS} {go:Bool} {K:List Prop->AS->Prop} {K':AS->Prop} (hK:∀acc σ,K acc σ->(∀p∈acc,p)/\K' σ) (hs:Says ops σ o go) (h:gGo .std ts go P base i o acc σ K) :
  (∀p∈acc,p)/\mZ0 P base ops i σ K':=by
 unfold mZ0;simp only[ho];unfold Says at hs
 split
 ·rename_i hg
  simp only[hg] at hs;subst hs;exact vN0 hts hK h
 ·rename_i g want hg
  simp only[hg] at hs
  change _/\match wX0 ops σ g with
   | some ⟨.one,[.lit (.bool b)]⟩=>_
   | some ⟨.tup [],[]⟩=>_
   | _=>False
  split at hs
  ·rename_i b hb
   try simp only[hb]
   cases hgo:go with
   | true=>
    rw[hgo] at hs h;have hbw:b=want:=by simpa using hs.symm
    subst hbw;have:=vN0 hts hK h;rw[xG0 hb];exact ⟨this.1,fun _=>this.2,fun e=>by simp at e⟩
   | false=>
    rw[hgo] at hs h;have hbw:b=!want:=by cases b<;>cases want<;>simp at hs |-
    subst hbw;have:=hK _ _ h;rw[xG0 hb];exact ⟨this.1,fun e=>by cases want<;>simp at e,fun _=>this.2⟩
  ·rename_i hb
   try simp only[hb]
   subst hs;exact hK _ _ h
  ·exact hs.elim
end Go.Gv
