/- Part D4 of the proof: Avs, part 42: the rule for regions that draw their order. -/
import Derived.Test.YtfobhlmjcnkpiaaGreatDoorD3
set_option linter.all false
/- Avs, part 42: the rule for regions that draw their order. -/
namespace Go.Gv
open Go.Av
variable {P:Program} {ts:Nat->Option TI} {ops:Array Oper} {C:Ctx} {Q:Exit->Act->World->Prop} {K:AS->Prop} {base:Nat}
theorem zE1 {Z:Nat->Prop} {s τ:AS} (h:Sim Z s τ) {i:Nat} {o:Oper} (ho:ops[i]?=some o) (hl:∀t∈o.looksAt ops,¬Z t) (hd:∀d,o.dst=some d->¬Z d) {K:AS->Prop} (hx:mZ0 P base ops i s K) :
  mZ0 P base ops i τ fun τ'=>∃s',K s'/\Sim Z s' τ':=by
 have put:∀{s τ:AS} (av:AV),Sim Z s τ->Sim Z (s.putO o.dst av) (τ.putO o.dst av):=by
  intro s τ av h;cases hdst:o.dst with
  | none=>exact h
  | some d=>exact h.put (hd d hdst) av
 have ex:∀{s τ:AS},Sim Z s τ->gJ0 P base i o s K->gJ0 P base i o τ fun τ'=>∃s',K s'/\Sim Z s' τ':=by
  intro s τ h hx;have hev:=Sim.evs_of h hl;unfold gJ0 at *
  split at hx
  ·rename_i fop args at' hop
   simp only[hop] at hev |-;obtain ⟨hh,hx⟩:=hx;refine ⟨hh,?_⟩;unfold NA0 at *;have hpre:=VR0 h (hh:=hh) (i:=i) (fop:=fop) (args:=args.toList) (hev _ (by simp[Op.operands,Call.operands])) (fun x hx=>hev _ (by simp only[Op.operands,Call.operands];simpa using Or.inr hx))
   split at hx
   ·rename_i f cargs cbx σm hq
    rw[hq] at hpre;cases hq2:vD0 hh i τ fop args.toList with
    | none=>rw[hq2] at hpre;simp[pre4,SimO] at hpre
    | some r=>
     obtain ⟨f2,cargs2,cbx2,σm2⟩:=r;rw[hq2] at hpre;obtain ⟨e1,e2⟩:=hpre;simp only[Prod.mk.injEq] at e1;obtain ⟨rfl,rfl,rfl⟩:=e1;simp only;obtain ⟨R,g1,g2,g3⟩:=hx;refine ⟨R,g1,g2,fun res bx hR=>⟨_,g3 res bx hR,?_⟩⟩;obtain ⟨k1,k2⟩:=YF0 e2 hh.ids i res bx;simp only at k1 k2;rw[k1];exact put _ k2
   ·exact hx.elim
  ·rename_i op hne
   have hs:=PZ0 (P:=P) h (base:=base) (i:=i) (dst:=o.dst) hev
   split at hx
   ·rename_i r hr
    rw[hr] at hs;cases hq2:aEff P base i o.dst τ o.op with
    | none=>rw[hq2] at hs;simp[SimO] at hs
    | some r2=>
     rw[hq2] at hs;obtain ⟨e1,e2⟩:=hs;simp only[e1];exact ⟨_,hx,put _ e2⟩
   ·exact hx.elim
 unfold mZ0 at *;simp only[ho] at hx |-
 split at hx
 ·exact ex h hx
 ·rename_i g want hg
  have hgv:=Sim.guard_of h hl hg;unfold wX0 at hgv;rw[hgv];have kn:∀b,Sim Z (s.known ops g b) (τ.known ops g b):=by
   intro b;unfold AS.known;cases hdst:(ops[g]?).bind (·.dst) with
   | none=>exact h
   | some t=>exact h.put (hl t (guard_looks hg hdst)) _
  split at hx
  ·exact ⟨fun e=>ex (kn _) (hx.1 e),fun e=>⟨_,hx.2 e,put _ (kn _)⟩⟩
  ·exact ⟨_,hx,put _ h⟩
  ·exact hx.elim
theorem NM0 (hs:NN0 ops=true) {listed:Array Bool} {i:Nat} {o:Oper} (ho:ops[i]?=some o) (hp:yP0 o.op=false):∀d,o.dst=some d->¬Zof ops listed d:=by
 rintro d hd ⟨q,oq,h1,h2,h3,h4⟩;have hne:i≠q:=by
  rintro rfl;rw[ho] at h1;simp at h1;subst h1;rw[hp] at h2;simp at h2
 exact (qQ0 hs h1 h2 h4 ho).1 hne hd
theorem yH1 (hts:∀n ti,ts n=some ti->tyOf P n=some ti) {σ:AS} {o:Oper} (hp:yP0 o.op=true) {go:Bool} (hs:Says ops σ o go) {ps:List Prop} {v:AV}
  (h:goV go (bF0 .std ts σ o.op)=some (ps,v)) (hn:∀p∈ps,p):StepV P ops σ o v:=by
 unfold Says at hs;unfold StepV
 split
 ·rename_i hg
  simp only[hg] at hs;subst hs;exact qV0 hts hp h hn
 ·rename_i g want hg
  simp only[hg] at hs
  split at hs
  ·rename_i b hb
   try simp only[hb]
   cases go with
   | true=>
    have hbw:b=want:=by simpa using hs.symm
    exact ⟨fun _=>qV0 hts hp h hn,fun e=>by subst hbw;cases b<;>simp at e⟩
   | false=>
    simp[goV,ret] at h;exact ⟨fun e=>by subst e;simp at hs,fun _=>h.2.symm⟩
  ·rename_i hb
   try simp only[hb]
   subst hs;simp[goV,ret] at h;exact h.2.symm
  ·exact hs.elim
theorem Sim.congr {Z Z':Nat->Prop} {s τ:AS} (h:Sim Z s τ) (hz:∀t,Z t↔Z' t):Sim Z' s τ:=by
 have:Z=Z':=funext fun t=>propext (hz t);subst this;exact h
theorem uU0 (ds:List Nat):∀(l:List AV) (t k:Nat),(qF0 ds k l)[t]?=(l[t]?).map fun av=>match ds.contains (k+t) with | true=>⟨.any,[]⟩ | false=>av
 | [],t,k=>by simp[qF0]
 | av::r,0,k=>rfl
 | av::r,t+1,k=>by
  simp only[qF0,List.getElem?_cons_succ];rw[uU0 ds r t (k+1),show k+1+t=k+(t+1) by omega]
theorem VG0 {E:Env} {ca':Root->Nat->Option A} (hc:∀r c g d k els,ca' r c=some (.ow g d k els)->E.ca r c=some (.ow g d k els)) (ds:List Nat):∀{sl:List AV} {us:List Value} {own:List Nat} (t:Nat),RpS E sl us own->
  ∃own',RpS { E with ca:=ca' } (qF0 ds t sl) us own'/\List.Sublist own' own
 | [],us,own,t,h=>⟨own,h,List.Sublist.refl _⟩
 | av::sl,us,own,t,h=>by
  obtain ⟨u,us',o1,o2,rfl,rfl,h3,h4⟩:=h;obtain ⟨own',k1,k2⟩:=VG0 hc ds (t+1) h4;have le:Env.Le none E { E with ca:=ca' }:=⟨fun _ h=>h,fun _ h=>h,fun _ _=>rfl,fun _ _ h=>h,fun r c g d k els' _ he=>⟨d,els',hc r c g d k els' he,rfl,fun x hx=>by cases r<;>exact hx⟩⟩
  simp only[qF0];cases ds.contains t with
  | true=>exact ⟨own',⟨u,us',[],own',rfl,rfl,⟨rfl,rfl⟩,k1⟩,k2.trans (List.sublist_append_right _ _)⟩
  | false=>
   refine ⟨o1++own',⟨u,us',o1,own',rfl,rfl,RepV.go le (fun _ _=>rfl) (fun c _=>?_) h3,k1⟩,List.Sublist.append (List.Sublist.refl _) k2⟩;cases hs:c.rstamp with
   | none=>exact .inl rfl
   | some g=>exact .inr (by simp)
theorem wP1 (ds:List Nat) {X:List Nat} {σ:AS} {a:Act} {w:World} (h:Inv C X σ a w):Inv C X (AS.blank ds σ) a w:=by
 obtain ⟨S,L,bl,O1,O2,h⟩:=h;have hc:∀r c g d k els,(AS.blank ds σ).cell r c=some (.ow g d k els)->σ.cell r c=some (.ow g d k els):=by
  intro r c g d k els he;cases r with
  | box b=>exact he
  | slot t=>
   simp only[AS.cell,AS.blank,uU0,Nat.zero_add] at he |-;cases hs:σ.slots[t]? with
   | none=>rw[hs] at he;simp at he
   | some av=>
    rw[hs] at he;simp only[Option.map_some,Option.bind_some] at he |-;cases hd:ds.contains t<;>rw[hd] at he
    ·exact he
    ·simp at he
 obtain ⟨o1,s1,s2⟩:=VG0 (ca':=(AS.blank ds σ).cell) hc ds 0 h.slots;have le:Env.Le none ⟨S,L,bl,a,w,σ.cell⟩ ⟨S,L,bl,a,w,(AS.blank ds σ).cell⟩:=⟨fun _ h=>h,fun _ h=>h,fun _ _=>rfl,fun _ _ h=>h,fun r c g d k els' _ he=>⟨d,els',hc r c g d k els' he,rfl,fun x hx=>by cases r<;>exact hx⟩⟩
 have hb:RpB ⟨S,L,bl,a,w,(AS.blank ds σ).cell⟩ σ.boxes bl O2:=RpB.go le (fun _ _=>rfl) (fun c cs' _ _ x _=>by
  cases hs:x.rstamp with
  | none=>exact .inl rfl
  | some g=>exact .inr (by simp)) h.boxes
 have hsub:List.Sublist (o1++O2) (O1++O2):=List.Sublist.append s2 (List.Sublist.refl _);refine ⟨S,L,bl,o1,O2,h.defers,s1,hb,h.nodup.sublist hsub,h.sl,fun b hb=>⟨(h.stable b hb).1,fun hm=>(h.stable b hb).2 (hsub.subset hm)⟩,h.s0,h.keeps,fun b hb=>h.own b (hsub.subset hb),h.pre,fun av hav c hc'=>?_,h.stB⟩;rw[List.mem_iff_getElem?] at hav;obtain ⟨t,ht⟩:=hav;simp only[AS.blank,uU0,Nat.zero_add] at ht
 cases hs:σ.slots[t]? with
 | none=>rw[hs] at ht;simp at ht
 | some av0=>
  rw[hs] at ht;simp only[Option.map_some,Option.some.injEq] at ht;cases hd:ds.contains t<;>rw[hd] at ht<;>simp only at ht<;>subst ht
  ·exact h.stS av0 (List.mem_of_getElem? hs) c hc'
  ·simp at hc'
theorem InvAt.drawn {X:List Nat} {σ:AS} {a:Act} {w:World} (h:Inv C X σ a w):Inv C X σ a { w with drawn:=w.drawn+1 }:=by
 obtain ⟨S,L,bl,O1,O2,h⟩:=h;have le:Env.Le none ⟨S,L,bl,a,w,σ.cell⟩ ⟨S,L,bl,a,{ w with drawn:=w.drawn+1 },σ.cell⟩:=⟨fun _ h=>h,fun _ h=>h,fun _ _=>rfl,fun _ _ h=>h,fun r c g d k els' _ he=>⟨d,els',he,rfl,fun x hx=>by cases r<;>exact hx⟩⟩
 have ne:∀c:A,c.rstamp=none\/c.rstamp≠none:=fun c=>by
  cases hs:c.rstamp with
  | none=>exact .inl rfl
  | some g=>exact .inr (by simp)
 exact ⟨S,L,bl,O1,O2,h.defers,RpS.go le (fun _ _=>rfl) (fun c _ x _=>ne x) h.slots,RpB.go le (fun _ _=>rfl) (fun c cs' _ _ x _=>ne x) h.boxes,h.nodup,h.sl,h.stable,h.s0,
  ⟨h.keeps.os,h.keeps.tape,h.keeps.output,h.keeps.size,h.keeps.block⟩,h.own,h.pre,h.stS,h.stB⟩
theorem XA0 {q:Nat} {o:Oper} (h:ops[q]?=some o) (hp:yP0 o.op=true) {d:Nat} (hd:o.dst=some d):d∈vC0 ops:=by
 unfold vC0;rw[List.mem_filterMap];exact ⟨o,by simpa using Array.mem_of_getElem? h,by simp[hp,hd]⟩
end Go.Gv
namespace Go.Gv
open Go.Av
def mF0 (ops:Array Oper) (D:List Nat) (pu:Bool):List Nat->Option Nat
 | []=>none
 | i::r=>match D.contains i with
  | true=>mF0 ops D pu r
  | false=>match ops[i]? with
   | some o=>match (yP0 o.op == pu) && (deps o).all (D.contains ·) with
    | true=>some i
    | false=>mF0 ops D pu r
   | none=>none
variable {P:Program} {ts:Nat->Option TI} {ops:Array Oper} {C:Ctx}
theorem ndC {p:Prop} {ps:List Prop} {X:Prop} (h:p) (hx:wZ1 ps X):wZ1 (p::ps) X:=⟨fun q hq=>by
 rcases List.mem_cons.1 hq with rfl | hq
 ·exact h
 ·exact hx.all q hq,hx.go⟩
theorem ndN {X:Prop} (hx:X):wZ1 [] X:=⟨by simp,hx⟩
end Go.Gv
namespace Go.Gv
open Go.Av
variable {O:Ops} {ts:Nat->Option TI} {P:Program} {C:Ctx} {σ:AS} {Q:Exit->AS->Prop}
theorem dC0 {x y:Unit->Prop} (h:x ()):GFork true x y:=⟨fun _=>h,fun e=>Bool.noConfusion e⟩
theorem dD0 {x y:Unit->Prop} (h:y ()):GFork false x y:=⟨fun e=>Bool.noConfusion e,fun _=>h⟩
theorem GWp.cond_t {c:Operand} {x y:Code} (hc:σ.ev c=some ⟨.one,[.lit (.bool true)]⟩) (h:GWp O ts P C x σ Q):GWp O ts P C (.cond c x y) σ Q:=GWp.cond hc (fun _=>h) (fun h=>by cases h)
theorem GWp.cond_f {c:Operand} {x y:Code} (hc:σ.ev c=some ⟨.one,[.lit (.bool false)]⟩) (h:GWp O ts P C y σ Q):GWp O ts P C (.cond c x y) σ Q:=GWp.cond hc (fun h=>by cases h) (fun _=>h)
end Go.Gv
