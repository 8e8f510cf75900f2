/- Part C2 of the proof: Avs, part 37: the same, for calls and results regions. / Avs, part 38: code, over the primitives that are variables. -/
import Derived.Test.YtfobhlmjcnkpiaaGreatDoorC1
set_option linter.all false
/- Avs, part 37: the same, for calls and results; regions. -/
namespace Go.Gv
open Go.Av
variable {P:Program} {ts:Nat->Option TI}
theorem WB0 (σ:AS):∀xs:List Operand,QV0 .std σ xs=pD0 σ xs
 | []=>rfl
 | x::xs=>by
  simp only[QV0,pD0,yK0,WB0 σ xs];cases σ.ev x with
  | none=>rfl
  | some av=>
   obtain ⟨sh,cs⟩:=av;cases sh<;>simp only[Option.bind_some]<;>first | rfl|(cases pD0 σ xs<;>rfl)
theorem UW0 (h:Hint) (i:Nat) (σ:AS) (fop:Operand) (args:List Operand):bZ0 .std h i σ fop args=vD0 h i σ fop args:=by
 simp only[bZ0,vD0,yK0,WB0,uJ0,YR0,QE0];cases σ.ev fop with
 | none=>rfl
 | some fv=>
  simp only[Option.bind_some]
  split
  ·rename_i f caps hq
   simp only[Option.some.injEq] at hq;subst hq;simp only;cases pD0 σ args with
   | none=>rfl
   | some avs=>
    simp only[Option.bind_some];cases maskBoxes h.ids (shC h.sh (tkC h.mv (σ.epoch,i) ((avs++xX0 caps).flatMap (·.cs)) σ).1 (tkC h.mv (σ.epoch,i) ((avs++xX0 caps).flatMap (·.cs)) σ).2).2 with
    | none=>rfl
    | some q3=>
     simp only[Option.bind_some];cases hb:q3.1.all (·.all fun c=>c.rstamp.isNone) with
     | false=>rfl
     | true=>
      simp only[if_true];cases lendCells q3.2 (shC h.sh (tkC h.mv (σ.epoch,i) ((avs++xX0 caps).flatMap (·.cs)) σ).1 (tkC h.mv (σ.epoch,i) ((avs++xX0 caps).flatMap (·.cs)) σ).2).1 with
      | none=>rfl
      | some cs=>
       simp only[Option.bind_some];cases qT0 h.ids cs with
       | none=>rfl
       | some cs'=>
        simp only[Option.bind_some];cases tK0 h.ids q3.1<;>rfl
  ·rename_i hne
   split
   ·rename_i f caps;exact absurd rfl (hne f caps)
   ·rfl
theorem fL0 (hts:∀n ti,ts n=some ti->tyOf P n=some ti) (σ:AS) (r:ResultVar):Sd (dZ0 .std ts σ r) (nZ0 P σ r):=by
 unfold dZ0 nZ0;refine Sd.bindM ?_ fun av=>?_
 ·cases r with
  | tmp t=>exact Sd.of_eq (yK0 σ _)
  | cell t ty=>
   simp only[vH1,PX0,yK0];refine Sd.bindO fun x=>?_
   split
   ·exact QC0 hts σ ty _
   ·exact Sd.none
 ·obtain ⟨sh,cs⟩:=av
  cases sh<;>first | exact Sd.none | exact Sd.ret
theorem jL0 (hts:∀n ti,ts n=some ti->tyOf P n=some ti) (σ:AS):∀rs:List ResultVar,Sd (kF0 .std ts σ rs) (uV0 P σ rs)
 | []=>Sd.ret
 | r::rest=>by
  simp only[kF0,uV0];exact Sd.bindM (fL0 hts σ r) fun r=>Sd.map (jL0 hts σ rest)
theorem NR0 (hts:∀n ti,ts n=some ti->tyOf P n=some ti) (σ:AS) (rs:List ResultVar):Sd (UE0 .std ts σ rs) (gG0 P σ rs):=by
 unfold UE0 gG0
 split
 ·rename_i r
  have e:∀r:Bool×Nat×List A,(⟨if r.1=true then .agg else .one,r.2.2⟩:AV)=⟨shOf r.1,r.2.2⟩:=fun r=>by cases r.1<;>rfl
  simp only[e];exact Sd.map (fL0 hts σ r)
 ·rename_i hne
  split
  ·rename_i r;exact absurd rfl (hne r)
  ·exact Sd.map (jL0 hts σ _)
theorem uX1 (hts:∀n ti,ts n=some ti->tyOf P n=some ti) (base:Nat) (rs:List ResultVar) (σ:AS):Sd (resG .std ts base rs σ) (aRes P base rs σ):=by
 unfold resG aRes;refine Sd.bindM (NR0 hts σ rs) fun av=>?_;rw[uJ0];simp only
 split
 ·exact Sd.ret
 ·exact Sd.none
structure wZ1 (ps:List Prop) (X:Prop):Prop where
 all:∀p∈ps,p
 go:X
structure GFork (b:Bool) (x y:Unit->Prop):Prop where
 yes:b=true->x ()
 no:b=false->y ()
structure GCallD (P:Program) (f:FuncId) (cargs:List AV) (cbx:List (Option (List A))) (ids:List Nat) (i:Nat) (dst:Option Tmp) (σm:AS) (K:AS->Prop):Prop where
 go:∃R,zT0 P f=true/\ACl P f cargs cbx R/\∀res bx,R res bx->K ((zH0 ids i σm res bx).2.putO dst (zH0 ids i σm res bx).1)
variable (O:Ops)
def XX0 (P:Program) (h:Hint) (i:Nat) (fop:Operand) (args:Array Operand) (dst:Option Tmp) (σ:AS) (K:AS->Prop):Prop:=
 match bZ0 O h i σ fop args.toList with
 | some (f,cargs,cbx,σm)=>GCallD P f cargs cbx h.ids i dst σm K
 | none=>False
structure GCall (O:Ops) (P:Program) (i:Nat) (fop:Operand) (args:Array Operand) (dst:Option Tmp) (σ:AS) (K:AS->Prop):Prop where
 go:∃h,XX0 O P h i fop args dst σ K
def out (acc:List Prop) (X:Prop):Prop:=match acc with
 | []=>X
 | p::ps=>wZ1 (p::ps) X
def XW0 (ts:Nat->Option TI) (P:Program) (base i:Nat) (o:Oper) (acc:List Prop) (σ:AS) (K:List Prop->AS->Prop):Prop:=
 match o.op with
 | .call ⟨.value fop,args,_⟩=>out acc (GCall O P i fop args o.dst σ fun σ'=>K [] σ')
 | op=>match effG O ts base i o.dst σ op with
  | some (ps,r)=>K (cat acc ps) (r.2.putO o.dst r.1)
  | none=>False
def tZ1:List (Nat×Bool)->Nat->Option Bool
 | [],_=>none
 | (k,b)::r,g=>if k=g then some b else tZ1 r g
def xH1 (ts:Nat->Option TI) (P:Program) (base:Nat) (ops:Array Oper) (i:Nat) (acc:List Prop) (kn:List (Nat×Bool)) (σ:AS) (K:List Prop->List (Nat×Bool)->AS->Prop):Prop:=
 match ops[i]? with
 | none=>K acc kn σ
 | some o=>match o.guard with
  | none=>XW0 O ts P base i o acc σ fun acc' σ'=>K acc' kn σ'
  | some (g,want)=>match ((ops[g]?).bind (·.dst)).bind (σ.slots[·]?) with
   | some ⟨.one,[.lit (.bool b)]⟩=>match tZ1 kn g with
    | none=>match want with
     | true=>out acc (GFork b (fun _=>XW0 O ts P base i o [] (σ.known ops g true) fun acc' σ'=>K acc' ((g,true)::kn) σ') (fun _=>K [] ((g,false)::kn) ((σ.known ops g false).putO o.dst yT0)))
     | false=>out acc (GFork b (fun _=>K [] ((g,true)::kn) ((σ.known ops g true).putO o.dst yT0)) (fun _=>XW0 O ts P base i o [] (σ.known ops g false) fun acc' σ'=>K acc' ((g,false)::kn) σ'))
    | some _=>match b with
     | true=>match want with
      | true=>XW0 O ts P base i o acc σ fun acc' σ'=>K acc' kn σ'
      | false=>K acc kn (σ.putO o.dst yT0)
     | false=>match want with
      | true=>K acc kn (σ.putO o.dst yT0)
      | false=>XW0 O ts P base i o acc σ fun acc' σ'=>K acc' kn σ'
   | some ⟨.tup [],[]⟩=>K acc kn (σ.putO o.dst yT0)
   | _=>False
def fin (acc:List Prop) (K:AS->Prop) (s:List AV) (b:List (Option (List A))) (e:Nat):Prop:=out acc (K ⟨s,b,e⟩)
def gOps (ts:Nat->Option TI) (P:Program) (base:Nat) (ops:Array Oper):List Nat->List Prop->List (Nat×Bool)->AS->(AS->Prop)->Prop
 | [],acc,_,σ,K=>match σ with
  | ⟨s,b,e⟩=>fin acc K s b (e+1)
 | i::rest,acc,kn,σ,K=>xH1 O ts P base ops i acc kn σ fun acc' kn' σ'=>gOps ts P base ops rest acc' kn' σ' K
theorem out_iff {acc:List Prop} {X:Prop}:out acc X↔(∀p∈acc,p)/\X:=by
 cases acc with
 | nil=>simp[out]
 | cons p ps=>exact ⟨fun h=>⟨h.all,h.go⟩,fun h=>⟨h.1,h.2⟩⟩
theorem cat_all {ps qs:List Prop}:(∀p∈cat ps qs,p)↔(∀p∈ps,p)/\∀p∈qs,p:=by
 constructor
 ·exact fun h=>⟨fun p hp=>h p (mem_cat.2 (.inl hp)),fun p hp=>h p (mem_cat.2 (.inr hp))⟩
 ·rintro ⟨h1,h2⟩ p hp
  rcases mem_cat.1 hp with hp | hp
  ·exact h1 p hp
  ·exact h2 p hp
theorem vN0 (hts:∀n ti,ts n=some ti->tyOf P n=some ti) {base i:Nat} {o:Oper} {acc:List Prop} {σ:AS} {K:List Prop->AS->Prop} {K':AS->Prop} (hK:∀acc σ,K acc σ->(∀p∈acc,p)/\K' σ) (h:XW0 .std ts P base i o acc σ K):(∀p∈acc,p)/\gJ0 P base i o σ K':=by
 unfold XW0 at h;unfold gJ0
 split at h
 ·rename_i fop args at' hop
  simp only[hop];rw[out_iff] at h;refine ⟨h.1,?_⟩;obtain ⟨hh,h2⟩:=h.2.go;refine ⟨hh,?_⟩;unfold XX0 at h2;unfold NA0;rw[<-UW0]
  split at h2
  ·rename_i f cargs cbx σm hpre
   simp only[hpre];obtain ⟨R,g1,g2,g3⟩:=h2.go;exact ⟨R,g1,g2,fun res bx hR=>(hK _ _ (g3 res bx hR)).2⟩
  ·exact h2.elim
 ·rename_i op hne
  split at h
  ·rename_i ps r hr
   obtain ⟨h1,h2⟩:=hK _ _ h;rw[cat_all] at h1;have:=FL0 hts base i o.dst σ o.op ps r hr h1.2;refine ⟨h1.1,?_⟩
   split
   ·rename_i fop args at' hop;exact absurd hop (hne fop args at')
   ·rename_i op' hne';rw[this];exact h2
  ·exact h.elim
theorem xG0 {ops:Array Oper} {g:Nat} {σ:AS} {b:Bool} (h:((ops[g]?).bind (·.dst)).bind (σ.slots[·]?)=some ⟨.one,[.lit (.bool b)]⟩):σ.known ops g b=σ:=AS.known_eq h
theorem QN0 (hts:∀n ti,ts n=some ti->tyOf P n=some ti) {base i:Nat} {ops:Array Oper} {acc:List Prop} {kn:List (Nat×Bool)} {σ:AS} {K:List Prop->List (Nat×Bool)->AS->Prop} {K':AS->Prop} (hK:∀acc kn σ,K acc kn σ->(∀p∈acc,p)/\K' σ) (h:xH1 .std ts P base ops i acc kn σ K):(∀p∈acc,p)/\mZ0 P base ops i σ K':=by
 unfold xH1 at h;unfold mZ0
 split at h
 ·rename_i ho;simp only[ho];exact hK _ _ _ h
 ·rename_i o ho
  simp only[ho]
  split at h
  ·rename_i hg;simp only[hg];exact vN0 hts (fun acc σ=>hK acc _ σ) h
  ·rename_i g want hg
   simp only[hg]
   split at h
   ·rename_i b hb
    simp only[hb]
    split at h
    ·cases want with
     | true=>
      simp only[out_iff] at h;refine ⟨h.1,?_⟩;have h2:=h.2;exact ⟨fun hb=>(vN0 hts (fun acc σ=>hK acc _ σ) (h2.yes (by simpa using hb))).2,fun hb=>(hK _ _ _ (h2.no (by simpa using hb))).2⟩
     | false=>
      simp only[out_iff] at h;refine ⟨h.1,?_⟩;have h2:=h.2;exact ⟨fun hb=>(vN0 hts (fun acc σ=>hK acc _ σ) (h2.no (by simpa using hb))).2,fun hb=>(hK _ _ _ (h2.yes (by simpa using hb))).2⟩
    ·cases b<;>cases want<;>simp only at h
     ·have:=vN0 hts (fun acc σ=>hK acc _ σ) h
      rw[xG0 hb];exact ⟨this.1,fun _=>this.2,fun hb=>by simp at hb⟩
     ·have:=hK _ _ _ h
      refine ⟨this.1,fun hb=>by simp at hb,fun _=>?_⟩
      rw[show (!true)=false from rfl,xG0 hb];exact this.2
     ·have:=hK _ _ _ h
      refine ⟨this.1,fun hb=>by simp at hb,fun _=>?_⟩
      rw[show (!false)=true from rfl,xG0 hb];exact this.2
     ·have:=vN0 hts (fun acc σ=>hK acc _ σ) h
      rw[xG0 hb];exact ⟨this.1,fun _=>this.2,fun hb=>by simp at hb⟩
   ·rename_i hb
    simp only[hb];exact hK _ _ _ h
   ·exact h.elim
theorem UP0 (hts:∀n ti,ts n=some ti->tyOf P n=some ti) {base:Nat} {ops:Array Oper} {K:AS->Prop}:∀{is:List Nat} {acc:List Prop} {kn:List (Nat×Bool)} {σ:AS},gOps .std ts P base ops is acc kn σ K->(∀p∈acc,p)/\aOps P base ops is σ fun σ'=>K σ'.next
 | [],acc,kn,σ,h=>by
  simp only[gOps,fin,out_iff] at h;exact h
 | i::rest,acc,kn,σ,h=>QN0 hts (fun acc kn σ h=>UP0 hts h) h
end Go.Gv
/- Avs, part 38: code, over the primitives that are variables. -/
namespace Go.Gv
open Go.Av
def GWp (O:Ops) (ts:Nat->Option TI) (P:Program) (C:Ctx) (c:Code) (σ:AS) (Q:Exit->AS->Prop):Prop:=
 O=Ops.std->(∀n ti,ts n=some ti->tyOf P n=some ti)->AWp P C c σ Q
variable {O:Ops} {ts:Nat->Option TI} {P:Program} {C:Ctx} {σ:AS} {Q:Exit->AS->Prop}
theorem GWp.seq {x y:Code} (h:GWp O ts P C x σ (tD0 (fun σ'=>GWp O ts P C y σ' Q) Q)):GWp O ts P C (.seq x y) σ Q:=fun hO ht=>
 AWp.seq ((h hO ht).mono fun e σ' hq=>by cases e<;>first | exact hq hO ht | exact hq)
theorem GWp.skip (h:Q .normal σ):GWp O ts P C .skip σ Q:=fun _ _=>AWp.skip h
theorem GWp.ret (h:Q .ret σ):GWp O ts P C .ret σ Q:=fun _ _=>AWp.ret h
theorem GWp.exit {id:Nat} (h:Q (.exit id) σ):GWp O ts P C (.exit id) σ Q:=fun _ _=>AWp.exit h
theorem GWp.region {base id:Nat} {ops:Array Oper} (h:∀K:AS->Prop,(∀σ',Q .normal σ'->K σ')->gOps O ts P base ops (List.range ops.size) [] [] σ K):GWp O ts P C (.region id ops false) σ Q:=by
 intro hO ht;subst hO;exact AWp.region (UP0 ht (h (fun σ'=>Q .normal σ') fun _ h=>h)).2
theorem GWp.cond {c:Operand} {x y:Code} {b:Bool} (hc:σ.ev c=some ⟨.one,[.lit (.bool b)]⟩) (h1:b=true->GWp O ts P C x σ Q) (h2:b=false->GWp O ts P C y σ Q):GWp O ts P C (.cond c x y) σ Q:=fun hO ht=>
 AWp.cond hc (fun hb=>h1 hb hO ht) fun hb=>h2 hb hO ht
theorem GWp.block {id:Nat} {c:Code} (h:GWp O ts P C c σ (kJ0 id Q)):GWp O ts P C (.block id c) σ Q:=fun hO ht=>AWp.block (h hO ht)
theorem GWp.mono {c:Code} {Q':Exit->AS->Prop} (h:GWp O ts P C c σ Q) (hq:∀e σ,Q e σ->Q' e σ):GWp O ts P C c σ Q':=fun hO ht=>(h hO ht).mono hq
theorem GWp.loop {nb:Nat} {keep:Nat->Bool} {kk:Root->Nat->Option Nat} {c:Code} (I:Nat->AS->Prop) (hC:C.bl0.length<=nb) (h0:wF0 nb keep kk σ fun σ'=>∃n,I n σ')
  (round:∀n σ,I n σ->GWp O ts P C c σ (tD0 (fun σ'=>wF0 nb keep kk σ' fun σ''=>∃m,m < n/\I m σ'') Q)):GWp O ts P C (.loop c) σ Q:=fun hO ht=>
 AWp.loopW I hC h0 fun n σ hI=>round n σ hI hO ht
theorem GCall.by (h:Hint) {i:Nat} {fop:Operand} {args:Array Operand} {dst:Option Tmp} {K:AS->Prop} (hx:XX0 O P h i fop args dst σ K):GCall O P i fop args dst σ K:=⟨⟨h,hx⟩⟩
theorem GCallD.by {P0:Program} (hP:P=P0) {f:FuncId} {cargs:List AV} {cbx:List (Option (List A))} {ids:List Nat} {i:Nat} {dst:Option Tmp} {σm:AS} {K:AS->Prop} {R:AV->List (Option (List A))->Prop} (he:zT0 P0 f=true) (hc:ACl P0 f cargs cbx R)
  (hK:∀res bx,R res bx->K ((zH0 ids i σm res bx).2.putO dst (zH0 ids i σm res bx).1)):GCallD P f cargs cbx ids i dst σm K:=by
 subst hP;exact ⟨⟨R,he,hc,hK⟩⟩
def gFin (O:Ops) (ts:Nat->Option TI) (base:Nat) (rs:List ResultVar) (R:AV->List (Option (List A))->Prop) (σ:AS):Prop:=match resG O ts base rs σ with
 | some (ps,(⟨sh,cs⟩,bx))=>out ps (R ⟨sh,cs⟩ bx)
 | none=>False
def rE1 (O:Ops) (ts:Nat->Option TI) (base:Nat) (rs:List ResultVar) (R:AV->List (Option (List A))->Prop):Exit->AS->Prop
 | .normal,σ | .ret,σ=>gFin O ts base rs R σ
 | _,_=>False
theorem GT0 (ht:∀n ti,ts n=some ti->tyOf P n=some ti) {base:Nat} {rs:List ResultVar} {R:AV->List (Option (List A))->Prop} (h:gFin .std ts base rs R σ):∃r,aRes P base rs σ=some r/\R r.1 r.2:=by
 unfold gFin at h
 split at h
 ·rename_i ps sh cs bx hr
  rw[out_iff] at h;exact ⟨_,uX1 ht base rs σ _ _ hr h.1,h.2⟩
 ·exact h.elim
theorem XU0 {P0:Program} (ht:∀n ti,ts n=some ti->tyOf P0 n=some ti) {f:FuncId} {fn:Func} {c:Code} {args:List AV} {bx:List (Option (List A))} {R:AV->List (Option (List A))->Prop} (n:Nat) (rs:List ResultVar) (hf:P0.funcs[f]?=some fn) (hb:fn.body=some c)
  (hn:fn.ntmps=n) (hrs:fn.results.toList=rs) (hA:∀av∈args,xD0 av.cs) (hB:∀cs,some cs∈bx->xD0 cs)
  (h:∀O,O=Ops.std->∀P,P=P0->∀C,C.bl0.length=bx.length->∀R':AV->List (Option (List A))->Prop,(∀res bx',R res bx'->R' res bx')->GWp O ts P C c (tE0 args n bx) (rE1 O ts bx.length rs R')):ACl P0 f args bx R:=by
 refine zD1 hf hb hA hB fun C hC=>?_;subst hn;subst hrs;refine (h Ops.std rfl P0 rfl C hC R (fun _ _ h=>h) rfl ht).mono ?_;intro e σ' hq;cases e with
 | normal=>
  obtain ⟨r,h1,h2⟩:=GT0 ht (P:=P0) hq;simp only[zG1,h1];exact h2
 | ret=>
  obtain ⟨r,h1,h2⟩:=GT0 ht (P:=P0) hq;simp only[zG1,h1];exact h2
 | _=>exact hq.elim
end Go.Gv
