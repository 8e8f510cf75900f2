/- Part A5 of the proof: Avs, part 26: a regions operations, one behind the other. / Avs, part 27: functions are entered and left. / Avs, part 29: a state is let grow vague at the head of a loop. -/
import Derived.Test.YtfobhlmjcnkpiaaGreatDoorA4
set_option linter.all false
/- Avs, part 26: a region's operations, one behind the other. -/
namespace Go.Av
def aEff (P:Program) (base i:Nat) (dst:Option Tmp) (σ:AS):Op->Option (AV×AS)
 | .assign x=>vA0 i dst σ x
 | .box _ x=>aBox base i σ x
 | .alloc t=>mU0 P σ t
 | .store t p x=>(mR0 P base i σ t p x).map fun s=>(⟨.any,[]⟩,s)
 | .build t parts=>(mT0 P σ t parts).map fun av=>(av,σ)
 | .buildSlice t len parts=>xC0 P i σ t len parts
 | .call ⟨.builtin .append,args,argTypes⟩=>tU0 P i σ args argTypes
 | .makeSlice t l c=>VQ0 P i σ t l c
 | .convert s d x=>((zA0 P σ (.convert s d x)).or (YD0 P σ s d x)).map fun av=>(av,σ)
 | op=>(zA0 P σ op).map fun av=>(av,σ)
theorem yN1 {P:Program} {C:Ctx} {i:Nat} {op:Op} {dst:Option Tmp} {σ σ1:AS} {av:AV} (hx:(zA0 P σ op).map (fun av=>(av,σ))=some (av,σ1)):OpOk P C i op dst σ av σ1:=by
 simp only[Option.map_eq_some_iff,Prod.mk.injEq] at hx;obtain ⟨av',h,rfl,rfl⟩:=hx;exact OpOk.pure h
theorem qQ1 {P:Program} {C:Ctx} {base i:Nat} {op:Op} {dst:Option Tmp} {σ σ1:AS} {av:AV} (hx:aEff P base i dst σ op=some (av,σ1)):OpOk P C i op dst σ av σ1:=by
 unfold aEff at hx
 split at hx
 ·exact DT0 hx
 ·exact mQ1 hx
 ·exact wU1 hx
 ·simp only[Option.map_eq_some_iff,Prod.mk.injEq] at hx
  obtain ⟨s,h,rfl,rfl⟩:=hx;exact yA1 h
 ·simp only[Option.map_eq_some_iff,Prod.mk.injEq] at hx
  obtain ⟨s,h,rfl,rfl⟩:=hx;exact wM1 h
 ·exact YB0 hx
 ·exact DU0 hx
 ·exact tP1 hx
 ·simp only[Option.map_eq_some_iff,Prod.mk.injEq] at hx
  obtain ⟨av',h,rfl,rfl⟩:=hx;rw[Option.or_eq_some_iff] at h;rcases h with h | ⟨_,h⟩
  ·exact OpOk.pure h
  ·exact uL1 h
 ·exact yN1 hx
def aFork (b:Bool) (x y:Unit->Prop):Prop:=(b=true->x ())/\(b=false->y ())
def mY1 (P:Program) (f:FuncId) (cargs:List AV) (cbx:List (Option (List A))) (ids:List Nat) (i:Nat) (dst:Option Tmp) (σm:AS) (K:AS->Prop):Prop:=
 ∃R,zT0 P f=true/\ACl P f cargs cbx R/\∀res bx,R res bx->K ((zH0 ids i σm res bx).2.putO dst (zH0 ids i σm res bx).1)
def NA0 (P:Program) (h:Hint) (i:Nat) (fop:Operand) (args:Array Operand) (dst:Option Tmp) (σ:AS) (K:AS->Prop):Prop:=
 match vD0 h i σ fop args.toList with
 | some (f,cargs,cbx,σm)=>mY1 P f cargs cbx h.ids i dst σm K
 | none=>False
def aCall (P:Program) (i:Nat) (fop:Operand) (args:Array Operand) (dst:Option Tmp) (σ:AS) (K:AS->Prop):Prop:=∃h,NA0 P h i fop args dst σ K
def gJ0 (P:Program) (base:Nat) (i:Nat) (o:Oper) (σ:AS) (K:AS->Prop):Prop:=
 match o.op with
 | .call ⟨.value fop,args,_⟩=>aCall P i fop args o.dst σ K
 | op=>match aEff P base i o.dst σ op with
  | some r=>K (r.2.putO o.dst r.1)
  | none=>False
def AS.known (σ:AS) (ops:Array Oper) (g:Nat) (b:Bool):AS:=match (ops[g]?).bind (·.dst) with
 | some t=>{ σ with slots:=σ.slots.set t ⟨.one,[.lit (.bool b)]⟩ }
 | none=>σ
theorem AS.known_eq {σ:AS} {ops:Array Oper} {g:Nat} {b:Bool} (h:((ops[g]?).bind (·.dst)).bind (σ.slots[·]?)=some ⟨.one,[.lit (.bool b)]⟩):σ.known ops g b=σ:=by
 unfold AS.known;cases hd:(ops[g]?).bind (·.dst) with
 | none=>rfl
 | some t=>
  simp only[hd,Option.bind_some] at h;simp only;obtain ⟨hlt,he⟩:=List.getElem?_eq_some_iff.1 h;rw[<-he,List.set_getElem_self]
def mZ0 (P:Program) (base:Nat) (ops:Array Oper) (i:Nat) (σ:AS) (K:AS->Prop):Prop:=
 match ops[i]? with
 | none=>K σ
 | some o=>match o.guard with
  | none=>gJ0 P base i o σ K
  | some (g,want)=>match ((ops[g]?).bind (·.dst)).bind (σ.slots[·]?) with
   | some ⟨.one,[.lit (.bool b)]⟩=>aFork (b == want) (fun _=>gJ0 P base i o (σ.known ops g want) K) (fun _=>K ((σ.known ops g !want).putO o.dst yT0))
   | some ⟨.tup [],[]⟩=>K (σ.putO o.dst yT0)
   | _=>False
def aOps (P:Program) (base:Nat) (ops:Array Oper):List Nat->AS->(AS->Prop)->Prop
 | [],σ,K=>K σ
 | i::rest,σ,K=>mZ0 P base ops i σ fun σ'=>aOps P base ops rest σ' K
section
variable {P:Program} {C:Ctx} {X:List Nat} {σ:AS} {a:Act} {w:World} {base i:Nat} {ops:Array Oper} {Q:Exit->Act->World->Prop}
theorem Inv.putUndef (h:Inv C X σ a w) (hi:i∉X) (d:Option Tmp):Inv C (i::X) (σ.putO d yT0) (a.put d undef) w:=by
 obtain ⟨S,L,bl,O1,O2,h⟩:=h;exact (h.mono (fun x hx=>List.mem_cons_of_mem i hx)).done (h.fresh hi) (o':=[]) ⟨⟨#[],rfl,rfl,by simp⟩,rfl,rfl⟩ (fun c hc=>by simp[yT0] at hc) (fun c hc=>by simp[yT0] at hc) (fun g d k els hm=>by simp[yT0] at hm) List.nodup_nil (by simp)
theorem PY0 {o:Oper} {K:AS->Prop} (hx:gJ0 P base i o σ K) (h:Inv C X σ a w) (hi:i∉X):o.wp P a w (fun a' w'=>∃σ',K σ'/\Inv C (i::X) σ' a' w') Q:=by
 unfold gJ0 at hx
 split at hx
 ·rename_i fop args argTypes hop
  obtain ⟨dst,op,type,pos,after,guard⟩:=o;simp only at hop;subst hop;obtain ⟨hh,hx⟩:=hx;unfold NA0 at hx
  split at hx
  ·rename_i f cargs cbx σm hpre
   obtain ⟨R,he,hc,hK⟩:=hx;exact rK1 hpre he hc hK h hi
  ·exact hx.elim
 split at hx
 ·rename_i r hr
  obtain ⟨dst,op,type,pos,after,guard⟩:=o;obtain ⟨n,v,w',h1,h2,h3⟩:=qQ1 (av:=r.1) (σ1:=r.2) (C:=C) hr X a w h hi type pos after guard;unfold Oper.wp;rw[h1];rcases h2 with rfl | ⟨rfl,rfl⟩
  ·exact ⟨_,hx,h3⟩
  ·exact ⟨_,hx,h3⟩
 ·exact hx.elim
theorem yB1 (h:Inv C X σ a w) {t:Nat} {c:A} (hs:σ.slots[t]?=some ⟨.one,[c]⟩):∃v,a.tmps[t]?=some v/\∀x,c=.lit x->v=x:=by
 obtain ⟨S,L,bl,O1,O2,h⟩:=h;obtain ⟨v,p,o,q,g1,g2,g3,_⟩:=RpS.split t _ h.slots hs;rw[Array.getElem?_toList] at g1;refine ⟨v,g1,?_⟩;rintro x rfl;obtain ⟨h1,h2⟩:=g3;rw[yQ0 h1] at h2;obtain ⟨u,us,o1,o2,e1,e2,h3,h4⟩:=h2;simp at e1;rw[e1.1];exact h3.1
theorem NG0 (h:Inv C X σ a w) {t:Nat} (hs:σ.slots[t]?=some ⟨.tup [],[]⟩):a.tmps[t]?=some undef:=by
 obtain ⟨S,L,bl,O1,O2,h⟩:=h;obtain ⟨v,p,o,q,g1,g2,g3,_⟩:=RpS.split t _ h.slots hs;rw[Array.getElem?_toList] at g1;obtain ⟨⟨vs,rfl,hv,_⟩,_⟩:=g3;have:vs=#[]:=by
  have hl:=congrArg List.length hv;simp at hl;exact hl
 subst this;exact g1
theorem kL0 {K:AS->Prop} (hx:mZ0 P base ops i σ K) (h:Inv C X σ a w) (hi:i∉X):wpOp P ops Q i (fun a' w'=>∃σ',K σ'/\Inv C (i::X) σ' a' w') a w:=by
 unfold mZ0 at hx;unfold wpOp;cases ho:ops[i]? with
 | none=>
  simp only[ho] at hx |-;obtain ⟨S,L,bl,O1,O2,h⟩:=h;exact ⟨σ,hx,S,L,bl,O1,O2,h.mono (fun x hx=>List.mem_cons_of_mem i hx)⟩
 | some o=>
  simp only[ho] at hx |-;cases hg:o.guard with
  | none=>
   simp only[hg] at hx;have hw:Region.wanted o (yielded ops a.tmps)=true:=by simp[Region.wanted,hg]
   rw[if_pos hw];exact .inl (PY0 hx h hi)
  | some gw=>
   obtain ⟨g,want⟩:=gw;simp only[hg] at hx
   split at hx
   ·rename_i b hb
    cases hd:(ops[g]?).bind (·.dst) with
    | none=>simp[hd] at hb
    | some t=>
     simp only[hd,Option.bind_some] at hb;obtain ⟨v,hv1,hv2⟩:=yB1 h hb;have hvb:=hv2 _ rfl;subst hvb;have hy:yielded ops a.tmps g=some b:=by simp[yielded,hd,hv1]
     obtain ⟨hx1,hx2⟩:=hx;have hkn:=AS.known_eq (σ:=σ) (ops:=ops) (g:=g) (b:=b) (by rw[hd];exact hb)
     cases hbw:(b == want) with
     | true=>
      have hw:Region.wanted o (yielded ops a.tmps)=true:=by simp only[Region.wanted,hg,hy];simpa using hbw
      rw[if_pos hw];have hbe:b=want:=by simpa using hbw
      subst hbe;have hx1:=hx1 hbw;rw[hkn] at hx1;exact .inl (PY0 hx1 h hi)
     | false=>
      have hw:¬Region.wanted o (yielded ops a.tmps)=true:=by simp only[Region.wanted,hg,hy];simpa using hbw
      rw[if_neg hw];have hbe:b=!want:=by cases b<;>cases want<;>simp_all
      subst hbe;have hx2:=hx2 hbw;rw[hkn] at hx2;exact ⟨_,hx2,h.putUndef hi o.dst⟩
   ·rename_i hb
    cases hd:(ops[g]?).bind (·.dst) with
    | none=>simp[hd] at hb
    | some t=>
     simp only[hd,Option.bind_some] at hb;have hv1:=NG0 h hb;have hy:yielded ops a.tmps g=none:=by simp[yielded,hd,hv1,undef]
     have hw:¬Region.wanted o (yielded ops a.tmps)=true:=by simp[Region.wanted,hg,hy]
     rw[if_neg hw];exact ⟨_,hx,h.putUndef hi o.dst⟩
   ·exact hx.elim
theorem TY0 {K:AS->Prop} (hK:∀X σ a w,K σ->Inv C X σ a w->Q .normal a w):∀(l:List Nat) (X:List Nat) (σ:AS) (a:Act) (w:World),l.Nodup->(∀i∈l,i∉X)->aOps P base ops l σ K->Inv C X σ a w->wpOps P ops Q l a w
 | [],X,σ,a,w,_,_,hx,h=>hK X σ a w hx h
 | i::rest,X,σ,a,w,hn,hd,hx,h=>by
  rw[wpOps_cons];simp only[List.nodup_cons] at hn;refine wpOp_mono ?_ (kL0 hx h (hd i List.mem_cons_self));rintro a' w' ⟨σ',hK',h'⟩;refine TY0 hK rest (i::X) σ' a' w' hn.2 (fun j hj hm=>?_) hK' h';rcases List.mem_cons.1 hm with rfl | hm
  ·exact hn.1 hj
  ·exact hd j (List.mem_cons_of_mem _ hj) hm
end
def AS.next (σ:AS):AS:={ σ with epoch:=σ.epoch+1 }
theorem Inv.next {C:Ctx} {X:List Nat} {σ:AS} {a:Act} {w:World} (h:Inv C X σ a w):Inv C [] σ.next a w:=by
 obtain ⟨S,L,bl,O1,O2,h⟩:=h;have key:∀c,stampIn X σ.epoch c->stampIn [] (σ.epoch+1) c:=fun c hc g hg=>by
  rcases hc g hg with h1 | ⟨h1,_⟩
  ·exact .inl (Nat.lt_succ_of_lt h1)
  ·exact .inl (by omega)
 exact ⟨S,L,bl,O1,O2,h.defers,h.slots,h.boxes,h.nodup,h.sl,h.stable,h.s0,h.keeps,h.own,h.pre,fun av hav c hc=>key c (h.stS av hav c hc),fun cs hcs c hc=>key c (h.stB cs hcs c hc)⟩
def AWp (P:Program) (C:Ctx) (c:Code) (σ:AS) (Q:Exit->AS->Prop):Prop:=
 ∀a w,Inv C [] σ a w->c.wp P (fun e a' w'=>∃σ',Q e σ'/\Inv C [] σ' a' w') a w
section
variable {P:Program} {C:Ctx} {σ:AS} {Q:Exit->AS->Prop}
theorem AWp.mono {c:Code} {Q':Exit->AS->Prop} (h:AWp P C c σ Q) (hq:∀e σ,Q e σ->Q' e σ):AWp P C c σ Q':=
 fun a w hi=>wp_mono (h a w hi) fun _ _ _ ⟨σ',h1,h2⟩=>⟨σ',hq _ _ h1,h2⟩
def tD0 (next:AS->Prop) (Q:Exit->AS->Prop):Exit->AS->Prop
 | .normal,σ=>next σ
 | e,σ=>Q e σ
theorem AWp.seq {x y:Code} (h:AWp P C x σ (tD0 (fun σ'=>AWp P C y σ' Q) Q)):AWp P C (.seq x y) σ Q:=by
 intro a w hi;refine wp_seq (wp_mono (h a w hi) ?_);rintro e a' w' ⟨σ',h1,h2⟩;cases e<;>first | exact h1 a' w' h2 | exact ⟨σ',h1,h2⟩
theorem AWp.skip (h:Q .normal σ):AWp P C .skip σ Q:=fun _ _ hi=>wp_skip ⟨σ,h,hi⟩
theorem AWp.ret (h:Q .ret σ):AWp P C .ret σ Q:=fun _ _ hi=>wp_ret ⟨σ,h,hi⟩
theorem AWp.exit {id:Nat} (h:Q (.exit id) σ):AWp P C (.exit id) σ Q:=fun _ _ hi=>wp_exit ⟨σ,h,hi⟩
theorem AWp.region {base:Nat} {id:Nat} {ops:Array Oper} (h:aOps P base ops (List.range ops.size) σ fun σ'=>Q .normal σ'.next):AWp P C (.region id ops false) σ Q:=
 fun _ _ hi=>wp_region (TY0 (fun _ _ _ _ hq hv=>⟨_,hq,hv.next⟩) _ [] _ _ _ List.nodup_range (by simp) h hi)
theorem AWp.cond {c:Operand} {x y:Code} {b:Bool} (hc:σ.ev c=some ⟨.one,[.lit (.bool b)]⟩) (h1:b=true->AWp P C x σ Q) (h2:b=false->AWp P C y σ Q):AWp P C (.cond c x y) σ Q:=by
 intro a w hi;obtain ⟨S,L,bl,O1,O2,h⟩:=id hi;obtain ⟨e,_,_⟩:=(h.ev hc).lit? (x:=.bool b) rfl;exact wp_cond_split e (fun hb=>h1 hb a w hi) (fun hb=>h2 hb a w hi)
def kJ0 (id:Nat) (Q:Exit->AS->Prop):Exit->AS->Prop
 | .exit id',σ=>if id'=id then Q .normal σ else Q (.exit id') σ
 | e,σ=>Q e σ
theorem AWp.block {id:Nat} {c:Code} (h:AWp P C c σ (kJ0 id Q)):AWp P C (.block id c) σ Q:=by
 intro a w hi;refine wp_block (wp_mono (h a w hi) ?_);rintro e a' w' ⟨σ',h1,h2⟩;cases e<;>first
  | exact ⟨σ',h1,h2⟩
  | (rename_i id';simp only[Exit.inBlock,kJ0] at h1 |-;split at h1;(rename_i hid;subst hid;simp only[if_true];exact ⟨σ',h1,h2⟩);(rename_i hid;rw[if_neg hid];exact ⟨σ',h1,h2⟩))
theorem AWp.loop {c:Code} (I:Nat->AS->Prop) {n:Nat} (h0:I n σ) (round:∀n σ,I n σ->AWp P C c σ (tD0 (fun σ'=>∃m,m < n/\I m σ') Q)):AWp P C (.loop c) σ Q:=by
 have key:∀n σ,I n σ->∀a w,Inv C [] σ a w->∀(b:Frame) (k:List Item) (cs:List Frame),
   ∃e a' w',(∃σ',Q e σ'/\Inv C [] σ' a' w')/\Arrives P (lone (b.at a (.code c::.inLoop c::k)) cs w) b k cs e a' w':=by
  intro n
  induction n using Nat.strongRecOn with
  | _ n ih=>
   intro σ hI a w hi b k cs;obtain ⟨e,a₁,w₁,⟨σ',hq,hv⟩,harr⟩:=round n σ hI a w hi b (.inLoop c::k) cs;cases e with
   | normal=>
    obtain ⟨m,hlt,hI₁⟩:=hq;obtain ⟨e₂,a₂,w₂,hq₂,harr₂⟩:=ih m hlt σ' hI₁ a₁ w₁ hv b k cs;exact ⟨e₂,a₂,w₂,hq₂,.of_steps (Steps.trans harr (.one step_inLoop)) harr₂⟩
   | exit id=>exact ⟨_,a₁,w₁,⟨σ',hq,hv⟩,.pass (x:=.inLoop c) rfl (fun _ _=>.inl (by simp)) harr⟩
   | goto l=>exact ⟨_,a₁,w₁,⟨σ',hq,hv⟩,.pass (x:=.inLoop c) rfl (fun _ _=>.inl (by simp)) harr⟩
   | ret=>exact ⟨_,a₁,w₁,⟨σ',hq,hv⟩,.pass (x:=.inLoop c) rfl (fun _ _=>.inl (by simp)) harr⟩
   | panic ch=>exact ⟨_,a₁,w₁,⟨σ',hq,hv⟩,.pass (x:=.inLoop c) rfl (fun _ _=>.inl (by simp)) harr⟩
   | outgrown=>exact ⟨_,a₁,w₁,⟨σ',hq,hv⟩,.pass (x:=.inLoop c) rfl (fun _ _=>.inl (by simp)) harr⟩
 intro a w hi b k cs;obtain ⟨e,a',w',hq,harr⟩:=key n σ h0 a w hi b k cs;exact ⟨e,a',w',hq,.of_steps (.one step_loop) harr⟩
end
end Go.Av
/- Avs, part 27: functions are entered and left. -/
namespace Go.Av
section
variable {P:Program} {C:Ctx} {X:List Nat} {σ:AS} {a:Act} {w:World} {S L:Nat->Prop} {bl:List Bk} {O1 O2:List Nat}
def zG1 (P:Program) (base:Nat) (rs:List ResultVar) (R:AV->List (Option (List A))->Prop):Exit->AS->Prop
 | .normal,σ | .ret,σ=>match aRes P base rs σ with
  | some r=>R r.1 r.2
  | none=>False
 | _,_=>False
theorem KJ0 {base:Nat} {rs:List ResultVar} {R:AV->List (Option (List A))->Prop} {e:Exit} {σ:AS} (h:zG1 P base rs R e σ):(e=.normal\/e=.ret)/\∃r,aRes P base rs σ=some r/\R r.1 r.2:=by
 unfold zG1 at h
 split at h
 ·split at h
  ·rename_i r hr;exact ⟨.inl rfl,r,hr,h⟩
  ·exact h.elim
 ·split at h
  ·rename_i r hr;exact ⟨.inr rfl,r,hr,h⟩
  ·exact h.elim
 ·exact h.elim
theorem zD1 {f:FuncId} {fn:Func} {c:Code} {args:List AV} {bx:List (Option (List A))} {R:AV->List (Option (List A))->Prop} (hf:P.funcs[f]?=some fn) (hb:fn.body=some c)
  (hA:∀av∈args,xD0 av.cs) (hB:∀cs,some cs∈bx->xD0 cs)
  (h:∀C,C.bl0.length=bx.length->AWp P C c (tE0 args fn.ntmps bx) (zG1 P bx.length fn.results.toList R)):ACl P f args bx R:=by
 intro w vals S L bl O1 O2 h1 h2 hn hsl hst hgd;refine calls_of_wp hf hb ?_;have hlen:=RpS.length h1;have hlen':vals.size=args.length:=by simpa using hlen
 have hinv:Inv ⟨w,O1++O2,S,bl,hgd,fun b hb=>hst b (hsl b hb)⟩ [] (tE0 args fn.ntmps bx) { tmps:=vals++Array.replicate (fn.ntmps - vals.size) undef,defers:=[] } w:=by
  refine ⟨S,L,bl,O1,O2,rfl,?_,?_,hn,hsl,hst,⟨fun _ h=>h,fun _ h=>.inl h⟩,.refl _ _,fun b hb=>.inl hb,List.prefix_rfl,?_,?_⟩
  ·have:=(RpS.free (a':={ tmps:=vals++Array.replicate (fn.ntmps - vals.size) undef,defers:=[] }) (ca':=(tE0 args fn.ntmps bx).cell) (fun av hav c hc=>(hA av hav c hc).2) h1).append (RpS.undef (fn.ntmps - args.length))
   simpa [tE0,nD0,hlen'] using this
  ·exact RpB.free (fun cs hcs c hc=>(hB cs hcs c hc).2) h2
  ·intro av hav c hc
   simp only[tE0,nD0,List.mem_append] at hav;rcases hav with hav | hav
   ·exact (hA av hav c hc).1
   ·have:=List.eq_of_mem_replicate hav
    subst this;simp[yT0] at hc
  ·intro cs hcs c hc
   exact (hB cs hcs c hc).1
 refine wp_mono (h ⟨w,O1++O2,S,bl,hgd,fun b hb=>hst b (hsl b hb)⟩ (RpB.length h2) _ w hinv) ?_;rintro e a' w' ⟨σ',hpost,S',L',bl',O1',O2',hv⟩;obtain ⟨he,r,hr,hR⟩:=KJ0 hpost;have fin:a'.defers=[]/\∃v,(results fn a'.tmps).run P w'=.ok v w'/\∃res bx' S' bl' o1 o2,R res bx'/\RepV (Env.zero S' S' bl' w') res v o1/\RpB (Env.zero S' S' bl' w') bx' bl' o2/\
   (o1++o2).Nodup/\(∀b,S' b->b < w'.heap.size/\b∉o1++o2)/\(∀b,S b->S' b)/\(∀b,S' b->S b\/b∈O1++O2\/w.heap.size<=b)/\Keeps (O1++O2) w w'/\
   (∀b∈o1++o2,b∈O1++O2\/w.heap.size<=b)/\bl <+: bl':=by
  refine ⟨hv.defers,?_⟩;simp only[aRes,Option.bind_eq_some_iff] at hr;obtain ⟨av,hav,hr⟩:=hr;generalize hnb:bA0 bx.length (tkC (yV1 bx.length) (σ'.epoch,0) av.cs σ')=nb at hr;obtain ⟨hl,rfl⟩:=zQ0 hr;simp only[Bool.and_eq_true,List.all_eq_true,decide_eq_true_eq] at hl;obtain ⟨v,r1,r2,r3,r4,r5⟩:=KH0 (P:=P) hv hav;have hv0:=hv.mono (X':=[0]) (fun _ h=>by simp at h)
  have hrep:RpA ⟨S',L',bl',a',w',σ'.cell⟩ av.cs (flat v) []:=(r2.cells r5).2;have hF:Fresh σ' (σ'.epoch,0):=hv.fresh (by simp)
  obtain ⟨O1'',O2'',o',g1,g2,g3,g4,g5,g6,g7,g8,g9,g10,g11,g12,g13,g14⟩:=yE0 (yV1 bx.length) (i:=0) hv0 (by simp) hF hrep (fun c hc=>(r3 c hc).mono (fun _ h=>by simp at h)) (fun c hc=>(r3 c hc).ne (by simp)) r4
  obtain ⟨o2,k1,k2⟩:=RpB.leave (nb:=nb) nb g1.boxes;have hnd:=g1.nodup;rw[List.nodup_append] at hnd;refine ⟨v,r1,_,_,S',bl'.take nb,o',o2,hR,?_,k1,?_,?_,hv.s0.1,hv.s0.2,hv.keeps,?_,?_⟩
  ·exact RepV.ofCells r5 (r2.cells r5).1 (RpA.leave hl.1 g2)
  ·rw[List.nodup_append]
   exact ⟨g3,hnd.2.1.sublist k2,fun x hx y hy he=>(g4 x hx).1 (by rw[he];simp[k2.subset hy])⟩
  ·intro b hb
   have hLb:=hv.sl b hb;refine ⟨(hv.stable b hLb).1,fun hm=>?_⟩;rcases List.mem_append.1 hm with hm | hm
   ·exact (g4 b hm).2.1 hLb
   ·exact (g1.stable b hLb).2 (by simp[k2.subset hm])
  ·intro b hb
   rcases List.mem_append.1 hb with hb | hb
   ·exact (g4 b hb).2.2
   ·exact g1.own b (by simp[k2.subset hb])
  ·have hp:bl <+: bl':=hv.pre
   obtain ⟨r,hr⟩:=hp;have:=RpB.length h2;rw[<-hr,List.take_append,List.take_of_length_le (by omega)]
   exact List.prefix_append _ _
 rcases he with rfl | rfl
 ·obtain ⟨f1,v,f2,f3⟩:=fin
  exact ⟨f1,v,f2,v,rfl,f3⟩
 ·obtain ⟨f1,v,f2,f3⟩:=fin
  exact ⟨f1,v,f2,v,rfl,f3⟩
end
end Go.Av
/- Avs, part 29: a state is let grow vague (at the head of a loop). -/
namespace Go.Av
def xV0 (o:Option Nat) (d:Bool):Bool:=match o with
 | some k=>if k < 1000 then d else true
 | none=>d
def vY0 (nb:Nat) (o:Option Nat):A->Option A
 | .nil=>match o with
  | some k=>if k < 1000 then some (.ow (0,0) false k []) else some (.ow (0,0) true (k - 1000) [])
  | none=>some .nil
 | .ow _ d k els=>some (.ow (0,0) (xV0 o d) k els)
 | .sref .. | .eptr ..=>none
 | c=>if gR0 nb c then some c.reset else none
def vG0 (nb:Nat) (kk:Nat->Option Nat):Nat->List A->Option (List A)
 | _,[]=>some []
 | j,c::cs=>(vY0 nb (kk j) c).bind fun d=>(vG0 nb kk (j+1) cs).map fun q=>d::q
def kT0 (nb:Nat) (keep:Nat->Bool) (kk:Root->Nat->Option Nat):Nat->List AV->Option (List AV)
 | _,[]=>some []
 | t,av::avs=>(if keep t then (vG0 nb (kk (.slot t)) 0 av.cs).map fun cs=>⟨av.sh,cs⟩ else some ⟨.any,[]⟩).bind fun d=>(kT0 nb keep kk (t+1) avs).map fun q=>d::q
def wU0 (nb:Nat) (kk:Root->Nat->Option Nat):Nat->List (Option (List A))->Option (List (Option (List A)))
 | _,[]=>some []
 | b,none::bs=>if b < nb then (wU0 nb kk (b+1) bs).map fun q=>none::q else some []
 | b,some cs::bs=>if b < nb then (vG0 nb (kk (.box b)) 0 cs).bind fun d=>(wU0 nb kk (b+1) bs).map fun q=>some d::q else some []
def wk (nb:Nat) (keep:Nat->Bool) (kk:Root->Nat->Option Nat) (σ:AS):Option AS:=
 (kT0 nb keep kk 0 σ.slots).bind fun s=>(wU0 nb kk 0 σ.boxes).map fun b=>⟨s,b,1⟩
section
variable {P:Program} {C:Ctx} {X:List Nat} {σ:AS} {a:Act} {w:World} {S L:Nat->Prop} {bl:List Bk} {O1 O2:List Nat}
theorem KR0 {nb:Nat} {o:Option Nat} {ca ca':Root->Nat->Option A} {c d:A} {u:Value} {own:List Nat} (hx:vY0 nb o c=some d) (h:RepA ⟨S,L,bl,a,w,ca⟩ c u own) :
  RepA ⟨S,L,bl.take nb,a,w,ca'⟩ d u own/\d.rstamp=none/\∀g,d.stamp=some g->g=(0,0):=by
 cases c with
 | nil=>
  cases o with
  | none=>simp only[vY0,Option.some.injEq] at hx;subst hx;exact ⟨h,rfl,by simp[A.stamp]⟩
  | some k=>
   simp only[vY0] at hx;obtain ⟨⟨ad,rfl⟩,rfl⟩:=h
   split at hx<;>(simp only[Option.some.injEq] at hx;subst hx;exact ⟨⟨ad,0,by simp,by simp,by simp,.inl ⟨rfl,rfl,rfl⟩⟩,rfl,by intro g hg;simp[A.stamp] at hg;exact hg.symm⟩)
 | sref r c g lo len=>simp[vY0] at hx
 | eptr r c g i off=>simp[vY0] at hx
 | ptr b off=>
  simp only[vY0] at hx;obtain ⟨h1,rfl⟩:=zQ0 hx;obtain ⟨h0,blk,h2,rfl⟩:=h;simp only[gR0,decide_eq_true_eq] at h1;exact ⟨⟨h0,blk,by simp only[List.getElem?_take,if_pos h1];exact h2,rfl⟩,rfl,by simp[A.stamp,A.reset]⟩
 | bsl b k len=>
  simp only[vY0] at hx;obtain ⟨h1,rfl⟩:=zQ0 hx;obtain ⟨h0,blk,cap,h2,h3⟩:=h;simp only[gR0,decide_eq_true_eq] at h1;exact ⟨⟨h0,blk,cap,by simp only[List.getElem?_take,if_pos h1];exact h2,h3⟩,rfl,by simp[A.stamp,A.reset]⟩
 | fn f caps=>
  simp only[vY0] at hx;obtain ⟨h1,rfl⟩:=zQ0 hx;obtain ⟨h0,vs,h2,h3,h4⟩:=h;refine ⟨⟨h0,vs,h2,h3,fun j b off hj=>?_⟩,rfl,by simp[A.stamp,A.reset]⟩
  obtain ⟨blk,k1,k2⟩:=h4 j b off hj;simp only[gR0,List.all_eq_true,decide_eq_true_eq] at h1;exact ⟨blk,by simp only[List.getElem?_take,if_pos (h1 (b,off) (List.mem_of_getElem? hj))];exact k1,k2⟩
 | ow g d k els=>
  simp only[vY0,Option.some.injEq] at hx;subst hx;refine ⟨?_,rfl,by intro g hg;simp[A.stamp] at hg;exact hg.symm⟩
  have h:RepO S w d k els u own:=h
  show RepO S w (xV0 o d) k els u own
  cases d
  ·cases o with
   | none=>exact h
   | some k0=>
    simp only[xV0]
    split
    ·exact h
    ·exact RepO.deep h
  ·have:xV0 o true=true:=by cases o with
    | none=>rfl
    | some k0=>simp[xV0]
   rw[this];exact h
 | _=>
  simp only[vY0] at hx;obtain ⟨h1,rfl⟩:=zQ0 hx;exact ⟨h,rfl,by simp[A.stamp,A.reset]⟩
def Plain (cs:List A):Prop:=∀c∈cs,c.rstamp=none/\∀g,c.stamp=some g->g=(0,0)
theorem nB0 {nb:Nat} {kk:Nat->Option Nat} {ca ca':Root->Nat->Option A}:∀{cs ds:List A} {j:Nat} {us:List Value} {own:List Nat},vG0 nb kk j cs=some ds->RpA ⟨S,L,bl,a,w,ca⟩ cs us own->RpA ⟨S,L,bl.take nb,a,w,ca'⟩ ds us own/\Plain ds
 | [],ds,j,us,own,hx,h=>by simp[vG0] at hx;subst hx;exact ⟨h,by simp[Plain]⟩
 | c::cs,ds,j,us,own,hx,h=>by
  simp only[vG0,Option.bind_eq_some_iff,Option.map_eq_some_iff] at hx;obtain ⟨d,hd,q,hq,rfl⟩:=hx;obtain ⟨u,us',o1,o2,h1,h2,h3,h4⟩:=h;obtain ⟨k1,k2⟩:=KR0 (ca':=ca') hd h3;obtain ⟨k3,k4⟩:=nB0 (ca':=ca') hq h4;refine ⟨⟨u,us',o1,o2,h1,h2,k1,k3⟩,fun c hc=>?_⟩;rcases List.mem_cons.1 hc with rfl | hc
  ·exact k2
  ·exact k4 c hc
theorem nA0 {nb:Nat} {keep:Nat->Bool} {kk:Root->Nat->Option Nat} {ca ca':Root->Nat->Option A}:∀{sl sl':List AV} {t:Nat} {us:List Value} {own:List Nat},kT0 nb keep kk t sl=some sl'->RpS ⟨S,L,bl,a,w,ca⟩ sl us own->
  ∃own',RpS ⟨S,L,bl.take nb,a,w,ca'⟩ sl' us own'/\List.Sublist own' own/\∀av∈sl',Plain av.cs
 | [],sl',t,us,own,hx,h=>by simp[kT0] at hx;subst hx;exact ⟨own,h,List.Sublist.refl _,by simp⟩
 | av::sl,sl',t,us,own,hx,h=>by
  simp only[kT0,Option.bind_eq_some_iff,Option.map_eq_some_iff] at hx;obtain ⟨d,hd,q,hq,rfl⟩:=hx;obtain ⟨u,us',o1,o2,rfl,rfl,h3,h4⟩:=h;obtain ⟨ow',k1,k2,k3⟩:=nA0 (ca':=ca') hq h4
  split at hd
  ·simp only[Option.map_eq_some_iff] at hd
   obtain ⟨ds,hds,rfl⟩:=hd;have key:∀sh,shOk sh u->sh≠.any->RpA ⟨S,L,bl,a,w,ca⟩ av.cs (flat u) o1->RepV ⟨S,L,bl.take nb,a,w,ca'⟩ ⟨sh,ds⟩ u o1/\Plain ds:=fun sh h1 h2 h3=>by
    obtain ⟨m1,m2⟩:=nB0 (ca':=ca') hds h3;exact ⟨RepV.ofCells h2 h1 m1,m2⟩
   have hv:RepV ⟨S,L,bl.take nb,a,w,ca'⟩ ⟨av.sh,ds⟩ u o1/\Plain ds:=by
    by_cases hs:av.sh=.any
    ·obtain ⟨sh,cs⟩:=av
     simp only at hs;subst hs;obtain ⟨e1,e2⟩:=h3;simp only at e1;subst e1;simp[vG0] at hds;subst hds;exact ⟨⟨rfl,e2⟩,by simp[Plain]⟩
    ·obtain ⟨e1,e2⟩:=h3.cells hs
     exact key _ e1 hs e2
   refine ⟨o1++ow',⟨u,us',o1,ow',rfl,rfl,hv.1,k1⟩,List.Sublist.append (List.Sublist.refl _) k2,fun x hx=>?_⟩;rcases List.mem_cons.1 hx with rfl | hx
   ·exact hv.2
   ·exact k3 x hx
  ·simp only[Option.some.injEq] at hd
   subst hd;refine ⟨ow',⟨u,us',[],ow',rfl,rfl,⟨rfl,rfl⟩,k1⟩,k2.trans (List.sublist_append_right _ _),fun x hx=>?_⟩;rcases List.mem_cons.1 hx with rfl | hx
   ·simp[Plain]
   ·exact k3 x hx
theorem tV0 {nb:Nat} {kk:Root->Nat->Option Nat} {ca ca':Root->Nat->Option A}:∀{bx bx':List (Option (List A))} {b:Nat} {bs:List Bk} {own:List Nat},b<=nb->wU0 nb kk b bx=some bx'->RpB ⟨S,L,bl,a,w,ca⟩ bx bs own->
  ∃own',RpB ⟨S,L,bl.take nb,a,w,ca'⟩ bx' (bs.take (nb - b)) own'/\List.Sublist own' own/\∀cs,some cs∈bx'->Plain cs
 | [],bx',b,bs,own,_,hx,h=>by
  simp[wU0] at hx;subst hx;obtain ⟨rfl,rfl⟩:=h;exact ⟨[],⟨by simp,rfl⟩,List.Sublist.refl _,by simp⟩
 | x::bx,bx',b,bs,own,hb,hx,h=>by
  obtain ⟨blk,bs',o1,o2,rfl,rfl,h3,h4⟩:=h
  by_cases hlt:b < nb
  ·have hn:nb - b=(nb - (b+1))+1:=by omega
   rw[hn,List.take_succ_cons];cases x with
   | none=>
    simp only[wU0,if_pos hlt,Option.map_eq_some_iff] at hx;obtain ⟨q,hq,rfl⟩:=hx;obtain ⟨ow',k1,k2,k3⟩:=tV0 (ca':=ca') (by omega) hq h4
    simp only[RepBox] at h3;subst h3;exact ⟨ow',⟨blk,_,[],ow',rfl,rfl,rfl,k1⟩,k2,fun cs hcs=>k3 cs (by simpa using hcs)⟩
   | some cs=>
    simp only[wU0,if_pos hlt,Option.bind_eq_some_iff,Option.map_eq_some_iff] at hx;obtain ⟨d,hd,q,hq,rfl⟩:=hx;obtain ⟨ow',k1,k2,k3⟩:=tV0 (ca':=ca') (by omega) hq h4
    obtain ⟨o,us0,m1,m2,m3⟩:=h3;obtain ⟨e1,e2⟩:=nB0 (ca':=ca') hd m3;refine ⟨o1++ow',⟨blk,_,o1,ow',rfl,rfl,⟨o,us0,m1,m2,e1⟩,k1⟩,List.Sublist.append (List.Sublist.refl _) k2,fun y hy=>?_⟩;simp only[List.mem_cons,Option.some.injEq] at hy;rcases hy with rfl | hy
    ·exact e2
    ·exact k3 y hy
  ·have hn:nb - b=0:=by omega
   have hbx:bx'=[]:=by cases x<;>simp[wU0,hlt] at hx<;>exact hx
   subst hbx;rw[hn];exact ⟨[],⟨by simp,rfl⟩,List.nil_sublist _,by simp⟩
theorem uJ1 {nb:Nat} {keep:Nat->Bool} {kk:Root->Nat->Option Nat} {σ':AS} (hx:wk nb keep kk σ=some σ') (hC:C.bl0.length<=nb) (h:Inv C X σ a w):Inv C [] σ' a w:=by
 obtain ⟨S,L,bl,O1,O2,h⟩:=h;simp only[wk,Option.bind_eq_some_iff,Option.map_eq_some_iff] at hx;obtain ⟨sl,hsl,bx,hbx,rfl⟩:=hx;obtain ⟨o1,s1,s2,s3⟩:=nA0 (ca':=(⟨sl,bx,1⟩:AS).cell) hsl h.slots;obtain ⟨o2,t1,t2,t3⟩:=tV0 (ca':=(⟨sl,bx,1⟩:AS).cell) (Nat.zero_le _) hbx h.boxes;have hsub:=List.Sublist.append s2 t2;have hst:∀cs,Plain cs->∀c∈cs,stampIn [] 1 c:=fun cs hcs c hc g hg=>by
  rw[(hcs c hc).2 g hg];exact .inl (by simp)
 refine ⟨S,L,bl.take nb,o1,o2,h.defers,s1,by simpa using t1,h.nodup.sublist hsub,h.sl,fun b hb=>⟨(h.stable b hb).1,fun hm=>(h.stable b hb).2 (hsub.subset hm)⟩,h.s0,h.keeps,fun b hb=>h.own b (hsub.subset hb),?_,fun av hav=>hst _ (s3 av hav),fun cs hcs=>hst _ (t3 cs hcs)⟩
 obtain ⟨r,hr⟩:=h.pre;rw[<-hr,List.take_append,List.take_of_length_le hC];exact List.prefix_append _ _
theorem AWp.weaken {nb:Nat} {keep:Nat->Bool} {kk:Root->Nat->Option Nat} {c:Code} {Q:Exit->AS->Prop} {σ':AS} (hC:C.bl0.length<=nb) (hx:wk nb keep kk σ=some σ') (h:AWp P C c σ' Q):AWp P C c σ Q:=
 fun a w hi=>h a w (uJ1 hx hC hi)
def wF0 (nb:Nat) (keep:Nat->Bool) (kk:Root->Nat->Option Nat) (σ:AS) (K:AS->Prop):Prop:=match wk nb keep kk σ with
 | some σ'=>K σ'
 | none=>False
theorem AWp.loopW {nb:Nat} {keep:Nat->Bool} {kk:Root->Nat->Option Nat} {c:Code} {Q:Exit->AS->Prop} (I:Nat->AS->Prop) (hC:C.bl0.length<=nb) (h0:wF0 nb keep kk σ fun σ'=>∃n,I n σ')
  (round:∀n σ,I n σ->AWp P C c σ (tD0 (fun σ'=>wF0 nb keep kk σ' fun σ''=>∃m,m < n/\I m σ'') Q)):AWp P C (.loop c) σ Q:=by
 unfold wF0 at h0
 split at h0
 ·rename_i σ' hx
  obtain ⟨n,hn⟩:=h0;refine AWp.weaken hC hx (AWp.loop I hn fun n σ hI=>?_);intro a w hi;refine wp_mono (round n σ hI a w hi) ?_;rintro e a' w' ⟨σ1,h1,h2⟩;cases e<;>first
   | exact ⟨σ1,h1,h2⟩
   | (simp only[tD0,wF0] at h1;split at h1;(rename_i σ2 hx2;exact ⟨σ2,h1,uJ1 hx2 hC h2⟩);(exact h1.elim))
 ·exact h0.elim
def vag (n:Nat) (l:List (Nat×AV)):List AV:=(List.range n).map fun t=>(l.lookup t).getD ⟨.any,[]⟩
end
end Go.Av
