/- Part D10 of the proof: Avs: the last two stores of a region, in whatever order. -/
import Derived.Test.YtomgmhbmchidnaaGreatD9
set_option linter.all false
/- Avs: the last two stores of a region, in whatever order. -/
namespace Go.Av
variable {P:Program} {C:Ctx} {X:List Nat} {σ σ1:AS} {a:Act} {w:World} {base i:Nat}
theorem VX0 (w:World) {g k:Nat} (x y:Array Value) (h:g≠k):(w.setRow g x).setRow k y=(w.setRow k y).setRow g x:=by
 unfold World.setRow
 congr 1
 apply Array.ext
 ·simp
 ·intro i h1 h2
  simp only[Array.getElem_modify]
  by_cases hg:g=i<;>by_cases hk:k=i<;>simp_all
def tC0:Op->Bool
 | .nilCheck _ | .fieldAddr _ _ _ | .indexAddr _ _ _=>true
 | _=>false
theorem JC0 {S L:Nat->Prop} {bl O1 O2:List Nat} (h:InvAt C X σ a w S L bl O1 O2) {op:Op} (hy:tC0 op=true) {av:AV} (hx:zA0 P σ op=some av) (dst:Option Tmp) (type:TypeId) (pos:String) (after:Array Edge) (guard:Option (Nat×Bool)) :
  ∃v,∀w2,(execOp a.eval ⟨dst,op,type,pos,after,guard⟩).run P w2=.ok (.value v) w2:=by
 cases op<;>simp only[tC0,Bool.false_eq_true] at hy
 case nilCheck x=>
  simp only[zA0,Option.bind_eq_some_iff] at hx;obtain ⟨x',h1,hx⟩:=hx
  split at hx<;>try (simp at hx;done)
  rename_i c;obtain ⟨r1,r2,r3,r4,r5⟩:=(h.ev h1).cell;have hval:(∃ad,a.eval x=.pointer (some ad))\/∃f vs,a.eval x=.func (.func f) #[] vs:=by
   cases c<;>simp only[reduceCtorEq] at hx
   ·obtain ⟨_,blk,_,e⟩:=r1;exact .inl ⟨_,e⟩
   ·split at hx
    ·rename_i hs
     obtain ⟨⟨k,els⟩,hk⟩:=Option.isSome_iff_exists.1 hs;obtain ⟨d,hk⟩:=AS.an?_some hk;obtain ⟨_,b,o,cap,_,e⟩:=r1.2.2 d k els hk;exact .inl ⟨_,e⟩
    ·simp at hx
   ·obtain ⟨_,b,o,e,_⟩:=r1;exact .inl ⟨_,e⟩
   ·obtain ⟨_,vs,e,_⟩:=r1;exact .inr ⟨_,_,e⟩
  rcases hval with ⟨ad,e⟩ | ⟨f,vs,e⟩
  ·exact ⟨a.eval x,fun w2=>by simp[execOp,e]⟩
  ·exact ⟨a.eval x,fun w2=>by simp[execOp,e]⟩
 case fieldAddr s x f=>
  simp only[zA0,Option.bind_eq_some_iff] at hx;obtain ⟨x',h1,hx⟩:=hx
  split at hx<;>try (simp at hx;done)
  rename_i c;simp only[Option.map_eq_some_iff] at hx;obtain ⟨c',hx,rfl⟩:=hx;obtain ⟨r1,r2,r3,r4,r5⟩:=(h.ev h1).cell;simp only[mG0,Option.bind_eq_some_iff] at hx;obtain ⟨ti,h2,hx⟩:=hx
  split at hx<;>try (simp at hx;done)
  rename_i fs hk;simp only[Option.bind_eq_some_iff] at hx;obtain ⟨⟨off,ft⟩,h3,tf,h4,hx⟩:=hx
  split at hx
  ·simp at hx
  ·rename_i hz
   have key:∀b o,a.eval x=.pointer (some ⟨b,o,none⟩)->∃v,∀w2,(execOp a.eval ⟨dst,.fieldAddr s x f,type,pos,after,guard⟩).run P w2=.ok (.value v) w2:=by
    intro b o e;refine ⟨.pointer (some ⟨b,o+off,none⟩),fun w2=>?_⟩;simp only[execOp,e,Sem.run_bind,kX0 h2 hk h3 h4 hz]
    rfl
   cases c<;>simp only[reduceCtorEq] at hx
   ·obtain ⟨_,blk,e1,e⟩:=r1
    exact key _ _ e
   ·split at hx
    ·rename_i hsome
     obtain ⟨⟨k,els⟩,hk'⟩:=Option.isSome_iff_exists.1 hsome;obtain ⟨d,hk'⟩:=AS.an?_some hk';obtain ⟨_,b,o2,cap,e2,e⟩:=r1.2.2 d k els hk';exact key _ _ e
    ·simp at hx
   ·obtain ⟨_,b,o,e,e1,e2⟩:=r1
    exact key _ _ e
 case indexAddr t x i=>
  simp only[zA0] at hx;obtain ⟨x',i',h1,h2,hx'⟩:=zK0 hx;clear hx;revert hx';intro hx
  split at hx<;>try (simp at hx;done)
  rename_i c k n hn;simp only[Option.map_eq_some_iff] at hx;obtain ⟨c',hx,rfl⟩:=hx;obtain ⟨r1,r2,r3,r4,r5⟩:=(h.ev h1).cell;obtain ⟨ei,_,_⟩:=(h.ev h2).lit? hn;simp only[xQ0,Option.bind_eq_some_iff] at hx;obtain ⟨ti,h3,hx⟩:=hx
  split at hx<;>try (simp at hx;done)
  ·rename_i e hk
   simp only[Option.bind_eq_some_iff] at hx;obtain ⟨te,h4,hx⟩:=hx
   split at hx<;>try (simp at hx;done)
   ·rename_i st els
    split at hx<;>try (simp at hx;done)
    rename_i hc;obtain ⟨c0,c1,c2⟩:=hc;simp only[Option.map_eq_some_iff] at hx;obtain ⟨row,hrow,rfl⟩:=hx;obtain ⟨r1,_⟩:=r1;simp only[RepS] at r1;obtain ⟨ad,cap,e1,e2,e3⟩:=r1;have hne:els≠[]:=by rintro rfl;simp at hrow
    obtain ⟨b,o,rfl,hS,hE⟩:=e3 hne;refine ⟨.pointer (some ⟨b,o+n.toNat * te.size,none⟩),fun w2=>?_⟩;simp only[execOp,e1,ei,Sem.run_bind,run_indexAt_slice h3 hk h4 k b o els.length cap n c0 c1]
    rfl
   ·rename_i r cc g lo len
    simp only[Option.bind_eq_some_iff] at hx;obtain ⟨⟨k',els⟩,h5,hx⟩:=hx
    split at hx<;>try (simp at hx;done)
    rename_i hc;obtain ⟨c0,c1,c2⟩:=hc;obtain ⟨d,hcell⟩:=AS.an?_some h5;obtain ⟨_,_,r1⟩:=r1;obtain ⟨e1,ad,cap,xx,e2,e3,e4⟩:=r1 d k' els hcell;obtain ⟨u,own,k1,k2,_⟩:=h.peek hcell;rw[e2] at k1;simp at k1;subst k1;obtain ⟨ad',cap',k3,k4,k6⟩:=RepO.addr k2;simp at k3;obtain ⟨rfl,rfl⟩:=k3;rcases k6 with rfl | ⟨b,o,k7⟩
    ·simp only[List.length_nil] at e1;omega
    ·subst k7
     have hsub:xx=some ⟨b,o+lo * k',none⟩:=by
      rw[e4 (by omega)]
      simp[yB0]
     rw[hsub] at e3;refine ⟨.pointer (some ⟨b,o+lo * k' + n.toNat * te.size,none⟩),fun w2=>?_⟩;simp only[execOp,e3,ei,Sem.run_bind,run_indexAt_slice h3 hk h4 k b (o+lo * k') len (cap - lo) n c1 c2]
     rfl
  ·rename_i m e hk
   simp only[Option.bind_eq_some_iff] at hx;obtain ⟨te,h4,hx⟩:=hx
   split at hx<;>try (simp at hx;done)
   rename_i b off
   split at hx<;>try (simp at hx;done)
   rename_i hc;obtain ⟨_,blk,e1,e2⟩:=r1;refine ⟨.pointer (some ⟨blk,off+n.toNat * te.size,none⟩),fun w2=>?_⟩;simp only[execOp,e2,ei,Instr.indexAt,Sem.run_bind,asIntOf,Sem.run_pure,Result.andThen,uR0 h3 w2 hk,Instr.sureAddr];simp[hc.1,hc.2,yC0 h4,yB0,Result.andThen]
theorem JB0 {op:Op} (hy:tC0 op=true) {dst:Option Tmp} {r:AV×AS} (h:aEff P base i dst σ op=some r):zA0 P σ op=some r.1/\r.2=σ:=by
 cases op<;>simp only[tC0,Bool.false_eq_true] at hy<;>simp only[aEff,Option.map_eq_some_iff] at h<;>obtain ⟨av,h1,rfl⟩:=h<;>exact ⟨h1,rfl⟩
theorem NG0 (h:Inv C X σ a w) (hi:i∉X) {o:Oper} (hy:tC0 o.op=true) {r:AV×AS} (hx:aEff P base i o.dst σ o.op=some r) :
  ∃v,(∀w2,(execOp a.eval o).run P w2=.ok (.value v) w2)/\Inv C (i::X) (r.2.putO o.dst r.1) (a.put o.dst v) w:=by
 obtain ⟨h1,h2⟩:=JB0 hy hx;obtain ⟨S,L,bl,O1,O2,hI⟩:=id h;obtain ⟨dst,op,type,pos,after,guard⟩:=o;obtain ⟨v,hv⟩:=JC0 hI hy h1 dst type pos after guard;obtain ⟨n,v',w',g1,g2,g3⟩:=zY1 (av:=r.1) (σ1:=r.2) (C:=C) hx X a w h hi type pos after guard;rw[hv w] at g1;simp at g1;obtain ⟨rfl,rfl⟩:=g1;refine ⟨v,hv,?_⟩;rcases g2 with e | ⟨e,_⟩
 ·simp at e;subst e;exact g3
 ·simp at e
def StAt (P:Program) (a:Act) (t:TypeId) (p x:Operand) (w:World) (g:Nat):Prop:=
 ∃(o:Nat) (arr row:Array Value) (ty:TypeId) (fz:Nat×Nat),a.eval p=.pointer (some ⟨g,o,none⟩)/\w.heap[g]?=some (.cells arr ty fz)/\
  ∀w2:World,w2.heap[g]?=some (.cells arr ty fz)->(storeVar t ⟨g,o,none⟩ (a.eval x)).run P w2=.ok () (w2.setRow g row)
theorem YK0 (h:Inv C X σ a w) (hi:i∉X) {t:TypeId} {p x:Operand} (hx:vG0 P base i σ t p x=some σ1) {b off:Nat} (hp:σ.ev p=some ⟨.one,[.ptr b off]⟩) :
  ∃g,StAt P a t p x w g:=by
 obtain ⟨S,L,bl,O1,O2,h⟩:=h;have h':=h.mono (fun x hx=>List.mem_cons_of_mem i hx);simp only[vG0,Option.bind_eq_some_iff] at hx;obtain ⟨ti,ht,hx⟩:=hx;obtain ⟨p',x',hp',hxe,hx'⟩:=zK0 hx;clear hx;rw[hp] at hp';simp at hp';subst hp';have he:=h.ev hxe;have hpe:=h.ev hp;have boxcase:(x'.sh=.one\/x'.sh=.agg)->x'.cs.length=ti.size->
   (((tkC (yL0 base b off ti.size) (σ.epoch,i) x'.cs σ).2.boxes[b]?).bind fun o=>o.bind fun cs0=>if off+ti.size<=cs0.length then some ((tkC (yL0 base b off ti.size) (σ.epoch,i) x'.cs σ).2.setBox b (splice cs0 off (tkC (yL0 base b off ti.size) (σ.epoch,i) x'.cs σ).1)) else none)=some σ1->
   ∃g,StAt P a t p x w g:=by
  intro hsh hsz hx;obtain ⟨r1,r2,r3⟩:=yG0 he hsh;simp only[Option.bind_eq_some_iff] at hx;obtain ⟨_,hb,cs0,rfl,hx⟩:=hx;obtain ⟨hfit,rfl⟩:=zQ0 hx;obtain ⟨O1',O2',o',g1,g2,g3,g4,g5,g6,g7,g8,g9,g10,g11,g12,g13,g14⟩:=zY0 (yL0 base b off ti.size) h' (i:=i) (by simp) (h.fresh hi) r1 (wV0 he.st) (hF0 he.st hi) he.noOw
  have hcl:=RpA.length g2;have hcl':(tkC (yL0 base b off ti.size) (σ.epoch,i) x'.cs σ).1.length=ti.size:=by rw[<-hcl,r3,hsz]
  obtain ⟨blk,arr,ty,O2'',k1,k2,k3,k4⟩:=g1.boxput (i:=i) (off:=off) hb (by rw[g9];exact g8) g2 (by rw[hcl'];exact hfit) (by rw[g9];exact g6) (by rw[g9];exact g5) (by rw[g9];exact g7) g3 g4
  obtain ⟨⟨_,blk',q1,q2⟩,_⟩:=hpe.cell;simp only at q1;rw[k1] at q1;simp at q1;subst q1;exact ⟨blk,off,arr,_,ty,(0,0),q2,k2,fun w2 hw2=>xP0 (P:=P) ht (w:=w2) (g:=blk) (o:=off) (v:=a.eval x) (by rw[r3,hsz]) hw2 (by rw[k3];exact hfit) (fun y _ _=>by omega) (wR0 r1)⟩
 cases hs:x'.sh<;>rw[hs] at hx'<;>simp only at hx'<;>try (simp at hx';done)
 ·split at hx'<;>try (simp at hx';done)
  rename_i hsz;exact boxcase (.inl hs) hsz hx'
 ·split at hx'<;>try (simp at hx';done)
  rename_i hsz;exact boxcase (.inr hs) hsz hx'
theorem RepO.blk {S:Nat->Prop} {w:World} {d:Bool} {k:Nat} {els:List (List T)} {b o cap n:Nat} {own:List Nat} (h:RepO S w d k els (.slice (some ⟨b,o,none⟩) n cap) own) (hn:0 < els.length):b∈own:=by
 cases d
 ·obtain ⟨ad,cap',m1,m2,m3,m4⟩:=h
  simp at m1;obtain ⟨rfl,_,rfl⟩:=m1;rcases m4 with ⟨_,rfl,_⟩ | ⟨b',o2,arr,ty,fz,m5,m6,_⟩
  ·simp at hn
  ·simp at m5
   obtain ⟨rfl,rfl⟩:=m5;simp[m6]
 ·obtain ⟨ad,cap',m1,m2,m3,m4⟩:=h
  simp at m1;obtain ⟨rfl,_,rfl⟩:=m1;rcases m4 with ⟨_,rfl,_⟩ | ⟨b',o2,arr,ty,fz,nn,m5,m6,_⟩
  ·simp at hn
  ·simp at m5
   obtain ⟨rfl,rfl⟩:=m5;simp[m6]
theorem bC0 (h:Inv C X σ a w) (hi:i∉X) {t:TypeId} {p x:Operand} (hx:vG0 P base i σ t p x=some σ1) {r:Root} {c n off:Nat} {g:yA0} (hp:σ.ev p=some ⟨.one,[.eptr r c g n off]⟩) :
  ∃g,StAt P a t p x w g:=by
 obtain ⟨S,L,bl,O1,O2,h⟩:=h;have h':=h.mono (fun x hx=>List.mem_cons_of_mem i hx);simp only[vG0,Option.bind_eq_some_iff] at hx;obtain ⟨ti,ht,hx⟩:=hx;obtain ⟨p',x',hp',hxe,hx'⟩:=zK0 hx;clear hx;rw[hp] at hp';simp at hp';subst hp';have he:=h.ev hxe;have hpe:=h.ev hp;have elcase:(x'.sh=.one\/x'.sh=.agg)->x'.cs.length=ti.size->
   ((fzC x'.cs σ).bind fun y=>(y.2.at? r c g).bind fun q=>(q.2[n]?).bind fun e=>if off+ti.size<=q.1 then some (y.2.setCell r c (.ow g false q.1 (q.2.set n (splice e off y.1)))) else none)=some σ1->
   ∃g,StAt P a t p x w g:=by
  intro hsh hsz hx;obtain ⟨r1,r2,r3⟩:=yG0 he hsh;simp only[Option.bind_eq_some_iff] at hx;obtain ⟨⟨ts,σ'⟩,hfz,⟨k,els⟩,hat,e,hn,hx⟩:=hx;obtain ⟨hfit,rfl⟩:=zQ0 hx;simp only at hat hn hfit;obtain ⟨S',L',O1',O2',g1,g2,g3,gL,g4,g5,g6,g7,g8,g9⟩:=xE0 h' (i:=i) (h.fresh hi) r1 hfz;have hcell:=AS.at?_some hat;obtain ⟨u,o,k1,k2,k3,k4,k5⟩:=g1.recell (i:=i) hcell (by rw[g6];exact g5)
  obtain ⟨hpa,_⟩:=hpe.cell;have hpa':=RepA.go g7 (fun _ hb=>by simp at hb) (.inr (by simp[A.rstamp])) hpa
  obtain ⟨_,_,hpa'⟩:=hpa';obtain ⟨hnl,b,ob,cap,e1,e2⟩:=hpa' false k els hcell;rw[e1] at k1;simp at k1;subst k1;obtain ⟨ad,cap',m1,m2,m3,m4⟩:=k2;simp at m1;obtain ⟨rfl,rfl⟩:=m1;rcases m4 with ⟨_,rfl,_⟩ | ⟨b',o',arr,ty,fz,m5,m6,m7,m8,m9,m10⟩
  ·simp at hnl
  ·simp at m5
   obtain ⟨rfl,rfl⟩:=m5;have hmulle:n * k+k<=cap * k:=by
    have:(n+1) * k<=cap * k:=Nat.mul_le_mul_right k (by omega)
    simpa [Nat.succ_mul] using this
   exact ⟨b,ob+n * k+off,arr,_,ty,fz,e2,m7,fun w2 hw2=>xP0 (P:=P) ht (w:=w2) (g:=b) (o:=ob+n * k+off) (v:=a.eval x) (by rw[r3,hsz]) hw2 (by omega) (fun y hy hy'=>m9 y (by omega) (by omega)) (wR0 r1)⟩
 have elcaseD:(x'.sh=.one\/x'.sh=.agg)->x'.cs.length=ti.size->
   ((holdCells base (σ.epoch,i) x'.cs σ).bind fun y=>(y.2.ad? r c g).bind fun q=>(q.2.2[n]?).bind fun e=>if q.1=true/\off+ti.size<=q.2.1 then some (y.2.setCell r c (.ow g true q.2.1 (q.2.2.set n (splice e off y.1)))) else none)=some σ1->
   ∃g,StAt P a t p x w g:=by
  intro hsh hsz hx;obtain ⟨r1,r2,r3⟩:=yG0 he hsh;simp only[Option.bind_eq_some_iff] at hx;obtain ⟨⟨ts,σ'⟩,hfz,⟨d,k,els⟩,hat,e,hn,hx⟩:=hx;obtain ⟨⟨hd,hfit⟩,rfl⟩:=zQ0 hx;simp only at hat hn hfit hd;subst hd;simp only[holdCells,Option.map_eq_some_iff,Prod.mk.injEq] at hfz;obtain ⟨ts',hts',rfl,rfl⟩:=hfz;obtain ⟨O1',O2',own',g1,g2,g3,g4,g5,g6,g7,g8,g9,g10,g11,g12,g13,g14⟩:=zY0 (uY0 base) h' (i:=i) (by simp) (h.fresh hi) r1 (wV0 he.st) (hF0 he.st hi) he.noOw
  have hcell:=AS.ad?_some hat;obtain ⟨u,o,k1,k2,k3⟩:=g1.peek hcell;obtain ⟨hpa,_⟩:=hpe.cell;have hpa':=RepA.go g12 (fun _ hb=>by simp at hb) (.inr (by simp[A.rstamp])) hpa
  obtain ⟨_,_,hpa'⟩:=hpa';obtain ⟨hnl,b,ob,cap,e1,e2⟩:=hpa' true k els hcell;rw[e1] at k1;simp at k1;subst k1;obtain ⟨ad,cap',m1,m2,m3,m4⟩:=k2;simp at m1;obtain ⟨rfl,rfl⟩:=m1;rcases m4 with ⟨_,rfl,_⟩ | ⟨b',o',arr,ty,fz,nn,m5,m6,m7,m8,m9,m10⟩
  ·simp at hnl
  ·simp at m5
   obtain ⟨rfl,rfl⟩:=m5;have hmulle:n * k+k<=cap * k:=by
    have:(n+1) * k<=cap * k:=Nat.mul_le_mul_right k (by omega)
    simpa [Nat.succ_mul] using this
   exact ⟨b,ob+n * k+off,arr,_,ty,fz,e2,m7,fun w2 hw2=>xP0 (P:=P) ht (w:=w2) (g:=b) (o:=ob+n * k+off) (v:=a.eval x) (by rw[r3,hsz]) hw2 (by omega) (fun y hy hy'=>m9 y (by omega) (by omega)) (wR0 r1)⟩
 have elboth:(x'.sh=.one\/x'.sh=.agg)->x'.cs.length=ti.size->
   (match σ.ad? r c g with
    | some (true,_,_)=>(holdCells base (σ.epoch,i) x'.cs σ).bind fun y=>(y.2.ad? r c g).bind fun q=>(q.2.2[n]?).bind fun e=>if q.1=true/\off+ti.size<=q.2.1 then some (y.2.setCell r c (.ow g true q.2.1 (q.2.2.set n (splice e off y.1)))) else none
    | _=>(fzC x'.cs σ).bind fun y=>(y.2.at? r c g).bind fun q=>(q.2[n]?).bind fun e=>if off+ti.size<=q.1 then some (y.2.setCell r c (.ow g false q.1 (q.2.set n (splice e off y.1)))) else none)=some σ1->
   ∃g,StAt P a t p x w g:=by
  intro hsh hsz hx
  split at hx
  ·exact elcaseD hsh hsz hx
  ·exact elcase hsh hsz hx
 cases hs:x'.sh<;>rw[hs] at hx'<;>simp only at hx'<;>try (simp at hx';done)
 ·split at hx'<;>try (simp at hx';done)
  rename_i hsz;exact elboth (.inl hs) hsz hx'
 ·split at hx'<;>try (simp at hx';done)
  rename_i hsz;exact elboth (.inr hs) hsz hx'
def PX0 (σ:AS) (p q:Operand):Bool:=match σ.ev p with
 | some ⟨.one,[.eptr (.slot t) c g _ _]⟩=>match σ.cell (.slot t) c with
  | some (.ow g' _ _ _)=>decide (g=g') && match σ.ev q with
   | some ⟨.one,[.ptr b _]⟩=>match σ.boxes[b]? with
    | some (some _)=>true
    | _=>false
   | _=>false
  | _=>false
 | _=>false
theorem vD1 (h:Inv C X σ a w) {p q:Operand} (hq:PX0 σ p q=true) {g1 g2 o1 o2:Nat} (h1:a.eval p=.pointer (some ⟨g1,o1,none⟩)) (h2:a.eval q=.pointer (some ⟨g2,o2,none⟩)):g1≠g2/\
  (∃r c g n off,σ.ev p=some ⟨.one,[.eptr r c g n off]⟩):=by
 obtain ⟨S,L,bl,O1,O2,h⟩:=h;unfold PX0 at hq
 split at hq<;>try (simp at hq;done)
 rename_i t c g n off hp
 split at hq<;>try (simp at hq;done)
 rename_i g' d k els hcell;simp only[Bool.and_eq_true,decide_eq_true_eq] at hq;obtain ⟨rfl,hq⟩:=hq
 split at hq<;>try (simp at hq;done)
 rename_i b off' hqe
 split at hq<;>try (simp at hq;done)
 rename_i cs hb;refine ⟨?_,_,_,_,_,_,hp⟩;obtain ⟨⟨_,_,hpa⟩,_⟩:=(h.ev hp).cell;obtain ⟨⟨_,blk,q1,q2⟩,_⟩:=(h.ev hqe).cell;obtain ⟨hnl,b1,ob,cap,e1,e2⟩:=hpa d k els hcell;simp only at q1 e1;rw[h1] at e2;rw[h2] at q2;simp at e2 q2;obtain ⟨rfl,rfl⟩:=e2;obtain ⟨rfl,rfl⟩:=q2;have hm2:g2∈O2:=RpB.blk_mem h.boxes hb q1;have hm1:g1∈O1:=by
  simp only[AS.cell,Option.bind_eq_some_iff] at hcell;obtain ⟨av,c1,c2⟩:=hcell;obtain ⟨v,pp,oo,qq,k1,k2,k3,_⟩:=RpS.split t av h.slots c1;rw[k2];simp only[Env.cv] at e1;rw[Array.getElem?_toList] at k1;rw[k1] at e1;simp only[Option.bind_some] at e1;have hrs:RpA ⟨S,L,bl,a,w,σ.cell⟩ av.cs (flat v) oo:=by
   obtain ⟨sh,cs⟩:=av;cases sh with
   | any=>obtain ⟨h1,_⟩:=k3;simp only at h1;subst h1;simp at c2
   | _=>exact k3.2
  obtain ⟨u,p',o',q',d1,d2,d3,_⟩:=RpA.split c _ hrs c2;rw[e1] at d1;simp at d1;subst d1;have:=RepO.blk (show RepO S w d k els _ o' from d3) (by omega)
  rw[d2];simp[this]
 rintro rfl;exact (List.nodup_append.1 h.nodup).2.2 _ hm1 _ hm2 rfl
end Go.Av
