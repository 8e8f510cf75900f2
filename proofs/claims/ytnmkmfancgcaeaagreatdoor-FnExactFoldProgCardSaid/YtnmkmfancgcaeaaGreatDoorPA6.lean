/- Part PA6 of the proof: Avs, part 29: a state is let grow vague at the head of a loop. -/
import Derived.Test.YtnmkmfancgcaeaaGreatDoorPA5
set_option linter.all false
/- Avs, part 29: a state is let grow vague (at the head of a loop). -/
namespace Go.Av
def wE0 (o:Option Nat) (d:Bool):Bool:=match o with
 | some k=>if k < 1000 then d else true
 | none=>d
def uG0 (nb:Nat) (o:Option Nat):A->Option A
 | .nil=>match o with
  | some k=>if k < 1000 then some (.ow (0,0) false k []) else some (.ow (0,0) true (k - 1000) [])
  | none=>some .nil
 | .ow _ d k els=>some (.ow (0,0) (wE0 o d) k els)
 | .sref .. | .eptr ..=>none
 | c=>if bP0 nb c then some c.reset else none
def wU0 (nb:Nat) (kk:Nat->Option Nat):Nat->List A->Option (List A)
 | _,[]=>some []
 | j,c::cs=>(uG0 nb (kk j) c).bind fun d=>(wU0 nb kk (j+1) cs).map fun q=>d::q
def mC0 (nb:Nat) (keep:Nat->Bool) (kk:Root->Nat->Option Nat):Nat->List AV->Option (List AV)
 | _,[]=>some []
 | t,av::avs=>(if keep t then (wU0 nb (kk (.slot t)) 0 av.cs).map fun cs=>⟨av.sh,cs⟩ else some ⟨.any,[]⟩).bind fun d=>(mC0 nb keep kk (t+1) avs).map fun q=>d::q
def wJ0 (nb:Nat) (kk:Root->Nat->Option Nat):Nat->List (Option (List A))->Option (List (Option (List A)))
 | _,[]=>some []
 | b,none::bs=>if b < nb then (wJ0 nb kk (b+1) bs).map fun q=>none::q else some []
 | b,some cs::bs=>if b < nb then (wU0 nb (kk (.box b)) 0 cs).bind fun d=>(wJ0 nb kk (b+1) bs).map fun q=>some d::q else some []
def wk (nb:Nat) (keep:Nat->Bool) (kk:Root->Nat->Option Nat) (σ:AS):Option AS:=
 (mC0 nb keep kk 0 σ.slots).bind fun s=>(wJ0 nb kk 0 σ.boxes).map fun b=>⟨s,b,1⟩
section
variable {P:Program} {C:Ctx} {X:List Nat} {σ:AS} {a:Act} {w:World} {S L:Nat->Prop} {bl O1 O2:List Nat}
theorem PL0 {nb:Nat} {o:Option Nat} {ca ca':Root->Nat->Option A} {c d:A} {u:Value} {own:List Nat} (hx:uG0 nb o c=some d) (h:RepA ⟨S,L,bl,a,w,ca⟩ c u own) :
  RepA ⟨S,L,bl.take nb,a,w,ca'⟩ d u own/\d.rstamp=none/\∀g,d.stamp=some g->g=(0,0):=by
 cases c with
 | nil=>
  cases o with
  | none=>simp only[uG0,Option.some.injEq] at hx;subst hx;exact ⟨h,rfl,by simp[A.stamp]⟩
  | some k=>
   simp only[uG0] at hx;obtain ⟨⟨ad,rfl⟩,rfl⟩:=h
   split at hx<;>(simp only[Option.some.injEq] at hx;subst hx;exact ⟨⟨ad,0,by simp,by simp,by simp,.inl ⟨rfl,rfl,rfl⟩⟩,rfl,by intro g hg;simp[A.stamp] at hg;exact hg.symm⟩)
 | sref r c g lo len=>simp[uG0] at hx
 | eptr r c g i off=>simp[uG0] at hx
 | ptr b off=>
  simp only[uG0] at hx;obtain ⟨h1,rfl⟩:=zP0 hx;obtain ⟨h0,blk,h2,rfl⟩:=h;simp only[bP0,decide_eq_true_eq] at h1;exact ⟨⟨h0,blk,by simp only[List.getElem?_take,if_pos h1];exact h2,rfl⟩,rfl,by simp[A.stamp,A.reset]⟩
 | fn f caps=>
  simp only[uG0] at hx;obtain ⟨h1,rfl⟩:=zP0 hx;obtain ⟨h0,vs,h2,h3,h4⟩:=h;refine ⟨⟨h0,vs,h2,h3,fun j b off hj=>?_⟩,rfl,by simp[A.stamp,A.reset]⟩
  obtain ⟨blk,k1,k2⟩:=h4 j b off hj;simp only[bP0,List.all_eq_true,decide_eq_true_eq] at h1;exact ⟨blk,by simp only[List.getElem?_take,if_pos (h1 (b,off) (List.mem_of_getElem? hj))];exact k1,k2⟩
 | ow g d k els=>
  simp only[uG0,Option.some.injEq] at hx;subst hx;refine ⟨?_,rfl,by intro g hg;simp[A.stamp] at hg;exact hg.symm⟩
  have h:RepO S w d k els u own:=h
  show RepO S w (wE0 o d) k els u own
  cases d
  ·cases o with
   | none=>exact h
   | some k0=>
    simp only[wE0]
    split
    ·exact h
    ·exact RepO.deep h
  ·have:wE0 o true=true:=by cases o with
    | none=>rfl
    | some k0=>simp[wE0]
   rw[this];exact h
 | _=>
  simp only[uG0] at hx;obtain ⟨h1,rfl⟩:=zP0 hx;exact ⟨h,rfl,by simp[A.stamp,A.reset]⟩
def Plain (cs:List A):Prop:=∀c∈cs,c.rstamp=none/\∀g,c.stamp=some g->g=(0,0)
theorem qV0 {nb:Nat} {kk:Nat->Option Nat} {ca ca':Root->Nat->Option A}:∀{cs ds:List A} {j:Nat} {us:List Value} {own:List Nat},wU0 nb kk j cs=some ds->RpA ⟨S,L,bl,a,w,ca⟩ cs us own->RpA ⟨S,L,bl.take nb,a,w,ca'⟩ ds us own/\Plain ds
 | [],ds,j,us,own,hx,h=>by simp[wU0] at hx;subst hx;exact ⟨h,by simp[Plain]⟩
 | c::cs,ds,j,us,own,hx,h=>by
  simp only[wU0,Option.bind_eq_some_iff,Option.map_eq_some_iff] at hx;obtain ⟨d,hd,q,hq,rfl⟩:=hx;obtain ⟨u,us',o1,o2,h1,h2,h3,h4⟩:=h;obtain ⟨k1,k2⟩:=PL0 (ca':=ca') hd h3;obtain ⟨k3,k4⟩:=qV0 (ca':=ca') hq h4;refine ⟨⟨u,us',o1,o2,h1,h2,k1,k3⟩,fun c hc=>?_⟩;rcases List.mem_cons.1 hc with rfl | hc
  ·exact k2
  ·exact k4 c hc
theorem qU0 {nb:Nat} {keep:Nat->Bool} {kk:Root->Nat->Option Nat} {ca ca':Root->Nat->Option A}:∀{sl sl':List AV} {t:Nat} {us:List Value} {own:List Nat},mC0 nb keep kk t sl=some sl'->RpS ⟨S,L,bl,a,w,ca⟩ sl us own->
  ∃own',RpS ⟨S,L,bl.take nb,a,w,ca'⟩ sl' us own'/\List.Sublist own' own/\∀av∈sl',Plain av.cs
 | [],sl',t,us,own,hx,h=>by simp[mC0] at hx;subst hx;exact ⟨own,h,List.Sublist.refl _,by simp⟩
 | av::sl,sl',t,us,own,hx,h=>by
  simp only[mC0,Option.bind_eq_some_iff,Option.map_eq_some_iff] at hx;obtain ⟨d,hd,q,hq,rfl⟩:=hx;obtain ⟨u,us',o1,o2,rfl,rfl,h3,h4⟩:=h;obtain ⟨ow',k1,k2,k3⟩:=qU0 (ca':=ca') hq h4
  split at hd
  ·simp only[Option.map_eq_some_iff] at hd
   obtain ⟨ds,hds,rfl⟩:=hd;have key:∀sh,shOk sh u->sh≠.any->RpA ⟨S,L,bl,a,w,ca⟩ av.cs (flat u) o1->RepV ⟨S,L,bl.take nb,a,w,ca'⟩ ⟨sh,ds⟩ u o1/\Plain ds:=fun sh h1 h2 h3=>by
    obtain ⟨m1,m2⟩:=qV0 (ca':=ca') hds h3;exact ⟨RepV.ofCells h2 h1 m1,m2⟩
   have hv:RepV ⟨S,L,bl.take nb,a,w,ca'⟩ ⟨av.sh,ds⟩ u o1/\Plain ds:=by
    by_cases hs:av.sh=.any
    ·obtain ⟨sh,cs⟩:=av
     simp only at hs;subst hs;obtain ⟨e1,e2⟩:=h3;simp only at e1;subst e1;simp[wU0] at hds;subst hds;exact ⟨⟨rfl,e2⟩,by simp[Plain]⟩
    ·obtain ⟨e1,e2⟩:=h3.cells hs
     exact key _ e1 hs e2
   refine ⟨o1++ow',⟨u,us',o1,ow',rfl,rfl,hv.1,k1⟩,List.Sublist.append (List.Sublist.refl _) k2,fun x hx=>?_⟩;rcases List.mem_cons.1 hx with rfl | hx
   ·exact hv.2
   ·exact k3 x hx
  ·simp only[Option.some.injEq] at hd
   subst hd;refine ⟨ow',⟨u,us',[],ow',rfl,rfl,⟨rfl,rfl⟩,k1⟩,k2.trans (List.sublist_append_right _ _),fun x hx=>?_⟩;rcases List.mem_cons.1 hx with rfl | hx
   ·simp[Plain]
   ·exact k3 x hx
theorem tC0 {nb:Nat} {kk:Root->Nat->Option Nat} {ca ca':Root->Nat->Option A}:∀{bx bx':List (Option (List A))} {b:Nat} {bs own:List Nat},b<=nb->wJ0 nb kk b bx=some bx'->RpB ⟨S,L,bl,a,w,ca⟩ bx bs own->
  ∃own',RpB ⟨S,L,bl.take nb,a,w,ca'⟩ bx' (bs.take (nb - b)) own'/\List.Sublist own' own/\∀cs,some cs∈bx'->Plain cs
 | [],bx',b,bs,own,_,hx,h=>by
  simp[wJ0] at hx;subst hx;obtain ⟨rfl,rfl⟩:=h;exact ⟨[],⟨by simp,rfl⟩,List.Sublist.refl _,by simp⟩
 | x::bx,bx',b,bs,own,hb,hx,h=>by
  obtain ⟨blk,bs',o1,o2,rfl,rfl,h3,h4⟩:=h
  by_cases hlt:b < nb
  ·have hn:nb - b=(nb - (b+1))+1:=by omega
   rw[hn,List.take_succ_cons];cases x with
   | none=>
    simp only[wJ0,if_pos hlt,Option.map_eq_some_iff] at hx;obtain ⟨q,hq,rfl⟩:=hx;obtain ⟨ow',k1,k2,k3⟩:=tC0 (ca':=ca') (by omega) hq h4
    simp only[RepBox] at h3;subst h3;exact ⟨ow',⟨blk,_,[],ow',rfl,rfl,rfl,k1⟩,k2,fun cs hcs=>k3 cs (by simpa using hcs)⟩
   | some cs=>
    simp only[wJ0,if_pos hlt,Option.bind_eq_some_iff,Option.map_eq_some_iff] at hx;obtain ⟨d,hd,q,hq,rfl⟩:=hx;obtain ⟨ow',k1,k2,k3⟩:=tC0 (ca':=ca') (by omega) hq h4
    obtain ⟨o,arr,ty,m1,m2,m3⟩:=h3;obtain ⟨e1,e2⟩:=qV0 (ca':=ca') hd m3;refine ⟨o1++ow',⟨blk,_,o1,ow',rfl,rfl,⟨o,arr,ty,m1,m2,e1⟩,k1⟩,List.Sublist.append (List.Sublist.refl _) k2,fun y hy=>?_⟩;simp only[List.mem_cons,Option.some.injEq] at hy;rcases hy with rfl | hy
    ·exact e2
    ·exact k3 y hy
  ·have hn:nb - b=0:=by omega
   have hbx:bx'=[]:=by cases x<;>simp[wJ0,hlt] at hx<;>exact hx
   subst hbx;rw[hn];exact ⟨[],⟨by simp,rfl⟩,List.nil_sublist _,by simp⟩
theorem zE1 {nb:Nat} {keep:Nat->Bool} {kk:Root->Nat->Option Nat} {σ':AS} (hx:wk nb keep kk σ=some σ') (hC:C.bl0.length<=nb) (h:Inv C X σ a w):Inv C [] σ' a w:=by
 obtain ⟨S,L,bl,O1,O2,h⟩:=h;simp only[wk,Option.bind_eq_some_iff,Option.map_eq_some_iff] at hx;obtain ⟨sl,hsl,bx,hbx,rfl⟩:=hx;obtain ⟨o1,s1,s2,s3⟩:=qU0 (ca':=(⟨sl,bx,1⟩:AS).cell) hsl h.slots;obtain ⟨o2,t1,t2,t3⟩:=tC0 (ca':=(⟨sl,bx,1⟩:AS).cell) (Nat.zero_le _) hbx h.boxes;have hsub:=List.Sublist.append s2 t2;have hst:∀cs,Plain cs->∀c∈cs,stampIn [] 1 c:=fun cs hcs c hc g hg=>by
  rw[(hcs c hc).2 g hg];exact .inl (by simp)
 refine ⟨S,L,bl.take nb,o1,o2,h.defers,s1,by simpa using t1,h.nodup.sublist hsub,h.sl,fun b hb=>⟨(h.stable b hb).1,fun hm=>(h.stable b hb).2 (hsub.subset hm)⟩,h.s0,h.keeps,fun b hb=>h.own b (hsub.subset hb),?_,fun av hav=>hst _ (s3 av hav),fun cs hcs=>hst _ (t3 cs hcs)⟩
 obtain ⟨r,hr⟩:=h.pre;rw[<-hr,List.take_append,List.take_of_length_le hC];exact List.prefix_append _ _
theorem AWp.weaken {nb:Nat} {keep:Nat->Bool} {kk:Root->Nat->Option Nat} {c:Code} {Q:Exit->AS->Prop} {σ':AS} (hC:C.bl0.length<=nb) (hx:wk nb keep kk σ=some σ') (h:AWp P C c σ' Q):AWp P C c σ Q:=
 fun a w hi=>h a w (zE1 hx hC hi)
def xR0 (nb:Nat) (keep:Nat->Bool) (kk:Root->Nat->Option Nat) (σ:AS) (K:AS->Prop):Prop:=match wk nb keep kk σ with
 | some σ'=>K σ'
 | none=>False
theorem AWp.loopW {nb:Nat} {keep:Nat->Bool} {kk:Root->Nat->Option Nat} {c:Code} {Q:Exit->AS->Prop} (I:Nat->AS->Prop) (hC:C.bl0.length<=nb) (h0:xR0 nb keep kk σ fun σ'=>∃n,I n σ')
  (round:∀n σ,I n σ->AWp P C c σ (uL0 (fun σ'=>xR0 nb keep kk σ' fun σ''=>∃m,m < n/\I m σ'') Q)):AWp P C (.loop c) σ Q:=by
 unfold xR0 at h0
 split at h0
 ·rename_i σ' hx
  obtain ⟨n,hn⟩:=h0;refine AWp.weaken hC hx (AWp.loop I hn fun n σ hI=>?_);intro a w hi;refine wp_mono (round n σ hI a w hi) ?_;rintro e a' w' ⟨σ1,h1,h2⟩;cases e<;>first
   | exact ⟨σ1,h1,h2⟩
   | (simp only[uL0,xR0] at h1;split at h1;(rename_i σ2 hx2;exact ⟨σ2,h1,zE1 hx2 hC h2⟩);(exact h1.elim))
 ·exact h0.elim
def vag (n:Nat) (l:List (Nat×AV)):List AV:=(List.range n).map fun t=>(l.lookup t).getD ⟨.any,[]⟩
end
end Go.Av
