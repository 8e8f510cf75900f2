/- Part A3 of the proof: Avs, part 12: stores boxes written and made. / Avs, part 13: what is ones own is taken along boxes are written and made. / Avs, part 14: a box is written a box is made what is ones own is let go to be shared. / Avs, part 15: a box is made what is ones own is let go to be shared elements are written. / Avs, part 16: operations that turn more than the slot that they write. / Avs, part 17: stores. / Avs, part 18: append. / Avs, part 19: structs and slices put together. / Avs, part 19a: bytes to a t -/
import Derived.Test.YtjeejieaalnbeaaGreatA2
import Derived.Laws.CopyRow
import Derived.Deep.AppendSrc
import Derived.Laws.BytesString
import Derived.Laws.MakeOwn
set_option linter.all false
/- Avs, part 12: stores; boxes written and made. -/
namespace Go.Av
def splice {α:Type} (l:List α) (off:Nat) (m:List α):List α:=l.take off++m++l.drop (off+m.length)
theorem splice_length {α:Type} {l:List α} {off:Nat} {m:List α} (h:off+m.length<=l.length):(splice l off m).length=l.length:=by
 simp[splice];omega
theorem splice_get {α:Type} {l:List α} {off:Nat} {m:List α} (h:off+m.length<=l.length) (j:Nat) :
  (splice l off m)[j]?=if off<=j/\j < off+m.length then m[j - off]? else l[j]?:=by
 unfold splice;have hto:(l.take off).length=off:=by simp;omega
 by_cases h1:j < off
 ·rw[if_neg (by omega),List.append_assoc,List.getElem?_append_left (by omega),List.getElem?_take,if_pos h1]
 ·by_cases h2:j < off+m.length
  ·rw[if_pos ⟨by omega,h2⟩,List.getElem?_append_left (by simp;omega),List.getElem?_append_right (by omega),hto]
  ·rw[if_neg (by omega),List.getElem?_append_right (by simp;omega),List.getElem?_drop]
   congr 1
   simp;omega
theorem run_stores {P:Program} (g o:Nat) (t:TypeId) (fz:Nat×Nat):∀(vs:List Value) (i:Nat) (cur:Array Value) (w:World),w.heap[g]?=some (.cells cur t fz)->o+i+vs.length<=cur.size->
  (∀x,o+i<=x->x < o+i+vs.length->¬(fz.1<=x/\x < fz.2))->(∀v∈vs,v.oneCell'=true)->
  (storeCells ⟨g,o,none⟩ vs i).run P w=.ok () (w.setRow g (splice cur.toList (o+i) vs).toArray)
 | [],i,cur,w,hg,_,_,_=>by
  simp only[storeCells,splice,List.append_nil,List.length_nil,Nat.add_zero,List.take_append_drop,Array.toArray_toList];rw[setRow_self w g cur t fz hg]
  rfl
 | v::rest,i,cur,w,hg,hl,hz,h1=>by
  have hi:o+i < cur.size:=by simp at hl;omega
  have hadd:(⟨g,o,none⟩:Addr).add i=⟨g,o+i,none⟩:=add_none g o i;have hcell:w.cell? ⟨g,o+i,none⟩=some cur[o+i]:=by simp[World.cell?,hg,hi]
  have hfro:w.frozen? ⟨g,o+i,none⟩=false:=by
   have:=hz (o+i) (Nat.le_refl _) (by simp)
   simp only[World.frozen?,hg];simpa using this
  have hst:(store ((⟨g,o,none⟩:Addr).add i) v).run P w=.ok () (w.setRow g (cur.setIfInBounds (o+i) v)):=by
   rw[hadd,run_store P w _ v _ (h1 v (by simp)),hcell]
   simp[hfro,setCell_eq_setRow w g (o+i) cur t fz v hg]
  have ih:=run_stores (P:=P) g o t fz rest (i+1) (cur.setIfInBounds (o+i) v) (w.setRow g (cur.setIfInBounds (o+i) v)) (setRow_heap w g cur _ t _ hg) (by simp at hl |-;omega)
   (fun x hx hx'=>hz x (by omega) (by simp;omega)) (fun x hx=>h1 x (by simp[hx]))
  simp only[storeCells,Sem.run_bind,hst,Result.andThen_ok,ih,setRow_setRow]
  congr 3
  have e:=list_seg_step cur.toList (o+i) v rest (by simp at hl |-;omega)
  simpa [splice,Array.toList_setIfInBounds,Nat.add_assoc] using e
theorem RpA.append_iff {E:Env}:∀{c1 c2:List A} {us:List Value} {O:List Nat},RpA E (c1++c2) us O↔∃u1 u2 o1 o2,us=u1++u2/\O=o1++o2/\RpA E c1 u1 o1/\RpA E c2 u2 o2
 | [],c2,us,O=>by
  constructor
  ·intro h;exact ⟨[],us,[],O,rfl,rfl,⟨rfl,rfl⟩,h⟩
  ·rintro ⟨u1,u2,o1,o2,rfl,rfl,⟨rfl,rfl⟩,h⟩;exact h
 | c::c1,c2,us,O=>by
  constructor
  ·rintro ⟨u,us',o1,o2,rfl,rfl,h3,h4⟩
   obtain ⟨u1,u2,p1,p2,rfl,rfl,h5,h6⟩:=RpA.append_iff.1 h4;exact ⟨u::u1,u2,o1++p1,p2,rfl,by simp,⟨u,u1,o1,p1,rfl,rfl,h3,h5⟩,h6⟩
  ·rintro ⟨u1,u2,o1,o2,rfl,rfl,⟨u,us',p1,p2,rfl,rfl,h3,h5⟩,h6⟩
   exact ⟨u,us'++u2,p1,p2++o2,rfl,by simp,h3,RpA.append_iff.2 ⟨us',u2,p2,o2,rfl,rfl,h5,h6⟩⟩
theorem RepA.oneCell {E:Env} {c:A} {u:Value} {o:List Nat} (h:RepA E c u o):u.oneCell'=true:=by
 have hv:=RepA.oneC h;cases u<;>first | rfl | simp[OneC,isTuple,isAggV] at hv
end Go.Av
/- Avs, part 13: what is one's own is taken along; boxes are written and made. -/
namespace Go.Av
def tkC (mv:Root->Nat->Bool) (g:Stamp):List A->AS->List A×AS
 | [],σ=>([],σ)
 | c::cs,σ=>
  match c with
  | .sref r x g0 lo len=>
   if mv r x then
    match σ.at? r x g0 with
    | some (k,els)=>((.ow g k ((els.drop lo).take len))::(tkC mv g cs (σ.setCell r x .dead)).1,(tkC mv g cs (σ.setCell r x .dead)).2)
    | none=>(.dead::(tkC mv g cs σ).1,(tkC mv g cs σ).2)
   else (c::(tkC mv g cs σ).1,(tkC mv g cs σ).2)
  | _=>(c::(tkC mv g cs σ).1,(tkC mv g cs σ).2)
section
variable {P:Program} {C:Ctx} {X:List Nat} {σ:AS} {a:Act} {w:World} {S L:Nat->Prop} {bl O1 O2:List Nat}
theorem Fresh.setDead {g:Stamp} {r:Root} {x:Nat} {c:A} (hc:c.rstamp=none) (h:Fresh σ g):Fresh (σ.setCell r x c) g:=by
 obtain ⟨h1,h2⟩:=h;cases r with
 | slot t=>
  refine ⟨fun av hav y hy=>?_,h2⟩;simp only[AS.setCell] at hav;rw[List.mem_iff_getElem?] at hav;obtain ⟨j,hj⟩:=hav;rw[List.getElem?_modify] at hj;cases hs:σ.slots[j]? with
  | none=>simp[hs] at hj
  | some av0=>
   simp[hs] at hj;have hm:=h1 av0 (List.mem_of_getElem? hs)
   split at hj
   ·subst hj
    rcases List.mem_or_eq_of_mem_set hy with hy | rfl
    ·exact hm y hy
    ·exact .inl hc
   ·subst hj;exact hm y hy
 | box t=>
  refine ⟨h1,fun cs hcs y hy=>?_⟩;simp only[AS.setCell] at hcs;rw[List.mem_iff_getElem?] at hcs;obtain ⟨j,hj⟩:=hcs;rw[List.getElem?_modify] at hj;cases hs:σ.boxes[j]? with
  | none=>simp[hs] at hj
  | some o=>
   simp[hs] at hj
   split at hj
   ·cases o with
    | none=>simp at hj
    | some cs0=>
     simp at hj;subst hj;have hm:=h2 cs0 (List.mem_of_getElem? hs);rcases List.mem_or_eq_of_mem_set hy with hy | rfl
     ·exact hm y hy
     ·exact .inl hc
   ·subst hj;exact h2 cs (List.mem_of_getElem? hs) y hy
theorem le_setDead {r:Root} {x:Nat} {c0:A} (hc:σ.cell r x=some c0):Env.Le none ⟨S,L,bl,a,w,σ.cell⟩ ⟨S,L,bl,a,w,(σ.setCell r x .dead).cell⟩:=by
 refine ⟨fun _ h=>h,fun _ h=>h,fun _ _=>rfl,fun _ _ h=>h,fun r' c' g k els' _ he=>?_⟩;simp only at he
 by_cases h:r'=r/\c'=x
 ·obtain ⟨rfl,rfl⟩:=h
  rw[cell_setCell_eq hc] at he;simp at he
 ·have h':r'≠r\/c'≠x:=by
   by_cases hr:r'=r
   ·exact .inr fun e=>h ⟨hr,e⟩
   ·exact .inl hr
  rw[cell_setCell_ne h'] at he;exact ⟨els',he,rfl,fun y hy=>by cases r'<;>exact hy⟩
theorem epoch_setCell {r:Root} {x:Nat} {c:A}:(σ.setCell r x c).epoch=σ.epoch:=by cases r<;>rfl
theorem RepO.sub {w:World} {k:Nat} {els:List (List T)} {ad x:Option Addr} {cap lo len:Nat} {own:List Nat} (h:RepO S w k els (.slice ad els.length cap) own) (hl:lo+len<=els.length) (hx:subOk ad lo k cap x) :
  ∃own',RepO S w k ((els.drop lo).take len) (.slice x len (cap - lo)) own'/\(own'=own\/own'=[]):=by
 obtain ⟨ad',cap',e1,e2,e3,e4⟩:=h;simp at e1;obtain ⟨rfl,rfl⟩:=e1;have hlen:((els.drop lo).take len).length=len:=by simp;omega
 have hall:∀e∈(els.drop lo).take len,e.length=k:=fun e he=>e3 e (List.mem_of_mem_drop (List.mem_of_mem_take he))
 by_cases hcl:cap=lo
 ·have hl0:len=0:=by omega
  subst hl0;exact ⟨[],⟨x,cap - lo,by rw[hlen],by omega,hall,.inl ⟨rfl,by simp,by omega⟩⟩,.inr rfl⟩
 ·rcases e4 with ⟨rfl,rfl,rfl⟩ | ⟨b,o,arr,ty,fz,rfl,rfl,g3,g4,g5,g6⟩
  ·simp at hl;omega
  ·have hx':=hx (by omega)
   simp[add_none] at hx';subst hx';have hmul:lo * k+(cap - lo) * k=cap * k:=by rw[<-Nat.add_mul];congr 1;omega
   refine ⟨[b],⟨_,cap - lo,by rw[hlen],by omega,hall,.inr ⟨b,o+lo * k,arr,ty,fz,rfl,rfl,g3,by omega,fun y hy hy'=>g5 y (by omega) (by omega),g6.takeDrop e3 lo len⟩⟩,.inl rfl⟩
theorem Env.Le.trans {E E' E'':Env} (h:Env.Le none E E') (h':Env.Le none E' E''):Env.Le none E E'':=by
 refine ⟨fun b hb=>h'.S b (h.S b hb),fun b hb=>h'.L b (h.L b hb),fun b hb=>(h'.heap b (hb.imp (h.S b) (h.L b))).trans (h.heap b hb),fun i blk hi=>h'.bl i blk (h.bl i blk hi),fun r c g k els' hg he=>?_⟩;obtain ⟨els1,a1,a2,a3⟩:=h'.head r c g k els' hg he;obtain ⟨els2,b1,b2,b3⟩:=h.head r c g k els1 hg a1;exact ⟨els2,b1,b2.trans a2,fun x hx=>a3 x (b3 x hx)⟩
theorem Env.Le.rfl' {E:Env}:Env.Le none E E:=⟨fun _ h=>h,fun _ h=>h,fun _ _=>rfl,fun _ _ h=>h,fun _ _ _ _ els' _ he=>⟨els',he,rfl,fun _ h=>h⟩⟩
def Took (C:Ctx) (X:List Nat) (a:Act) (w:World) (S L:Nat->Prop) (bl O1 O2:List Nat) (i:Nat) (us:List Value) (σ:AS) (cs':List A) (σ':AS):Prop:=
 ∃O1' O2' o',InvAt C X σ' a w S L bl O1' O2'/\RpA ⟨S,L,bl,a,w,σ'.cell⟩ cs' us o'/\o'.Nodup/\
  (∀b∈o',b∉O1'++O2'/\¬L b/\(b∈C.O0\/C.w0.heap.size<=b))/\(∀c∈cs',stampIn X σ.epoch c)/\
  stampsNe (some (σ.epoch,i)) cs'/\(∀g k els,A.ow g k els∈cs'->g=(σ.epoch,i))/\
  Fresh σ' (σ.epoch,i)/\σ'.epoch=σ.epoch/\(∀b,b∈O1'++O2'->b∈O1++O2)/\(∀b∈o',b∈O1++O2)/\
  Env.Le none ⟨S,L,bl,a,w,σ.cell⟩ ⟨S,L,bl,a,w,σ'.cell⟩/\σ'.boxes.length=σ.boxes.length/\σ'.slots.length=σ.slots.length
theorem boxes_setCell {r:Root} {x:Nat} {c:A}:(σ.setCell r x c).boxes.length=σ.boxes.length/\(σ.setCell r x c).slots.length=σ.slots.length:=by
 cases r<;>simp[AS.setCell]
theorem Took.plain {i:Nat} {us:List Value} {cs':List A} {σ':AS} {c d:A} {u:Value} (h:Took C X a w S L bl O1 O2 i us σ cs' σ') (hr:RepA ⟨S,L,bl,a,w,σ.cell⟩ c u [])
  (hst:stampIn X σ.epoch c) (hne:c.rstamp=none\/c.rstamp≠some (σ.epoch,i)) (hno:∀g k els,c≠.ow g k els) (hd:d=c\/d=.dead):Took C X a w S L bl O1 O2 i (u::us) σ (d::cs') σ':=by
 obtain ⟨O1',O2',o',g1,g2,g3,g4,g5,g6,g7,g8,g9,g10,g11,g12,g13,g14⟩:=h;refine ⟨O1',O2',o',g1,⟨u,us,[],o',rfl,rfl,?_,g2⟩,g3,g4,fun x hx=>?_,fun x hx=>?_,fun g k els hx=>?_,g8,g9,g10,g11,g12,g13,g14⟩
 ·rcases hd with rfl | rfl
  ·exact RepA.go g12 (fun _ hb=>by simp at hb) (by cases d.rstamp<;>simp) hr
  ·exact ⟨rfl,RepA.oneC hr⟩
 ·rcases List.mem_cons.1 hx with rfl | hx
  ·rcases hd with rfl | rfl
   ·exact hst
   ·intro g hg;simp[A.stamp] at hg
  ·exact g5 x hx
 ·rcases List.mem_cons.1 hx with rfl | hx
  ·rcases hd with rfl | rfl
   ·exact hne
   ·exact .inl rfl
  ·exact g6 x hx
 ·rcases List.mem_cons.1 hx with hx | hx
  ·rcases hd with rfl | rfl
   ·exact absurd hx.symm (hno g k els)
   ·simp at hx
  ·exact g7 g k els hx
theorem takeCells_ok (mv:Root->Nat->Bool) {i:Nat}:∀{cs:List A} {us:List Value} {σ:AS} {O1 O2:List Nat},InvAt C X σ a w S L bl O1 O2->i∈X->Fresh σ (σ.epoch,i)->
  RpA ⟨S,L,bl,a,w,σ.cell⟩ cs us []->(∀c∈cs,stampIn X σ.epoch c)->stampsNe (some (σ.epoch,i)) cs->(∀g k els,A.ow g k els∉cs)->
  Took C X a w S L bl O1 O2 i us σ (tkC mv (σ.epoch,i) cs σ).1 (tkC mv (σ.epoch,i) cs σ).2
 | [],us,σ,O1,O2,h,hi,hf,hr,_,_,_=>⟨O1,O2,[],h,hr,List.nodup_nil,by simp,by simp[tkC],fun c hc=>by simp[tkC] at hc,by simp[tkC],hf,rfl,fun _ h=>h,by simp,.rfl',rfl,rfl⟩
 | c::cs,us,σ,O1,O2,h,hi,hf,hr,hst,hne,hno=>by
  obtain ⟨u,us',o1,o2,rfl,ho,h3,h4⟩:=hr;simp at ho;obtain ⟨rfl,rfl⟩:=ho;have hst':∀x∈cs,stampIn X σ.epoch x:=fun x hx=>hst x (List.mem_cons_of_mem _ hx);have hne':stampsNe (some (σ.epoch,i)) cs:=fun x hx=>hne x (List.mem_cons_of_mem _ hx);have hno':∀g k els,A.ow g k els∉cs:=fun g k els hx=>hno g k els (List.mem_cons_of_mem _ hx);have hc0:=hst c (List.mem_cons_self);have hc1:=hne c (List.mem_cons_self)
  have hc2:∀g k els,c≠.ow g k els:=fun g k els e=>hno g k els (e ▸ List.mem_cons_self);have plain:=fun d hd=>(takeCells_ok mv h hi hf h4 hst' hne' hno').plain (d:=d) h3 hc0 hc1 hc2 hd;cases c with
  | sref r x g0 lo len=>
   simp only[tkC]
   split
   ·cases hat:σ.at? r x g0 with
    | none=>exact plain .dead (.inr rfl)
    | some p=>
     obtain ⟨k,els⟩:=p;have hcell:=AS.at?_some hat;obtain ⟨hlo,ad,cap,xx,e1,e2,e3⟩:=h3.2.2 k els hcell;obtain ⟨u0,o,k1,(k2:RepA _ (.ow g0 k els) _ _),k3,k4,k5⟩:=h.recell hcell hf;rw[e1] at k1;simp at k1;subst k1;obtain ⟨O1a,O2a,ha,hmem⟩:=k5 S L w .dead [] (fun _ h=>h) (fun _ h=>h) h.sl (fun b hb=>.inl hb) (fun b hb=>.inl hb) (by simp) (.inr rfl) (fun _ _ _=>rfl) h.keeps (Nat.le_refl _) ⟨rfl,RepA.oneC k2⟩
      (fun g hg=>by simp[A.stamp] at hg) (fun g k els' he=>by simp at he)
     have hle:=le_setDead (S:=S) (L:=L) (bl:=bl) (a:=a) (w:=w) hcell;have hep:(σ.setCell r x .dead).epoch=σ.epoch:=epoch_setCell;have ih:=takeCells_ok mv (i:=i) (cs:=cs) (us:=us') ha hi (by rw[hep];exact hf.setDead rfl)
      (RpA.go hle (fun _ _=>rfl) (fun y _=>by cases y.rstamp<;>simp) h4) (by rw[hep];exact hst') (by rw[hep];exact hne') hno'
     unfold Took at ih;rw[hep] at ih;obtain ⟨O1',O2',o',g1,g2,g3,g4,g5,g6,g7,g8,g9,g10,g11,g12,g13,g14⟩:=ih;obtain ⟨own',s1,s2⟩:=RepO.sub k2 hlo e3;have hown:∀b∈own',b∈o:=fun b hb=>by rcases s2 with rfl | rfl;exact hb;simp at hb
     have hsub:∀b,b∈O1'++O2'->b∈O1++O2/\b∉o:=fun b hb=>by
      have:=(hmem b).1 (g10 b hb);simpa using this
     have hsub':∀b∈o',b∈O1++O2/\b∉o:=fun b hb=>by
      have:=(hmem b).1 (g11 b hb);simpa using this
     subst e2;refine ⟨O1',O2',own'++o',g1,⟨_,us',own',o',rfl,rfl,s1,g2⟩,?_,?_,?_,?_,?_,g8,g9,fun b hb=>(hsub b hb).1,?_,hle.trans g12,?_,?_⟩
     ·refine List.nodup_append.2 ⟨?_,g3,fun x hx y hy he=>(hsub' y hy).2 (he ▸ hown x hx)⟩
      rcases s2 with rfl | rfl
      ·exact k3
      ·exact List.nodup_nil
     ·intro b hb
      rcases List.mem_append.1 hb with hb | hb
      ·have hbo:=hown b hb
       exact ⟨fun hx=>(hsub b hx).2 hbo,fun hS=>(h.stable b hS).2 (k4 b hbo),h.own b (k4 b hbo)⟩
      ·exact g4 b hb
     ·intro y hy
      rcases List.mem_cons.1 hy with rfl | hy
      ·intro g hg;simp[A.stamp] at hg;subst hg;exact .inr ⟨rfl,hi⟩
      ·exact g5 y hy
     ·intro y hy
      rcases List.mem_cons.1 hy with rfl | hy
      ·exact .inl rfl
      ·exact g6 y hy
     ·intro g k' els' hy
      rcases List.mem_cons.1 hy with hy | hy
      ·simp at hy;exact hy.1
      ·exact g7 g k' els' hy
     ·intro b hb
      rcases List.mem_append.1 hb with hb | hb
      ·exact k4 b (hown b hb)
      ·exact (hsub' b hb).1
     ·exact g13.trans boxes_setCell.1
     ·exact g14.trans boxes_setCell.2
   ·exact plain _ (.inl rfl)
  | _=>exact plain _ (.inl rfl)
end
end Go.Av
/- Avs, part 14: a box is written; a box is made; what is one's own is let go to be shared. -/
namespace Go.Av
def AS.setBox (σ:AS) (b:Nat) (cs:List A):AS:={ σ with boxes:=σ.boxes.set b (some cs) }
section
variable {P:Program} {C:Ctx} {X:List Nat} {σ:AS} {a:Act} {w:World} {S L:Nat->Prop} {bl O1 O2:List Nat}
theorem setRow_other (w:World) (g b:Nat) (cs:Array Value) (h:b≠g):(w.setRow g cs).heap[b]?=w.heap[b]?:=by
 simp only[World.setRow,Array.getElem?_modify];rw[if_neg (by omega)]
theorem setRow_size (w:World) (g:Nat) (cs:Array Value):(w.setRow g cs).heap.size=w.heap.size:=by simp[World.setRow]
theorem Keeps.setRow {O:List Nat} {w0 w:World} {g:Nat} {cs:Array Value} (h:Keeps O w0 w) (hg:g∈O\/w0.heap.size<=g):Keeps O w0 (w.setRow g cs):=
 ⟨h.os,h.tape,h.output,by rw[setRow_size];exact h.size,fun b hb hn=>by
  rw[setRow_other _ _ _ _ (by rintro rfl;rcases hg with hg | hg;exact hn hg;omega)]
  exact h.block b hb hn⟩
theorem InvAt.blk_lt (h:InvAt C X σ a w S L bl O1 O2) {b blk:Nat} {cs:List A} (hb:σ.boxes[b]?=some (some cs)) (hk:bl[b]?=some blk):blk < w.heap.size:=by
 obtain ⟨blk',p,o,q,g1,g2,⟨o2,arr,ty,g3,g4,g5⟩,_⟩:=RpB.split b _ h.boxes hb;rw[hk] at g1;simp at g1;subst g1;exact (Array.getElem?_eq_some_iff.1 g4).1
theorem InvAt.boxput (h:InvAt C X σ a w S L bl O1 O2) {b off i:Nat} {cs0 cs':List A} {us:List Value} {o':List Nat} (hb:σ.boxes[b]?=some (some cs0)) (hf:Fresh σ (σ.epoch,i))
  (hr:RpA ⟨S,L,bl,a,w,σ.cell⟩ cs' us o') (hl:off+cs'.length<=cs0.length) (hne:stampsNe (some (σ.epoch,i)) cs') (hst:∀c∈cs',stampIn X σ.epoch c)
  (hgn:∀g k els,A.ow g k els∈cs'->g=(σ.epoch,i)) (hn:o'.Nodup) (ho:∀b∈o',b∉O1++O2/\¬L b/\(b∈C.O0\/C.w0.heap.size<=b)) :
  ∃blk arr ty O2',bl[b]?=some blk/\w.heap[blk]?=some (.cells arr ty (0,0))/\arr.size=cs0.length/\
   InvAt C X (σ.setBox b (splice cs0 off cs')) a (w.setRow blk (splice arr.toList off us).toArray) S L bl O1 O2':=by
 obtain ⟨blk,p,o,q,g1,g2,g3,g5,g4⟩:=RpB.reput h.boxes hb;obtain ⟨oi,arr,ty,b1,b2,r1⟩:=g3;have hlen:=RpA.length r1;have hlen':=RpA.length hr;simp only at b2 r1;have hnd:=h.nodup;have hblkO:blk∈O1++O2:=by simp[g2,b1]
 have hother:∀x,(L x\/x∈O1++p++oi++q\/x∈o')->(w.setRow blk (splice arr.toList off us).toArray).heap[x]?=w.heap[x]?:=by
  intro x hx;refine setRow_other _ _ _ _ ?_;rintro rfl;rcases hx with hx | hx | hx
  ·exact (h.stable _ hx).2 hblkO
  ·subst g2;subst b1
   simp only[List.append_assoc,List.nodup_append,List.mem_append,List.cons_append,List.nodup_cons,List.mem_cons] at hnd hx;obtain ⟨n1,⟨n2,⟨n3,n4⟩,n5⟩,n6⟩:=hnd;rcases hx with hx | hx | hx
   ·exact n6 _ hx _ (.inr (.inl rfl)) rfl
   ·exact n5 _ hx _ (.inl rfl) rfl
   ·exact n3 hx
  ·exact (ho _ hx).1 hblkO
 have hcellb:∀c,(σ.setBox b (splice cs0 off cs')).cell (.box b) c=(splice cs0 off cs')[c]?:=by
  intro c;have hlt:=(List.getElem?_eq_some_iff.1 hb).1;simp[AS.cell,AS.setBox,List.getElem?_set_self hlt]
 have hcello:∀r c,r≠.box b->(σ.setBox b (splice cs0 off cs')).cell r c=σ.cell r c:=by
  intro r c hr;cases r with
  | slot t=>rfl
  | box b'=>
   have:b≠b':=fun e=>hr (by rw[e])
   simp[AS.cell,AS.setBox,List.getElem?_set_ne this]
 have hE:Env.Le (some (σ.epoch,i)) ⟨S,L,bl,a,w,σ.cell⟩ ⟨S,L,bl,a,w.setRow blk (splice arr.toList off us).toArray,(σ.setBox b (splice cs0 off cs')).cell⟩:=by
  refine ⟨fun _ h=>h,fun _ h=>h,fun x hx=>hother x (.inl (hx.elim (h.sl x) id)),fun _ _ h=>h,fun r c g k els' hg he=>?_⟩;simp only at he
  by_cases hrb:r=.box b
  ·subst hrb
   rw[hcellb,splice_get hl] at he
   split at he
   ·exact absurd (congrArg some (hgn g k els' (List.mem_of_getElem? he))) hg
   ·rename_i hout
    refine ⟨els',by simp[AS.cell,hb,he],rfl,fun x hx=>?_⟩
    simp only[Env.cv,g1,Option.bind_some,World.cell?,b2,setRow_heap w blk arr _ ty (0,0) b2] at hx |-;simp only[Option.isSome_none,Bool.false_eq_true,if_false] at hx |-;rw[<-Array.getElem?_toList] at hx |-;rw[splice_get (by simp at hlen;rw[hlen'];simpa [hlen] using hl),if_neg (by rw[hlen'];exact hout)]
    exact hx
  ·rw[hcello r c hrb] at he
   refine ⟨els',he,rfl,fun x hx=>?_⟩;cases r with
   | slot t=>exact hx
   | box b'=>
    simp only[Env.cv] at hx |-;simp only[AS.cell] at he;cases hb':σ.boxes[b']? with
    | none=>simp[hb'] at he
    | some y=>
     cases y with
     | none=>simp[hb'] at he
     | some cs=>
      have hbb:b'≠b:=fun e=>hrb (by rw[e])
      cases hbl:bl[b']? with
      | none=>simp[hbl] at hx
      | some blk'=>
       simp only[hbl,Option.bind_some] at hx |-;have hm:=g5 b' blk' cs hbb hb' hbl;rw[cell?_congr (hother blk' (.inr (.inl (by simp only[List.mem_append] at hm |-;rcases hm with hm | hm<;>simp[hm]))))]
       exact hx
 have hneS:∀y∈σ.slots,stampsNe (some (σ.epoch,i)) y.cs:=hf.1;have hneB:∀(y:Option (List A)) (ys:List A),y∈σ.boxes->y=some ys->stampsNe (some (σ.epoch,i)) ys:=fun y ys hy he=>hf.2 ys (he ▸ hy);have hsp:cs0=(cs0.take off)++((cs0.drop off).take cs'.length++cs0.drop (off+cs'.length)):=by
  rw[<-List.drop_drop,List.take_append_drop,List.take_append_drop]
 have r1':=r1;rw[hsp] at r1';obtain ⟨u1,u23,o1,o23,e1,e2,ra,rb⟩:=RpA.append_iff.1 r1';obtain ⟨u2,u3,o2,o3,e3,e4,rc,rd⟩:=RpA.append_iff.1 rb;have hu1:u1=arr.toList.take off:=by
  have hl1:=RpA.length ra;have hl1':u1.length=off:=by rw[hl1,List.length_take];omega
  rw[e1,<-hl1',List.take_left']
  rfl
 have hu3:u3=arr.toList.drop (off+us.length):=by
  have hl1:=RpA.length ra;have hl2:=RpA.length rc;rw[e1,e3,<-List.append_assoc,List.drop_append_of_le_length]
  ·rw[List.drop_of_length_le,List.nil_append]
   simp[hl1,hl2];omega
  ·simp[hl1,hl2]
   omega
 have hneC0:=hneB _ cs0 (List.mem_of_getElem? hb) rfl;have hmemoi:∀x,x∈oi↔x∈o1\/x∈o2\/x∈o3:=by intro x;rw[e2,e4];simp
 have hsp2:splice arr.toList off us=u1++us++u3:=by rw[hu1,hu3];rfl
 have t0:∀x,x=u1++us++u3->RpA ⟨S,L,bl,a,w.setRow blk (splice arr.toList off us).toArray,(σ.setBox b (splice cs0 off cs')).cell⟩ (cs0.take off++cs'++cs0.drop (off+cs'.length)) x (o1++o'++o3):=by
  rintro _ rfl;refine RpA.append_iff.2 ⟨u1++us,u3,o1++o',o3,rfl,rfl,RpA.append_iff.2 ⟨_,_,_,_,rfl,rfl,?_,?_⟩,?_⟩
  ·exact RpA.go hE (fun x hx=>hother x (.inr (.inl (by simp[(hmemoi x).2 (.inl hx)])))) (fun y hy=>hneC0 y (List.mem_of_mem_take hy)) ra
  ·exact RpA.go hE (fun x hx=>hother x (.inr (.inr hx))) hne hr
  ·exact RpA.go hE (fun x hx=>hother x (.inr (.inl (by simp[(hmemoi x).2 (.inr (.inr hx))])))) (fun y hy=>hneC0 y (List.mem_of_mem_drop hy)) rd
 have t2:=g4 _ _ hE hneB (some (splice cs0 off cs')) (blk::(o1++o'++o3)) (fun x hx=>hother x (.inr (.inl (by simp only[List.mem_append] at hx |-;rcases hx with hx | hx<;>simp[hx]))))
  ⟨_,(splice arr.toList off us).toArray,ty,rfl,setRow_heap w blk arr _ ty (0,0) b2,t0 _ hsp2⟩
 have t3:=RpS.go hE (fun x hx=>hother x (.inr (.inl (by simp[hx])))) hneS h.slots
 refine ⟨blk,arr,ty,p++(blk::(o1++o'++o3))++q,g1,b2,by simpa using hlen,⟨h.defers,t3,t2,?_,h.sl,?_,h.s0,h.keeps.setRow (h.own blk hblkO),?_,h.pre,h.stS,?_⟩⟩
 ·have hnd1:((O1++p++[blk]++o1)++(o2++o3)++q).Nodup:=by
   rw[g2,b1,e2,e4] at hnd;simpa using hnd
  have hnd2:((O1++p++[blk]++o1)++o3++q).Nodup:=by
   have hs:List.Sublist ((O1++p++[blk]++o1)++o3++q) ((O1++p++[blk]++o1)++(o2++o3)++q):=
    List.Sublist.append (List.Sublist.append (List.Sublist.refl _) (List.sublist_append_right _ _)) (List.Sublist.refl _)
   exact hnd1.sublist hs
  have hdis:∀x∈o',x∉(O1++p++[blk]++o1)++o3++q:=by
   intro x hx hm;apply (ho x hx).1;rw[g2,b1,e2,e4];simp only[List.mem_append,List.mem_cons,List.not_mem_nil,or_false] at hm |-;rcases hm with ((((hm | hm) | hm) | hm) | hm) | hm<;>simp[hm]
  have e:O1++(p++(blk::(o1++o'++o3))++q)=(O1++p++[blk]++o1)++o'++(o3++q):=by simp
  rw[e,List.append_assoc,List.nodup_append];rw[List.append_assoc,List.nodup_append] at hnd2;refine ⟨hnd2.1,List.nodup_append.2 ⟨hn,hnd2.2.1,fun x hx y hy he=>hdis x hx (by rw[he];simp only[List.mem_append] at hy |-;rcases hy with hy | hy<;>simp[hy])⟩,fun x hx y hy he=>?_⟩
  rcases List.mem_append.1 hy with hy | hy
  ·exact hdis y hy (by rw[<-he];simp only[List.mem_append] at hx |-;rcases hx with ((hx | hx) | hx) | hx<;>simp[hx])
  ·exact hnd2.2.2 x hx y hy he
 ·intro x hx
  refine ⟨by rw[setRow_size];exact (h.stable x hx).1,fun hm=>?_⟩
  have hso:=(h.stable x hx).2;rw[g2,b1,e2,e4] at hso;simp only[List.mem_append,List.mem_cons,not_or] at hm hso;rcases hm with hm|((hm | hm|((hm | hm) | hm)) | hm)
  ·exact hso.1 hm
  ·exact hso.2.1.1 hm
  ·exact hso.2.1.2.1 hm
  ·exact hso.2.1.2.2.1 hm
  ·exact (ho x hm).2.1 hx
  ·exact hso.2.1.2.2.2.2 hm
  ·exact hso.2.2 hm
 ·intro x hm
  simp only[List.mem_append,List.mem_cons] at hm;have hown:=h.own x;rw[g2,b1,e2,e4] at hown;simp only[List.mem_append,List.mem_cons] at hown;rcases hm with hm|((hm | hm|((hm | hm) | hm)) | hm)
  ·exact hown (.inl hm)
  ·exact hown (.inr (.inl (.inl hm)))
  ·exact hown (.inr (.inl (.inr (.inl hm))))
  ·exact hown (.inr (.inl (.inr (.inr (.inl hm)))))
  ·exact (ho x hm).2.2
  ·exact hown (.inr (.inl (.inr (.inr (.inr (.inr hm))))))
  ·exact hown (.inr (.inr hm))
 ·intro cs hcs c hc
  rcases List.mem_or_eq_of_mem_set hcs with hcs | hcs
  ·exact h.stB cs hcs c hc
  ·simp at hcs;subst hcs
   simp only[splice,List.mem_append] at hc;rcases hc with (hc | hc) | hc
   ·exact h.stB cs0 (List.mem_of_getElem? hb) c (List.mem_of_mem_take hc)
   ·exact hst c hc
   ·exact h.stB cs0 (List.mem_of_getElem? hb) c (List.mem_of_mem_drop hc)
end
end Go.Av
/- Avs, part 15: a box is made; what is one's own is let go to be shared; elements are written. -/
namespace Go.Av
def AS.addBox (σ:AS) (cs:List A):AS:={ σ with boxes:=σ.boxes++[some cs] }
section
variable {P:Program} {C:Ctx} {X:List Nat} {σ:AS} {a:Act} {w:World} {S L:Nat->Prop} {bl O1 O2:List Nat}
theorem heap_alloc_lt (w:World) (o:Obj) (b:Nat) (h:b < w.heap.size):(w.alloc o).heap[b]?=w.heap[b]?:=Go.RowKit.Below.heap_alloc w o b h
theorem heap_alloc_new (w:World) (o:Obj):(w.alloc o).heap[w.heap.size]?=some o:=by
 show (w.heap.push o)[w.heap.size]?=some o
 simp
theorem Keeps.alloc {O:List Nat} {w0 w:World} (h:Keeps O w0 w) (o:Obj):Keeps O w0 (w.alloc o):=
 ⟨h.os,h.tape,h.output,by simp[World.size_alloc];exact Nat.le_succ_of_le h.size,fun b hb hn=>by rw[heap_alloc_lt _ _ _ (Nat.lt_of_lt_of_le hb h.size)];exact h.block b hb hn⟩
theorem InvAt.own_lt (h:InvAt C X σ a w S L bl O1 O2) {b:Nat} (hb:b∈O1++O2):b < w.heap.size:=by
 have key1:∀{cs:List A} {us:List Value} {O:List Nat},RpA ⟨S,L,bl,a,w,σ.cell⟩ cs us O->∀b∈O,b < w.heap.size:=by
  intro cs
  induction cs with
  | nil=>intro us O h b hb;rw[h.2] at hb;simp at hb
  | cons c cs ih=>
   intro us O h b hb;obtain ⟨u,us',o1,o2,h1,rfl,h3,h4⟩:=h;rcases List.mem_append.1 hb with hb | hb
   ·exact RepA.own_lt h3 b hb
   ·exact ih h4 b hb
 have key2:∀{sl:List AV} {us:List Value} {O:List Nat},RpS ⟨S,L,bl,a,w,σ.cell⟩ sl us O->∀b∈O,b < w.heap.size:=by
  intro sl
  induction sl with
  | nil=>intro us O h b hb;rw[h.2] at hb;simp at hb
  | cons c cs ih=>
   intro us O h b hb;obtain ⟨u,us',o1,o2,h1,rfl,h3,h4⟩:=h;rcases List.mem_append.1 hb with hb | hb
   ·obtain ⟨sh,cs0⟩:=c
    cases sh with
    | any=>rw[h3.2] at hb;simp at hb
    | one=>exact key1 h3.2 b hb
    | agg=>exact key1 h3.2 b hb
    | tup ns=>exact key1 h3.2 b hb
   ·exact ih h4 b hb
 have key3:∀{bx:List (Option (List A))} {bs O:List Nat},RpB ⟨S,L,bl,a,w,σ.cell⟩ bx bs O->∀b∈O,b < w.heap.size:=by
  intro bx
  induction bx with
  | nil=>intro us O h b hb;rw[h.2] at hb;simp at hb
  | cons c cs ih=>
   intro us O h b hb;obtain ⟨u,us',o1,o2,h1,rfl,h3,h4⟩:=h;rcases List.mem_append.1 hb with hb | hb
   ·cases c with
    | none=>rw[h3] at hb;simp at hb
    | some cs0=>
     obtain ⟨o,arr,ty,rfl,e,hr⟩:=h3;rcases List.mem_cons.1 hb with rfl | hb
     ·exact (Array.getElem?_eq_some_iff.1 e).1
     ·exact key1 hr b hb
   ·exact ih h4 b hb
 rcases List.mem_append.1 hb with hb | hb
 ·exact key2 h.slots b hb
 ·exact key3 h.boxes b hb
theorem InvAt.newbox (h:InvAt C X σ a w S L bl O1 O2) {i:Nat} {cs':List A} {us:List Value} {o':List Nat} (t:TypeId) (hf:Fresh σ (σ.epoch,i))
  (hr:RpA ⟨S,L,bl,a,w,σ.cell⟩ cs' us o') (hne:stampsNe (some (σ.epoch,i)) cs') (hst:∀c∈cs',stampIn X σ.epoch c)
  (hgn:∀g k els,A.ow g k els∈cs'->g=(σ.epoch,i)) (hn:o'.Nodup) (ho:∀b∈o',b < w.heap.size/\b∉O1++O2/\¬L b/\(b∈C.O0\/C.w0.heap.size<=b)) :
  ∃O2',InvAt C X (σ.addBox cs') a (w.alloc (.cells us.toArray t)) S L (bl++[w.heap.size]) O1 O2':=by
 have hlb:=RpB.length h.boxes;have hsame:∀b,b < w.heap.size->(w.alloc (.cells us.toArray t)).heap[b]?=w.heap[b]?:=fun b hb=>heap_alloc_lt _ _ _ hb;have hblp:∀(j blk:Nat),bl[j]?=some blk->(bl++[w.heap.size])[j]?=some blk:=fun j blk hj=>by
  rw[List.getElem?_append_left (List.getElem?_eq_some_iff.1 hj).1];exact hj
 have hE:Env.Le (some (σ.epoch,i)) ⟨S,L,bl,a,w,σ.cell⟩ ⟨S,L,bl++[w.heap.size],a,w.alloc (.cells us.toArray t),(σ.addBox cs').cell⟩:=by
  refine ⟨fun _ h=>h,fun _ h=>h,fun b hb=>hsame b (h.stable b (hb.elim (h.sl b) id)).1,hblp,fun r c g k els' hg he=>?_⟩;simp only at he;cases r with
  | slot s=>exact ⟨els',he,rfl,fun x hx=>hx⟩
  | box b=>
   simp only[AS.cell,AS.addBox] at he |-
   by_cases hb:b < σ.boxes.length
   ·rw[List.getElem?_append_left hb] at he
    refine ⟨els',he,rfl,fun x hx=>?_⟩;simp only[Env.cv] at hx |-;cases hbl:bl[b]? with
    | none=>simp[hbl] at hx
    | some blk=>
     rw[hblp b blk hbl];simp only[hbl,Option.bind_some] at hx |-;cases hb':σ.boxes[b]? with
     | none=>simp[hb'] at he
     | some y=>
      cases y with
      | none=>simp[hb'] at he
      | some cs=>rw[cell?_congr (hsame blk (h.blk_lt hb' hbl))];exact hx
   ·by_cases hb2:b=σ.boxes.length
    ·subst hb2
     simp at he;exact absurd (congrArg some (hgn g k els' (List.mem_of_getElem? he))) hg
    ·rw[List.getElem?_eq_none (by simp;omega)] at he
     simp at he
 have hsO:∀b∈O1++O2,(w.alloc (.cells us.toArray t)).heap[b]?=w.heap[b]?:=fun b hb=>hsame b (h.own_lt hb);have t1:=RpS.go hE (fun b hb=>hsO b (by simp[hb])) hf.1 h.slots
 have t2:=RpB.go hE (fun b hb=>hsO b (by simp[hb])) (fun y ys hy he=>hf.2 ys (he ▸ hy)) h.boxes
 have t4:=RpA.go hE (fun b hb=>hsame b (ho b hb).1) hne hr;have t3:=RpB.append t2 (x:=some cs') (b:=w.heap.size) (o:=w.heap.size::o') ⟨o',us.toArray,t,rfl,heap_alloc_new _ _,by simpa using t4⟩
 refine ⟨O2++(w.heap.size::o'),h.defers,t1,t3,?_,h.sl,?_,h.s0,h.keeps.alloc _,?_,?_,h.stS,?_⟩
 ·have hnd:=h.nodup
  rw[<-List.append_assoc,List.nodup_append];refine ⟨hnd,List.nodup_cons.2 ⟨fun hm=>by have:=(ho _ hm).1;omega,hn⟩,fun x hx y hy he=>?_⟩
  subst he;rcases List.mem_cons.1 hy with rfl | hy
  ·have:=h.own_lt hx;omega
  ·exact (ho _ hy).2.1 hx
 ·intro b hb
  have hsb:=h.stable b hb;refine ⟨by simp;omega,fun hm=>?_⟩
  rw[<-List.append_assoc] at hm;rcases List.mem_append.1 hm with hm | hm
  ·exact hsb.2 hm
  ·rcases List.mem_cons.1 hm with rfl | hm
   ·omega
   ·exact (ho b hm).2.2.1 hb
 ·intro b hm
  rw[<-List.append_assoc] at hm;rcases List.mem_append.1 hm with hm | hm
  ·exact h.own b hm
  ·rcases List.mem_cons.1 hm with rfl | hm
   ·exact .inr h.keeps.size
   ·exact (ho b hm).2.2.2
 ·exact h.pre.trans (List.prefix_append _ _)
 ·intro cs hcs c hc
  simp only[AS.addBox,List.mem_append,List.mem_singleton,Option.some.injEq] at hcs;rcases hcs with hcs | rfl
  ·exact h.stB cs hcs c hc
  ·exact hst c hc
def RepTs (S:Nat->Prop) (w:World):List T->List Value->Prop
 | [],us=>us=[]
 | t::ts,us=>∃u us',us=u::us'/\RepS S w t u/\RepTs S w ts us'
theorem RepTs.mono {S S':Nat->Prop} {w w':World} (hS:∀b,S b->S' b) (hw:∀b,S b->w'.heap[b]?=w.heap[b]?):∀{ts:List T} {us:List Value},RepTs S w ts us->RepTs S' w' ts us
 | [],_,h=>h
 | t::ts,us,h=>by
  obtain ⟨u,us',rfl,h2,h3⟩:=h;exact ⟨u,us',rfl,RepS.mono hS hw _ _ h2,RepTs.mono hS hw h3⟩
theorem RepTs.length {S:Nat->Prop} {w:World}:∀{ts:List T} {us:List Value},RepTs S w ts us->us.length=ts.length
 | [],_,h=>by subst h;rfl
 | t::ts,us,h=>by obtain ⟨u,us',rfl,h2,h3⟩:=h;simp[RepTs.length h3]
theorem RepTs.get {S:Nat->Prop} {w:World}:∀{ts:List T} {us:List Value},RepTs S w ts us->∀(j:Nat) (t:T),ts[j]?=some t->∃u,us[j]?=some u/\RepS S w t u
 | [],_,h,j,t,hj=>by simp at hj
 | t::ts,us,h,j,x,hj=>by
  obtain ⟨u,us',rfl,h2,h3⟩:=h;cases j with
  | zero=>simp at hj;subst hj;exact ⟨u,rfl,h2⟩
  | succ j=>simp at hj;simpa using RepTs.get h3 j x hj
def fzC:List A->AS->Option (List T×AS)
 | [],σ=>some ([],σ)
 | .lit v::cs,σ=>(fzC cs σ).map fun r=>(.lit v::r.1,r.2)
 | .nil::cs,σ=>(fzC cs σ).map fun r=>(.sl []::r.1,r.2)
 | .ro true els::cs,σ=>(fzC cs σ).map fun r=>(.sl els::r.1,r.2)
 | .sref r x g lo len::cs,σ=>match σ.at? r x g with
  | some (_,els)=>(fzC cs (σ.setCell r x (.ro true els))).map fun y=>(.sl ((els.drop lo).take len)::y.1,y.2)
  | none=>none
 | _::_,_=>none
def Froze (C:Ctx) (X:List Nat) (a:Act) (w:World) (S L:Nat->Prop) (bl O1 O2:List Nat) (i:Nat) (us:List Value) (σ:AS) (ts:List T) (σ':AS):Prop:=
 ∃S' L' O1' O2',InvAt C X σ' a w S' L' bl O1' O2'/\RepTs S' w ts us/\(∀b,S b->S' b)/\(∀b,L b->L' b)/\(∀b,b∈O1'++O2'->b∈O1++O2)/\Fresh σ' (σ.epoch,i)/\σ'.epoch=σ.epoch/\
  Env.Le none ⟨S,L,bl,a,w,σ.cell⟩ ⟨S',L',bl,a,w,σ'.cell⟩/\σ'.boxes.length=σ.boxes.length/\σ'.slots.length=σ.slots.length
theorem le_setRo {S' L':Nat->Prop} {r:Root} {x:Nat} {c0:A} {els:List (List T)} (hS:∀b,S b->S' b) (hL:∀b,L b->L' b) (hc:σ.cell r x=some c0):Env.Le none ⟨S,L,bl,a,w,σ.cell⟩ ⟨S',L',bl,a,w,(σ.setCell r x (.ro true els)).cell⟩:=by
 refine ⟨hS,hL,fun _ _=>rfl,fun _ _ h=>h,fun r' c' g k els' _ he=>?_⟩;simp only at he
 by_cases h:r'=r/\c'=x
 ·obtain ⟨rfl,rfl⟩:=h
  rw[cell_setCell_eq hc] at he;simp at he
 ·have h':r'≠r\/c'≠x:=by
   by_cases hr:r'=r
   ·exact .inr fun e=>h ⟨hr,e⟩
   ·exact .inl hr
  rw[cell_setCell_ne h'] at he;exact ⟨els',he,rfl,fun y hy=>by cases r'<;>exact hy⟩
theorem RepO.toS {S S':Nat->Prop} {w:World} {k:Nat} {els:List (List T)} {u:Value} {own:List Nat} (hS:∀b,S b->S' b) (ho:∀b∈own,S' b) (h:RepO S w k els u own):RepS S' w (.sl els) u:=by
 obtain ⟨ad,cap,e1,e2,e3,e4⟩:=h;simp only[RepS];refine ⟨ad,cap,e1,e2,fun hne=>?_⟩;rcases e4 with ⟨_,rfl,_⟩ | ⟨b,o,arr,ty,fz,rfl,rfl,g3,g4,g5,g6⟩
 ·exact absurd rfl hne
 ·exact ⟨b,o,rfl,ho b (by simp),RepSE.mono hS (fun _ _=>rfl) b rfl o els g6⟩
theorem freezeCells_ok {i:Nat}:∀{cs:List A} {us:List Value} {S L:Nat->Prop} {σ σ':AS} {O1 O2:List Nat} {ts:List T},InvAt C X σ a w S L bl O1 O2->Fresh σ (σ.epoch,i)->
  RpA ⟨S,L,bl,a,w,σ.cell⟩ cs us []->fzC cs σ=some (ts,σ')->Froze C X a w S L bl O1 O2 i us σ ts σ'
 | [],us,S,L,σ,σ',O1,O2,ts,h,hf,hr,hx=>by
  simp[fzC] at hx;obtain ⟨rfl,rfl⟩:=hx;exact ⟨S,L,O1,O2,h,hr.1,fun _ h=>h,fun _ h=>h,fun _ h=>h,hf,rfl,.rfl',rfl,rfl⟩
 | c::cs,us,S,L,σ,σ',O1,O2,ts,h,hf,hr,hx=>by
  obtain ⟨u,us',o1,o2,rfl,ho,h3,h4⟩:=hr;simp at ho;obtain ⟨rfl,rfl⟩:=ho;have plain:∀t:T,(fzC cs σ).map (fun r=>(t::r.1,r.2))=some (ts,σ')->RepS S w t u->Froze C X a w S L bl O1 O2 i (u::us') σ ts σ':=by
   intro t hx ht;simp only[Option.map_eq_some_iff] at hx;obtain ⟨⟨ts',σ2⟩,h5,h6⟩:=hx;simp at h6;obtain ⟨rfl,rfl⟩:=h6;obtain ⟨S',L',O1',O2',g1,g2,g3,gL,g4,g5,g6,g7,g8,g9⟩:=freezeCells_ok h hf h4 h5;exact ⟨S',L',O1',O2',g1,⟨u,us',rfl,RepS.mono g3 (fun _ _=>rfl) _ _ ht,g2⟩,g3,gL,g4,g5,g6,g7,g8,g9⟩
  cases c with
  | lit v=>exact plain _ hx (by simp only[RepS];exact ⟨h3.1,h3.2.1⟩)
  | nil=>
   refine plain _ hx ?_;obtain ⟨⟨ad,hu⟩,_⟩:=h3;simp only[RepS];exact ⟨ad,0,by simpa using hu,by simp,by simp⟩
  | ro st els=>
   cases st with
   | true=>exact plain _ hx h3.1
   | false=>simp[fzC] at hx
  | sref r x g lo len=>
   simp only[fzC] at hx
   split at hx<;>try (simp at hx;done)
   rename_i k els hat;simp only[Option.map_eq_some_iff] at hx;obtain ⟨⟨ts',σ2⟩,h5,h6⟩:=hx;simp at h6;obtain ⟨rfl,rfl⟩:=h6;have hcell:=AS.at?_some hat;obtain ⟨hlo,ad,cap,xx,e1,e2,e3⟩:=h3.2.2 k els hcell;obtain ⟨u0,o,k1,k2,k3,k4,k5⟩:=h.recell hcell hf;rw[e1] at k1;simp at k1;subst k1;have hS1:∀b,S b->(fun b=>S b\/b∈o) b:=fun b hb=>.inl hb;have hL1:∀b,L b->(fun b=>L b\/b∈o) b:=fun b hb=>.inl hb;obtain ⟨O1a,O2a,ha,hmem⟩:=k5 (fun b=>S b\/b∈o) (fun b=>L b\/b∈o) w (.ro true els) [] hS1 hL1 (fun b hb=>hb.imp (h.sl b) id) (fun b hb=>hb) (fun b hb=>hb) (by simp) (.inr rfl) (fun _ _ _=>rfl) h.keeps (Nat.le_refl _)
    ⟨RepO.toS hS1 (fun b hb=>.inr hb) k2,rfl⟩ (fun g hg=>by simp[A.stamp] at hg) (fun g k els' he=>by simp at he)
   have hle:=le_setRo (S:=S) (bl:=bl) (a:=a) (w:=w) (els:=els) hS1 hL1 hcell;have hep:(σ.setCell r x (.ro true els)).epoch=σ.epoch:=epoch_setCell;have ih:=freezeCells_ok (i:=i) (cs:=cs) (us:=us') ha (by rw[hep];exact hf.setDead rfl) (RpA.go hle (fun _ _=>rfl) (fun y _=>by cases y.rstamp<;>simp) h4) h5
   unfold Froze at ih;rw[hep] at ih;obtain ⟨S',L',O1',O2',g1,g2,g3,gL,g4,g5,g6,g7,g8,g9⟩:=ih;obtain ⟨own',s1,s2⟩:=RepO.sub k2 hlo e3;have hSS:∀b,S b->S' b:=fun b hb=>g3 b (.inl hb);have hu:RepS S' w (.sl ((els.drop lo).take len)) u:=by
    rw[e2];refine RepO.toS hSS (fun b hb=>g3 b (.inr ?_)) s1;rcases s2 with rfl | rfl
    ·exact hb
    ·simp at hb
   exact ⟨S',L',O1',O2',g1,⟨u,us',rfl,hu,g2⟩,hSS,fun b hb=>gL b (.inl hb),fun b hb=>((by simpa using (hmem b).1 (g4 b hb)):b∈O1++O2/\b∉o).1,g5,g6,hle.trans g7,g8.trans boxes_setCell.1,g9.trans boxes_setCell.2⟩
  | _=>simp[fzC] at hx
end
end Go.Av
/- Avs, part 16: operations that turn more than the slot that they write. -/
namespace Go.Av
def OpOk (P:Program) (C:Ctx) (i:Nat) (op:Op) (dst:Option Tmp) (σ:AS) (av:AV) (σ1:AS):Prop:=
 ∀X a w,Inv C X σ a w->i∉X->∀(type:TypeId) (pos:String) (after:Array Edge) (guard:Option (Nat×Bool)),
  ∃n v w',(execOp a.eval ⟨dst,op,type,pos,after,guard⟩).run P w=.ok n w'/\(n=.value v\/(n=.skip/\v=undef))/\Inv C (i::X) (σ1.putO dst av) (a.put dst v) w'
theorem ev_ne {X:List Nat} {e i:Nat} {cs:List A} (h:∀c∈cs,stampIn X e c) (hi:i∉X):stampsNe (some (e,i)) cs:=fun c hc=>(h c hc).ne hi
theorem ev_mono {X:List Nat} {e i:Nat} {cs:List A} (h:∀c∈cs,stampIn X e c):∀c∈cs,stampIn (i::X) e c:=fun c hc=>(h c hc).mono fun _ hx=>List.mem_cons_of_mem _ hx
theorem OpOk.pure {P:Program} {C:Ctx} {i:Nat} {op:Op} {dst:Option Tmp} {σ:AS} {av:AV} (hx:aopPure P σ op=some av):OpOk P C i op dst σ av σ:=by
 rintro X a w ⟨S,L,bl,O1,O2,h⟩ hi type pos after guard;obtain ⟨v,hr,he⟩:=aopPure_ok h hx dst type pos after guard;exact ⟨_,v,w,hr,.inl rfl,(h.mono (fun x hx=>List.mem_cons_of_mem i hx)).done (h.fresh hi) he.rep (ev_ne he.st hi) (ev_mono he.st) (fun g k els hm=>absurd hm (he.noOw g k els)) List.nodup_nil (by simp)⟩
def aAssign (i:Nat) (dst:Option Tmp) (σ:AS):Operand->Option (AV×AS)
 | .tmp t=>(σ.ev (.tmp t)).map fun av=>
   let r:=tkC (fun r _=>decide (r=.slot t) || decide (some r=dst.map Root.slot)) (σ.epoch,i) av.cs σ
   (⟨av.sh,r.1⟩,r.2)
 | x=>(σ.ev x).map fun av=>(av,σ)
theorem RepV.reshape {E E':Env} {av:AV} {v:Value} {o':List Nat} {cs':List A} (h:RepV E av v []) (hr:RpA E' cs' (flat v) o') (hany:av.sh=.any->cs'=[]/\o'=[]):RepV E' ⟨av.sh,cs'⟩ v o':=by
 obtain ⟨sh,cs⟩:=av;cases sh with
 | any=>exact hany rfl
 | one=>exact ⟨h.1,hr⟩
 | agg=>exact ⟨h.1,hr⟩
 | tup ns=>exact ⟨h.1,hr⟩
section
variable {P:Program} {C:Ctx} {i:Nat} {dst:Option Tmp} {σ σ1:AS} {av:AV}
theorem assign_ok {x:Operand} (hx:aAssign i dst σ x=some (av,σ1)):OpOk P C i (.assign x) dst σ av σ1:=by
 rintro X a w ⟨S,L,bl,O1,O2,h⟩ hi type pos after guard;have hrun:(execOp a.eval ⟨dst,.assign x,type,pos,after,guard⟩).run P w=.ok (.value (a.eval x)) w:=rfl;have h':=h.mono (fun x hx=>List.mem_cons_of_mem i hx);have hplain:∀av0,σ.ev x=some av0->(av0,σ)=(av,σ1)->∃n v w',(execOp a.eval ⟨dst,.assign x,type,pos,after,guard⟩).run P w=.ok n w'/\(n=.value v\/(n=.skip/\v=undef))/\Inv C (i::X) (σ1.putO dst av) (a.put dst v) w':=by
  intro av0 hev he;simp at he;obtain ⟨rfl,rfl⟩:=he;have he:=h.ev hev;exact ⟨_,_,w,hrun,.inl rfl,h'.done (h.fresh hi) he.rep (ev_ne he.st hi) (ev_mono he.st) (fun g k els hm=>absurd hm (he.noOw g k els)) List.nodup_nil (by simp)⟩
 cases x with
 | tmp t=>
  simp only[aAssign,Option.map_eq_some_iff] at hx;obtain ⟨av0,hev,hx⟩:=hx;simp only[Prod.mk.injEq] at hx;obtain ⟨rfl,rfl⟩:=hx;have he:=h.ev hev
  by_cases hany:av0.sh=.any
  ·have hr:=he.rep
   obtain ⟨sh,cs⟩:=av0;simp only at hany;subst hany;obtain ⟨h1,_⟩:=hr;simp only at h1;subst h1;simp only[tkC];refine ⟨_,_,w,hrun,.inl rfl,h'.done (h.fresh hi) ⟨rfl,rfl⟩ (fun c hc=>by simp at hc) (fun c hc=>by simp at hc) (fun g k els hm=>by simp at hm) List.nodup_nil (by simp)⟩
  ·have hr:RpA ⟨S,L,bl,a,w,σ.cell⟩ av0.cs (flat (a.eval (.tmp t))) []:=by
    have hr:=he.rep;obtain ⟨sh,cs⟩:=av0;cases sh with
    | any=>exact absurd rfl hany
    | one=>exact hr.2
    | agg=>exact hr.2
    | tup ns=>exact hr.2
   obtain ⟨O1',O2',o',g1,g2,g3,g4,g5,g6,g7,g8,g9,g10,g11,g12,g13⟩:=takeCells_ok (fun r _=>decide (r=.slot t) || decide (some r=dst.map Root.slot)) h' (i:=i) (by simp) (h.fresh hi) hr (ev_mono he.st) (ev_ne he.st hi) he.noOw
   refine ⟨_,_,w,hrun,.inl rfl,g1.done (i:=i) (by rw[g9];exact g8) (RepV.reshape he.rep g2 (fun e=>absurd e hany)) (by rw[g9];exact g6) (by rw[g9];exact g5) (by rw[g9];exact g7) g3 g4⟩
 | const v=>simp only[aAssign,Option.map_eq_some_iff] at hx;obtain ⟨av0,h1,h2⟩:=hx;exact hplain av0 h1 h2
 | func f=>simp only[aAssign,Option.map_eq_some_iff] at hx;obtain ⟨av0,h1,h2⟩:=hx;exact hplain av0 h1 h2
 | global g=>simp only[aAssign,Option.map_eq_some_iff] at hx;obtain ⟨av0,h1,h2⟩:=hx;exact hplain av0 h1 h2
def mvBox (base:Nat) (r:Root) (_:Nat):Bool:=match r with | .slot _=>true | .box b=>decide (base<=b)
def aBox (base i:Nat) (σ:AS) (x:Operand):Option (AV×AS):=
 (σ.ev x).bind fun av=>match av.sh with
  | .one | .agg=>
   let r:=tkC (mvBox base) (σ.epoch,i) av.cs σ
   some (one (.ptr r.2.boxes.length 0),r.2.addBox r.1)
  | _=>none
def aAlloc (P:Program) (σ:AS) (t:TypeId):Option (AV×AS):=
 (tyOf P t).bind fun ti=>(ti.zero.mapM constCell).map fun cs=>(one (.ptr σ.boxes.length 0),σ.addBox cs)
theorem flat_cells {v:Value} (h:isTuple v=false):flat v=v.cells.toList:=by
 cases v<;>first | rfl | simp[isTuple] at h
theorem newbox_done {X:List Nat} {a:Act} {w:World} {S L:Nat->Prop} {bl O1 O2:List Nat} {cs':List A} {n:Nat} (h:InvAt C X (σ.addBox cs') a w S L (bl++[n]) O1 O2) (hb:σ.boxes.length=bl.length)
  (hf:Fresh (σ.addBox cs') (σ.epoch,i)):Inv C X ((σ.addBox cs').putO dst (one (.ptr σ.boxes.length 0))) (a.put dst (.pointer (some ⟨n,0,none⟩))) w:=
 h.done hf ⟨⟨rfl,rfl⟩,⟨_,[],[],[],rfl,rfl,⟨rfl,n,by simp[hb],rfl⟩,rfl,rfl⟩⟩ (fun c hc=>by simp[one] at hc;subst hc;exact .inl rfl)
  (fun c hc g hg=>by simp[one] at hc;subst hc;simp[A.stamp] at hg) (fun g k els hm=>by simp[one] at hm) List.nodup_nil (by simp)
theorem Fresh.addBox {g:Stamp} {cs':List A} (h:Fresh σ g) (h':stampsNe (some g) cs'):Fresh (σ.addBox cs') g:=
 ⟨h.1,fun cs hcs=>by
  simp only[AS.addBox,List.mem_append,List.mem_singleton,Option.some.injEq] at hcs;rcases hcs with hcs | rfl
  ·exact h.2 cs hcs
  ·exact h'⟩
theorem box_ok {base:Nat} {t:TypeId} {x:Operand} (hx:aBox base i σ x=some (av,σ1)):OpOk P C i (.box t x) dst σ av σ1:=by
 rintro X a w ⟨S,L,bl,O1,O2,h⟩ hi type pos after guard;have h':=h.mono (fun x hx=>List.mem_cons_of_mem i hx);simp only[aBox,Option.bind_eq_some_iff] at hx;obtain ⟨av0,hev,hx⟩:=hx;have he:=h.ev hev;have hsh:(av0.sh=.one\/av0.sh=.agg)/\(one (.ptr (tkC (mvBox base) (σ.epoch,i) av0.cs σ).2.boxes.length 0),(tkC (mvBox base) (σ.epoch,i) av0.cs σ).2.addBox (tkC (mvBox base) (σ.epoch,i) av0.cs σ).1)=(av,σ1):=by
  cases hs:av0.sh<;>simp only[hs,reduceCtorEq] at hx
  ·exact ⟨.inl rfl,by simpa using hx⟩
  ·exact ⟨.inr rfl,by simpa using hx⟩
 obtain ⟨hsh,hx⟩:=hsh;simp only[Prod.mk.injEq] at hx;obtain ⟨rfl,rfl⟩:=hx;have hr:RpA ⟨S,L,bl,a,w,σ.cell⟩ av0.cs (flat (a.eval x)) []/\isTuple (a.eval x)=false:=by
  have hr:=he.rep;obtain ⟨sh,cs⟩:=av0;rcases hsh with hs | hs<;>simp only at hs<;>subst hs
  ·exact ⟨hr.2,hr.1.1⟩
  ·refine ⟨hr.2,?_⟩
   have:=hr.1;simp only[shOk] at this;cases hv:a.eval x<;>first | rfl|(rw[hv] at this;simp[isAggV] at this)
 obtain ⟨O1',O2',o',g1,g2,g3,g4,g5,g6,g7,g8,g9,g10,g11,g12,g13,g14⟩:=takeCells_ok (mvBox base) h' (i:=i) (by simp) (h.fresh hi) hr.1 (ev_mono he.st) (ev_ne he.st hi) he.noOw
 have hlen:=RpB.length g1.boxes;obtain ⟨O2'',k1⟩:=g1.newbox (i:=i) t (by rw[g9];exact g8) g2 (by rw[g9];exact g6) (by rw[g9];exact g5) (by rw[g9];exact g7) g3 (fun b hb=>⟨h.own_lt (g11 b hb),g4 b hb⟩)
 refine ⟨_,.pointer (some ⟨w.heap.size,0,none⟩),w.alloc (.cells (flat (a.eval x)).toArray t),?_,.inl rfl,newbox_done k1 hlen.symm (by rw[g9];exact g8.addBox g6)⟩
 rw[flat_cells hr.2];simp[execOp,Instr.box,newVar,newRow]
theorem alloc_ok {t:TypeId} (hx:aAlloc P σ t=some (av,σ1)):OpOk P C i (.alloc t) dst σ av σ1:=by
 rintro X a w ⟨S,L,bl,O1,O2,h⟩ hi type pos after guard;have h':=h.mono (fun x hx=>List.mem_cons_of_mem i hx);simp only[aAlloc,Option.bind_eq_some_iff,Option.map_eq_some_iff,Prod.mk.injEq] at hx;obtain ⟨ti,ht,cs,hcs,rfl,rfl⟩:=hx;obtain ⟨z,hz,hzc⟩:=run_zero' ht w;obtain ⟨r1,r2⟩:=constCells_rep (E:=⟨S,L,bl,a,w,σ.cell⟩) hcs;have hst:∀c∈cs,c.rstamp=none:=fun c hc=>by
  have:=(r2 c hc).1;cases c<;>first | rfl | simp[A.stamp] at this
 have hlen:=RpB.length h.boxes;obtain ⟨O2'',k1⟩:=h'.newbox (i:=i) t (h.fresh hi) r1 (fun c hc=>.inl (hst c hc)) (fun c hc g hg=>by rw[(r2 c hc).1] at hg;simp at hg) (fun g k els hm=>by have:=(r2 _ hm).2;simp[isOw] at this) List.nodup_nil (by simp)
 refine ⟨_,.pointer (some ⟨w.heap.size,0,none⟩),w.alloc (.cells ti.zero.toArray t),?_,.inl rfl,newbox_done k1 hlen.symm ((h.fresh hi).addBox (fun c hc=>.inl (hst c hc)))⟩;rw[<-hzc];simp[execOp,Instr.alloc,newVar,newRow,hz,Result.andThen]
end
end Go.Av
/- Avs, part 17: stores. -/
namespace Go.Av
def mvStore (base b off n:Nat) (r:Root) (c:Nat):Bool:=match r with | .slot _=>true | .box b'=>decide (base<=b') || (decide (b'=b) && decide (off<=c) && decide (c < off+n))
def aStore (P:Program) (base i:Nat) (σ:AS) (t:TypeId) (p x:Operand):Option AS:=
 (tyOf P t).bind fun ti=>opt2 (σ.ev p) (σ.ev x) fun p x=>match p,x.sh with
  | ⟨.one,[.ptr b off]⟩,.one | ⟨.one,[.ptr b off]⟩,.agg=>
   if x.cs.length=ti.size then
    let r:=tkC (mvStore base b off ti.size) (σ.epoch,i) x.cs σ
    ((r.2.boxes[b]?).bind fun o=>o.bind fun cs0=>if off+ti.size<=cs0.length then some (r.2.setBox b (splice cs0 off r.1)) else none)
   else none
  | ⟨.one,[.eptr r c g n off]⟩,.one | ⟨.one,[.eptr r c g n off]⟩,.agg=>
   if x.cs.length=ti.size then
    (fzC x.cs σ).bind fun y=>(y.2.at? r c g).bind fun q=>(q.2[n]?).bind fun e=>
     if off+ti.size<=q.1 then some (y.2.setCell r c (.ow g q.1 (q.2.set n (splice e off y.1)))) else none
   else none
  | _,_=>none
section
variable {P:Program} {C:Ctx} {i:Nat} {dst:Option Tmp} {σ σ1:AS} {av:AV}
theorem one_of_mem {E:Env} {cs:List A} {us:List Value} {O:List Nat} (h:RpA E cs us O):∀u∈us,u.oneCell'=true:=by
 induction cs generalizing us O with
 | nil=>rw[h.1];simp
 | cons c cs ih=>
  obtain ⟨u,us',o1,o2,rfl,h2,h3,h4⟩:=h;intro x hx;rcases List.mem_cons.1 hx with rfl | hx
  ·exact RepA.oneCell h3
  ·exact ih h4 x hx
theorem run_storeVar {ti:TI} {t:TypeId} (ht:tyOf P t=some ti) {w:World} {g o:Nat} {cur:Array Value} {ty:TypeId} {fz:Nat×Nat} {v:Value} (hv:v.cells.toList.length=ti.size) (hg:w.heap[g]?=some (.cells cur ty fz)) (hl:o+ti.size<=cur.size)
  (hz:∀x,o<=x->x < o+ti.size->¬(fz.1<=x/\x < fz.2)) (h1:∀u∈v.cells.toList,u.oneCell'=true) :
  (storeVar t ⟨g,o,none⟩ v).run P w=.ok () (w.setRow g (splice cur.toList o v.cells.toList).toArray):=by
 have hst:=run_stores (P:=P) g o ty fz v.cells.toList 0 cur w hg (by rw[hv];simpa using hl) (by rw[hv];simpa using hz) h1
 have hsz:v.cells.size=ti.size:=by simpa using hv
 simp only[storeVar,Sem.run_bind,run_sizeOf' ht,Result.andThen,hsz];simpa using hst
theorem stored_cells {X:List Nat} {E:Env} {v:Value} (he:EvOk C X σ E av v) (hs:av.sh=.one\/av.sh=.agg):RpA E av.cs v.cells.toList []/\flat v=v.cells.toList/\v.cells.toList.length=av.cs.length:=by
 have hr:=he.rep;obtain ⟨sh,cs⟩:=av;have key:isTuple v=false/\RpA E cs (flat v) []:=by
  rcases hs with hs | hs<;>simp only at hs<;>subst hs
  ·exact ⟨hr.1.1,hr.2⟩
  ·refine ⟨?_,hr.2⟩
   have:=hr.1;simp only[shOk] at this;cases v<;>first | rfl|(simp[isAggV] at this)
 rw[flat_cells key.1] at key;exact ⟨key.2,flat_cells key.1,RpA.length key.2⟩
theorem Fresh.setBox {g:Stamp} {b:Nat} {cs:List A} (h:Fresh σ g) (h':stampsNe (some g) cs):Fresh (σ.setBox b cs) g:=
 ⟨h.1,fun cs' hcs=>by
  rcases List.mem_or_eq_of_mem_set hcs with hcs | hcs
  ·exact h.2 cs' hcs
  ·simp at hcs;subst hcs;exact h'⟩
theorem skip_done {X:List Nat} {a:Act} {w:World} {S L:Nat->Prop} {bl O1 O2:List Nat} (h:InvAt C X σ a w S L bl O1 O2) (hf:Fresh σ (σ.epoch,i)):Inv C X (σ.putO dst ⟨.any,[]⟩) (a.put dst undef) w:=
 h.done hf ⟨rfl,rfl⟩ (fun c hc=>by simp at hc) (fun c hc=>by simp at hc) (fun g k els hm=>by simp at hm) List.nodup_nil (by simp)
theorem RepSE.set {S:Nat->Prop} {w:World} {b o k n off:Nat} {els:List (List T)} {arr:Array Value} {ty:TypeId} {fz:Nat×Nat} {e ts:List T} {us:List Value} (hb:¬S b)
  (hw:w.heap[b]?=some (.cells arr ty fz)) (h:RepSE S w b o els) (hk:∀e∈els,e.length=k) (hn:els[n]?=some e) (ho:off+ts.length<=k) (hfit:o+els.length * k<=arr.size) (ht:RepTs S w ts us) :
  RepSE S (w.setRow b (splice arr.toList (o+n * k+off) us).toArray) b o (els.set n (splice e off ts)):=by
 have hlen:=ht.length;have hnl:=(List.getElem?_eq_some_iff.1 hn).1;have hek:e.length=k:=hk e (List.mem_of_getElem? hn);have hSame:∀x,S x->(w.setRow b (splice arr.toList (o+n * k+off) us).toArray).heap[x]?=w.heap[x]?:=fun x hx=>setRow_other _ _ _ _ (fun e=>hb (e ▸ hx));have hmulle:n * k+k<=els.length * k:=by
  have:(n+1) * k<=els.length * k:=Nat.mul_le_mul_right k hnl;simpa [Nat.succ_mul] using this
 have hspl:o+n * k+off+us.length<=arr.toList.length:=by simp;omega
 have hcell:∀j,(w.setRow b (splice arr.toList (o+n * k+off) us).toArray).cell? ⟨b,j,none⟩=if o+n * k+off<=j/\j < o+n * k+off+us.length then us[j - (o+n * k+off)]? else w.cell? ⟨b,j,none⟩:=by
  intro j;simp only[World.cell?,setRow_heap w b arr _ ty fz hw,hw,Option.isSome_none,Bool.false_eq_true,if_false];rw[<-Array.getElem?_toList,<-Array.getElem?_toList];exact splice_get hspl j
 refine RepSE.of_get (k:=k) (fun x hx=>?_) fun i' e' hi'=>?_
 ·rcases List.mem_or_eq_of_mem_set hx with hx | rfl
  ·exact hk x hx
  ·rw[splice_length (by omega)];exact hek
 ·rw[List.getElem?_set] at hi'
  by_cases hin:n=i'
  ·subst hin
   simp[hnl] at hi';subst hi';refine RepSC.of_get fun j c hj=>?_;rw[splice_get (by omega)] at hj
   rw[hcell]
   split at hj
   ·rename_i hin
    obtain ⟨u,hu,hr⟩:=ht.get (j - off) c hj;refine ⟨u,?_,RepS.mono (fun _ h=>h) hSame _ _ hr⟩;rw[if_pos (by omega),<-hu]
    congr 1
    omega
   ·rename_i hout
    have hjk:j < k:=by rw[<-hek];exact (List.getElem?_eq_some_iff.1 hj).1
    obtain ⟨u,hu,hr⟩:=(h.get hk n e hn).get j c hj;refine ⟨u,?_,RepS.mono (fun _ h=>h) hSame _ _ hr⟩;rw[if_neg (by omega)]
    exact hu
  ·rw[if_neg hin] at hi'
   have hil:=(List.getElem?_eq_some_iff.1 hi').1;refine RepSC.of_get fun j c hj=>?_;have hjk:j < k:=by rw[<-hk e' (List.mem_of_getElem? hi')];exact (List.getElem?_eq_some_iff.1 hj).1
   obtain ⟨u,hu,hr⟩:=(h.get hk i' e' hi').get j c hj;refine ⟨u,?_,RepS.mono (fun _ h=>h) hSame _ _ hr⟩;rw[hcell,if_neg ?_]
   ·exact hu
   ·rcases Nat.lt_or_gt_of_ne hin with hlt | hgt
    ·have:n * k+k<=i' * k:=by have:=Nat.mul_le_mul_right k hlt;simpa [Nat.succ_mul] using this
     omega
    ·have:i' * k+k<=n * k:=by have:=Nat.mul_le_mul_right k hgt;simpa [Nat.succ_mul] using this
     omega
theorem store_ok {base:Nat} {t:TypeId} {p x:Operand} (hx:aStore P base i σ t p x=some σ1):OpOk P C i (.store t p x) dst σ ⟨.any,[]⟩ σ1:=by
 rintro X a w ⟨S,L,bl,O1,O2,h⟩ hi type pos after guard;have h':=h.mono (fun x hx=>List.mem_cons_of_mem i hx);simp only[aStore,Option.bind_eq_some_iff] at hx;obtain ⟨ti,ht,hx⟩:=hx;obtain ⟨p',x',hp,hxe,hx'⟩:=opt2_some hx;clear hx;have he:=h.ev hxe;have hpe:=h.ev hp;have boxcase:∀b off,p'=⟨.one,[.ptr b off]⟩->(x'.sh=.one\/x'.sh=.agg)->x'.cs.length=ti.size->
   (((tkC (mvStore base b off ti.size) (σ.epoch,i) x'.cs σ).2.boxes[b]?).bind fun o=>o.bind fun cs0=>if off+ti.size<=cs0.length then some ((tkC (mvStore base b off ti.size) (σ.epoch,i) x'.cs σ).2.setBox b (splice cs0 off (tkC (mvStore base b off ti.size) (σ.epoch,i) x'.cs σ).1)) else none)=some σ1->
   ∃n v w',(execOp a.eval ⟨dst,.store t p x,type,pos,after,guard⟩).run P w=.ok n w'/\(n=.value v\/(n=.skip/\v=undef))/\Inv C (i::X) (σ1.putO dst ⟨.any,[]⟩) (a.put dst v) w':=by
  intro b off hpp hsh hsz hx;subst hpp;obtain ⟨r1,r2,r3⟩:=stored_cells he hsh;simp only[Option.bind_eq_some_iff] at hx;obtain ⟨_,hb,cs0,rfl,hx⟩:=hx;obtain ⟨hfit,rfl⟩:=ite_some hx;obtain ⟨O1',O2',o',g1,g2,g3,g4,g5,g6,g7,g8,g9,g10,g11,g12,g13,g14⟩:=takeCells_ok (mvStore base b off ti.size) h' (i:=i) (by simp) (h.fresh hi) r1 (ev_mono he.st) (ev_ne he.st hi) he.noOw
  have hcl:=RpA.length g2;have hcl':(tkC (mvStore base b off ti.size) (σ.epoch,i) x'.cs σ).1.length=ti.size:=by rw[<-hcl,r3,hsz]
  obtain ⟨blk,arr,ty,O2'',k1,k2,k3,k4⟩:=g1.boxput (i:=i) (off:=off) hb (by rw[g9];exact g8) g2 (by rw[hcl'];exact hfit) (by rw[g9];exact g6) (by rw[g9];exact g5) (by rw[g9];exact g7) g3 g4
  obtain ⟨⟨_,blk',q1,q2⟩,_⟩:=hpe.cell;simp only at q1;rw[k1] at q1;simp at q1;subst q1;have hst:=run_storeVar (P:=P) ht (w:=w) (g:=blk) (o:=off) (v:=a.eval x) (by rw[r3,hsz]) k2 (by rw[k3];exact hfit) (fun y _ _=>by omega) (one_of_mem r1)
  refine ⟨.skip,undef,_,?_,.inr ⟨rfl,rfl⟩,skip_done (i:=i) k4 ?_⟩
  ·simp only[execOp,q2,Instr.storeAt,Instr.sureAddr,pure_bind]
   simp only[Sem.run_bind,hst]
   rfl
  ·show Fresh _ ((tkC (mvStore base b off ti.size) (σ.epoch,i) x'.cs σ).2.epoch,i)
   rw[g9];refine g8.setBox fun c hc=>?_;simp only[splice,List.mem_append] at hc;rcases hc with (hc | hc) | hc
   ·exact g8.2 cs0 (List.mem_of_getElem? hb) c (List.mem_of_mem_take hc)
   ·exact g6 c hc
   ·exact g8.2 cs0 (List.mem_of_getElem? hb) c (List.mem_of_mem_drop hc)
 have elcase:∀r c g n off,p'=⟨.one,[.eptr r c g n off]⟩->(x'.sh=.one\/x'.sh=.agg)->x'.cs.length=ti.size->
   ((fzC x'.cs σ).bind fun y=>(y.2.at? r c g).bind fun q=>(q.2[n]?).bind fun e=>if off+ti.size<=q.1 then some (y.2.setCell r c (.ow g q.1 (q.2.set n (splice e off y.1)))) else none)=some σ1->
   ∃n v w',(execOp a.eval ⟨dst,.store t p x,type,pos,after,guard⟩).run P w=.ok n w'/\(n=.value v\/(n=.skip/\v=undef))/\Inv C (i::X) (σ1.putO dst ⟨.any,[]⟩) (a.put dst v) w':=by
  intro r c g n off hpp hsh hsz hx;subst hpp;obtain ⟨r1,r2,r3⟩:=stored_cells he hsh;simp only[Option.bind_eq_some_iff] at hx;obtain ⟨⟨ts,σ'⟩,hfz,⟨k,els⟩,hat,e,hn,hx⟩:=hx;obtain ⟨hfit,rfl⟩:=ite_some hx;simp only at hat hn hfit;obtain ⟨S',L',O1',O2',g1,g2,g3,gL,g4,g5,g6,g7,g8,g9⟩:=freezeCells_ok h' (i:=i) (h.fresh hi) r1 hfz;have hcell:=AS.at?_some hat;obtain ⟨u,o,k1,k2,k3,k4,k5⟩:=g1.recell (i:=i) hcell (by rw[g6];exact g5)
  obtain ⟨hpa,_⟩:=hpe.cell;have hpa':=RepA.go g7 (fun _ hb=>by simp at hb) (.inr (by simp[A.rstamp])) hpa
  obtain ⟨_,_,hpa'⟩:=hpa';obtain ⟨hnl,b,ob,cap,e1,e2⟩:=hpa' k els hcell;rw[e1] at k1;simp at k1;subst k1;obtain ⟨ad,cap',m1,m2,m3,m4⟩:=k2;simp at m1;obtain ⟨rfl,rfl⟩:=m1;rcases m4 with ⟨_,rfl,_⟩ | ⟨b',o',arr,ty,fz,m5,m6,m7,m8,m9,m10⟩
  ·simp at hnl
  ·simp at m5
   obtain ⟨rfl,rfl⟩:=m5;subst m6;have hts:ts.length=ti.size:=by rw[<-hsz,<-r3];exact g2.length.symm
   have hmulle:n * k+k<=cap * k:=by
    have:(n+1) * k<=cap * k:=Nat.mul_le_mul_right k (by omega)
    simpa [Nat.succ_mul] using this
   have hnL:¬L' b:=fun hS=>(g1.stable b hS).2 (k4 b (by simp))
   have hnS:¬S' b:=fun hS=>hnL (g1.sl b hS);have hset:=RepSE.set (off:=off) hnS m7 m10 m3 hn (by omega) (by have:=Nat.mul_le_mul_right k m2;omega) g2
   have hst:=run_storeVar (P:=P) ht (w:=w) (g:=b) (o:=ob+n * k+off) (v:=a.eval x) (by rw[r3,hsz]) m7 (by omega) (fun y hy hy'=>m9 y (by omega) (by omega)) (one_of_mem r1)
   have hown:=g1.own b (k4 b (by simp))
   obtain ⟨O1'',O2'',q1,q2⟩:=k5 S' L' (w.setRow b (splice arr.toList (ob+n * k+off) (a.eval x).cells.toList).toArray) (.ow g k (els.set n (splice e off ts))) [b] (fun _ h=>h) (fun _ h=>h) g1.sl (fun b hb=>.inl hb) (fun b hb=>.inl hb)
    (fun x hx hS=>by simp at hx;subst hx;exact hnL hS) (.inl rfl) (fun y hy hy'=>setRow_other _ _ _ _ (by simpa using hy)) (g1.keeps.setRow hown) (by rw[setRow_size];exact Nat.le_refl _)
    ⟨some ⟨b,ob,none⟩,cap,by simp,by simpa using m2,fun x hx=>by
      rcases List.mem_or_eq_of_mem_set hx with hx | rfl
      ·exact m3 x hx
      ·have:=m3 e (List.mem_of_getElem? hn)
       rw[splice_length (by omega)];exact this,.inr ⟨b,ob,_,ty,fz,rfl,rfl,setRow_heap w b arr _ ty fz m7,by
        have hspl:ob+n * k+off+(a.eval x).cells.toList.length<=arr.toList.length:=by rw[r3,hsz];simp;omega
        have:=splice_length hspl;simpa [this] using m8,m9,hset⟩⟩
    (by
     have:=g1.stS;have:=g1.stB;intro g' hg';simp[A.stamp] at hg';subst hg';have hm:∃cs:List A,A.ow g k els∈cs/\((∃av∈σ'.slots,av.cs=cs)\/some cs∈σ'.boxes):=by
      cases r with
      | slot t=>
       simp only[AS.cell,Option.bind_eq_some_iff] at hcell;obtain ⟨av,h1,h2⟩:=hcell;exact ⟨av.cs,List.mem_of_getElem? h2,.inl ⟨av,List.mem_of_getElem? h1,rfl⟩⟩
      | box t=>
       simp only[AS.cell,Option.bind_eq_some_iff] at hcell;obtain ⟨_,h1,cs,rfl,h2⟩:=hcell;exact ⟨cs,List.mem_of_getElem? h2,.inr (List.mem_of_getElem? h1)⟩
     obtain ⟨cs,hm1,hm2⟩:=hm;rcases hm2 with ⟨av,hav,rfl⟩ | hm2
     ·exact g1.stS av hav _ hm1 g rfl
     ·exact g1.stB cs hm2 _ hm1 g rfl)
    (fun g' k' els' he'=>by
     simp at he';obtain ⟨rfl,rfl,rfl⟩:=he';exact .inr ⟨els,rfl,by simp⟩)
   refine ⟨.skip,undef,_,?_,.inr ⟨rfl,rfl⟩,skip_done (i:=i) q1 ?_⟩
   ·simp only[execOp,e2,Instr.storeAt,Instr.sureAddr,pure_bind]
    simp only[Sem.run_bind,hst]
    rfl
   ·rw[epoch_setCell,g6]
    exact g5.setDead rfl
 split at hx'
 ·rename_i b off hs
  split at hx'<;>try (simp at hx';done)
  rename_i hsz;exact boxcase b off rfl (.inl hs) hsz hx'
 ·rename_i b off hs
  split at hx'<;>try (simp at hx';done)
  rename_i hsz;exact boxcase b off rfl (.inr hs) hsz hx'
 ·rename_i r c g n off hs
  split at hx'<;>try (simp at hx';done)
  rename_i hsz;exact elcase r c g n off rfl (.inl hs) hsz hx'
 ·rename_i r c g n off hs
  split at hx'<;>try (simp at hx';done)
  rename_i hsz;exact elcase r c g n off rfl (.inr hs) hsz hx'
 ·simp at hx'
end
end Go.Av
/- Avs, part 18: append. -/
namespace Go.Av
theorem RepTs.append {S:Nat->Prop} {w:World}:∀{t1 t2:List T} {u1 u2:List Value},RepTs S w t1 u1->RepTs S w t2 u2->RepTs S w (t1++t2) (u1++u2)
 | [],t2,u1,u2,h1,h2=>by subst h1;exact h2
 | t::t1,t2,u1,u2,h1,h2=>by
  obtain ⟨u,us',rfl,h3,h4⟩:=h1;exact ⟨u,us'++u2,rfl,h3,RepTs.append h4 h2⟩
theorem RepTs.split {S:Nat->Prop} {w:World}:∀{t1 t2:List T} {us:List Value},RepTs S w (t1++t2) us->∃u1 u2,us=u1++u2/\RepTs S w t1 u1/\RepTs S w t2 u2
 | [],t2,us,h=>⟨[],us,rfl,rfl,h⟩
 | t::t1,t2,us,h=>by
  obtain ⟨u,us',rfl,h3,h4⟩:=h;obtain ⟨u1,u2,rfl,h5,h6⟩:=RepTs.split h4;exact ⟨u::u1,u2,rfl,⟨u,u1,rfl,h3,h5⟩,h6⟩
theorem RepSC.flat {S:Nat->Prop} {w:World} {b:Nat}:∀{o:Nat} {cs:List T},RepSC S w b o cs->∃us,RepTs S w cs us/\∀j u,us[j]?=some u->w.cell? ⟨b,o+j,none⟩=some u
 | o,[],_=>⟨[],rfl,by simp⟩
 | o,c::cs,h=>by
  simp only[RepSC] at h;obtain ⟨⟨u,h1,h2⟩,h3⟩:=h;obtain ⟨us,h4,h5⟩:=RepSC.flat h3;refine ⟨u::us,⟨u,us,rfl,h2,h4⟩,fun j v hj=>?_⟩;cases j with
  | zero=>simp at hj;subst hj;exact h1
  | succ j=>simp at hj;have:=h5 j v hj;rwa[Nat.add_assoc,Nat.add_comm 1 j] at this
theorem RepSE.flat {S:Nat->Prop} {w:World} {b:Nat}:∀{o:Nat} {es:List (List T)},RepSE S w b o es->∃us,RepTs S w es.flatten us/\∀j u,us[j]?=some u->w.cell? ⟨b,o+j,none⟩=some u
 | o,[],_=>⟨[],rfl,by simp⟩
 | o,e::es,h=>by
  simp only[RepSE] at h;obtain ⟨u1,h1,h2⟩:=RepSC.flat h.1;obtain ⟨u2,h3,h4⟩:=RepSE.flat h.2;refine ⟨u1++u2,h1.append h3,fun j v hj=>?_⟩
  by_cases hlt:j < u1.length
  ·rw[List.getElem?_append_left hlt] at hj
   exact h2 j v hj
  ·rw[List.getElem?_append_right (by omega)] at hj
   have:=h4 _ v hj;rw[<-h1.length] at this;rwa[show o+u1.length+(j - u1.length)=o+j by omega] at this
theorem RepSC.ofFlat {S:Nat->Prop} {w:World} {b:Nat}:∀{o:Nat} {cs:List T} {us:List Value},RepTs S w cs us->(∀j u,us[j]?=some u->w.cell? ⟨b,o+j,none⟩=some u)->RepSC S w b o cs
 | o,[],_,_,_=>by simp only[RepSC]
 | o,c::cs,us,h,hc=>by
  obtain ⟨u,us',rfl,h3,h4⟩:=h;simp only[RepSC];refine ⟨⟨u,hc 0 u rfl,h3⟩,RepSC.ofFlat h4 fun j v hj=>?_⟩;have:=hc (j+1) v (by simpa using hj)
  rwa[Nat.add_comm j 1,<-Nat.add_assoc] at this
theorem RepSE.ofFlat {S:Nat->Prop} {w:World} {b:Nat}:∀{o:Nat} {es:List (List T)} {us:List Value},RepTs S w es.flatten us->(∀j u,us[j]?=some u->w.cell? ⟨b,o+j,none⟩=some u)->RepSE S w b o es
 | o,[],_,_,_=>by simp only[RepSE]
 | o,e::es,us,h,hc=>by
  rw[List.flatten_cons] at h;obtain ⟨u1,u2,rfl,h1,h2⟩:=h.split;simp only[RepSE];refine ⟨RepSC.ofFlat h1 fun j v hj=>hc j v (by rw[List.getElem?_append_left (List.getElem?_eq_some_iff.1 hj).1];exact hj),RepSE.ofFlat h2 fun j v hj=>?_⟩
  have:=hc (u1.length+j) v (by rw[List.getElem?_append_right (by omega)];simpa using hj)
  rw[<-h1.length];rwa[<-Nat.add_assoc] at this
theorem RepS.oneCell {S:Nat->Prop} {w:World} {t:T} {u:Value} (h:RepS S w t u):u.oneCell'=true:=by
 cases t with
 | lit v=>simp only[RepS] at h;obtain ⟨rfl,hl⟩:=h;cases u<;>first | rfl | simp[isLit] at hl
 | sl els=>simp only[RepS] at h;obtain ⟨ad,cap,rfl,_⟩:=h;rfl
theorem RepTs.one {S:Nat->Prop} {w:World}:∀{ts:List T} {us:List Value},RepTs S w ts us->∀u∈us,u.oneCell'=true
 | [],_,h=>by subst h;simp
 | t::ts,us,h=>by
  obtain ⟨u,us',rfl,h2,h3⟩:=h;intro x hx;rcases List.mem_cons.1 hx with rfl | hx
  ·exact RepS.oneCell h2
  ·exact RepTs.one h3 x hx
section
variable {P:Program}
theorem append_core {S:Nat->Prop} {w:World} {t tx e ty:TypeId} {ti te:TI} (ht:tyOf P t=some ti) (hk:ti.tk=.slice e) (he:tyOf P e=some te)
  {sub xs:List (List T)} {v x:Value} {own:List Nat} {news:List Value} (hv:RepO S w te.size sub v own) (hS:∀b∈own,¬S b) (hSz:∀b,S b->b < w.heap.size)
  (hx:Src P te.size tx x xs.length news w) (hxs:∀y∈xs,y.length=te.size) (hn:RepTs S w xs.flatten news)
  (hsz:(sub.length+xs.length) * te.bytes<=140737488355328) (h63:sub.length+xs.length<=9223372036854775807) :
  ∃v' w' own',(Builtin.append_ #[t,tx] ty #[v,x]).run P w=.ok v' w'/\RepO S w' te.size (sub++xs) v' own'/\(own'=own\/own'=[w.heap.size])/\
   (∀b,b < w.heap.size->b∉own->w'.heap[b]?=w.heap[b]?)/\w'.os=w.os/\w'.tape=w.tape/\w'.output=w.output/\w.heap.size<=w'.heap.size/\(own'=[w.heap.size]->w.heap.size < w'.heap.size):=by
 have hzero:=tyOf_zero he;obtain ⟨i,d,z,h1,h2,h3,rfl⟩:=tyOf_some he;obtain ⟨it,dt,zt,k1,k2,k3,rfl⟩:=tyOf_some ht;simp only at hv hx hxs hsz hk hzero |-;have hut:P.underlying t=some (.slice e):=by cases dt<;>simp[tkOf] at hk;subst hk;exact k2
 obtain ⟨ad,cap,rfl,c1,c2,c3⟩:=hv;have hall:∀y∈sub++xs,y.length=i.size:=fun y hy=>by rcases List.mem_append.1 hy with hy | hy;exact c2 y hy;exact hxs y hy
 have hnl:=hx.newsLen
 by_cases hroom:sub.length+xs.length<=cap
 ·
  rcases c3 with ⟨rfl,rfl,rfl⟩ | ⟨b,o,arr,tyb,fz,rfl,rfl,g3,g4,g5,g6⟩
  ·simp at hroom
   subst hroom;simp at hnl;refine ⟨.slice ad 0 0,w,[],?_,⟨ad,0,rfl,Nat.le_refl _,by simp,.inl ⟨rfl,rfl,rfl⟩⟩,.inl rfl,fun _ _ _=>rfl,rfl,rfl,rfl,Nat.le_refl _,by simp⟩
   subst hnl;have hc0:(Builtin.firstCells i.size 0 x).run P w=.ok #[] w:=by simpa using hx.cells
   rcases hx.kind with ⟨e',hk'⟩ | hk'<;>(simp[Builtin.append_,run_underlying hut,run_underlying hk',sizeOf,typeInfo,h1,hx.len,hc0];cases ad<;>simp[storeCells])
  ·have hmul:(sub.length+xs.length) * i.size<=cap * i.size:=Nat.mul_le_mul_right _ hroom
   rw[Nat.add_mul] at hmul;have hst:=run_stores (P:=P) b (o+sub.length * i.size) tyb fz news 0 arr w g3 (by rw[hnl];omega) (fun y hy hy'=>g5 y (by omega) (by rw[hnl] at hy';omega)) hx.one
   simp only[Nat.add_zero] at hst;have hspl:o+sub.length * i.size+news.length<=arr.toList.length:=by rw[hnl];simp;omega
   have hcell:∀j,(w.setRow b (splice arr.toList (o+sub.length * i.size) news).toArray).cell? ⟨b,j,none⟩=if o+sub.length * i.size<=j/\j < o+sub.length * i.size+news.length then news[j - (o+sub.length * i.size)]? else w.cell? ⟨b,j,none⟩:=by
    intro j;simp only[World.cell?,setRow_heap w b arr _ tyb fz g3,g3,Option.isSome_none,Bool.false_eq_true,if_false];rw[<-Array.getElem?_toList,<-Array.getElem?_toList];exact splice_get hspl j
   have hSame:∀y,S y->(w.setRow b (splice arr.toList (o+sub.length * i.size) news).toArray).heap[y]?=w.heap[y]?:=fun y hy=>setRow_other _ _ _ _ (fun e=>hS b (by simp) (e ▸ hy))
   obtain ⟨olds,p1,p2⟩:=g6.flat;have hol:olds.length=sub.length * i.size:=by rw[p1.length,flatten_length c2]
   refine ⟨.slice (some ⟨b,o,none⟩) (sub.length+xs.length) cap,w.setRow b (splice arr.toList (o+sub.length * i.size) news).toArray,[b],?_,⟨_,cap,by simp,by simpa using hroom,hall,.inr ⟨b,o,_,tyb,fz,rfl,rfl,setRow_heap w b arr _ tyb fz g3,?_,g5,?_⟩⟩,.inl rfl,
    fun y _ hy=>setRow_other _ _ _ _ (by simpa using hy),rfl,rfl,rfl,by rw[setRow_size];exact Nat.le_refl _,fun e=>?_⟩
   ·rcases hx.kind with ⟨e',hk'⟩ | hk'<;>simp[Builtin.append_,run_underlying hut,run_underlying hk',sizeOf,typeInfo,h1,hx.len,hroom,hx.cells,Addr.add_lit,hst]
   ·have:=splice_length hspl
    simpa [this] using g4
   ·refine RepSE.ofFlat (us:=olds++news) (by rw[List.flatten_append];exact (p1.mono (fun _ h=>h) hSame).append (hn.mono (fun _ h=>h) hSame)) fun j u hj=>?_
    rw[hcell]
    by_cases hlt:j < olds.length
    ·rw[List.getElem?_append_left hlt] at hj
     rw[if_neg (by omega)]
     exact p2 j u hj
    ·rw[List.getElem?_append_right (by omega)] at hj
     have:=(List.getElem?_eq_some_iff.1 hj).1;rw[if_pos (by omega),<-hj]
     congr 1
     omega
   ·simp at e
    have:=(Array.getElem?_eq_some_iff.1 g3).1;omega
 ·
  obtain ⟨olds,p1,p2⟩:∃olds,RepTs S w sub.flatten olds/\(Builtin.firstCells i.size sub.length (.slice ad sub.length cap)).run P w.drew=.ok olds.toArray w.drew:=by
   rcases c3 with ⟨rfl,rfl,rfl⟩ | ⟨b,o,arr,tyb,fz,rfl,rfl,g3,g4,g5,g6⟩
   ·refine ⟨[],rfl,?_⟩
    cases ad<;>simp[Builtin.firstCells,loadCells,loadCellsFrom]
   ·obtain ⟨olds,p1,p2⟩:=g6.flat
    exact ⟨olds,p1,run_firstCells_some w.drew i.size sub.length _ _ _ olds (by rw[p1.length,flatten_length c2]) (fun j u hj=>by rw[add_none];simpa using p2 j u hj)⟩
  have hol:olds.length=sub.length * i.size:=by rw[p1.length,flatten_length c2]
  have hrun:=run_append_grow_src (P:=P) w t tx ty e i z hut h1 h3 ad sub.length cap olds p2 x xs.length news hx (by omega) (by omega) (growslice_fits (by omega) hsz)
  have hge:=grownCap_ge w (sub.length+xs.length) cap e;have hnewSize:(w.drew.alloc (.cells ((olds++news).toArray++Builtin.zeroCells z.cells (grownCap w (sub.length+xs.length) cap e - (sub.length+xs.length))) e)).heap[w.heap.size]?=some (.cells ((olds++news).toArray++Builtin.zeroCells z.cells (grownCap w (sub.length+xs.length) cap e - (sub.length+xs.length))) e):=heap_alloc_new w.drew _;have hold:∀y,y < w.heap.size->(w.drew.alloc (.cells ((olds++news).toArray++Builtin.zeroCells z.cells (grownCap w (sub.length+xs.length) cap e - (sub.length+xs.length))) e)).heap[y]?=w.heap[y]?:=fun y hy=>heap_alloc_lt w.drew _ y hy
  refine ⟨_,_,[w.heap.size],hrun,⟨some ⟨w.heap.size,0,none⟩,grownCap w (sub.length+xs.length) cap e,by simp,by simpa using hge,hall,.inr ⟨w.heap.size,0,_,e,(0,0),rfl,rfl,hnewSize,?_,fun y _ _=>by omega,?_⟩⟩,.inr rfl,fun y hy _=>hold y hy,rfl,rfl,rfl,by simp,fun _=>by simp⟩
  ·simp only[Array.size_append,List.size_toArray,List.length_append,size_zeroCells,hol,hnl,Nat.zero_add]
   have hz:z.cells.size=i.size:=by simpa using hzero
   rw[hz,<-Nat.add_mul,<-Nat.add_mul];have:sub.length+xs.length+(grownCap w (sub.length+xs.length) cap e - (sub.length+xs.length))=grownCap w (sub.length+xs.length) cap e:=by omega
   rw[this];exact Nat.le_refl _
  ·refine RepSE.ofFlat (us:=olds++news) (by rw[List.flatten_append];exact (p1.mono (fun _ h=>h) fun y hy=>hold y (hSz y hy)).append (hn.mono (fun _ h=>h) fun y hy=>hold y (hSz y hy))) fun j u hj=>?_
   simp only[World.cell?,hnewSize,Nat.zero_add,Option.isSome_none,Bool.false_eq_true,if_false];have:=(List.getElem?_eq_some_iff.1 hj).1;rw[Array.getElem?_append_left (by simpa using this)]
   simpa using hj
def isL:T->Bool | .lit _=>true | _=>false
def isLent:A->Bool | .ro false _=>true | _=>false
theorem RepSC.lits {S S':Nat->Prop} {w:World} {b:Nat}:∀{o:Nat} {cs:List T},(∀t∈cs,isL t=true)->RepSC S w b o cs->RepSC S' w b o cs
 | _,[],_,_=>by simp only[RepSC]
 | o,c::cs,hl,h=>by
  simp only[RepSC] at h |-;obtain ⟨⟨u,h1,h2⟩,h3⟩:=h;have hc:=hl c (List.mem_cons_self);refine ⟨⟨u,h1,?_⟩,RepSC.lits (fun t ht=>hl t (List.mem_cons_of_mem _ ht)) h3⟩;cases c with
  | lit v=>simpa only [RepS] using h2
  | sl els=>simp[isL] at hc
theorem RepSE.lits {S S':Nat->Prop} {w:World} {b:Nat}:∀{o:Nat} {es:List (List T)},(∀y∈es,∀t∈y,isL t=true)->RepSE S w b o es->RepSE S' w b o es
 | _,[],_,_=>by simp only[RepSE]
 | o,e::es,hl,h=>by
  simp only[RepSE] at h |-;exact ⟨RepSC.lits (hl e (List.mem_cons_self)) h.1,RepSE.lits (fun y hy=>hl y (List.mem_cons_of_mem _ hy)) h.2⟩
def srcEls (P:Program) (σ:AS) (tx:TypeId) (size:Nat) (x:AV):Option (List (List T)):=
 (tyOf P tx).bind fun ti=>match ti.tk,x with
  | .slice _,⟨.one,[c]⟩=>(σ.els c).bind fun xs=>if (∀y∈xs,y.length=size)/\(isLent c=true->∀y∈xs,∀t∈y,isL t=true) then some xs else none
  | .str,⟨.one,[.lit (.string s)]⟩=>if size=1 then some (s.data.toList.map fun b=>[T.lit (.int .u8 b.toNat)]) else none
  | _,_=>none
def takeBase (σ:AS) (size:Nat):A->Option (List (List T)×AS)
 | .nil=>some ([],σ)
 | .sref r c g lo len=>(σ.at? r c g).bind fun p=>if p.1=size then some ((p.2.drop lo).take len,σ.setCell r c .dead) else none
 | _=>none
def aAppend (P:Program) (i:Nat) (σ:AS) (args:Array Operand) (argTypes:Array TypeId):Option (AV×AS):=
 match args.toList,argTypes.toList with
 | [s,x],[t,tx]=>(tyOf P t).bind fun ti=>match ti.tk with
  | .slice e=>(tyOf P e).bind fun te=>opt2 (σ.ev s) (σ.ev x) fun s x=>match s with
   | ⟨.one,[c]⟩=>opt2 (srcEls P σ tx te.size x) (takeBase σ te.size c) fun xs b=>
     if (b.1.length+xs.length) * te.bytes<=140737488355328/\b.1.length+xs.length<=9223372036854775807 then some (one (.ow (σ.epoch,i) te.size (b.1++xs)),b.2) else none
   | _=>none
  | _=>none
 | _,_=>none
theorem src_ok {C:Ctx} {X:List Nat} {σ:AS} {a:Act} {w:World} {S L:Nat->Prop} {bl O1 O2:List Nat} (h:InvAt C X σ a w S L bl O1 O2) {tx:TypeId} {size:Nat} {xo:Operand} {x:AV} {xs:List (List T)}
  (hxe:σ.ev xo=some x) (hs:srcEls P σ tx size x=some xs):(∀y∈xs,y.length=size)/\∃news,Src P size tx (a.eval xo) xs.length news w/\RepTs S w xs.flatten news:=by
 simp only[srcEls,Option.bind_eq_some_iff] at hs;obtain ⟨ti,ht,hs⟩:=hs;obtain ⟨it,dt,zt,k1,k2,k3,rfl⟩:=tyOf_some ht;have he:=h.ev hxe
 split at hs<;>try (simp at hs;done)
 ·rename_i e' c hk
  simp only[Option.bind_eq_some_iff] at hs;obtain ⟨xs',hxs,hs⟩:=hs;obtain ⟨⟨hall,hlent⟩,rfl⟩:=ite_some hs;have hut:P.underlying tx=some (.slice e'):=by simp only at hk;cases dt<;>simp[tkOf] at hk;subst hk;exact k2
  refine ⟨hall,?_⟩;obtain ⟨r1,_⟩:=he.cell;have hslice:∃ad cap,a.eval xo=.slice ad xs'.length cap/\(xs'≠[]->∃b o,ad=some ⟨b,o,none⟩/\RepSE S w b o xs'):=by
   cases c<;>simp only[AS.els,reduceCtorEq] at hxs
   ·simp at hxs;subst hxs;obtain ⟨⟨ad,hv⟩,_⟩:=r1;exact ⟨ad,0,by simpa using hv,by simp⟩
   ·rename_i st els
    simp only[Option.some.injEq] at hxs;subst hxs;obtain ⟨r1,_⟩:=r1;simp only[RepS] at r1;obtain ⟨ad,cap,h1,h2,h3⟩:=r1;refine ⟨ad,cap,h1,fun hne=>?_⟩;obtain ⟨b,o,e1,e2,e3⟩:=h3 hne;refine ⟨b,o,e1,?_⟩
    rename Bool=>bst
    cases hst:bst with
    | true=>rw[hst] at e3;exact e3
    | false=>rw[hst] at e3 hlent;exact RepSE.lits (hlent rfl) e3
   ·simp only[Option.map_eq_some_iff] at hxs
    obtain ⟨⟨k,els⟩,hat,rfl⟩:=hxs;have hcell:=AS.at?_some hat;obtain ⟨hlo,ad,cap,xx,e1,e2,e3⟩:=r1.2.2 k els hcell;obtain ⟨u0,o,q1,q2,q3⟩:=h.peek hcell;rw[e1] at q1;simp at q1;subst q1;obtain ⟨own',s1,s2⟩:=RepO.sub q2 hlo e3;obtain ⟨ad',cap',m1,m2,m3,m4⟩:=s1;rw[e2,m1];refine ⟨ad',cap',rfl,fun hne=>?_⟩;rcases m4 with ⟨_,h0,_⟩ | ⟨b,o,arr,ty,fz,rfl,_,_,_,_,g6⟩
    ·exact absurd h0 hne
    ·exact ⟨b,o,rfl,g6⟩
  obtain ⟨ad,cap,hv,hne⟩:=hslice
  by_cases h0:xs'=[]
  ·subst h0
   refine ⟨[],?_,rfl⟩;rw[hv];cases ad with
   | none=>exact Src.ofNil w hut cap
   | some ad=>exact Src.ofSlice w hut ad 0 cap [] (by simp) (by simp) (by simp)
  ·obtain ⟨b,o,rfl,hE⟩:=hne h0
   obtain ⟨us,p1,p2⟩:=hE.flat;refine ⟨us,?_,p1⟩;rw[hv];exact Src.ofSlice w hut ⟨b,o,none⟩ xs'.length cap us (by rw[p1.length,flatten_length hall]) (fun j u hj=>by rw[add_none];exact p2 j u hj) p1.one
 ·rename_i s hk
  obtain ⟨rfl,rfl⟩:=ite_some hs;have hut:P.underlying tx=some .string:=by simp only at hk;cases dt<;>simp[tkOf] at hk;exact k2
  obtain ⟨ex,_,_⟩:=he.lit? (x:=.string s) rfl;refine ⟨by simp,byteCells s,?_,?_⟩
  ·rw[ex]
   have:=Src.ofString (P:=P) w hut s;have hl:(s.data.toList.map fun b=>[T.lit (.int .u8 b.toNat)]).length=s.size:=by rw[List.length_map,Array.length_toList];rfl
   rw[hl];exact this
  ·unfold byteCells
   generalize s.data.toList=l
   induction l with
   | nil=>rfl
   | cons b l ih=>exact ⟨_,_,rfl,by simp[RepS,isLit],ih⟩
theorem takeBase_ok {C:Ctx} {X:List Nat} {σ σ':AS} {a:Act} {w:World} {S L:Nat->Prop} {bl O1 O2:List Nat} {i:Nat} (h:InvAt C X σ a w S L bl O1 O2) (hf:Fresh σ (σ.epoch,i)) {size:Nat} {c:A} {v:Value} {sub:List (List T)}
  (hr:RepA ⟨S,L,bl,a,w,σ.cell⟩ c v []) (hs:takeBase σ size c=some (sub,σ')) :
  ∃O1' O2' own,InvAt C X σ' a w S L bl O1' O2'/\RepO S w size sub v own/\Fresh σ' (σ.epoch,i)/\σ'.epoch=σ.epoch/\own.Nodup/\(∀b∈own,b∉O1'++O2'/\¬L b/\(b∈C.O0\/C.w0.heap.size<=b))/\(∀b∈O1'++O2',b∈O1++O2):=by
 cases c<;>simp only[takeBase,reduceCtorEq] at hs
 ·simp at hs
  obtain ⟨rfl,rfl⟩:=hs;obtain ⟨⟨ad,rfl⟩,_⟩:=hr;exact ⟨O1,O2,[],h,⟨ad,0,by simp,by simp,by simp,.inl ⟨rfl,rfl,rfl⟩⟩,hf,rfl,List.nodup_nil,by simp,fun _ h=>h⟩
 ·rename_i r x g lo len
  simp only[Option.bind_eq_some_iff] at hs;obtain ⟨⟨k,els⟩,hat,hs1⟩:=hs;obtain ⟨hk,hs2⟩:=ite_some hs1;clear hs1;simp only[Prod.mk.injEq] at hk hs2;subst hk;obtain ⟨rfl,rfl⟩:=hs2;have hcell:=AS.at?_some hat;obtain ⟨hlo,ad,cap,xx,e1,e2,e3⟩:=hr.2.2 k els hcell;obtain ⟨u0,o,k1,k2,k3,k4,k5⟩:=h.recell hcell hf;rw[e1] at k1;simp at k1;subst k1;obtain ⟨O1a,O2a,ha,hmem⟩:=k5 S L w .dead [] (fun _ h=>h) (fun _ h=>h) h.sl (fun b hb=>.inl hb) (fun b hb=>.inl hb) (by simp) (.inr rfl) (fun _ _ _=>rfl) h.keeps (Nat.le_refl _) ⟨rfl,RepA.oneC k2⟩
   (fun g hg=>by simp[A.stamp] at hg) (fun g k els' he=>by simp at he)
  obtain ⟨own',s1,s2⟩:=RepO.sub k2 hlo e3;have hown:∀b∈own',b∈o:=fun b hb=>by rcases s2 with rfl | rfl;exact hb;simp at hb
  refine ⟨O1a,O2a,own',ha,by rw[e2];exact s1,hf.setDead rfl,epoch_setCell,?_,fun b hb=>⟨fun hx=>?_,fun hS=>(h.stable b hS).2 (k4 b (hown b hb)),h.own b (k4 b (hown b hb))⟩,fun b hb=>?_⟩
  ·rcases s2 with rfl | rfl
   ·exact k3
   ·exact List.nodup_nil
  ·have:=(hmem b).1 hx
   simp at this;exact this.2 (hown b hb)
  ·have:=(hmem b).1 hb
   simp at this;simpa using this.1
theorem append_ok {C:Ctx} {i:Nat} {dst:Option Tmp} {σ σ1:AS} {av:AV} {args:Array Operand} {argTypes:Array TypeId} (hx:aAppend P i σ args argTypes=some (av,σ1)) :
  OpOk P C i (.call { callee:=.builtin .append,args,argTypes }) dst σ av σ1:=by
 rintro X a w ⟨S,L,bl,O1,O2,h⟩ hi type pos after guard;have h':=h.mono (fun x hx=>List.mem_cons_of_mem i hx);unfold aAppend at hx
 split at hx<;>try (simp at hx;done)
 rename_i s x t tx hargs htys;simp only[Option.bind_eq_some_iff] at hx;obtain ⟨ti,ht,hx⟩:=hx
 split at hx<;>try (simp at hx;done)
 rename_i e hk;simp only[Option.bind_eq_some_iff] at hx;obtain ⟨te,he,hx⟩:=hx;obtain ⟨s',x',hse,hxe,hx'⟩:=opt2_some hx;clear hx
 split at hx'<;>try (simp at hx';done)
 rename_i c;obtain ⟨xs,⟨sub,σ'⟩,hsrc,hbase,hx⟩:=opt2_some hx';obtain ⟨⟨hsz,h63⟩,hx⟩:=ite_some hx;simp only[Prod.mk.injEq] at hx;obtain ⟨rfl,rfl⟩:=hx;obtain ⟨hall,news,hnews,hts⟩:=src_ok (P:=P) h' hxe hsrc;obtain ⟨O1',O2',own,g1,g2,g3,g4,g5,g6,g7⟩:=takeBase_ok h' (i:=i) (h.fresh hi) (h.ev hse).cell.1 hbase;obtain ⟨v',w',own',r1,r2,r3,r4,r5,r6,r7,r8,r9⟩:=append_core (P:=P) (ty:=type) ht hk he g2 (fun b hb hS=>(g6 b hb).2.1 (h.sl b hS)) (fun b hb=>(h.stable b (h.sl b hb)).1) hnews hall hts hsz h63
 have hargs':args=#[s,x]:=by cases args;simp at hargs;subst hargs;rfl
 have htys':argTypes=#[t,tx]:=by cases argTypes;simp at htys;subst htys;rfl
 have hlt:∀b∈O1'++O2',b < w.heap.size:=fun b hb=>h.own_lt (g7 b hb);have g1':=g1.world (w':=w') (fun b hb=>by
   rcases hb with hb | hb
   ·exact r4 b (h.stable b hb).1 (fun hm=>(g6 b hm).2.1 hb)
   ·exact r4 b (hlt b hb) (fun hm=>(g6 b hm).1 hb))
  ⟨r5.trans h.keeps.os,r6.trans h.keeps.tape,r7.trans h.keeps.output,Nat.le_trans h.keeps.size r8,fun b hb hn=>by
   rw[r4 b (Nat.lt_of_lt_of_le hb h.keeps.size) (fun hm=>by rcases (g6 b hm).2.2 with h1 | h1;exact hn h1;omega)]
   exact h.keeps.block b hb hn⟩ r8
 have hv1:isTuple v'=false/\isAggV v'=false:=by obtain ⟨ad,cap,rfl,_⟩:=r2;exact ⟨rfl,rfl⟩
 refine ⟨_,v',w',?_,.inl rfl,g1'.done (i:=i) (o':=own') (by rw[g4];exact g3) ⟨hv1,by rw[flat_one hv1];exact ⟨v',[],own',[],rfl,by simp,r2,rfl,rfl⟩⟩ (fun c hc=>by simp[one] at hc;subst hc;exact .inl rfl)
  (fun c hc g hg=>by simp[one] at hc;subst hc;simp[A.stamp] at hg;subst hg;rw[g4];exact .inr ⟨rfl,by simp⟩) (fun g k els hm=>by simp[one] at hm;rw[g4];exact hm.1) ?_ ?_⟩
 ·subst hargs';subst htys'
  simp only[execOp,resolve,pure_bind,invoke,builtin,Sem.run_bind];simp[r1]
 ·rcases r3 with rfl | rfl
  ·exact g5
  ·simp
 ·intro b hb
  rcases r3 with rfl | rfl
  ·exact g6 b hb
  ·simp at hb;subst hb
   exact ⟨fun hm=>by have:=hlt _ hm;omega,fun hS=>by have:=(h.stable _ hS).1;omega,.inr h.keeps.size⟩
end
end Go.Av
/- Avs, part 19: structs and slices put together. -/
namespace Go.Av
theorem foldl_set (off:Nat):∀(l:List Value) (k:Nat) (cells:Array Value),off+k+l.length<=cells.size->
  (l.zipIdx k).foldl (fun cs (p:Value×Nat)=>cs.setIfInBounds (off+p.2) p.1) cells=(splice cells.toList (off+k) l).toArray
 | [],k,cells,_=>by simp[splice]
 | v::l,k,cells,h=>by
  simp only[List.zipIdx_cons,List.foldl_cons];rw[foldl_set off l (k+1) _ (by simp at h |-;omega)]
  have e:=list_seg_step cells.toList (off+k) v l (by simp at h |-;omega)
  congr 1
  simpa [splice,Array.toList_setIfInBounds,Nat.add_assoc] using e
theorem fill_step (place:Nat->Option (Nat×Nat)) (cells:Array Value) (i:Nat) (v:Value) (rest:List (Nat×Value)) {off size:Nat} (hp:place i=some (off,size)) (hs:v.cells.size=size) (hl:off+size<=cells.size) :
  Instr.fill place cells ((i,v)::rest)=Instr.fill place (splice cells.toList off v.cells.toList).toArray rest:=by
 simp only[Instr.fill,hp];rw[if_neg (by simp[hs];omega)]
 congr 1
 have:=foldl_set off v.cells.toList 0 cells (by simp;omega)
 simp only[Nat.add_zero] at this;rw[<-this];rw[<-Array.foldl_toList];simp[Array.toList_zipIdx]
theorem RpA.splice {E:Env} {cs cs':List A} {us us':List Value} {off:Nat} (h:RpA E cs us []) (h':RpA E cs' us' []):RpA E (splice cs off cs') (splice us off us') []:=by
 unfold Av.splice;have hl:=RpA.length h';rw[hl];exact RpA.append_iff.2 ⟨_,_,[],[],rfl,rfl,RpA.append_iff.2 ⟨_,_,[],[],rfl,rfl,h.take off,h'⟩,h.drop _⟩
def buildCells (P:Program) (σ:AS) (fs:List (Nat×TypeId)):List A->List (Nat×Operand)->Option (List A)
 | cs,[]=>some cs
 | cs,(j,x)::rest=>(fs[j]?).bind fun f=>(tyOf P f.2).bind fun tf=>(σ.ev x).bind fun av=>
   if av.cs.length=tf.size/\f.1+tf.size<=cs.length then
    match av.sh with
    | .one | .agg=>buildCells P σ fs (splice cs f.1 av.cs) rest
    | _=>none
   else none
def aBuild (P:Program) (σ:AS) (t:TypeId) (parts:Array (Nat×Operand)):Option AV:=
 (tyOf P t).bind fun ti=>(ti.zero.mapM constCell).bind fun z=>match ti.tk with
  | .struct fs=>if fs.all (fun f=>(tyOf P f.2).isSome) then (buildCells P σ fs z parts.toList).map fun cs=>⟨.agg,cs⟩ else none
  | _=>none
section
variable {P:Program} {C:Ctx} {X:List Nat} {σ:AS} {a:Act} {w:World} {S L:Nat->Prop} {bl O1 O2:List Nat}
theorem buildCells_ok (h:InvAt C X σ a w S L bl O1 O2) {fs:List (Nat×TypeId)} {place:Nat->Option (Nat×Nat)} (hplace:∀(j:Nat) (f:Nat×TypeId) (tf:TI),fs[j]?=some f->tyOf P f.2=some tf->place j=some (f.1,tf.size)) :
  ∀{parts:List (Nat×Operand)} {cs cs':List A} {us:List Value},RpA ⟨S,L,bl,a,w,σ.cell⟩ cs us []->(∀c∈cs,stampIn X σ.epoch c)->(∀g k els,A.ow g k els∉cs)->buildCells P σ fs cs parts=some cs'->
  ∃us',Instr.fill place us.toArray (parts.map fun p=>(p.1,a.eval p.2))=some us'.toArray/\RpA ⟨S,L,bl,a,w,σ.cell⟩ cs' us' []/\(∀c∈cs',stampIn X σ.epoch c)/\(∀g k els,A.ow g k els∉cs')
 | [],cs,cs',us,hr,hst,hno,hx=>by
  simp[buildCells] at hx;subst hx;exact ⟨us,rfl,hr,hst,hno⟩
 | (j,x)::rest,cs,cs',us,hr,hst,hno,hx=>by
  simp only[buildCells,Option.bind_eq_some_iff] at hx;obtain ⟨f,hf,tf,htf,av,hav,hx⟩:=hx
  split at hx<;>try (simp at hx;done)
  rename_i hc;have hsh:av.sh=.one\/av.sh=.agg:=by
   cases hs:av.sh<;>simp[hs] at hx<;>simp
  have hx':buildCells P σ fs (splice cs f.1 av.cs) rest=some cs':=by
   rcases hsh with hs | hs<;>simpa [hs] using hx
  have he:=h.ev hav;obtain ⟨r1,r2,r3⟩:=stored_cells he hsh;have hl:=RpA.length hr;obtain ⟨us',g1,g2,g3,g4⟩:=buildCells_ok h hplace (hr.splice r1 (off:=f.1)) (fun c hc=>by
    simp only[splice,List.mem_append] at hc;rcases hc with (hc | hc) | hc
    ·exact hst c (List.mem_of_mem_take hc)
    ·exact he.st c hc
    ·exact hst c (List.mem_of_mem_drop hc)) (fun g k els hc=>by
    simp only[splice,List.mem_append] at hc;rcases hc with (hc | hc) | hc
    ·exact hno g k els (List.mem_of_mem_take hc)
    ·exact he.noOw g k els hc
    ·exact hno g k els (List.mem_of_mem_drop hc)) hx'
  refine ⟨us',?_,g2,g3,g4⟩;simp only[List.map_cons];rw[fill_step place us.toArray j (a.eval x) _ (hplace j f tf hf htf) (by have:=r3.trans hc.1;simpa using this) (by simp;omega)]
  simpa using g1
theorem run_mapM {α β:Type} (f:α->Sem β) (g:α->β) (w:World):∀l:List α,(∀x∈l,(f x).run P w=.ok (g x) w)->(l.mapM f).run P w=.ok (l.map g) w
 | [],_=>rfl
 | x::l,hf=>by
  have ih:=run_mapM f g w l fun y hy=>hf y (List.mem_cons_of_mem _ hy);simp only[List.mapM_cons,Sem.run_bind,hf x (List.mem_cons_self),Result.andThen,ih]
  rfl
theorem build_ok {i:Nat} {dst:Option Tmp} {av:AV} {t:TypeId} {parts:Array (Nat×Operand)} (hx:aBuild P σ t parts=some av):OpOk P C i (.build t parts) dst σ av σ:=by
 rintro X a w ⟨S,L,bl,O1,O2,h⟩ hi type pos after guard;have h':=h.mono (fun x hx=>List.mem_cons_of_mem i hx);simp only[aBuild,Option.bind_eq_some_iff] at hx;obtain ⟨ti,ht,z,hz,hx⟩:=hx
 split at hx<;>try (simp at hx;done)
 rename_i fs hk
 split at hx<;>try (simp at hx;done)
 rename_i hfall;simp only[Option.map_eq_some_iff] at hx;obtain ⟨cs,hcs,rfl⟩:=hx;obtain ⟨zr,hzr,hzc⟩:=run_zero' ht w;obtain ⟨r1,r2⟩:=constCells_rep (E:=⟨S,L,bl,a,w,σ.cell⟩) hz;obtain ⟨ff,hd,hff⟩:∃ff:Array Field,(underlying t).run P w=.ok (.struct ff) w/\fs=ff.toList.map fun f=>(f.offset,f.type):=by
  obtain ⟨d,hd1,hd2⟩:=run_under_any ht w;rw[hk] at hd2;cases d<;>simp[tkOf] at hd2
  exact ⟨_,hd1,hd2⟩
 have hsz:∀f∈ff.toList,∃tf,tyOf P f.type=some tf:=by
  intro f hf;have:=List.all_eq_true.1 hfall (f.offset,f.type) (by rw[hff];exact List.mem_map.2 ⟨f,hf,rfl⟩)
  exact Option.isSome_iff_exists.1 this
 let sz:Field->Nat:=fun f=>((tyOf P f.type).map (·.size)).getD 0
 have hplaces:(ff.mapM fun f=>do pure (f.offset,<-sizeOf f.type):Sem (Array (Nat×Nat))).run P w=.ok (ff.toList.map fun f=>(f.offset,sz f)).toArray w:=by
  rw[Array.mapM_eq_mapM_toList];have:=run_mapM (P:=P) (fun f:Field=>(do pure (f.offset,<-sizeOf f.type):Sem (Nat×Nat))) (fun f=>(f.offset,sz f)) w ff.toList fun f hf=>by
   obtain ⟨tf,htf⟩:=hsz f hf;simp only[Sem.run_bind,run_sizeOf' htf,Result.andThen];simp[sz,htf]
  simp only[map_eq_pure_bind,Sem.run_bind,this,Result.andThen]
  rfl
 have hpl:∀(j:Nat) (f:Nat×TypeId) (tf:TI),fs[j]?=some f->tyOf P f.2=some tf->(ff.toList.map fun f=>(f.offset,sz f)).toArray[j]?=some (f.1,tf.size):=by
  intro j f tf hj htf;rw[hff] at hj;simp only[List.getElem?_map,Option.map_eq_some_iff] at hj;obtain ⟨f0,hf0,rfl⟩:=hj;simp only at htf;simp[hf0,sz,htf]
  try (rw[Array.getElem?_toList] at hf0;exact ⟨f0,hf0,rfl,by rw[htf];rfl⟩)
 obtain ⟨us',g1,g2,g3,g4⟩:=buildCells_ok h (place:=((ff.toList.map fun f=>(f.offset,sz f)).toArray[·]?)) hpl r1 (fun c hc g hg=>by rw[(r2 c hc).1] at hg;simp at hg) (fun g k els hm=>by have:=(r2 _ hm).2;simp[isOw] at this) hcs
 refine ⟨_,.agg us'.toArray,w,?_,.inl rfl,h'.done (h.fresh hi) ⟨rfl,by simpa [flat] using g2⟩ (ev_ne g3 hi) (ev_mono g3) (fun g k els hm=>absurd hm (g4 g k els)) List.nodup_nil (by simp)⟩
 have hz2:zr.cells=ti.zero.toArray:=by rw[<-hzc]
 simp only[execOp,Instr.build,Sem.run_bind,hzr,Result.andThen,hd,hplaces];have g1':Instr.fill (fun x=>(ff.toList.map fun f=>(f.offset,sz f)).toArray[x]?) zr.cells (parts.map fun x=>(x.1,a.eval x.2)).toList=some us'.toArray:=by
  rw[hz2];simpa using g1
 have e:(parts.map fun (x:Nat×Operand)=>match x with|(i,x)=>(i,a.eval x))=parts.map fun x=>(x.1,a.eval x.2):=rfl
 rw[e,g1']
 rfl
def chunks (k:Nat):Nat->List T->List (List T)
 | 0,_=>[]
 | n+1,ts=>ts.take k::chunks k n (ts.drop k)
theorem chunks_len {k:Nat}:∀{n:Nat} {ts:List T},ts.length=n * k->(chunks k n ts).length=n/\(chunks k n ts).flatten=ts/\∀e∈chunks k n ts,e.length=k
 | 0,ts,h=>by simp at h;subst h;simp[chunks]
 | n+1,ts,h=>by
  rw[Nat.succ_mul] at h;obtain ⟨h1,h2,h3⟩:=chunks_len (k:=k) (n:=n) (ts:=ts.drop k) (by rw[List.length_drop];omega)
  refine ⟨by simp[chunks,h1],by simp only[chunks,List.flatten_cons,h2,List.take_append_drop],fun e he=>?_⟩
  simp only[chunks] at he;rcases List.mem_cons.1 he with rfl | he
  ·simp;omega
  ·exact h3 e he
def partCells (σ:AS) (k:Nat):List (Nat×Operand)->Nat->Option (List A)
 | [],_=>some []
 | (i,x)::rest,j=>(σ.ev x).bind fun av=>if i=j/\av.cs.length=k then
   match av.sh with
   | .one | .agg=>(partCells σ k rest (j+1)).map fun cs=>av.cs++cs
   | _=>none
  else none
def aBuildSlice (P:Program) (i:Nat) (σ:AS) (t:TypeId) (len:Nat) (parts:Array (Nat×Operand)):Option (AV×AS):=
 (tyOf P t).bind fun ti=>match ti.tk with
  | .slice e=>(tyOf P e).bind fun te=>(partCells σ te.size parts.toList 0).bind fun cs=>
    if parts.size=len/\len * te.size<=16777216 then (fzC cs σ).map fun r=>(one (.ow (σ.epoch,i) te.size (chunks te.size len r.1)),r.2) else none
  | _=>none
theorem partCells_ok (h:InvAt C X σ a w S L bl O1 O2) {k:Nat}:∀{parts:List (Nat×Operand)} {j:Nat} {cs:List A},partCells σ k parts j=some cs->
  ∃us,RpA ⟨S,L,bl,a,w,σ.cell⟩ cs us []/\us.length=parts.length * k/\(∀c∈cs,stampIn X σ.epoch c)/\
   ∀(pre rest:List Value),pre.length=j * k->rest.length=parts.length * k->
    Instr.fill (fun i=>some (i * k,k)) (pre++rest).toArray (parts.map fun p=>(p.1,a.eval p.2))=some (pre++us).toArray
 | [],j,cs,hx=>by
  simp[partCells] at hx;subst hx;exact ⟨[],⟨rfl,rfl⟩,by simp,by simp,fun pre rest h1 h2=>by simp at h2;subst h2;rfl⟩
 | (i,x)::rest,j,cs,hx=>by
  simp only[partCells,Option.bind_eq_some_iff] at hx;obtain ⟨av,hav,hx⟩:=hx
  split at hx<;>try (simp at hx;done)
  rename_i hc;obtain ⟨rfl,hk⟩:=hc;have hsh:av.sh=.one\/av.sh=.agg:=by
   cases hs:av.sh<;>simp[hs] at hx<;>simp
  have hx':(partCells σ k rest (i+1)).map (fun cs=>av.cs++cs)=some cs:=by
   rcases hsh with hs | hs<;>simpa [hs] using hx
  simp only[Option.map_eq_some_iff] at hx';obtain ⟨cs',hcs',rfl⟩:=hx';have he:=h.ev hav;obtain ⟨r1,r2,r3⟩:=stored_cells he hsh;obtain ⟨us,g1,g2,g3,g4⟩:=partCells_ok h hcs';refine ⟨(a.eval x).cells.toList++us,RpA.append_iff.2 ⟨_,_,[],[],rfl,rfl,r1,g1⟩,by rw[List.length_append,r3,hk,g2,List.length_cons,Nat.succ_mul,Nat.add_comm],?_,fun pre rst hp hr=>?_⟩
  ·intro c hc
   rcases List.mem_append.1 hc with hc | hc
   ·exact he.st c hc
   ·exact g3 c hc
  ·simp only[List.map_cons]
   have hv:(a.eval x).cells.size=k:=by have:=r3.trans hk;simpa using this
   rw[List.length_cons,Nat.succ_mul] at hr;rw[fill_step _ _ i (a.eval x) _ (off:=i * k) (size:=k) rfl hv (by simp;omega)]
   have hsp:splice (pre++rst) (i * k) (a.eval x).cells.toList=(pre++(a.eval x).cells.toList)++rst.drop k:=by
    unfold splice;rw[<-hp,List.take_left',List.drop_append,List.drop_of_length_le (by omega)]
    ·have:pre.length+(a.eval x).cells.toList.length - pre.length=k:=by rw[r3,hk];omega
     rw[this];simp
    ·rfl
   rw[hsp,g4 (pre++(a.eval x).cells.toList) (rst.drop k) (by rw[List.length_append,hp,r3,hk,Nat.succ_mul]) (by rw[List.length_drop];omega)]
   simp
theorem ow_done {i:Nat} {dst:Option Tmp} {k:Nat} {els:List (List T)} {v:Value} {own:List Nat} (h:InvAt C X σ a w S L bl O1 O2) (hi:i∈X) (hf:Fresh σ (σ.epoch,i)) (hr:RepO S w k els v own) (hn:own.Nodup)
  (ho:∀b∈own,b∉O1++O2/\¬L b/\(b∈C.O0\/C.w0.heap.size<=b)):Inv C X (σ.putO dst (one (.ow (σ.epoch,i) k els))) (a.put dst v) w:=by
 have hv1:isTuple v=false/\isAggV v=false:=by obtain ⟨ad,cap,rfl,_⟩:=hr;exact ⟨rfl,rfl⟩
 exact h.done (i:=i) (o':=own) hf ⟨hv1,by rw[flat_one hv1];exact ⟨v,[],own,[],rfl,by simp,hr,rfl,rfl⟩⟩ (fun c hc=>by simp[one] at hc;subst hc;exact .inl rfl)
  (fun c hc g hg=>by simp[one] at hc;subst hc;simp[A.stamp] at hg;subst hg;exact .inr ⟨rfl,hi⟩) (fun g k els hm=>by simp[one] at hm;exact hm.1) hn ho
theorem newRow_done {i:Nat} {dst:Option Tmp} {k:Nat} {els:List (List T)} {us rest:List Value} {e:TypeId} {cap:Nat} (h:InvAt C X σ a w S L bl O1 O2) (hi:i∈X) (hf:Fresh σ (σ.epoch,i)) (hk:∀x∈els,x.length=k)
  (hr:RepTs S w els.flatten us) (hc:els.length<=cap) (hl:cap * k<=us.length+rest.length) :
  Inv C X (σ.putO dst (one (.ow (σ.epoch,i) k els))) (a.put dst (.slice (some ⟨w.heap.size,0,none⟩) els.length cap)) (w.alloc (.cells (us++rest).toArray e)):=by
 have hSame:∀b,S b->(w.alloc (.cells (us++rest).toArray e)).heap[b]?=w.heap[b]?:=fun b hb=>heap_alloc_lt _ _ _ (h.stable b (h.sl b hb)).1;have h2:=h.world (w':=w.alloc (.cells (us++rest).toArray e)) (fun b hb=>by
   rcases hb with hb | hb
   ·exact heap_alloc_lt _ _ _ (h.stable b hb).1
   ·exact heap_alloc_lt _ _ _ (h.own_lt hb)) (h.keeps.alloc _) (by simp)
 refine ow_done h2 hi hf (own:=[w.heap.size]) ⟨_,cap,rfl,hc,hk,.inr ⟨w.heap.size,0,_,e,(0,0),rfl,rfl,heap_alloc_new _ _,by simpa using hl,fun x _ _=>by omega,?_⟩⟩ (by simp) ?_
 ·refine RepSE.ofFlat (hr.mono (fun _ h=>h) hSame) fun j u hj=>?_
  simp only[World.cell?,heap_alloc_new,Nat.zero_add,Option.isSome_none,Bool.false_eq_true,if_false];have:=(List.getElem?_eq_some_iff.1 hj).1;simp[List.getElem?_append_left this,hj]
 ·intro b hb
  simp at hb;subst hb;exact ⟨fun hm=>by have:=h.own_lt hm;omega,fun hS=>by have:=(h.stable _ hS).1;omega,.inr h.keeps.size⟩
theorem buildSlice_ok {i:Nat} {dst:Option Tmp} {av:AV} {σ1:AS} {t:TypeId} {len:Nat} {parts:Array (Nat×Operand)} (hx:aBuildSlice P i σ t len parts=some (av,σ1)):OpOk P C i (.buildSlice t len parts) dst σ av σ1:=by
 rintro X a w ⟨S,L,bl,O1,O2,h⟩ hi type pos after guard;have h':=h.mono (fun x hx=>List.mem_cons_of_mem i hx);simp only[aBuildSlice,Option.bind_eq_some_iff] at hx;obtain ⟨ti,ht,hx⟩:=hx
 split at hx<;>try (simp at hx;done)
 rename_i e hk;simp only[Option.bind_eq_some_iff] at hx;obtain ⟨te,he,cs,hcs,hx⟩:=hx
 split at hx<;>try (simp at hx;done)
 rename_i hc;obtain ⟨hpl,hlim⟩:=hc;simp only[Option.map_eq_some_iff,Prod.mk.injEq] at hx;obtain ⟨⟨ts,σ'⟩,hfz,rfl,rfl⟩:=hx;obtain ⟨us,g1,g2,g3,g4⟩:=partCells_ok h hcs;obtain ⟨S',L',O1',O2',q1,q2,q3,qL,q4,q5,q6,q7,q8,q9⟩:=freezeCells_ok h' (i:=i) (h.fresh hi) g1 hfz;have hpl':parts.toList.length=len:=by simpa using hpl
 have hul:us.length=len * te.size:=by rw[g2,hpl']
 obtain ⟨c1,c2,c3⟩:=chunks_len (k:=te.size) (n:=len) (ts:=ts) (by rw[<-q2.length,hul])
 obtain ⟨z,hz,hzc⟩:=run_zero' he w;have hfin:=newRow_done (i:=i) (dst:=dst) (e:=e) (cap:=len) (rest:=[]) q1 (by simp) (by rw[q6];exact q5) c3 (by rw[c2];exact q2) (by rw[c1];exact Nat.le_refl _) (by simp[hul])
 rw[q6,c1,List.append_nil] at hfin;refine ⟨_,.slice (some ⟨w.heap.size,0,none⟩) len len,w.alloc (.cells us.toArray e),?_,.inl rfl,hfin⟩;have hfill:∀zz:Array Value,Instr.fill (fun i=>some (i * te.size,te.size)) ((Array.range (len * te.size)).map (zz[· % zz.size]!)) (parts.toList.map fun x=>(x.1,a.eval x.2))=some us.toArray:=by
  intro zz;have:=g4 [] ((Array.range (len * te.size)).map (zz[· % zz.size]!)).toList (by simp) (by rw[hpl'];simp)
  simpa only [List.nil_append,Array.toArray_toList] using this
 have e1:(parts.map fun (x:Nat×Operand)=>match x with|(i,x)=>(i,a.eval x))=parts.map fun x=>(x.1,a.eval x.2):=rfl
 have hnot:¬(len * te.size > 2 ^ 24):=by
  have:(2:Nat) ^ 24=16777216:=by decide
  omega
 simp only[execOp,Instr.buildSlice,Sem.run_bind,run_under_slice ht w hk,Result.andThen,run_sizeOf' he,if_neg hnot]
 by_cases h0:len * te.size=0
 ·have hf0:=hfill #[]
  simp[h0] at hf0;simp[h0,hf0,newRow,Result.andThen]
 ·simp[h0,hz,Result.andThen,hfill,newRow]
end
end Go.Av
/- Avs, part 19a: bytes to a text. -/
namespace Go.Av
def bytesOf:List (List T)->Option (List Int)
 | []=>some []
 | e::es=>match e with
  | [.lit (.int .u8 n)]=>(bytesOf es).map (n::·)
  | _=>none
def textOf (ns:List Int):ByteArray:=ns.foldl (fun r n=>r.push (UInt8.ofNat n.toNat)) ByteArray.empty
def aText (P:Program) (σ:AS) (s d:TypeId) (x:Operand):Option AV:=
 (σ.ev x).bind fun x=>match x with
 | ⟨.one,[c]⟩=>opt2 (tyOf P s) (tyOf P d) fun ts td=>match ts.tk,td.tk with
  | .slice e,.str=>(tyOf P e).bind fun te=>match te.tk with
   | .int .u8=>(σ.els c).bind fun els=>(bytesOf els).map fun ns=>one (.lit (.string (textOf ns)))
   | _=>none
  | _,_=>none
 | _=>none
section
variable {P:Program} {C:Ctx} {X:List Nat} {σ:AS} {a:Act} {w:World} {S L:Nat->Prop} {bl O1 O2:List Nat}
theorem slice_read (h:InvAt C X σ a w S L bl O1 O2) {xo:Operand} {c:A} {els:List (List T)} (hxe:σ.ev xo=some ⟨.one,[c]⟩) (hxs:σ.els c=some els) :
  ∃ad cap,a.eval xo=.slice ad els.length cap/\(els≠[]->∃b o,ad=some ⟨b,o,none⟩/\RepSE L w b o els):=by
 obtain ⟨r1,_⟩:=(h.ev hxe).cell;cases c<;>simp only[AS.els,reduceCtorEq] at hxs
 ·simp at hxs;subst hxs;obtain ⟨⟨ad,hv⟩,_⟩:=r1;exact ⟨ad,0,by simpa using hv,by simp⟩
 ·simp only[Option.some.injEq] at hxs
  subst hxs;obtain ⟨r1,_⟩:=r1;simp only[RepS] at r1;obtain ⟨ad,cap,h1,h2,h3⟩:=r1;refine ⟨ad,cap,h1,fun hne=>?_⟩;obtain ⟨b,o,e1,e2,e3⟩:=h3 hne;refine ⟨b,o,e1,?_⟩
  rename Bool=>bst
  cases hst:bst with
  | true=>rw[hst] at e3;exact RepSE.mono h.sl (fun _ _=>rfl) b rfl o _ e3
  | false=>rw[hst] at e3;exact e3
 ·simp only[Option.map_eq_some_iff] at hxs
  obtain ⟨⟨k,els⟩,hat,rfl⟩:=hxs;have hcell:=AS.at?_some hat;obtain ⟨hlo,ad,cap,xx,e1,e2,e3⟩:=r1.2.2 k els hcell;obtain ⟨u0,o,q1,q2,q3⟩:=h.peek hcell;rw[e1] at q1;simp at q1;subst q1;obtain ⟨own',s1,s2⟩:=RepO.sub q2 hlo e3;obtain ⟨ad',cap',m1,m2,m3,m4⟩:=s1;rw[e2,m1];refine ⟨ad',cap',rfl,fun hne=>?_⟩;rcases m4 with ⟨_,h0,_⟩ | ⟨b,o,arr,ty,fz,rfl,_,_,_,_,g6⟩
  ·exact absurd h0 hne
  ·exact ⟨b,o,rfl,RepSE.mono h.sl (fun _ _=>rfl) b rfl o _ g6⟩
theorem bytesOf_flat {S:Nat->Prop}:∀{els:List (List T)} {ns:List Int} {us:List Value},bytesOf els=some ns->RepTs S w els.flatten us->us=ns.map (Value.int .u8)/\els.length=ns.length
 | [],ns,us,h,hr=>by simp[bytesOf] at h;subst h;exact ⟨hr,rfl⟩
 | e::es,ns,us,h,hr=>by
  simp only[bytesOf] at h
  split at h<;>try (simp at h;done)
  rename_i n;simp only[Option.map_eq_some_iff] at h;obtain ⟨ns',h1,rfl⟩:=h;obtain ⟨u,us',rfl,h2,h3⟩:=hr;obtain ⟨k1,k2⟩:=bytesOf_flat (us:=us') h1 (by simpa using h3)
  simp only[RepS] at h2;exact ⟨by simp[h2.1,k1],by simp[k2]⟩
theorem text_ok {i:Nat} {dst:Option Tmp} {s d:TypeId} {x:Operand} {av:AV} (hx:aText P σ s d x=some av):OpOk P C i (.convert s d x) dst σ av σ:=by
 rintro X a w ⟨S,L,bl,O1,O2,h⟩ hi type pos after guard;have h':=h.mono (fun x hx=>List.mem_cons_of_mem i hx);simp only[aText,Option.bind_eq_some_iff] at hx;obtain ⟨x',hxe,hx⟩:=hx
 split at hx<;>try (simp at hx;done)
 rename_i c;obtain ⟨ts,td,hs,hd,hx⟩:=opt2_some hx
 split at hx<;>try (simp at hx;done)
 rename_i e hk1 hk2;simp only[Option.bind_eq_some_iff] at hx;obtain ⟨te,he,hx⟩:=hx
 split at hx<;>try (simp at hx;done)
 rename_i hk3;simp only[Option.bind_eq_some_iff,Option.map_eq_some_iff] at hx;obtain ⟨els,hels,ns,hns,rfl⟩:=hx;obtain ⟨ad,cap,hv,hne⟩:=slice_read h hxe hels;have hb:(Conv.bytesToString (a.eval x)).run P w=.ok (.string (textOf ns)) w:=by
  rw[hv];cases ad with
  | none=>
   have h0:els=[]:=Classical.byContradiction fun hn=>by obtain ⟨b,o,h1,_⟩:=hne hn;simp at h1
   subst h0;simp[bytesOf] at hns;subst hns
   rfl
  | some ad=>
   refine run_bytesToString w ad els.length cap ns ?_
   by_cases h0:els=[]
   ·subst h0
    simp[bytesOf] at hns;subst hns;exact run_loadCells_list (P:=P) (w:=w) ad [] (by simp)
   ·obtain ⟨b,o,h1,h2⟩:=hne h0
    simp at h1;subst h1;obtain ⟨us,p1,p2⟩:=h2.flat;obtain ⟨k1,k2⟩:=bytesOf_flat hns p1;subst k1;have:=run_loadCells_list (P:=P) (w:=w) ⟨b,o,none⟩ (ns.map (Value.int .u8)) (fun j v hj=>by rw[add_none];exact p2 j v hj)
    rw[k2];simpa using this
 refine ⟨_,.string (textOf ns),w,?_,.inl rfl,h'.done (h.fresh hi) (o':=[]) (EvOk.lit (C:=C) (X:=X) (σ:=σ) (E:=⟨S,L,bl,a,w,σ.cell⟩) (v:=.string (textOf ns)) rfl).rep (fun c hc=>by simp[one] at hc;subst hc;exact .inl rfl) (fun c hc g hg=>by simp[one] at hc;subst hc;simp[A.stamp] at hg) (fun g k els hm=>by simp[one] at hm) List.nodup_nil (by simp)⟩
 have hc:(convert s d (a.eval x)).run P w=.ok (.string (textOf ns)) w:=by
  rw[<-hb];rw[hv];simp only[convert,Sem.run_bind,run_under_slice hs w hk1,run_under_str hd w hk2,Result.andThen,run_under_int he w hk3]
 simp only[execOp,Sem.run_bind,hc,Result.andThen]
 rfl
end
end Go.Av
/- Avs, part 19b: slices that are made. -/
namespace Go.Av
theorem range_zero_map (z:List Value) (_h:0 < z.length) (n:Nat):(List.range z.length).map (fun j=>z.toArray[(n * z.length+j) % z.toArray.size]!)=z:=by
 apply List.ext_getElem?;intro j
 by_cases hj:j < z.length
 ·simp[hj,Nat.mod_eq_of_lt hj]
 ·simp[hj]
theorem madeCells_rep (z:List Value) (_h:0 < z.length):∀n:Nat,(madeCells z.toArray (n * z.length)).toList=(List.replicate n z).flatten
 | 0=>by simp[madeCells]
 | n+1=>by
  have ih:=madeCells_rep z _h n;simp only[madeCells,Array.toList_map,Array.toList_range] at ih |-;rw[Nat.succ_mul,List.range_add,List.map_append,ih,List.replicate_succ',List.flatten_append,List.map_map]
  congr 1
  simpa [Function.comp_def] using range_zero_map z _h n
def zeroT:Value->Option T
 | .slice none 0 0=>some (.sl [])
 | v=>if isLit v then some (.lit v) else none
def zeroTs:List Value->Option (List T)
 | []=>some []
 | v::vs=>(zeroT v).bind fun t=>(zeroTs vs).map fun q=>t::q
theorem zeroTs_ok {S:Nat->Prop} {w:World}:∀{vs:List Value} {ts:List T},zeroTs vs=some ts->RepTs S w ts vs
 | [],ts,h=>by simp[zeroTs] at h;subst h;rfl
 | v::vs,ts,h=>by
  simp only[zeroTs,Option.bind_eq_some_iff,Option.map_eq_some_iff] at h;obtain ⟨t,h1,q,h2,rfl⟩:=h;refine ⟨v,vs,rfl,?_,zeroTs_ok h2⟩;unfold zeroT at h1
  split at h1
  ·simp at h1;subst h1;simp only[RepS];exact ⟨none,0,rfl,by simp,by simp⟩
  ·obtain ⟨h3,rfl⟩:=ite_some h1
   simp only[RepS];exact ⟨trivial,h3⟩
theorem repl_ok {S:Nat->Prop} {w:World} {vs:List Value} {ts:List T} (h:RepTs S w ts vs):∀n,RepTs S w (List.replicate n ts).flatten (List.replicate n vs).flatten
 | 0=>rfl
 | n+1=>by
  simp only[List.replicate_succ,List.flatten_cons];exact h.append (repl_ok h n)
def aMakeV (P:Program) (g:Stamp) (t:TypeId) (l c:Option AV):Option AV:=
 (tyOf P t).bind fun ti=>match ti.tk with
 | .slice e=>(tyOf P e).bind fun te=>opt2 l c fun l c=>match l.lit?,c.lit? with
  | some (.int _ l),some (.int _ c)=>if 0<=l/\l<=c/\(te.bytes:Int) * c<=281474976710656/\c<=9223372036854775807/\0 < te.size then
    (zeroTs te.zero).map fun zs=>one (.ow g te.size (List.replicate l.toNat zs)) else none
  | _,_=>none
 | _=>none
def aMake (P:Program) (i:Nat) (σ:AS) (t:TypeId) (l c:Operand):Option (AV×AS):=(aMakeV P (σ.epoch,i) t (σ.ev l) (σ.ev c)).map fun av=>(av,σ)
section
variable {P:Program} {C:Ctx} {X:List Nat} {σ:AS} {a:Act} {w:World} {S L:Nat->Prop} {bl O1 O2:List Nat}
theorem make_ok {i:Nat} {dst:Option Tmp} {t:TypeId} {l c:Operand} {av:AV} {σ1:AS} (hx:aMake P i σ t l c=some (av,σ1)):OpOk P C i (.makeSlice t l c) dst σ av σ1:=by
 rintro X a w ⟨S,L,bl,O1,O2,h⟩ hi type pos after guard;have h':=h.mono (fun x hx=>List.mem_cons_of_mem i hx);simp only[aMake,Option.map_eq_some_iff,Prod.mk.injEq] at hx;obtain ⟨av0,hx,rfl,rfl⟩:=hx;simp only[aMakeV,Option.bind_eq_some_iff] at hx;obtain ⟨ti,ht,hx⟩:=hx
 split at hx<;>try (simp at hx;done)
 rename_i e hk;simp only[Option.bind_eq_some_iff] at hx;obtain ⟨te,he,hx⟩:=hx;obtain ⟨l',c',hl,hc,hx'⟩:=opt2_some hx;clear hx
 split at hx'<;>try (simp at hx';done)
 rename_i kl l0 kc c0 hl0 hc0
 split at hx'<;>try (simp at hx';done)
 rename_i hcond;obtain ⟨q1,q2,q3,q4,q5⟩:=hcond;simp only[Option.map_eq_some_iff] at hx';obtain ⟨zs,hzs,rfl⟩:=hx';obtain ⟨e1,_,_⟩:=(h.ev hl).lit? hl0;obtain ⟨e2,_,_⟩:=(h.ev hc).lit? hc0;have hzero:=tyOf_zero he;obtain ⟨ie,de,ze,k1,k2,k3,rfl⟩:=tyOf_some he;obtain ⟨it,dt,zt,m1,m2,m3,rfl⟩:=tyOf_some ht;simp only at hzs hzero q3 q5 hk |-;have hut:P.underlying t=some (.slice e):=by cases dt<;>simp[tkOf] at hk;subst hk;exact m2
 have hz0:0 < ze.cells.toList.length:=by rw[hzero];exact q5
 have hcells:madeCells ze.cells (c0.toNat * ie.size)=((List.replicate l0.toNat ze.cells.toList).flatten++(List.replicate (c0.toNat - l0.toNat) ze.cells.toList).flatten).toArray:=by
  have hm:=madeCells_rep ze.cells.toList hz0 c0.toNat;rw[hzero,Array.toArray_toList] at hm;rw[<-List.flatten_append,List.replicate_append_replicate,show l0.toNat+(c0.toNat - l0.toNat)=c0.toNat by omega,<-hm]
 have hr:=run_make (P:=P) w t e ie ze hut k1 k3 kl kc l0 c0 q1 q2 q3 q4;rw[hcells] at hr;have hlen:∀x∈List.replicate l0.toNat zs,x.length=ie.size:=fun x hx=>by
  have:=List.eq_of_mem_replicate hx;subst this;rw[<-(zeroTs_ok (S:=S) (w:=w) hzs).length,hzero]
 have hfin:=newRow_done (i:=i) (dst:=dst) (e:=e) (cap:=c0.toNat) (k:=ie.size) (els:=List.replicate l0.toNat zs) (rest:=(List.replicate (c0.toNat - l0.toNat) ze.cells.toList).flatten) h' (by simp) (h.fresh hi) hlen
  (repl_ok (zeroTs_ok hzs) l0.toNat) (by rw[List.length_replicate];omega) (by
   have hsz:((List.replicate l0.toNat ze.cells.toList).flatten++(List.replicate (c0.toNat - l0.toNat) ze.cells.toList).flatten).length=c0.toNat * ie.size:=by
    have:=congrArg Array.size hcells;rw[size_madeCells] at this;simpa using this.symm
   rw[List.length_append] at hsz;omega)
 rw[List.length_replicate] at hfin;refine ⟨_,.slice (some ⟨w.heap.size,0,none⟩) l0.toNat c0.toNat,_,?_,.inl rfl,hfin⟩;simp only[execOp,e1,e2,Sem.run_bind,hr,Result.andThen]
 rfl
end
end Go.Av
