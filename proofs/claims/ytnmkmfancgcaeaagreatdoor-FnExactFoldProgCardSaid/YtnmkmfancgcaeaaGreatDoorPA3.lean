/- Part PA3 of the proof: Avs, part 13: what is ones own is taken along boxes are written and made. / Avs, part 14: a box is written a box is made what is ones own is let go to be shared. / Avs, part 15: a box is made what is ones own is let go to be shared elements are written. / Avs, part 16: operations that turn more than the slot that they write. / Avs, part 17: stores. -/
import Derived.Test.YtnmkmfancgcaeaaGreatDoorPA2
set_option linter.all false
/- Avs, part 13: what is one's own is taken along; boxes are written and made. -/
namespace Go.Av
def tkC (mv:Root->Nat->Bool) (g:zV0):List A->AS->List A×AS
 | [],σ=>([],σ)
 | c::cs,σ=>
  match c with
  | .sref r x g0 lo len=>
   if mv r x then
    match σ.ad? r x g0 with
    | some (d,k,els)=>((.ow g d k ((els.drop lo).take len))::(tkC mv g cs (σ.setCell r x .dead)).1,(tkC mv g cs (σ.setCell r x .dead)).2)
    | none=>(.dead::(tkC mv g cs σ).1,(tkC mv g cs σ).2)
   else (c::(tkC mv g cs σ).1,(tkC mv g cs σ).2)
  | _=>(c::(tkC mv g cs σ).1,(tkC mv g cs σ).2)
section
variable {P:Program} {C:Ctx} {X:List Nat} {σ:AS} {a:Act} {w:World} {S L:Nat->Prop} {bl O1 O2:List Nat}
theorem Fresh.setDead {g:zV0} {r:Root} {x:Nat} {c:A} (hc:c.rstamp=none) (h:Fresh σ g):Fresh (σ.setCell r x c) g:=by
 obtain ⟨h1,h2⟩:=h;cases r with
 | slot t=>
  refine ⟨fun av hav y hy=>?_,h2⟩;simp only[AS.setCell] at hav;rw[List.mem_iff_getElem?] at hav;obtain ⟨j,hj⟩:=hav;rw[List.getElem?_modify] at hj;cases hs:σ.slots[j]? with
  | none=>simp[hs] at hj
  | some av0=>
   simp[hs] at hj;have hm:=h1 av0 (List.mem_of_getElem? hs)
   split at hj
   ·subst hj
    rcases List.mem_or_eq_of_mem_set hy with hy | rfl
    ·exact hm y hy
    ·exact .inl hc
   ·subst hj;exact hm y hy
 | box t=>
  refine ⟨h1,fun cs hcs y hy=>?_⟩;simp only[AS.setCell] at hcs;rw[List.mem_iff_getElem?] at hcs;obtain ⟨j,hj⟩:=hcs;rw[List.getElem?_modify] at hj;cases hs:σ.boxes[j]? with
  | none=>simp[hs] at hj
  | some o=>
   simp[hs] at hj
   split at hj
   ·cases o with
    | none=>simp at hj
    | some cs0=>
     simp at hj;subst hj;have hm:=h2 cs0 (List.mem_of_getElem? hs);rcases List.mem_or_eq_of_mem_set hy with hy | rfl
     ·exact hm y hy
     ·exact .inl hc
   ·subst hj;exact h2 cs (List.mem_of_getElem? hs) y hy
theorem gB0 {r:Root} {x:Nat} {c0:A} (hc:σ.cell r x=some c0):Env.Le none ⟨S,L,bl,a,w,σ.cell⟩ ⟨S,L,bl,a,w,(σ.setCell r x .dead).cell⟩:=by
 refine ⟨fun _ h=>h,fun _ h=>h,fun _ _=>rfl,fun _ _ h=>h,fun r' c' g d k els' _ he=>?_⟩;simp only at he
 by_cases h:r'=r/\c'=x
 ·obtain ⟨rfl,rfl⟩:=h
  rw[wW0 hc] at he;simp at he
 ·have h':r'≠r\/c'≠x:=by
   by_cases hr:r'=r
   ·exact .inr fun e=>h ⟨hr,e⟩
   ·exact .inl hr
  rw[wV0 h'] at he;exact ⟨d,els',he,rfl,fun y hy=>by cases r'<;>exact hy⟩
theorem yL0 {r:Root} {x:Nat} {c:A}:(σ.setCell r x c).epoch=σ.epoch:=by cases r<;>rfl
theorem RepLE.takeDrop {S:Nat->Prop} {w:World} {b k:Nat} {o:Nat} {es:List (List T)} {own:List Nat} (h:RepLE S w b o es own) (hk:∀e∈es,e.length=k) (l n:Nat) (hl:l<=es.length):∃own',RepLE S w b (o+l * k) ((es.drop l).take n) own'/\own'.Sublist own:=by
 rw[<-List.take_append_drop l es] at h;obtain ⟨o1,o2,rfl,_,h2⟩:=RepLE.append.1 h;rw[zC0 (fun e he=>hk e (List.mem_of_mem_take he)),List.length_take,Nat.min_eq_left hl] at h2;rw[<-List.take_append_drop n (es.drop l)] at h2;obtain ⟨p1,p2,rfl,h3,_⟩:=RepLE.append.1 h2;exact ⟨p1,h3,(List.sublist_append_left p1 p2).trans (List.sublist_append_right o1 _)⟩
theorem RepO.sub {w:World} {d:Bool} {k:Nat} {els:List (List T)} {ad x:Option Addr} {cap lo len:Nat} {own:List Nat} (h:RepO S w d k els (.slice ad els.length cap) own) (hl:lo+len<=els.length) (hx:zL1 ad lo k cap x) :
  ∃own',RepO S w d k ((els.drop lo).take len) (.slice x len (cap - lo)) own'/\own'.Sublist own:=by
 have hlen:((els.drop lo).take len).length=len:=by simp;omega
 cases d
 ·obtain ⟨ad',cap',e1,e2,e3,e4⟩:=h
  simp at e1;obtain ⟨rfl,rfl⟩:=e1;have hall:∀e∈(els.drop lo).take len,e.length=k:=fun e he=>e3 e (List.mem_of_mem_drop (List.mem_of_mem_take he))
  by_cases hcl:cap=lo
  ·have hl0:len=0:=by omega
   subst hl0;exact ⟨[],⟨x,cap - lo,by rw[hlen],by omega,hall,.inl ⟨rfl,by simp,by omega⟩⟩,List.nil_sublist _⟩
  ·rcases e4 with ⟨rfl,rfl,rfl⟩ | ⟨b,o,arr,ty,fz,rfl,rfl,g3,g4,g5,g6⟩
   ·simp at hl;omega
   ·have hx':=hx (by omega)
    simp[yE0] at hx';subst hx';have hmul:lo * k+(cap - lo) * k=cap * k:=by rw[<-Nat.add_mul];congr 1;omega
    refine ⟨[b],⟨_,cap - lo,by rw[hlen],by omega,hall,.inr ⟨b,o+lo * k,arr,ty,fz,rfl,rfl,g3,by omega,fun y hy hy'=>g5 y (by omega) (by omega),g6.takeDrop e3 lo len⟩⟩,List.Sublist.refl _⟩
 ·obtain ⟨ad',cap',e1,e2,e3,e4⟩:=h
  simp at e1;obtain ⟨rfl,rfl⟩:=e1;have hall:∀e∈(els.drop lo).take len,e.length=k:=fun e he=>e3 e (List.mem_of_mem_drop (List.mem_of_mem_take he))
  by_cases hcl:cap=lo
  ·have hl0:len=0:=by omega
   subst hl0;exact ⟨[],⟨x,cap - lo,by rw[hlen],by omega,hall,.inl ⟨rfl,by simp,by omega⟩⟩,List.nil_sublist _⟩
  ·rcases e4 with ⟨rfl,rfl,rfl⟩ | ⟨b,o,arr,ty,fz,n,rfl,rfl,g3,g4,g5,g6⟩
   ·simp at hl;omega
   ·have hx':=hx (by omega)
    simp[yE0] at hx';subst hx';have hmul:lo * k+(cap - lo) * k=cap * k:=by rw[<-Nat.add_mul];congr 1;omega
    obtain ⟨n',q1,q2⟩:=g6.takeDrop e3 lo len (by omega)
    refine ⟨b::n',⟨_,cap - lo,by rw[hlen],by omega,hall,.inr ⟨b,o+lo * k,arr,ty,fz,n',rfl,rfl,g3,by omega,fun y hy hy'=>g5 y (by omega) (by omega),q1⟩⟩,q2.cons_cons b⟩
theorem Env.Le.trans {E E' E'':Env} (h:Env.Le none E E') (h':Env.Le none E' E''):Env.Le none E E'':=by
 refine ⟨fun b hb=>h'.S b (h.S b hb),fun b hb=>h'.L b (h.L b hb),fun b hb=>(h'.heap b (hb.imp (h.S b) (h.L b))).trans (h.heap b hb),fun i blk hi=>h'.bl i blk (h.bl i blk hi),fun r c g d k els' hg he=>?_⟩;obtain ⟨d1,els1,a1,a2,a3⟩:=h'.head r c g d k els' hg he;obtain ⟨d2,els2,b1,b2,b3⟩:=h.head r c g d1 k els1 hg a1;exact ⟨d2,els2,b1,b2.trans a2,fun x hx=>a3 x (b3 x hx)⟩
theorem Env.Le.rfl' {E:Env}:Env.Le none E E:=⟨fun _ h=>h,fun _ h=>h,fun _ _=>rfl,fun _ _ h=>h,fun _ _ _ d _ els' _ he=>⟨d,els',he,rfl,fun _ h=>h⟩⟩
def Took (C:Ctx) (X:List Nat) (a:Act) (w:World) (S L:Nat->Prop) (bl O1 O2:List Nat) (i:Nat) (us:List Value) (σ:AS) (cs':List A) (σ':AS):Prop:=
 ∃O1' O2' o',InvAt C X σ' a w S L bl O1' O2'/\RpA ⟨S,L,bl,a,w,σ'.cell⟩ cs' us o'/\o'.Nodup/\
  (∀b∈o',b∉O1'++O2'/\¬L b/\(b∈C.O0\/C.w0.heap.size<=b))/\(∀c∈cs',stampIn X σ.epoch c)/\
  zE0 (some (σ.epoch,i)) cs'/\(∀g d k els,A.ow g d k els∈cs'->g=(σ.epoch,i))/\
  Fresh σ' (σ.epoch,i)/\σ'.epoch=σ.epoch/\(∀b,b∈O1'++O2'->b∈O1++O2)/\(∀b∈o',b∈O1++O2)/\
  Env.Le none ⟨S,L,bl,a,w,σ.cell⟩ ⟨S,L,bl,a,w,σ'.cell⟩/\σ'.boxes.length=σ.boxes.length/\σ'.slots.length=σ.slots.length
theorem boxes_setCell {r:Root} {x:Nat} {c:A}:(σ.setCell r x c).boxes.length=σ.boxes.length/\(σ.setCell r x c).slots.length=σ.slots.length:=by
 cases r<;>simp[AS.setCell]
theorem Took.plain {i:Nat} {us:List Value} {cs':List A} {σ':AS} {c d:A} {u:Value} (h:Took C X a w S L bl O1 O2 i us σ cs' σ') (hr:RepA ⟨S,L,bl,a,w,σ.cell⟩ c u [])
  (hst:stampIn X σ.epoch c) (hne:c.rstamp=none\/c.rstamp≠some (σ.epoch,i)) (hno:∀g e k els,c≠.ow g e k els) (hd:d=c\/d=.dead):Took C X a w S L bl O1 O2 i (u::us) σ (d::cs') σ':=by
 obtain ⟨O1',O2',o',g1,g2,g3,g4,g5,g6,g7,g8,g9,g10,g11,g12,g13,g14⟩:=h;refine ⟨O1',O2',o',g1,⟨u,us,[],o',rfl,rfl,?_,g2⟩,g3,g4,fun x hx=>?_,fun x hx=>?_,fun g e k els hx=>?_,g8,g9,g10,g11,g12,g13,g14⟩
 ·rcases hd with rfl | rfl
  ·exact RepA.go g12 (fun _ hb=>by simp at hb) (by cases d.rstamp<;>simp) hr
  ·exact ⟨rfl,RepA.oneC hr⟩
 ·rcases List.mem_cons.1 hx with rfl | hx
  ·rcases hd with rfl | rfl
   ·exact hst
   ·intro g hg;simp[A.stamp] at hg
  ·exact g5 x hx
 ·rcases List.mem_cons.1 hx with rfl | hx
  ·rcases hd with rfl | rfl
   ·exact hne
   ·exact .inl rfl
  ·exact g6 x hx
 ·rcases List.mem_cons.1 hx with hx | hx
  ·rcases hd with rfl | rfl
   ·exact absurd hx.symm (hno g e k els)
   ·simp at hx
  ·exact g7 g e k els hx
theorem yF0 (mv:Root->Nat->Bool) {i:Nat}:∀{cs:List A} {us:List Value} {σ:AS} {O1 O2:List Nat},InvAt C X σ a w S L bl O1 O2->i∈X->Fresh σ (σ.epoch,i)->
  RpA ⟨S,L,bl,a,w,σ.cell⟩ cs us []->(∀c∈cs,stampIn X σ.epoch c)->zE0 (some (σ.epoch,i)) cs->(∀g d k els,A.ow g d k els∉cs)->
  Took C X a w S L bl O1 O2 i us σ (tkC mv (σ.epoch,i) cs σ).1 (tkC mv (σ.epoch,i) cs σ).2
 | [],us,σ,O1,O2,h,hi,hf,hr,_,_,_=>⟨O1,O2,[],h,hr,List.nodup_nil,by simp,by simp[tkC],fun c hc=>by simp[tkC] at hc,by simp[tkC],hf,rfl,fun _ h=>h,by simp,.rfl',rfl,rfl⟩
 | c::cs,us,σ,O1,O2,h,hi,hf,hr,hst,hne,hno=>by
  obtain ⟨u,us',o1,o2,rfl,ho,h3,h4⟩:=hr;simp at ho;obtain ⟨rfl,rfl⟩:=ho;have hst':∀x∈cs,stampIn X σ.epoch x:=fun x hx=>hst x (List.mem_cons_of_mem _ hx);have hne':zE0 (some (σ.epoch,i)) cs:=fun x hx=>hne x (List.mem_cons_of_mem _ hx);have hno':∀g d k els,A.ow g d k els∉cs:=fun g d k els hx=>hno g d k els (List.mem_cons_of_mem _ hx);have hc0:=hst c (List.mem_cons_self);have hc1:=hne c (List.mem_cons_self)
  have hc2:∀g d k els,c≠.ow g d k els:=fun g d k els e=>hno g d k els (e ▸ List.mem_cons_self);have plain:=fun d hd=>(yF0 mv h hi hf h4 hst' hne' hno').plain (d:=d) h3 hc0 hc1 hc2 hd;cases c with
  | sref r x g0 lo len=>
   simp only[tkC]
   split
   ·cases hat:σ.ad? r x g0 with
    | none=>exact plain .dead (.inr rfl)
    | some p=>
     obtain ⟨d,k,els⟩:=p;have hcell:=AS.ad?_some hat;obtain ⟨hlo,ad,cap,xx,e1,e2,e3⟩:=h3.2.2 d k els hcell;obtain ⟨u0,o,k1,(k2:RepA _ (.ow g0 d k els) _ _),k3,k4,k5⟩:=h.recell hcell hf;rw[e1] at k1;simp at k1;subst k1;obtain ⟨O1a,O2a,ha,hmem⟩:=k5 S L w .dead [] (fun _ h=>h) (fun _ h=>h) h.sl (fun b hb=>.inl hb) (fun b hb=>.inl hb) (by simp) (.inr rfl) (fun _ _ _=>rfl) h.keeps (Nat.le_refl _) ⟨rfl,RepA.oneC k2⟩
      (fun g hg=>by simp[A.stamp] at hg) (fun g d k els' he=>by simp at he)
     have hle:=gB0 (S:=S) (L:=L) (bl:=bl) (a:=a) (w:=w) hcell;have hep:(σ.setCell r x .dead).epoch=σ.epoch:=yL0;have ih:=yF0 mv (i:=i) (cs:=cs) (us:=us') ha hi (by rw[hep];exact hf.setDead rfl)
      (RpA.go hle (fun _ _=>rfl) (fun y _=>by cases y.rstamp<;>simp) h4) (by rw[hep];exact hst') (by rw[hep];exact hne') hno'
     unfold Took at ih;rw[hep] at ih;obtain ⟨O1',O2',o',g1,g2,g3,g4,g5,g6,g7,g8,g9,g10,g11,g12,g13,g14⟩:=ih;obtain ⟨own',s1,s2⟩:=RepO.sub k2 hlo e3;have hown:∀b∈own',b∈o:=fun b hb=>s2.subset hb;have hsub:∀b,b∈O1'++O2'->b∈O1++O2/\b∉o:=fun b hb=>by
      have:=(hmem b).1 (g10 b hb);simpa using this
     have hsub':∀b∈o',b∈O1++O2/\b∉o:=fun b hb=>by
      have:=(hmem b).1 (g11 b hb);simpa using this
     subst e2;refine ⟨O1',O2',own'++o',g1,⟨_,us',own',o',rfl,rfl,s1,g2⟩,?_,?_,?_,?_,?_,g8,g9,fun b hb=>(hsub b hb).1,?_,hle.trans g12,?_,?_⟩
     ·refine List.nodup_append.2 ⟨?_,g3,fun x hx y hy he=>(hsub' y hy).2 (he ▸ hown x hx)⟩
      exact k3.sublist s2
     ·intro b hb
      rcases List.mem_append.1 hb with hb | hb
      ·have hbo:=hown b hb
       exact ⟨fun hx=>(hsub b hx).2 hbo,fun hS=>(h.stable b hS).2 (k4 b hbo),h.own b (k4 b hbo)⟩
      ·exact g4 b hb
     ·intro y hy
      rcases List.mem_cons.1 hy with rfl | hy
      ·intro g hg;simp only[A.stamp,Option.some.injEq] at hg;subst hg;exact .inr ⟨rfl,hi⟩
      ·exact g5 y hy
     ·intro y hy
      rcases List.mem_cons.1 hy with rfl | hy
      ·exact .inl rfl
      ·exact g6 y hy
     ·intro g e' k' els' hy
      rcases List.mem_cons.1 hy with hy | hy
      ·simp at hy;exact hy.1
      ·exact g7 g e' k' els' hy
     ·intro b hb
      rcases List.mem_append.1 hb with hb | hb
      ·exact k4 b (hown b hb)
      ·exact (hsub' b hb).1
     ·exact g13.trans boxes_setCell.1
     ·exact g14.trans boxes_setCell.2
   ·exact plain _ (.inl rfl)
  | _=>exact plain _ (.inl rfl)
end
end Go.Av
/- Avs, part 14: a box is written; a box is made; what is one's own is let go to be shared. -/
namespace Go.Av
def AS.setBox (σ:AS) (b:Nat) (cs:List A):AS:={ σ with boxes:=σ.boxes.set b (some cs) }
section
variable {P:Program} {C:Ctx} {X:List Nat} {σ:AS} {a:Act} {w:World} {S L:Nat->Prop} {bl O1 O2:List Nat}
theorem setRow_other (w:World) (g b:Nat) (cs:Array Value) (h:b≠g):(w.setRow g cs).heap[b]?=w.heap[b]?:=by
 simp only[World.setRow,Array.getElem?_modify];rw[if_neg (by omega)]
theorem setRow_size (w:World) (g:Nat) (cs:Array Value):(w.setRow g cs).heap.size=w.heap.size:=by simp[World.setRow]
theorem Keeps.setRow {O:List Nat} {w0 w:World} {g:Nat} {cs:Array Value} (h:Keeps O w0 w) (hg:g∈O\/w0.heap.size<=g):Keeps O w0 (w.setRow g cs):=
 ⟨h.os,h.tape,h.output,by rw[setRow_size];exact h.size,fun b hb hn=>by
  rw[setRow_other _ _ _ _ (by rintro rfl;rcases hg with hg | hg;exact hn hg;omega)]
  exact h.block b hb hn⟩
theorem InvAt.blk_lt (h:InvAt C X σ a w S L bl O1 O2) {b blk:Nat} {cs:List A} (hb:σ.boxes[b]?=some (some cs)) (hk:bl[b]?=some blk):blk < w.heap.size:=by
 obtain ⟨blk',p,o,q,g1,g2,⟨o2,arr,ty,g3,g4,g5⟩,_⟩:=RpB.split b _ h.boxes hb;rw[hk] at g1;simp at g1;subst g1;exact (Array.getElem?_eq_some_iff.1 g4).1
theorem InvAt.boxput (h:InvAt C X σ a w S L bl O1 O2) {b off i:Nat} {cs0 cs':List A} {us:List Value} {o':List Nat} (hb:σ.boxes[b]?=some (some cs0)) (hf:Fresh σ (σ.epoch,i))
  (hr:RpA ⟨S,L,bl,a,w,σ.cell⟩ cs' us o') (hl:off+cs'.length<=cs0.length) (hne:zE0 (some (σ.epoch,i)) cs') (hst:∀c∈cs',stampIn X σ.epoch c)
  (hgn:∀g d k els,A.ow g d k els∈cs'->g=(σ.epoch,i)) (hn:o'.Nodup) (ho:∀b∈o',b∉O1++O2/\¬L b/\(b∈C.O0\/C.w0.heap.size<=b)) :
  ∃blk arr ty O2',bl[b]?=some blk/\w.heap[blk]?=some (.cells arr ty (0,0))/\arr.size=cs0.length/\
   InvAt C X (σ.setBox b (splice cs0 off cs')) a (w.setRow blk (splice arr.toList off us).toArray) S L bl O1 O2':=by
 obtain ⟨blk,p,o,q,g1,g2,g3,g5,g4⟩:=RpB.reput h.boxes hb;obtain ⟨oi,arr,ty,b1,b2,r1⟩:=g3;have hlen:=RpA.length r1;have hlen':=RpA.length hr;simp only at b2 r1;have hnd:=h.nodup;have hblkO:blk∈O1++O2:=by simp[g2,b1]
 have hother:∀x,(L x\/x∈O1++p++oi++q\/x∈o')->(w.setRow blk (splice arr.toList off us).toArray).heap[x]?=w.heap[x]?:=by
  intro x hx;refine setRow_other _ _ _ _ ?_;rintro rfl;rcases hx with hx | hx | hx
  ·exact (h.stable _ hx).2 hblkO
  ·subst g2;subst b1
   simp only[List.append_assoc,List.nodup_append,List.mem_append,List.cons_append,List.nodup_cons,List.mem_cons] at hnd hx;obtain ⟨n1,⟨n2,⟨n3,n4⟩,n5⟩,n6⟩:=hnd;rcases hx with hx | hx | hx
   ·exact n6 _ hx _ (.inr (.inl rfl)) rfl
   ·exact n5 _ hx _ (.inl rfl) rfl
   ·exact n3 hx
  ·exact (ho _ hx).1 hblkO
 have hcellb:∀c,(σ.setBox b (splice cs0 off cs')).cell (.box b) c=(splice cs0 off cs')[c]?:=by
  intro c;have hlt:=(List.getElem?_eq_some_iff.1 hb).1;simp[AS.cell,AS.setBox,List.getElem?_set_self hlt]
 have hcello:∀r c,r≠.box b->(σ.setBox b (splice cs0 off cs')).cell r c=σ.cell r c:=by
  intro r c hr;cases r with
  | slot t=>rfl
  | box b'=>
   have:b≠b':=fun e=>hr (by rw[e])
   simp[AS.cell,AS.setBox,List.getElem?_set_ne this]
 have hE:Env.Le (some (σ.epoch,i)) ⟨S,L,bl,a,w,σ.cell⟩ ⟨S,L,bl,a,w.setRow blk (splice arr.toList off us).toArray,(σ.setBox b (splice cs0 off cs')).cell⟩:=by
  refine ⟨fun _ h=>h,fun _ h=>h,fun x hx=>hother x (.inl (hx.elim (h.sl x) id)),fun _ _ h=>h,fun r c g d k els' hg he=>?_⟩;simp only at he
  by_cases hrb:r=.box b
  ·subst hrb
   rw[hcellb,xV0 hl] at he
   split at he
   ·exact absurd (congrArg some (hgn g d k els' (List.mem_of_getElem? he))) hg
   ·rename_i hout
    refine ⟨d,els',by simp[AS.cell,hb,he],rfl,fun x hx=>?_⟩
    simp only[Env.cv,g1,Option.bind_some,World.cell?,b2,setRow_heap w blk arr _ ty (0,0) b2] at hx |-;simp only[Option.isSome_none,Bool.false_eq_true,if_false] at hx |-;rw[<-Array.getElem?_toList] at hx |-;rw[xV0 (by simp at hlen;rw[hlen'];simpa [hlen] using hl),if_neg (by rw[hlen'];exact hout)]
    exact hx
  ·rw[hcello r c hrb] at he
   refine ⟨d,els',he,rfl,fun x hx=>?_⟩;cases r with
   | slot t=>exact hx
   | box b'=>
    simp only[Env.cv] at hx |-;simp only[AS.cell] at he;cases hb':σ.boxes[b']? with
    | none=>simp[hb'] at he
    | some y=>
     cases y with
     | none=>simp[hb'] at he
     | some cs=>
      have hbb:b'≠b:=fun e=>hrb (by rw[e])
      cases hbl:bl[b']? with
      | none=>simp[hbl] at hx
      | some blk'=>
       simp only[hbl,Option.bind_some] at hx |-;have hm:=g5 b' blk' cs hbb hb' hbl;rw[cell?_congr (hother blk' (.inr (.inl (by simp only[List.mem_append] at hm |-;rcases hm with hm | hm<;>simp[hm]))))]
       exact hx
 have hneS:∀y∈σ.slots,zE0 (some (σ.epoch,i)) y.cs:=hf.1;have hneB:∀(y:Option (List A)) (ys:List A),y∈σ.boxes->y=some ys->zE0 (some (σ.epoch,i)) ys:=fun y ys hy he=>hf.2 ys (he ▸ hy);have hsp:cs0=(cs0.take off)++((cs0.drop off).take cs'.length++cs0.drop (off+cs'.length)):=by
  rw[<-List.drop_drop,List.take_append_drop,List.take_append_drop]
 have r1':=r1;rw[hsp] at r1';obtain ⟨u1,u23,o1,o23,e1,e2,ra,rb⟩:=RpA.append_iff.1 r1';obtain ⟨u2,u3,o2,o3,e3,e4,rc,rd⟩:=RpA.append_iff.1 rb;have hu1:u1=arr.toList.take off:=by
  have hl1:=RpA.length ra;have hl1':u1.length=off:=by rw[hl1,List.length_take];omega
  rw[e1,<-hl1',List.take_left']
  rfl
 have hu3:u3=arr.toList.drop (off+us.length):=by
  have hl1:=RpA.length ra;have hl2:=RpA.length rc;rw[e1,e3,<-List.append_assoc,List.drop_append_of_le_length]
  ·rw[List.drop_of_length_le,List.nil_append]
   simp[hl1,hl2];omega
  ·simp[hl1,hl2]
   omega
 have hneC0:=hneB _ cs0 (List.mem_of_getElem? hb) rfl;have hmemoi:∀x,x∈oi↔x∈o1\/x∈o2\/x∈o3:=by intro x;rw[e2,e4];simp
 have hsp2:splice arr.toList off us=u1++us++u3:=by rw[hu1,hu3];rfl
 have t0:∀x,x=u1++us++u3->RpA ⟨S,L,bl,a,w.setRow blk (splice arr.toList off us).toArray,(σ.setBox b (splice cs0 off cs')).cell⟩ (cs0.take off++cs'++cs0.drop (off+cs'.length)) x (o1++o'++o3):=by
  rintro _ rfl;refine RpA.append_iff.2 ⟨u1++us,u3,o1++o',o3,rfl,rfl,RpA.append_iff.2 ⟨_,_,_,_,rfl,rfl,?_,?_⟩,?_⟩
  ·exact RpA.go hE (fun x hx=>hother x (.inr (.inl (by simp[(hmemoi x).2 (.inl hx)])))) (fun y hy=>hneC0 y (List.mem_of_mem_take hy)) ra
  ·exact RpA.go hE (fun x hx=>hother x (.inr (.inr hx))) hne hr
  ·exact RpA.go hE (fun x hx=>hother x (.inr (.inl (by simp[(hmemoi x).2 (.inr (.inr hx))])))) (fun y hy=>hneC0 y (List.mem_of_mem_drop hy)) rd
 have t2:=g4 _ _ hE hneB (some (splice cs0 off cs')) (blk::(o1++o'++o3)) (fun x hx=>hother x (.inr (.inl (by simp only[List.mem_append] at hx |-;rcases hx with hx | hx<;>simp[hx]))))
  ⟨_,(splice arr.toList off us).toArray,ty,rfl,setRow_heap w blk arr _ ty (0,0) b2,t0 _ hsp2⟩
 have t3:=RpS.go hE (fun x hx=>hother x (.inr (.inl (by simp[hx])))) hneS h.slots
 refine ⟨blk,arr,ty,p++(blk::(o1++o'++o3))++q,g1,b2,by simpa using hlen,⟨h.defers,t3,t2,?_,h.sl,?_,h.s0,h.keeps.setRow (h.own blk hblkO),?_,h.pre,h.stS,?_⟩⟩
 ·have hnd1:((O1++p++[blk]++o1)++(o2++o3)++q).Nodup:=by
   rw[g2,b1,e2,e4] at hnd;simpa using hnd
  have hnd2:((O1++p++[blk]++o1)++o3++q).Nodup:=by
   have hs:List.Sublist ((O1++p++[blk]++o1)++o3++q) ((O1++p++[blk]++o1)++(o2++o3)++q):=
    List.Sublist.append (List.Sublist.append (List.Sublist.refl _) (List.sublist_append_right _ _)) (List.Sublist.refl _)
   exact hnd1.sublist hs
  have hdis:∀x∈o',x∉(O1++p++[blk]++o1)++o3++q:=by
   intro x hx hm;apply (ho x hx).1;rw[g2,b1,e2,e4];simp only[List.mem_append,List.mem_cons,List.not_mem_nil,or_false] at hm |-;rcases hm with ((((hm | hm) | hm) | hm) | hm) | hm<;>simp[hm]
  have e:O1++(p++(blk::(o1++o'++o3))++q)=(O1++p++[blk]++o1)++o'++(o3++q):=by simp
  rw[e,List.append_assoc,List.nodup_append];rw[List.append_assoc,List.nodup_append] at hnd2;refine ⟨hnd2.1,List.nodup_append.2 ⟨hn,hnd2.2.1,fun x hx y hy he=>hdis x hx (by rw[he];simp only[List.mem_append] at hy |-;rcases hy with hy | hy<;>simp[hy])⟩,fun x hx y hy he=>?_⟩
  rcases List.mem_append.1 hy with hy | hy
  ·exact hdis y hy (by rw[<-he];simp only[List.mem_append] at hx |-;rcases hx with ((hx | hx) | hx) | hx<;>simp[hx])
  ·exact hnd2.2.2 x hx y hy he
 ·intro x hx
  refine ⟨by rw[setRow_size];exact (h.stable x hx).1,fun hm=>?_⟩
  have hso:=(h.stable x hx).2;rw[g2,b1,e2,e4] at hso;simp only[List.mem_append,List.mem_cons,not_or] at hm hso;rcases hm with hm|((hm | hm|((hm | hm) | hm)) | hm)
  ·exact hso.1 hm
  ·exact hso.2.1.1 hm
  ·exact hso.2.1.2.1 hm
  ·exact hso.2.1.2.2.1 hm
  ·exact (ho x hm).2.1 hx
  ·exact hso.2.1.2.2.2.2 hm
  ·exact hso.2.2 hm
 ·intro x hm
  simp only[List.mem_append,List.mem_cons] at hm;have hown:=h.own x;rw[g2,b1,e2,e4] at hown;simp only[List.mem_append,List.mem_cons] at hown;rcases hm with hm|((hm | hm|((hm | hm) | hm)) | hm)
  ·exact hown (.inl hm)
  ·exact hown (.inr (.inl (.inl hm)))
  ·exact hown (.inr (.inl (.inr (.inl hm))))
  ·exact hown (.inr (.inl (.inr (.inr (.inl hm)))))
  ·exact (ho x hm).2.2
  ·exact hown (.inr (.inl (.inr (.inr (.inr (.inr hm))))))
  ·exact hown (.inr (.inr hm))
 ·intro cs hcs c hc
  rcases List.mem_or_eq_of_mem_set hcs with hcs | hcs
  ·exact h.stB cs hcs c hc
  ·simp at hcs;subst hcs
   simp only[splice,List.mem_append] at hc;rcases hc with (hc | hc) | hc
   ·exact h.stB cs0 (List.mem_of_getElem? hb) c (List.mem_of_mem_take hc)
   ·exact hst c hc
   ·exact h.stB cs0 (List.mem_of_getElem? hb) c (List.mem_of_mem_drop hc)
end
end Go.Av
/- Avs, part 15: a box is made; what is one's own is let go to be shared; elements are written. -/
namespace Go.Av
def AS.addBox (σ:AS) (cs:List A):AS:={ σ with boxes:=σ.boxes++[some cs] }
section
variable {P:Program} {C:Ctx} {X:List Nat} {σ:AS} {a:Act} {w:World} {S L:Nat->Prop} {bl O1 O2:List Nat}
theorem zN0 (w:World) (o:Obj) (b:Nat) (h:b < w.heap.size):(w.alloc o).heap[b]?=w.heap[b]?:=Go.RowKit.Below.heap_alloc w o b h
theorem heap_alloc_new (w:World) (o:Obj):(w.alloc o).heap[w.heap.size]?=some o:=by
 show (w.heap.push o)[w.heap.size]?=some o
 simp
theorem Keeps.alloc {O:List Nat} {w0 w:World} (h:Keeps O w0 w) (o:Obj):Keeps O w0 (w.alloc o):=
 ⟨h.os,h.tape,h.output,by simp[World.size_alloc];exact Nat.le_succ_of_le h.size,fun b hb hn=>by rw[zN0 _ _ _ (Nat.lt_of_lt_of_le hb h.size)];exact h.block b hb hn⟩
theorem InvAt.own_lt (h:InvAt C X σ a w S L bl O1 O2) {b:Nat} (hb:b∈O1++O2):b < w.heap.size:=by
 have key1:∀{cs:List A} {us:List Value} {O:List Nat},RpA ⟨S,L,bl,a,w,σ.cell⟩ cs us O->∀b∈O,b < w.heap.size:=by
  intro cs
  induction cs with
  | nil=>intro us O h b hb;rw[h.2] at hb;simp at hb
  | cons c cs ih=>
   intro us O h b hb;obtain ⟨u,us',o1,o2,h1,rfl,h3,h4⟩:=h;rcases List.mem_append.1 hb with hb | hb
   ·exact RepA.own_lt h3 b hb
   ·exact ih h4 b hb
 have key2:∀{sl:List AV} {us:List Value} {O:List Nat},RpS ⟨S,L,bl,a,w,σ.cell⟩ sl us O->∀b∈O,b < w.heap.size:=by
  intro sl
  induction sl with
  | nil=>intro us O h b hb;rw[h.2] at hb;simp at hb
  | cons c cs ih=>
   intro us O h b hb;obtain ⟨u,us',o1,o2,h1,rfl,h3,h4⟩:=h;rcases List.mem_append.1 hb with hb | hb
   ·obtain ⟨sh,cs0⟩:=c
    cases sh with
    | any=>rw[h3.2] at hb;simp at hb
    | one=>exact key1 h3.2 b hb
    | agg=>exact key1 h3.2 b hb
    | tup ns=>exact key1 h3.2 b hb
   ·exact ih h4 b hb
 have key3:∀{bx:List (Option (List A))} {bs O:List Nat},RpB ⟨S,L,bl,a,w,σ.cell⟩ bx bs O->∀b∈O,b < w.heap.size:=by
  intro bx
  induction bx with
  | nil=>intro us O h b hb;rw[h.2] at hb;simp at hb
  | cons c cs ih=>
   intro us O h b hb;obtain ⟨u,us',o1,o2,h1,rfl,h3,h4⟩:=h;rcases List.mem_append.1 hb with hb | hb
   ·cases c with
    | none=>rw[h3] at hb;simp at hb
    | some cs0=>
     obtain ⟨o,arr,ty,rfl,e,hr⟩:=h3;rcases List.mem_cons.1 hb with rfl | hb
     ·exact (Array.getElem?_eq_some_iff.1 e).1
     ·exact key1 hr b hb
   ·exact ih h4 b hb
 rcases List.mem_append.1 hb with hb | hb
 ·exact key2 h.slots b hb
 ·exact key3 h.boxes b hb
theorem InvAt.newbox (h:InvAt C X σ a w S L bl O1 O2) {i:Nat} {cs':List A} {us:List Value} {o':List Nat} (t:TypeId) (hf:Fresh σ (σ.epoch,i))
  (hr:RpA ⟨S,L,bl,a,w,σ.cell⟩ cs' us o') (hne:zE0 (some (σ.epoch,i)) cs') (hst:∀c∈cs',stampIn X σ.epoch c)
  (hgn:∀g d k els,A.ow g d k els∈cs'->g=(σ.epoch,i)) (hn:o'.Nodup) (ho:∀b∈o',b < w.heap.size/\b∉O1++O2/\¬L b/\(b∈C.O0\/C.w0.heap.size<=b)) :
  ∃O2',InvAt C X (σ.addBox cs') a (w.alloc (.cells us.toArray t)) S L (bl++[w.heap.size]) O1 O2':=by
 have hlb:=RpB.length h.boxes;have hsame:∀b,b < w.heap.size->(w.alloc (.cells us.toArray t)).heap[b]?=w.heap[b]?:=fun b hb=>zN0 _ _ _ hb;have hblp:∀(j blk:Nat),bl[j]?=some blk->(bl++[w.heap.size])[j]?=some blk:=fun j blk hj=>by
  rw[List.getElem?_append_left (List.getElem?_eq_some_iff.1 hj).1];exact hj
 have hE:Env.Le (some (σ.epoch,i)) ⟨S,L,bl,a,w,σ.cell⟩ ⟨S,L,bl++[w.heap.size],a,w.alloc (.cells us.toArray t),(σ.addBox cs').cell⟩:=by
  refine ⟨fun _ h=>h,fun _ h=>h,fun b hb=>hsame b (h.stable b (hb.elim (h.sl b) id)).1,hblp,fun r c g d k els' hg he=>?_⟩;simp only at he;cases r with
  | slot s=>exact ⟨d,els',he,rfl,fun x hx=>hx⟩
  | box b=>
   simp only[AS.cell,AS.addBox] at he |-
   by_cases hb:b < σ.boxes.length
   ·rw[List.getElem?_append_left hb] at he
    refine ⟨d,els',he,rfl,fun x hx=>?_⟩;simp only[Env.cv] at hx |-;cases hbl:bl[b]? with
    | none=>simp[hbl] at hx
    | some blk=>
     rw[hblp b blk hbl];simp only[hbl,Option.bind_some] at hx |-;cases hb':σ.boxes[b]? with
     | none=>simp[hb'] at he
     | some y=>
      cases y with
      | none=>simp[hb'] at he
      | some cs=>rw[cell?_congr (hsame blk (h.blk_lt hb' hbl))];exact hx
   ·by_cases hb2:b=σ.boxes.length
    ·subst hb2
     simp at he;exact absurd (congrArg some (hgn g d k els' (List.mem_of_getElem? he))) hg
    ·rw[List.getElem?_eq_none (by simp;omega)] at he
     simp at he
 have hsO:∀b∈O1++O2,(w.alloc (.cells us.toArray t)).heap[b]?=w.heap[b]?:=fun b hb=>hsame b (h.own_lt hb);have t1:=RpS.go hE (fun b hb=>hsO b (by simp[hb])) hf.1 h.slots
 have t2:=RpB.go hE (fun b hb=>hsO b (by simp[hb])) (fun y ys hy he=>hf.2 ys (he ▸ hy)) h.boxes
 have t4:=RpA.go hE (fun b hb=>hsame b (ho b hb).1) hne hr;have t3:=RpB.append t2 (x:=some cs') (b:=w.heap.size) (o:=w.heap.size::o') ⟨o',us.toArray,t,rfl,heap_alloc_new _ _,by simpa using t4⟩
 refine ⟨O2++(w.heap.size::o'),h.defers,t1,t3,?_,h.sl,?_,h.s0,h.keeps.alloc _,?_,?_,h.stS,?_⟩
 ·have hnd:=h.nodup
  rw[<-List.append_assoc,List.nodup_append];refine ⟨hnd,List.nodup_cons.2 ⟨fun hm=>by have:=(ho _ hm).1;omega,hn⟩,fun x hx y hy he=>?_⟩
  subst he;rcases List.mem_cons.1 hy with rfl | hy
  ·have:=h.own_lt hx;omega
  ·exact (ho _ hy).2.1 hx
 ·intro b hb
  have hsb:=h.stable b hb;refine ⟨by simp;omega,fun hm=>?_⟩
  rw[<-List.append_assoc] at hm;rcases List.mem_append.1 hm with hm | hm
  ·exact hsb.2 hm
  ·rcases List.mem_cons.1 hm with rfl | hm
   ·omega
   ·exact (ho b hm).2.2.1 hb
 ·intro b hm
  rw[<-List.append_assoc] at hm;rcases List.mem_append.1 hm with hm | hm
  ·exact h.own b hm
  ·rcases List.mem_cons.1 hm with rfl | hm
   ·exact .inr h.keeps.size
   ·exact (ho b hm).2.2.2
 ·exact h.pre.trans (List.prefix_append _ _)
 ·intro cs hcs c hc
  simp only[AS.addBox,List.mem_append,List.mem_singleton,Option.some.injEq] at hcs;rcases hcs with hcs | rfl
  ·exact h.stB cs hcs c hc
  ·exact hst c hc
def RepTs (S:Nat->Prop) (w:World):List T->List Value->Prop
 | [],us=>us=[]
 | t::ts,us=>∃u us',us=u::us'/\RepS S w t u/\RepTs S w ts us'
theorem RepTs.mono {S S':Nat->Prop} {w w':World} (hS:∀b,S b->S' b) (hw:∀b,S b->w'.heap[b]?=w.heap[b]?):∀{ts:List T} {us:List Value},RepTs S w ts us->RepTs S' w' ts us
 | [],_,h=>h
 | t::ts,us,h=>by
  obtain ⟨u,us',rfl,h2,h3⟩:=h;exact ⟨u,us',rfl,RepS.mono hS hw _ _ h2,RepTs.mono hS hw h3⟩
theorem RepTs.length {S:Nat->Prop} {w:World}:∀{ts:List T} {us:List Value},RepTs S w ts us->us.length=ts.length
 | [],_,h=>by subst h;rfl
 | t::ts,us,h=>by obtain ⟨u,us',rfl,h2,h3⟩:=h;simp[RepTs.length h3]
theorem RepTs.get {S:Nat->Prop} {w:World}:∀{ts:List T} {us:List Value},RepTs S w ts us->∀(j:Nat) (t:T),ts[j]?=some t->∃u,us[j]?=some u/\RepS S w t u
 | [],_,h,j,t,hj=>by simp at hj
 | t::ts,us,h,j,x,hj=>by
  obtain ⟨u,us',rfl,h2,h3⟩:=h;cases j with
  | zero=>simp at hj;subst hj;exact ⟨u,rfl,h2⟩
  | succ j=>simp at hj;simpa using RepTs.get h3 j x hj
def fzC:List A->AS->Option (List T×AS)
 | [],σ=>some ([],σ)
 | .lit v::cs,σ=>(fzC cs σ).map fun r=>(.lit v::r.1,r.2)
 | .nil::cs,σ=>(fzC cs σ).map fun r=>(.sl []::r.1,r.2)
 | .ro true els::cs,σ=>(fzC cs σ).map fun r=>(.sl els::r.1,r.2)
 | .sref r x g lo len::cs,σ=>match σ.at? r x g with
  | some (_,els)=>(fzC cs (σ.setCell r x (.ro true els))).map fun y=>(.sl ((els.drop lo).take len)::y.1,y.2)
  | none=>none
 | _::_,_=>none
def xV1 (C:Ctx) (X:List Nat) (a:Act) (w:World) (S L:Nat->Prop) (bl O1 O2:List Nat) (i:Nat) (us:List Value) (σ:AS) (ts:List T) (σ':AS):Prop:=
 ∃S' L' O1' O2',InvAt C X σ' a w S' L' bl O1' O2'/\RepTs S' w ts us/\(∀b,S b->S' b)/\(∀b,L b->L' b)/\(∀b,b∈O1'++O2'->b∈O1++O2)/\Fresh σ' (σ.epoch,i)/\σ'.epoch=σ.epoch/\
  Env.Le none ⟨S,L,bl,a,w,σ.cell⟩ ⟨S',L',bl,a,w,σ'.cell⟩/\σ'.boxes.length=σ.boxes.length/\σ'.slots.length=σ.slots.length
theorem UZ0 {S' L':Nat->Prop} {r:Root} {x:Nat} {c0:A} {els:List (List T)} (hS:∀b,S b->S' b) (hL:∀b,L b->L' b) (hc:σ.cell r x=some c0):Env.Le none ⟨S,L,bl,a,w,σ.cell⟩ ⟨S',L',bl,a,w,(σ.setCell r x (.ro true els)).cell⟩:=by
 refine ⟨hS,hL,fun _ _=>rfl,fun _ _ h=>h,fun r' c' g d k els' _ he=>?_⟩;simp only at he
 by_cases h:r'=r/\c'=x
 ·obtain ⟨rfl,rfl⟩:=h
  rw[wW0 hc] at he;simp at he
 ·have h':r'≠r\/c'≠x:=by
   by_cases hr:r'=r
   ·exact .inr fun e=>h ⟨hr,e⟩
   ·exact .inl hr
  rw[wV0 h'] at he;exact ⟨d,els',he,rfl,fun y hy=>by cases r'<;>exact hy⟩
theorem RepO.toS {S S':Nat->Prop} {w:World} {k:Nat} {els:List (List T)} {u:Value} {own:List Nat} (hS:∀b,S b->S' b) (ho:∀b∈own,S' b) (h:RepO S w false k els u own):RepS S' w (.sl els) u:=by
 obtain ⟨ad,cap,e1,e2,e3,e4⟩:=h;simp only[RepS];refine ⟨ad,cap,e1,e2,fun hne=>?_⟩;rcases e4 with ⟨_,rfl,_⟩ | ⟨b,o,arr,ty,fz,rfl,rfl,g3,g4,g5,g6⟩
 ·exact absurd rfl hne
 ·exact ⟨b,o,rfl,ho b (by simp),RepSE.mono hS (fun _ _=>rfl) b rfl o els g6⟩
theorem RepO.toE {S S':Nat->Prop} {w:World} {k:Nat} {els:List (List T)} {u:Value} {own:List Nat} (hS:∀b,S b->S' b) (ho:∀b∈own,S' b) (h:RepO S w true k els u own):RepS S' w (.sl (erE els)) u:=by
 obtain ⟨ad,cap,e1,e2,e3,e4⟩:=h;simp only[RepS,pF0];refine ⟨ad,cap,e1,e2,fun hne=>?_⟩;rcases e4 with ⟨_,rfl,_⟩ | ⟨b,o,arr,ty,fz,n,rfl,rfl,g3,g4,g5,g6⟩
 ·exact absurd rfl hne
 ·exact ⟨b,o,rfl,ho b (by simp),RepLE.toS hS b o els n (fun x hx=>ho x (by simp[hx])) g6⟩
theorem RepO.toL {S:Nat->Prop} {w:World} {d:Bool} {k:Nat} {els:List (List T)} {u:Value} {own:List Nat} (h:RepO S w d k els u own):RepL S w (.own els) u own:=by
 simp only[RepL];cases d
 ·obtain ⟨ad,cap,e1,e2,e3,e4⟩:=h
  refine ⟨ad,cap,e1,e2,e4.imp (fun h=>⟨h.2.1,h.1⟩) ?_⟩;rintro ⟨b,o,arr,ty,fz,rfl,rfl,g3,g4,g5,g6⟩;refine ⟨b,o,arr,ty,fz,[],rfl,rfl,g3,fun x hx hx'=>g5 x hx ?_,g6.toL⟩;have:=Nat.mul_le_mul_right k e2;rw[zC0 e3] at hx';omega
 ·obtain ⟨ad,cap,e1,e2,e3,e4⟩:=h
  refine ⟨ad,cap,e1,e2,e4.imp (fun h=>⟨h.2.1,h.1⟩) ?_⟩;rintro ⟨b,o,arr,ty,fz,n,rfl,rfl,g3,g4,g5,g6⟩;refine ⟨b,o,arr,ty,fz,n,rfl,rfl,g3,fun x hx hx'=>g5 x hx ?_,g6⟩;have:=Nat.mul_le_mul_right k e2;rw[zC0 e3] at hx';omega
theorem RepO.deep {S:Nat->Prop} {w:World} {k:Nat} {els:List (List T)} {u:Value} {own:List Nat} (h:RepO S w false k els u own):RepO S w true k els u own:=by
 obtain ⟨ad,cap,e1,e2,e3,e4⟩:=h;refine ⟨ad,cap,e1,e2,e3,e4.imp id ?_⟩;rintro ⟨b,o,arr,ty,fz,rfl,rfl,g3,g4,g5,g6⟩;exact ⟨b,o,arr,ty,fz,[],rfl,rfl,g3,g4,g5,g6.toL⟩
def RepTL (S:Nat->Prop) (w:World):List T->List Value->List Nat->Prop
 | [],us,own=>us=[]/\own=[]
 | t::ts,us,own=>∃u us' o1 o2,us=u::us'/\own=o1++o2/\RepL S w t u o1/\RepTL S w ts us' o2
theorem RepTL.length {S:Nat->Prop} {w:World}:∀{ts:List T} {us:List Value} {own:List Nat},RepTL S w ts us own->us.length=ts.length
 | [],_,_,h=>by rw[h.1];rfl
 | t::ts,us,_,h=>by obtain ⟨u,us',o1,o2,rfl,_,h2,h3⟩:=h;simp[RepTL.length h3]
theorem RepTL.mono {S S':Nat->Prop} {w w':World} (hS:∀b,S b->S' b) (hw:∀b,S b->w'.heap[b]?=w.heap[b]?):∀{ts:List T} {us:List Value} {own:List Nat},(∀b∈own,w'.heap[b]?=w.heap[b]?)->RepTL S w ts us own->RepTL S' w' ts us own
 | [],_,_,_,h=>h
 | t::ts,us,_,ho,h=>by
  obtain ⟨u,us',o1,o2,rfl,rfl,h2,h3⟩:=h;exact ⟨u,us',o1,o2,rfl,rfl,RepL.mono hS hw _ _ _ (fun b hb=>ho b (by simp[hb])) h2,RepTL.mono hS hw (fun b hb=>ho b (by simp[hb])) h3⟩
def A.toOwn:A->Option T
 | .lit v=>some (.lit v)
 | .nil=>some (.sl [])
 | .ro true els=>some (.sl els)
 | .ow _ _ _ els=>some (.own els)
 | _=>none
theorem RepA.toOwn {E:Env} {c:A} {t:T} {u:Value} {own:List Nat} (h:RepA E c u own) (hx:c.toOwn=some t):RepL E.S E.w t u own:=by
 cases c with
 | lit v=>simp only[A.toOwn,Option.some.injEq] at hx;subst hx;simp only[RepL];exact h
 | nil=>
  simp only[A.toOwn,Option.some.injEq] at hx;subst hx;obtain ⟨⟨ad,rfl⟩,rfl⟩:=h;simp only[RepL,RepS];exact ⟨⟨ad,0,rfl,by simp,by simp⟩,trivial⟩
 | ro st els=>
  cases st with
  | true=>simp only[A.toOwn,Option.some.injEq] at hx;subst hx;simp only[RepL];exact h
  | false=>simp[A.toOwn] at hx
 | ow g d k els=>simp only[A.toOwn,Option.some.injEq] at hx;subst hx;exact RepO.toL h
 | _=>simp[A.toOwn] at hx
theorem RpA.toOwn {E:Env}:∀{cs:List A} {ts:List T} {us:List Value} {own:List Nat},RpA E cs us own->cs.mapM A.toOwn=some ts->RepTL E.S E.w ts us own
 | [],ts,us,own,h,hx=>by simp at hx;subst hx;exact h
 | c::cs,ts,us,own,h,hx=>by
  obtain ⟨u,us',o1,o2,rfl,rfl,h3,h4⟩:=h;simp only[List.mapM_cons,Option.bind_eq_bind,Option.bind_eq_some_iff,Option.pure_def,Option.some.injEq] at hx;obtain ⟨t,ht,ts',hts,rfl⟩:=hx;exact ⟨u,us',o1,o2,rfl,rfl,h3.toOwn ht,RpA.toOwn h4 hts⟩
theorem wB0 {i:Nat}:∀{cs:List A} {us:List Value} {S L:Nat->Prop} {σ σ':AS} {O1 O2:List Nat} {ts:List T},InvAt C X σ a w S L bl O1 O2->Fresh σ (σ.epoch,i)->
  RpA ⟨S,L,bl,a,w,σ.cell⟩ cs us []->fzC cs σ=some (ts,σ')->xV1 C X a w S L bl O1 O2 i us σ ts σ'
 | [],us,S,L,σ,σ',O1,O2,ts,h,hf,hr,hx=>by
  simp[fzC] at hx;obtain ⟨rfl,rfl⟩:=hx;exact ⟨S,L,O1,O2,h,hr.1,fun _ h=>h,fun _ h=>h,fun _ h=>h,hf,rfl,.rfl',rfl,rfl⟩
 | c::cs,us,S,L,σ,σ',O1,O2,ts,h,hf,hr,hx=>by
  obtain ⟨u,us',o1,o2,rfl,ho,h3,h4⟩:=hr;simp at ho;obtain ⟨rfl,rfl⟩:=ho;have plain:∀t:T,(fzC cs σ).map (fun r=>(t::r.1,r.2))=some (ts,σ')->RepS S w t u->xV1 C X a w S L bl O1 O2 i (u::us') σ ts σ':=by
   intro t hx ht;simp only[Option.map_eq_some_iff] at hx;obtain ⟨⟨ts',σ2⟩,h5,h6⟩:=hx;simp at h6;obtain ⟨rfl,rfl⟩:=h6;obtain ⟨S',L',O1',O2',g1,g2,g3,gL,g4,g5,g6,g7,g8,g9⟩:=wB0 h hf h4 h5;exact ⟨S',L',O1',O2',g1,⟨u,us',rfl,RepS.mono g3 (fun _ _=>rfl) _ _ ht,g2⟩,g3,gL,g4,g5,g6,g7,g8,g9⟩
  cases c with
  | lit v=>exact plain _ hx (by simp only[RepS];exact ⟨h3.1,h3.2.1⟩)
  | nil=>
   refine plain _ hx ?_;obtain ⟨⟨ad,hu⟩,_⟩:=h3;simp only[RepS];exact ⟨ad,0,by simpa using hu,by simp,by simp⟩
  | ro st els=>
   cases st with
   | true=>exact plain _ hx h3.1
   | false=>simp[fzC] at hx
  | sref r x g lo len=>
   simp only[fzC] at hx
   split at hx<;>try (simp at hx;done)
   rename_i k els hat;simp only[Option.map_eq_some_iff] at hx;obtain ⟨⟨ts',σ2⟩,h5,h6⟩:=hx;simp at h6;obtain ⟨rfl,rfl⟩:=h6;have hcell:=AS.at?_some hat;obtain ⟨hlo,ad,cap,xx,e1,e2,e3⟩:=h3.2.2 false k els hcell;obtain ⟨u0,o,k1,k2,k3,k4,k5⟩:=h.recell hcell hf;rw[e1] at k1;simp at k1;subst k1;have hS1:∀b,S b->(fun b=>S b\/b∈o) b:=fun b hb=>.inl hb;have hL1:∀b,L b->(fun b=>L b\/b∈o) b:=fun b hb=>.inl hb;obtain ⟨O1a,O2a,ha,hmem⟩:=k5 (fun b=>S b\/b∈o) (fun b=>L b\/b∈o) w (.ro true els) [] hS1 hL1 (fun b hb=>hb.imp (h.sl b) id) (fun b hb=>hb) (fun b hb=>hb) (by simp) (.inr rfl) (fun _ _ _=>rfl) h.keeps (Nat.le_refl _)
    ⟨RepO.toS hS1 (fun b hb=>.inr hb) k2,rfl⟩ (fun g hg=>by simp[A.stamp] at hg) (fun g d k els' he=>by simp at he)
   have hle:=UZ0 (S:=S) (bl:=bl) (a:=a) (w:=w) (els:=els) hS1 hL1 hcell;have hep:(σ.setCell r x (.ro true els)).epoch=σ.epoch:=yL0;have ih:=wB0 (i:=i) (cs:=cs) (us:=us') ha (by rw[hep];exact hf.setDead rfl) (RpA.go hle (fun _ _=>rfl) (fun y _=>by cases y.rstamp<;>simp) h4) h5
   unfold xV1 at ih;rw[hep] at ih;obtain ⟨S',L',O1',O2',g1,g2,g3,gL,g4,g5,g6,g7,g8,g9⟩:=ih;obtain ⟨own',s1,s2⟩:=RepO.sub (show RepO S w false k els _ o from k2) hlo e3
   have hSS:∀b,S b->S' b:=fun b hb=>g3 b (.inl hb);have hu:RepS S' w (.sl ((els.drop lo).take len)) u:=by
    rw[e2];refine RepO.toS hSS (fun b hb=>g3 b (.inr ?_)) s1;exact s2.subset hb
   exact ⟨S',L',O1',O2',g1,⟨u,us',rfl,hu,g2⟩,hSS,fun b hb=>gL b (.inl hb),fun b hb=>((by simpa using (hmem b).1 (g4 b hb)):b∈O1++O2/\b∉o).1,g5,g6,hle.trans g7,g8.trans boxes_setCell.1,g9.trans boxes_setCell.2⟩
  | _=>simp[fzC] at hx
end
end Go.Av
/- Avs, part 16: operations that turn more than the slot that they write. -/
namespace Go.Av
def OpOk (P:Program) (C:Ctx) (i:Nat) (op:Op) (dst:Option Tmp) (σ:AS) (av:AV) (σ1:AS):Prop:=
 ∀X a w,Inv C X σ a w->i∉X->∀(type:TypeId) (pos:String) (after:Array Edge) (guard:Option (Nat×Bool)),
  ∃n v w',(execOp a.eval ⟨dst,op,type,pos,after,guard⟩).run P w=.ok n w'/\(n=.value v\/(n=.skip/\v=undef))/\Inv C (i::X) (σ1.putO dst av) (a.put dst v) w'
theorem fX0 {X:List Nat} {e i:Nat} {cs:List A} (h:∀c∈cs,stampIn X e c) (hi:i∉X):zE0 (some (e,i)) cs:=fun c hc=>(h c hc).ne hi
theorem vY0 {X:List Nat} {e i:Nat} {cs:List A} (h:∀c∈cs,stampIn X e c):∀c∈cs,stampIn (i::X) e c:=fun c hc=>(h c hc).mono fun _ hx=>List.mem_cons_of_mem _ hx
theorem OpOk.pure {P:Program} {C:Ctx} {i:Nat} {op:Op} {dst:Option Tmp} {σ:AS} {av:AV} (hx:zA0 P σ op=some av):OpOk P C i op dst σ av σ:=by
 rintro X a w ⟨S,L,bl,O1,O2,h⟩ hi type pos after guard;obtain ⟨v,hr,he⟩:=PG0 h hx dst type pos after guard;exact ⟨_,v,w,hr,.inl rfl,(h.mono (fun x hx=>List.mem_cons_of_mem i hx)).done (h.fresh hi) he.rep (fX0 he.st hi) (vY0 he.st) (fun g d k els hm=>absurd hm (he.noOw g d k els)) List.nodup_nil (by simp)⟩
def wM0 (i:Nat) (dst:Option Tmp) (σ:AS):Operand->Option (AV×AS)
 | .tmp t=>(σ.ev (.tmp t)).map fun av=>
   let r:=tkC (fun r _=>decide (r=.slot t) || decide (some r=dst.map Root.slot)) (σ.epoch,i) av.cs σ
   (⟨av.sh,r.1⟩,r.2)
 | x=>(σ.ev x).map fun av=>(av,σ)
theorem RepV.reshape {E E':Env} {av:AV} {v:Value} {o':List Nat} {cs':List A} (h:RepV E av v []) (hr:RpA E' cs' (flat v) o') (hany:av.sh=.any->cs'=[]/\o'=[]):RepV E' ⟨av.sh,cs'⟩ v o':=by
 obtain ⟨sh,cs⟩:=av;cases sh with
 | any=>exact hany rfl
 | one=>exact ⟨h.1,hr⟩
 | agg=>exact ⟨h.1,hr⟩
 | tup ns=>exact ⟨h.1,hr⟩
section
variable {P:Program} {C:Ctx} {i:Nat} {dst:Option Tmp} {σ σ1:AS} {av:AV}
theorem JP0 {x:Operand} (hx:wM0 i dst σ x=some (av,σ1)):OpOk P C i (.assign x) dst σ av σ1:=by
 rintro X a w ⟨S,L,bl,O1,O2,h⟩ hi type pos after guard;have hrun:(execOp a.eval ⟨dst,.assign x,type,pos,after,guard⟩).run P w=.ok (.value (a.eval x)) w:=rfl;have h':=h.mono (fun x hx=>List.mem_cons_of_mem i hx);have hplain:∀av0,σ.ev x=some av0->(av0,σ)=(av,σ1)->∃n v w',(execOp a.eval ⟨dst,.assign x,type,pos,after,guard⟩).run P w=.ok n w'/\(n=.value v\/(n=.skip/\v=undef))/\Inv C (i::X) (σ1.putO dst av) (a.put dst v) w':=by
  intro av0 hev he;simp at he;obtain ⟨rfl,rfl⟩:=he;have he:=h.ev hev;exact ⟨_,_,w,hrun,.inl rfl,h'.done (h.fresh hi) he.rep (fX0 he.st hi) (vY0 he.st) (fun g d k els hm=>absurd hm (he.noOw g d k els)) List.nodup_nil (by simp)⟩
 cases x with
 | tmp t=>
  simp only[wM0,Option.map_eq_some_iff] at hx;obtain ⟨av0,hev,hx⟩:=hx;simp only[Prod.mk.injEq] at hx;obtain ⟨rfl,rfl⟩:=hx;have he:=h.ev hev
  by_cases hany:av0.sh=.any
  ·have hr:=he.rep
   obtain ⟨sh,cs⟩:=av0;simp only at hany;subst hany;obtain ⟨h1,_⟩:=hr;simp only at h1;subst h1;simp only[tkC];refine ⟨_,_,w,hrun,.inl rfl,h'.done (h.fresh hi) ⟨rfl,rfl⟩ (fun c hc=>by simp at hc) (fun c hc=>by simp at hc) (fun g d k els hm=>by simp at hm) List.nodup_nil (by simp)⟩
  ·have hr:RpA ⟨S,L,bl,a,w,σ.cell⟩ av0.cs (flat (a.eval (.tmp t))) []:=by
    have hr:=he.rep;obtain ⟨sh,cs⟩:=av0;cases sh with
    | any=>exact absurd rfl hany
    | one=>exact hr.2
    | agg=>exact hr.2
    | tup ns=>exact hr.2
   obtain ⟨O1',O2',o',g1,g2,g3,g4,g5,g6,g7,g8,g9,g10,g11,g12,g13⟩:=yF0 (fun r _=>decide (r=.slot t) || decide (some r=dst.map Root.slot)) h' (i:=i) (by simp) (h.fresh hi) hr (vY0 he.st) (fX0 he.st hi) he.noOw
   refine ⟨_,_,w,hrun,.inl rfl,g1.done (i:=i) (by rw[g9];exact g8) (RepV.reshape he.rep g2 (fun e=>absurd e hany)) (by rw[g9];exact g6) (by rw[g9];exact g5) (by rw[g9];exact g7) g3 g4⟩
 | const v=>simp only[wM0,Option.map_eq_some_iff] at hx;obtain ⟨av0,h1,h2⟩:=hx;exact hplain av0 h1 h2
 | func f=>simp only[wM0,Option.map_eq_some_iff] at hx;obtain ⟨av0,h1,h2⟩:=hx;exact hplain av0 h1 h2
 | global g=>simp only[wM0,Option.map_eq_some_iff] at hx;obtain ⟨av0,h1,h2⟩:=hx;exact hplain av0 h1 h2
def tM0 (base:Nat) (r:Root) (_:Nat):Bool:=match r with | .slot _=>true | .box b=>decide (base<=b)
def aBox (base i:Nat) (σ:AS) (x:Operand):Option (AV×AS):=
 (σ.ev x).bind fun av=>match av.sh with
  | .one | .agg=>
   let r:=tkC (tM0 base) (σ.epoch,i) av.cs σ
   some (one (.ptr r.2.boxes.length 0),r.2.addBox r.1)
  | _=>none
def nE0 (P:Program) (σ:AS) (t:TypeId):Option (AV×AS):=
 (tyOf P t).bind fun ti=>(ti.zero.mapM yW0).map fun cs=>(one (.ptr σ.boxes.length 0),σ.addBox cs)
theorem vH0 {v:Value} (h:isTuple v=false):flat v=v.cells.toList:=by
 cases v<;>first | rfl | simp[isTuple] at h
theorem kF0 {X:List Nat} {a:Act} {w:World} {S L:Nat->Prop} {bl O1 O2:List Nat} {cs':List A} {n:Nat} (h:InvAt C X (σ.addBox cs') a w S L (bl++[n]) O1 O2) (hb:σ.boxes.length=bl.length)
  (hf:Fresh (σ.addBox cs') (σ.epoch,i)):Inv C X ((σ.addBox cs').putO dst (one (.ptr σ.boxes.length 0))) (a.put dst (.pointer (some ⟨n,0,none⟩))) w:=
 h.done hf ⟨⟨rfl,rfl⟩,⟨_,[],[],[],rfl,rfl,⟨rfl,n,by simp[hb],rfl⟩,rfl,rfl⟩⟩ (fun c hc=>by simp[one] at hc;subst hc;exact .inl rfl)
  (fun c hc g hg=>by simp[one] at hc;subst hc;simp[A.stamp] at hg) (fun g d k els hm=>by simp[one] at hm) List.nodup_nil (by simp)
theorem Fresh.addBox {g:zV0} {cs':List A} (h:Fresh σ g) (h':zE0 (some g) cs'):Fresh (σ.addBox cs') g:=
 ⟨h.1,fun cs hcs=>by
  simp only[AS.addBox,List.mem_append,List.mem_singleton,Option.some.injEq] at hcs;rcases hcs with hcs | rfl
  ·exact h.2 cs hcs
  ·exact h'⟩
theorem uF1 {base:Nat} {t:TypeId} {x:Operand} (hx:aBox base i σ x=some (av,σ1)):OpOk P C i (.box t x) dst σ av σ1:=by
 rintro X a w ⟨S,L,bl,O1,O2,h⟩ hi type pos after guard;have h':=h.mono (fun x hx=>List.mem_cons_of_mem i hx);simp only[aBox,Option.bind_eq_some_iff] at hx;obtain ⟨av0,hev,hx⟩:=hx;have he:=h.ev hev;have hsh:(av0.sh=.one\/av0.sh=.agg)/\(one (.ptr (tkC (tM0 base) (σ.epoch,i) av0.cs σ).2.boxes.length 0),(tkC (tM0 base) (σ.epoch,i) av0.cs σ).2.addBox (tkC (tM0 base) (σ.epoch,i) av0.cs σ).1)=(av,σ1):=by
  cases hs:av0.sh<;>simp only[hs,reduceCtorEq] at hx
  ·exact ⟨.inl rfl,by simpa using hx⟩
  ·exact ⟨.inr rfl,by simpa using hx⟩
 obtain ⟨hsh,hx⟩:=hsh;simp only[Prod.mk.injEq] at hx;obtain ⟨rfl,rfl⟩:=hx;have hr:RpA ⟨S,L,bl,a,w,σ.cell⟩ av0.cs (flat (a.eval x)) []/\isTuple (a.eval x)=false:=by
  have hr:=he.rep;obtain ⟨sh,cs⟩:=av0;rcases hsh with hs | hs<;>simp only at hs<;>subst hs
  ·exact ⟨hr.2,hr.1.1⟩
  ·refine ⟨hr.2,?_⟩
   have:=hr.1;simp only[shOk] at this;cases hv:a.eval x<;>first | rfl|(rw[hv] at this;simp[zZ0] at this)
 obtain ⟨O1',O2',o',g1,g2,g3,g4,g5,g6,g7,g8,g9,g10,g11,g12,g13,g14⟩:=yF0 (tM0 base) h' (i:=i) (by simp) (h.fresh hi) hr.1 (vY0 he.st) (fX0 he.st hi) he.noOw
 have hlen:=RpB.length g1.boxes;obtain ⟨O2'',k1⟩:=g1.newbox (i:=i) t (by rw[g9];exact g8) g2 (by rw[g9];exact g6) (by rw[g9];exact g5) (by rw[g9];exact g7) g3 (fun b hb=>⟨h.own_lt (g11 b hb),g4 b hb⟩)
 refine ⟨_,.pointer (some ⟨w.heap.size,0,none⟩),w.alloc (.cells (flat (a.eval x)).toArray t),?_,.inl rfl,kF0 k1 hlen.symm (by rw[g9];exact g8.addBox g6)⟩
 rw[vH0 hr.2];simp[execOp,Instr.box,newVar,newRow]
theorem FZ0 {t:TypeId} (hx:nE0 P σ t=some (av,σ1)):OpOk P C i (.alloc t) dst σ av σ1:=by
 rintro X a w ⟨S,L,bl,O1,O2,h⟩ hi type pos after guard;have h':=h.mono (fun x hx=>List.mem_cons_of_mem i hx);simp only[nE0,Option.bind_eq_some_iff,Option.map_eq_some_iff,Prod.mk.injEq] at hx;obtain ⟨ti,ht,cs,hcs,rfl,rfl⟩:=hx;obtain ⟨z,hz,hzc⟩:=mR0 ht w;obtain ⟨r1,r2⟩:=wD0 (E:=⟨S,L,bl,a,w,σ.cell⟩) hcs;have hst:∀c∈cs,c.rstamp=none:=fun c hc=>by
  have:=(r2 c hc).1;cases c<;>first | rfl | simp[A.stamp] at this
 have hlen:=RpB.length h.boxes;obtain ⟨O2'',k1⟩:=h'.newbox (i:=i) t (h.fresh hi) r1 (fun c hc=>.inl (hst c hc)) (fun c hc g hg=>by rw[(r2 c hc).1] at hg;simp at hg) (fun g d k els hm=>by have:=(r2 _ hm).2;simp[isOw] at this) List.nodup_nil (by simp)
 refine ⟨_,.pointer (some ⟨w.heap.size,0,none⟩),w.alloc (.cells ti.zero.toArray t),?_,.inl rfl,kF0 k1 hlen.symm ((h.fresh hi).addBox (fun c hc=>.inl (hst c hc)))⟩;rw[<-hzc];simp[execOp,Instr.alloc,newVar,newRow,hz,Result.andThen]
end
end Go.Av
/- Avs, part 17: stores. -/
namespace Go.Av
def yY0 (base b off n:Nat) (r:Root) (c:Nat):Bool:=match r with | .slot _=>true | .box b'=>decide (base<=b') || (decide (b'=b) && decide (off<=c) && decide (c < off+n))
def holdCells (base:Nat) (g:zV0) (cs:List A) (σ:AS):Option (List T×AS):=
 let r:=tkC (tM0 base) g cs σ
 (r.1.mapM A.toOwn).map fun ts=>(ts,r.2)
def nC0 (P:Program) (base i:Nat) (σ:AS) (t:TypeId) (p x:Operand):Option AS:=
 (tyOf P t).bind fun ti=>opt2 (σ.ev p) (σ.ev x) fun p x=>match p,x.sh with
  | ⟨.one,[.ptr b off]⟩,.one | ⟨.one,[.ptr b off]⟩,.agg=>
   if x.cs.length=ti.size then
    let r:=tkC (yY0 base b off ti.size) (σ.epoch,i) x.cs σ
    ((r.2.boxes[b]?).bind fun o=>o.bind fun cs0=>if off+ti.size<=cs0.length then some (r.2.setBox b (splice cs0 off r.1)) else none)
   else none
  | ⟨.one,[.eptr r c g n off]⟩,.one | ⟨.one,[.eptr r c g n off]⟩,.agg=>
   if x.cs.length=ti.size then
    match σ.ad? r c g with
    | some (true,_,_)=>(holdCells base (σ.epoch,i) x.cs σ).bind fun y=>(y.2.ad? r c g).bind fun q=>(q.2.2[n]?).bind fun e=>
     if q.1=true/\off+ti.size<=q.2.1 then some (y.2.setCell r c (.ow g true q.2.1 (q.2.2.set n (splice e off y.1)))) else none
    | _=>(fzC x.cs σ).bind fun y=>(y.2.at? r c g).bind fun q=>(q.2[n]?).bind fun e=>
     if off+ti.size<=q.1 then some (y.2.setCell r c (.ow g false q.1 (q.2.set n (splice e off y.1)))) else none
   else none
  | _,_=>none
section
variable {P:Program} {C:Ctx} {i:Nat} {dst:Option Tmp} {σ σ1:AS} {av:AV}
theorem qZ0 {E:Env} {cs:List A} {us:List Value} {O:List Nat} (h:RpA E cs us O):∀u∈us,u.oneCell'=true:=by
 induction cs generalizing us O with
 | nil=>rw[h.1];simp
 | cons c cs ih=>
  obtain ⟨u,us',o1,o2,rfl,h2,h3,h4⟩:=h;intro x hx;rcases List.mem_cons.1 hx with rfl | hx
  ·exact RepA.oneCell h3
  ·exact ih h4 x hx
theorem uP0 {ti:TI} {t:TypeId} (ht:tyOf P t=some ti) {w:World} {g o:Nat} {cur:Array Value} {ty:TypeId} {fz:Nat×Nat} {v:Value} (hv:v.cells.toList.length=ti.size) (hg:w.heap[g]?=some (.cells cur ty fz)) (hl:o+ti.size<=cur.size)
  (hz:∀x,o<=x->x < o+ti.size->¬(fz.1<=x/\x < fz.2)) (h1:∀u∈v.cells.toList,u.oneCell'=true) :
  (storeVar t ⟨g,o,none⟩ v).run P w=.ok () (w.setRow g (splice cur.toList o v.cells.toList).toArray):=by
 have hst:=tE0 (P:=P) g o ty fz v.cells.toList 0 cur w hg (by rw[hv];simpa using hl) (by rw[hv];simpa using hz) h1
 have hsz:v.cells.size=ti.size:=by simpa using hv
 simp only[storeVar,Sem.run_bind,yC0 ht,Result.andThen,hsz];simpa using hst
theorem xA0 {X:List Nat} {E:Env} {v:Value} (he:EvOk C X σ E av v) (hs:av.sh=.one\/av.sh=.agg):RpA E av.cs v.cells.toList []/\flat v=v.cells.toList/\v.cells.toList.length=av.cs.length:=by
 have hr:=he.rep;obtain ⟨sh,cs⟩:=av;have key:isTuple v=false/\RpA E cs (flat v) []:=by
  rcases hs with hs | hs<;>simp only at hs<;>subst hs
  ·exact ⟨hr.1.1,hr.2⟩
  ·refine ⟨?_,hr.2⟩
   have:=hr.1;simp only[shOk] at this;cases v<;>first | rfl|(simp[zZ0] at this)
 rw[vH0 key.1] at key;exact ⟨key.2,vH0 key.1,RpA.length key.2⟩
theorem Fresh.setBox {g:zV0} {b:Nat} {cs:List A} (h:Fresh σ g) (h':zE0 (some g) cs):Fresh (σ.setBox b cs) g:=
 ⟨h.1,fun cs' hcs=>by
  rcases List.mem_or_eq_of_mem_set hcs with hcs | hcs
  ·exact h.2 cs' hcs
  ·simp at hcs;subst hcs;exact h'⟩
theorem mM0 {X:List Nat} {a:Act} {w:World} {S L:Nat->Prop} {bl O1 O2:List Nat} (h:InvAt C X σ a w S L bl O1 O2) (hf:Fresh σ (σ.epoch,i)):Inv C X (σ.putO dst ⟨.any,[]⟩) (a.put dst undef) w:=
 h.done hf ⟨rfl,rfl⟩ (fun c hc=>by simp at hc) (fun c hc=>by simp at hc) (fun g d k els hm=>by simp at hm) List.nodup_nil (by simp)
theorem RepSE.set {S:Nat->Prop} {w:World} {b o k n off:Nat} {els:List (List T)} {arr:Array Value} {ty:TypeId} {fz:Nat×Nat} {e ts:List T} {us:List Value} (hb:¬S b)
  (hw:w.heap[b]?=some (.cells arr ty fz)) (h:RepSE S w b o els) (hk:∀e∈els,e.length=k) (hn:els[n]?=some e) (ho:off+ts.length<=k) (hfit:o+els.length * k<=arr.size) (ht:RepTs S w ts us) :
  RepSE S (w.setRow b (splice arr.toList (o+n * k+off) us).toArray) b o (els.set n (splice e off ts)):=by
 have hlen:=ht.length;have hnl:=(List.getElem?_eq_some_iff.1 hn).1;have hek:e.length=k:=hk e (List.mem_of_getElem? hn);have hSame:∀x,S x->(w.setRow b (splice arr.toList (o+n * k+off) us).toArray).heap[x]?=w.heap[x]?:=fun x hx=>setRow_other _ _ _ _ (fun e=>hb (e ▸ hx));have hmulle:n * k+k<=els.length * k:=by
  have:(n+1) * k<=els.length * k:=Nat.mul_le_mul_right k hnl;simpa [Nat.succ_mul] using this
 have hspl:o+n * k+off+us.length<=arr.toList.length:=by simp;omega
 have hcell:∀j,(w.setRow b (splice arr.toList (o+n * k+off) us).toArray).cell? ⟨b,j,none⟩=if o+n * k+off<=j/\j < o+n * k+off+us.length then us[j - (o+n * k+off)]? else w.cell? ⟨b,j,none⟩:=by
  intro j;simp only[World.cell?,setRow_heap w b arr _ ty fz hw,hw,Option.isSome_none,Bool.false_eq_true,if_false];rw[<-Array.getElem?_toList,<-Array.getElem?_toList];exact xV0 hspl j
 refine RepSE.of_get (k:=k) (fun x hx=>?_) fun i' e' hi'=>?_
 ·rcases List.mem_or_eq_of_mem_set hx with hx | rfl
  ·exact hk x hx
  ·rw[yH0 (by omega)];exact hek
 ·rw[List.getElem?_set] at hi'
  by_cases hin:n=i'
  ·subst hin
   simp[hnl] at hi';subst hi';refine RepSC.of_get fun j c hj=>?_;rw[xV0 (by omega)] at hj
   rw[hcell]
   split at hj
   ·rename_i hin
    obtain ⟨u,hu,hr⟩:=ht.get (j - off) c hj;refine ⟨u,?_,RepS.mono (fun _ h=>h) hSame _ _ hr⟩;rw[if_pos (by omega),<-hu]
    congr 1
    omega
   ·rename_i hout
    have hjk:j < k:=by rw[<-hek];exact (List.getElem?_eq_some_iff.1 hj).1
    obtain ⟨u,hu,hr⟩:=(h.get hk n e hn).get j c hj;refine ⟨u,?_,RepS.mono (fun _ h=>h) hSame _ _ hr⟩;rw[if_neg (by omega)]
    exact hu
  ·rw[if_neg hin] at hi'
   have hil:=(List.getElem?_eq_some_iff.1 hi').1;refine RepSC.of_get fun j c hj=>?_;have hjk:j < k:=by rw[<-hk e' (List.mem_of_getElem? hi')];exact (List.getElem?_eq_some_iff.1 hj).1
   obtain ⟨u,hu,hr⟩:=(h.get hk i' e' hi').get j c hj;refine ⟨u,?_,RepS.mono (fun _ h=>h) hSame _ _ hr⟩;rw[hcell,if_neg ?_]
   ·exact hu
   ·rcases Nat.lt_or_gt_of_ne hin with hlt | hgt
    ·have:n * k+k<=i' * k:=by have:=Nat.mul_le_mul_right k hlt;simpa [Nat.succ_mul] using this
     omega
    ·have:i' * k+k<=n * k:=by have:=Nat.mul_le_mul_right k hgt;simpa [Nat.succ_mul] using this
     omega
theorem RepLC.move {S:Nat->Prop} {w w':World} {b:Nat} (hS:∀x,S x->w'.heap[x]?=w.heap[x]?):∀{o:Nat} {cs:List T} {own:List Nat},(∀j,o<=j->j < o+cs.length->w'.cell? ⟨b,j,none⟩=w.cell? ⟨b,j,none⟩)->
  (∀x∈own,w'.heap[x]?=w.heap[x]?)->RepLC S w b o cs own->RepLC S w' b o cs own
 | _,[],_,_,_,h=>by simpa only [RepLC] using h
 | o,c::cs,_,hc,ho,h=>by
  simp only[RepLC] at h |-;obtain ⟨u,o1,o2,rfl,h1,h2,h3⟩:=h;exact ⟨u,o1,o2,rfl,by rw[hc o (Nat.le_refl _) (by simp)];exact h1,RepL.mono (fun _ h=>h) hS c u o1 (fun x hx=>ho x (by simp[hx])) h2,
   RepLC.move hS (fun j hj hj'=>hc j (by omega) (by simp;omega)) (fun x hx=>ho x (by simp[hx])) h3⟩
theorem RepLE.move {S:Nat->Prop} {w w':World} {b:Nat} (hS:∀x,S x->w'.heap[x]?=w.heap[x]?):∀{o:Nat} {es:List (List T)} {own:List Nat},(∀j,o<=j->j < o+es.flatten.length->w'.cell? ⟨b,j,none⟩=w.cell? ⟨b,j,none⟩)->
  (∀x∈own,w'.heap[x]?=w.heap[x]?)->RepLE S w b o es own->RepLE S w' b o es own
 | _,[],_,_,_,h=>by simpa only [RepLE] using h
 | o,e::es,_,hc,ho,h=>by
  simp only[RepLE] at h |-;simp only[List.flatten_cons,List.length_append] at hc;obtain ⟨o1,o2,rfl,h1,h2⟩:=h;exact ⟨o1,o2,rfl,RepLC.move hS (fun j hj hj'=>hc j hj (by omega)) (fun x hx=>ho x (by simp[hx])) h1,RepLE.move hS (fun j hj hj'=>hc j (by omega) (by omega)) (fun x hx=>ho x (by simp[hx])) h2⟩
theorem RepTL.toLC {S:Nat->Prop} {w:World} {b:Nat}:∀{o:Nat} {ts:List T} {us:List Value} {own:List Nat},(∀j u,us[j]?=some u->w.cell? ⟨b,o+j,none⟩=some u)->RepTL S w ts us own->RepLC S w b o ts own
 | _,[],_,_,_,h=>by simp only[RepLC];exact h.2
 | o,t::ts,_,_,hc,h=>by
  obtain ⟨u,us',o1,o2,rfl,rfl,h2,h3⟩:=h;simp only[RepLC];refine ⟨u,o1,o2,rfl,by simpa using hc 0 u rfl,h2,RepTL.toLC (fun j v hj=>?_) h3⟩
  have:=hc (j+1) v (by simpa using hj)
  rwa[Nat.add_assoc,Nat.add_comm 1 j]
theorem pR0 {α:Type} {k:Nat} {es:List (List α)} (h:∀e∈es,e.length=k) {n:Nat} (hn:n<=es.length):(es.take n).flatten.length=n * k:=by
 rw[zC0 fun e he=>h e (List.mem_of_mem_take he),List.length_take,Nat.min_eq_left hn]
theorem mQ0 {α:Type}:∀{l:List α} {n:Nat} {x:α},n < l.length->l.set n x=l.take n++x::l.drop (n+1)
 | [],_,_,h=>by simp at h
 | a::l,0,x,_=>by simp
 | a::l,n+1,x,h=>by simp only[List.set_cons_succ,List.take_succ_cons,List.drop_succ_cons,List.cons_append];rw[mQ0 (by simpa using h)]
theorem RepLE.set {S:Nat->Prop} {w:World} {b o k n off:Nat} {els:List (List T)} {arr:Array Value} {ty:TypeId} {fz:Nat×Nat} {e ts:List T} {us:List Value} {own own':List Nat} (hb:¬S b)
  (hbo:b∉own) (hbo':b∉own') (hw:w.heap[b]?=some (.cells arr ty fz)) (h:RepLE S w b o els own) (hk:∀e∈els,e.length=k) (hn:els[n]?=some e) (ho:off+ts.length<=k) (hfit:o+els.length * k<=arr.size) (ht:RepTL S w ts us own') :
  ∃own2,RepLE S (w.setRow b (splice arr.toList (o+n * k+off) us).toArray) b o (els.set n (splice e off ts)) own2/\(∀x∈own2,x∈own\/x∈own')/\(own.Nodup->own'.Nodup->(∀x∈own',x∉own)->own2.Nodup):=by
 have hlen:=ht.length;have hnl:=(List.getElem?_eq_some_iff.1 hn).1;have hek:e.length=k:=hk e (List.mem_of_getElem? hn);have hother:∀x,x≠b->(w.setRow b (splice arr.toList (o+n * k+off) us).toArray).heap[x]?=w.heap[x]?:=fun x hx=>setRow_other _ _ _ _ hx;have hSame:∀x,S x->(w.setRow b (splice arr.toList (o+n * k+off) us).toArray).heap[x]?=w.heap[x]?:=fun x hx=>hother x (fun e=>hb (e ▸ hx));have hmulle:n * k+k<=els.length * k:=by
  have:(n+1) * k<=els.length * k:=Nat.mul_le_mul_right k hnl;simpa [Nat.succ_mul] using this
 have hspl:o+n * k+off+us.length<=arr.toList.length:=by simp;omega
 have hcell:∀j,(w.setRow b (splice arr.toList (o+n * k+off) us).toArray).cell? ⟨b,j,none⟩=if o+n * k+off<=j/\j < o+n * k+off+us.length then us[j - (o+n * k+off)]? else w.cell? ⟨b,j,none⟩:=by
  intro j;simp only[World.cell?,setRow_heap w b arr _ ty fz hw,hw,Option.isSome_none,Bool.false_eq_true,if_false];rw[<-Array.getElem?_toList,<-Array.getElem?_toList];exact xV0 hspl j
 obtain ⟨p,q,r,rfl,h1,h2,h3⟩:=RepLE.get h hk n e hn;have e1:e=e.take off++((e.drop off).take ts.length++e.drop (off+ts.length)):=by
  rw[<-List.drop_drop,List.take_append_drop,List.take_append_drop]
 rw[e1] at h2;obtain ⟨q1,q',rfl,h4,h5⟩:=RepLC.append.1 h2;obtain ⟨q2,q3,rfl,h6,h7⟩:=RepLC.append.1 h5;have l1:(e.take off).length=off:=by simp;omega
 have l2:((e.drop off).take ts.length).length=ts.length:=by simp;omega
 rw[l1] at h7;rw[l2] at h7;have mem:∀x,x∈p++(q1++(q2++q3))++r->(w.setRow b (splice arr.toList (o+n * k+off) us).toArray).heap[x]?=w.heap[x]?:=fun x hx=>hother x (fun e=>hbo (e ▸ hx));have lt:=pR0 hk (Nat.le_of_lt hnl);refine ⟨p++((q1++(own'++q3))++r),?_,?_,?_⟩
 ·rw[mQ0 hnl]
  refine RepLE.append.2 ⟨p,(q1++(own'++q3))++r,rfl,RepLE.move hSame (fun j hj hj'=>?_) (fun x hx=>mem x (by simp[hx])) h1,?_⟩
  ·rw[hcell,if_neg (by rw[lt] at hj';omega)]
  ·rw[lt]
   simp only[RepLE];refine ⟨q1++(own'++q3),r,rfl,?_,?_⟩
   ·show RepLC S _ b _ (e.take off++ts++e.drop (off+ts.length)) _
    rw[List.append_assoc];refine RepLC.append.2 ⟨q1,own'++q3,rfl,RepLC.move hSame (fun j hj hj'=>?_) (fun x hx=>mem x (by simp[hx])) h4,?_⟩
    ·rw[hcell,if_neg (by rw[l1] at hj';omega)]
    ·rw[l1]
     refine RepLC.append.2 ⟨own',q3,rfl,?_,?_⟩
     ·refine RepTL.toLC (us:=us) (fun j u hj=>?_) (RepTL.mono (fun _ h=>h) hSame (fun x hx=>hother x (fun e=>hbo' (e ▸ hx))) ht)
      have hjl:=(List.getElem?_eq_some_iff.1 hj).1;rw[hcell,if_pos ⟨by omega,by omega⟩,<-hj]
      congr 1
      omega
     ·refine RepLC.move hSame (fun j hj hj'=>?_) (fun x hx=>mem x (by simp[hx])) h7
      rw[hcell,if_neg (by omega)]
   ·rw[yH0 (by omega),hek]
    rw[Nat.succ_mul,<-Nat.add_assoc] at h3;refine RepLE.move hSame (fun j hj hj'=>?_) (fun x hx=>mem x (by simp[hx])) h3
    rw[hcell,if_neg (by omega)]
 ·intro x hx
  simp only[List.mem_append] at hx |-;rcases hx with h|(h | h | h) | h<;>simp[h]
 ·intro hn1 hn2 hd
  have:=kE0 (p:=p++q1) (o:=q2) (q:=q3++r) (o':=own') (by simpa using hn1) hn2 (fun x hx=>.inr (by have:=hd x hx;simpa using this))
  simpa using this
theorem HR0 {base:Nat} {t:TypeId} {p x:Operand} (hx:nC0 P base i σ t p x=some σ1):OpOk P C i (.store t p x) dst σ ⟨.any,[]⟩ σ1:=by
 rintro X a w ⟨S,L,bl,O1,O2,h⟩ hi type pos after guard;have h':=h.mono (fun x hx=>List.mem_cons_of_mem i hx);simp only[nC0,Option.bind_eq_some_iff] at hx;obtain ⟨ti,ht,hx⟩:=hx;obtain ⟨p',x',hp,hxe,hx'⟩:=zQ0 hx;clear hx;have he:=h.ev hxe;have hpe:=h.ev hp;have boxcase:∀b off,p'=⟨.one,[.ptr b off]⟩->(x'.sh=.one\/x'.sh=.agg)->x'.cs.length=ti.size->
   (((tkC (yY0 base b off ti.size) (σ.epoch,i) x'.cs σ).2.boxes[b]?).bind fun o=>o.bind fun cs0=>if off+ti.size<=cs0.length then some ((tkC (yY0 base b off ti.size) (σ.epoch,i) x'.cs σ).2.setBox b (splice cs0 off (tkC (yY0 base b off ti.size) (σ.epoch,i) x'.cs σ).1)) else none)=some σ1->
   ∃n v w',(execOp a.eval ⟨dst,.store t p x,type,pos,after,guard⟩).run P w=.ok n w'/\(n=.value v\/(n=.skip/\v=undef))/\Inv C (i::X) (σ1.putO dst ⟨.any,[]⟩) (a.put dst v) w':=by
  intro b off hpp hsh hsz hx;subst hpp;obtain ⟨r1,r2,r3⟩:=xA0 he hsh;simp only[Option.bind_eq_some_iff] at hx;obtain ⟨_,hb,cs0,rfl,hx⟩:=hx;obtain ⟨hfit,rfl⟩:=zP0 hx;obtain ⟨O1',O2',o',g1,g2,g3,g4,g5,g6,g7,g8,g9,g10,g11,g12,g13,g14⟩:=yF0 (yY0 base b off ti.size) h' (i:=i) (by simp) (h.fresh hi) r1 (vY0 he.st) (fX0 he.st hi) he.noOw
  have hcl:=RpA.length g2;have hcl':(tkC (yY0 base b off ti.size) (σ.epoch,i) x'.cs σ).1.length=ti.size:=by rw[<-hcl,r3,hsz]
  obtain ⟨blk,arr,ty,O2'',k1,k2,k3,k4⟩:=g1.boxput (i:=i) (off:=off) hb (by rw[g9];exact g8) g2 (by rw[hcl'];exact hfit) (by rw[g9];exact g6) (by rw[g9];exact g5) (by rw[g9];exact g7) g3 g4
  obtain ⟨⟨_,blk',q1,q2⟩,_⟩:=hpe.cell;simp only at q1;rw[k1] at q1;simp at q1;subst q1;have hst:=uP0 (P:=P) ht (w:=w) (g:=blk) (o:=off) (v:=a.eval x) (by rw[r3,hsz]) k2 (by rw[k3];exact hfit) (fun y _ _=>by omega) (qZ0 r1)
  refine ⟨.skip,undef,_,?_,.inr ⟨rfl,rfl⟩,mM0 (i:=i) k4 ?_⟩
  ·simp only[execOp,q2,Instr.storeAt,Instr.sureAddr,pure_bind]
   simp only[Sem.run_bind,hst]
   rfl
  ·show Fresh _ ((tkC (yY0 base b off ti.size) (σ.epoch,i) x'.cs σ).2.epoch,i)
   rw[g9];refine g8.setBox fun c hc=>?_;simp only[splice,List.mem_append] at hc;rcases hc with (hc | hc) | hc
   ·exact g8.2 cs0 (List.mem_of_getElem? hb) c (List.mem_of_mem_take hc)
   ·exact g6 c hc
   ·exact g8.2 cs0 (List.mem_of_getElem? hb) c (List.mem_of_mem_drop hc)
 have elcase:∀r c g n off,p'=⟨.one,[.eptr r c g n off]⟩->(x'.sh=.one\/x'.sh=.agg)->x'.cs.length=ti.size->
   ((fzC x'.cs σ).bind fun y=>(y.2.at? r c g).bind fun q=>(q.2[n]?).bind fun e=>if off+ti.size<=q.1 then some (y.2.setCell r c (.ow g false q.1 (q.2.set n (splice e off y.1)))) else none)=some σ1->
   ∃n v w',(execOp a.eval ⟨dst,.store t p x,type,pos,after,guard⟩).run P w=.ok n w'/\(n=.value v\/(n=.skip/\v=undef))/\Inv C (i::X) (σ1.putO dst ⟨.any,[]⟩) (a.put dst v) w':=by
  intro r c g n off hpp hsh hsz hx;subst hpp;obtain ⟨r1,r2,r3⟩:=xA0 he hsh;simp only[Option.bind_eq_some_iff] at hx;obtain ⟨⟨ts,σ'⟩,hfz,⟨k,els⟩,hat,e,hn,hx⟩:=hx;obtain ⟨hfit,rfl⟩:=zP0 hx;simp only at hat hn hfit;obtain ⟨S',L',O1',O2',g1,g2,g3,gL,g4,g5,g6,g7,g8,g9⟩:=wB0 h' (i:=i) (h.fresh hi) r1 hfz;have hcell:=AS.at?_some hat;obtain ⟨u,o,k1,k2,k3,k4,k5⟩:=g1.recell (i:=i) hcell (by rw[g6];exact g5)
  obtain ⟨hpa,_⟩:=hpe.cell;have hpa':=RepA.go g7 (fun _ hb=>by simp at hb) (.inr (by simp[A.rstamp])) hpa
  obtain ⟨_,_,hpa'⟩:=hpa';obtain ⟨hnl,b,ob,cap,e1,e2⟩:=hpa' false k els hcell;rw[e1] at k1;simp at k1;subst k1;obtain ⟨ad,cap',m1,m2,m3,m4⟩:=k2;simp at m1;obtain ⟨rfl,rfl⟩:=m1;rcases m4 with ⟨_,rfl,_⟩ | ⟨b',o',arr,ty,fz,m5,m6,m7,m8,m9,m10⟩
  ·simp at hnl
  ·simp at m5
   obtain ⟨rfl,rfl⟩:=m5;subst m6;have hts:ts.length=ti.size:=by rw[<-hsz,<-r3];exact g2.length.symm
   have hmulle:n * k+k<=cap * k:=by
    have:(n+1) * k<=cap * k:=Nat.mul_le_mul_right k (by omega)
    simpa [Nat.succ_mul] using this
   have hnL:¬L' b:=fun hS=>(g1.stable b hS).2 (k4 b (by simp))
   have hnS:¬S' b:=fun hS=>hnL (g1.sl b hS);have hset:=RepSE.set (off:=off) hnS m7 m10 m3 hn (by omega) (by have:=Nat.mul_le_mul_right k m2;omega) g2
   have hst:=uP0 (P:=P) ht (w:=w) (g:=b) (o:=ob+n * k+off) (v:=a.eval x) (by rw[r3,hsz]) m7 (by omega) (fun y hy hy'=>m9 y (by omega) (by omega)) (qZ0 r1)
   have hown:=g1.own b (k4 b (by simp))
   obtain ⟨O1'',O2'',q1,q2⟩:=k5 S' L' (w.setRow b (splice arr.toList (ob+n * k+off) (a.eval x).cells.toList).toArray) (.ow g false k (els.set n (splice e off ts))) [b] (fun _ h=>h) (fun _ h=>h) g1.sl (fun b hb=>.inl hb) (fun b hb=>.inl hb)
    (fun x hx hS=>by simp at hx;subst hx;exact hnL hS) (.inl rfl) (fun y hy hy'=>setRow_other _ _ _ _ (by simpa using hy)) (g1.keeps.setRow hown) (by rw[setRow_size];exact Nat.le_refl _)
    ⟨some ⟨b,ob,none⟩,cap,by simp,by simpa using m2,fun x hx=>by
      rcases List.mem_or_eq_of_mem_set hx with hx | rfl
      ·exact m3 x hx
      ·have:=m3 e (List.mem_of_getElem? hn)
       rw[yH0 (by omega)];exact this,.inr ⟨b,ob,_,ty,fz,rfl,rfl,setRow_heap w b arr _ ty fz m7,by
        have hspl:ob+n * k+off+(a.eval x).cells.toList.length<=arr.toList.length:=by rw[r3,hsz];simp;omega
        have:=yH0 hspl;simpa [this] using m8,m9,hset⟩⟩
    (by
     have:=g1.stS;have:=g1.stB;intro g' hg';simp[A.stamp] at hg';subst hg';have hm:∃cs:List A,A.ow g false k els∈cs/\((∃av∈σ'.slots,av.cs=cs)\/some cs∈σ'.boxes):=by
      cases r with
      | slot t=>
       simp only[AS.cell,Option.bind_eq_some_iff] at hcell;obtain ⟨av,h1,h2⟩:=hcell;exact ⟨av.cs,List.mem_of_getElem? h2,.inl ⟨av,List.mem_of_getElem? h1,rfl⟩⟩
      | box t=>
       simp only[AS.cell,Option.bind_eq_some_iff] at hcell;obtain ⟨_,h1,cs,rfl,h2⟩:=hcell;exact ⟨cs,List.mem_of_getElem? h2,.inr (List.mem_of_getElem? h1)⟩
     obtain ⟨cs,hm1,hm2⟩:=hm;rcases hm2 with ⟨av,hav,rfl⟩ | hm2
     ·exact g1.stS av hav _ hm1 g rfl
     ·exact g1.stB cs hm2 _ hm1 g rfl)
    (fun g' d' k' els' he'=>by
     simp at he';obtain ⟨rfl,rfl,rfl,rfl⟩:=he';exact .inr ⟨_,els,rfl,by simp⟩)
   refine ⟨.skip,undef,_,?_,.inr ⟨rfl,rfl⟩,mM0 (i:=i) q1 ?_⟩
   ·simp only[execOp,e2,Instr.storeAt,Instr.sureAddr,pure_bind]
    simp only[Sem.run_bind,hst]
    rfl
   ·rw[yL0,g6]
    exact g5.setDead rfl
 have elcaseD:∀r c g n off,p'=⟨.one,[.eptr r c g n off]⟩->(x'.sh=.one\/x'.sh=.agg)->x'.cs.length=ti.size->
   ((holdCells base (σ.epoch,i) x'.cs σ).bind fun y=>(y.2.ad? r c g).bind fun q=>(q.2.2[n]?).bind fun e=>if q.1=true/\off+ti.size<=q.2.1 then some (y.2.setCell r c (.ow g true q.2.1 (q.2.2.set n (splice e off y.1)))) else none)=some σ1->
   ∃n v w',(execOp a.eval ⟨dst,.store t p x,type,pos,after,guard⟩).run P w=.ok n w'/\(n=.value v\/(n=.skip/\v=undef))/\Inv C (i::X) (σ1.putO dst ⟨.any,[]⟩) (a.put dst v) w':=by
  intro r c g n off hpp hsh hsz hx;subst hpp;obtain ⟨r1,r2,r3⟩:=xA0 he hsh;simp only[Option.bind_eq_some_iff] at hx;obtain ⟨⟨ts,σ'⟩,hfz,⟨d,k,els⟩,hat,e,hn,hx⟩:=hx;obtain ⟨⟨hd,hfit⟩,rfl⟩:=zP0 hx;simp only at hat hn hfit hd;subst hd;simp only[holdCells,Option.map_eq_some_iff,Prod.mk.injEq] at hfz;obtain ⟨ts',hts',rfl,rfl⟩:=hfz;obtain ⟨O1',O2',own',g1,g2,g3,g4,g5,g6,g7,g8,g9,g10,g11,g12,g13,g14⟩:=yF0 (tM0 base) h' (i:=i) (by simp) (h.fresh hi) r1 (vY0 he.st) (fX0 he.st hi) he.noOw
  have g2:=g2.toOwn hts';have hcell:=AS.ad?_some hat;obtain ⟨u,o,k1,k2,k3,k4,k5⟩:=g1.recellG (i:=i) hcell (by rw[g9];exact g8)
  obtain ⟨hpa,_⟩:=hpe.cell;have hpa':=RepA.go g12 (fun _ hb=>by simp at hb) (.inr (by simp[A.rstamp])) hpa
  obtain ⟨_,_,hpa'⟩:=hpa';obtain ⟨hnl,b,ob,cap,e1,e2⟩:=hpa' true k els hcell;rw[e1] at k1;simp at k1;subst k1;obtain ⟨ad,cap',m1,m2,m3,m4⟩:=k2;simp at m1;obtain ⟨rfl,rfl⟩:=m1;rcases m4 with ⟨_,rfl,_⟩ | ⟨b',o',arr,ty,fz,nn,m5,m6,m7,m8,m9,m10⟩
  ·simp at hnl
  ·simp at m5
   obtain ⟨rfl,rfl⟩:=m5;subst m6;have hts:ts'.length=ti.size:=by rw[<-hsz,<-r3];exact g2.length.symm
   have hmulle:n * k+k<=cap * k:=by
    have:(n+1) * k<=cap * k:=Nat.mul_le_mul_right k (by omega)
    simpa [Nat.succ_mul] using this
   have hb0:=k4 b (by simp)
   have hnL:¬L b:=fun hS=>(g1.stable b hS).2 hb0;have hnS:¬S b:=fun hS=>hnL (g1.sl b hS);have hbn:b∉nn/\nn.Nodup:=List.nodup_cons.1 k3;have hbo':b∉own':=fun hm=>(g4 b hm).1 hb0;have hdis:∀x∈own',x∉nn:=fun x hx hm=>(g4 x hx).1 (k4 x (by simp[hm]))
   obtain ⟨own2,hset,hmem,hnd⟩:=RepLE.set (off:=off) hnS hbn.1 hbo' m7 m10 m3 hn (by omega) (by have:=Nat.mul_le_mul_right k m2;omega) g2
   have hst:=uP0 (P:=P) ht (w:=w) (g:=b) (o:=ob+n * k+off) (v:=a.eval x) (by rw[r3,hsz]) m7 (by omega) (fun y hy hy'=>m9 y (by omega) (by omega)) (qZ0 r1)
   have hown:=g1.own b hb0;have hb2:b∉own2:=fun hm=>(hmem b hm).elim hbn.1 hbo';obtain ⟨O1'',O2'',q1,q2⟩:=k5 S L (w.setRow b (splice arr.toList (ob+n * k+off) (a.eval x).cells.toList).toArray) (.ow g true k (els.set n (splice e off ts'))) (b::own2) (fun _ h=>h) (fun _ h=>h) g1.sl (fun b hb=>.inl hb) (fun b hb=>.inl hb)
    (fun x hx hS=>by
     rcases List.mem_cons.1 hx with rfl | hx
     ·exact hnL hS
     ·rcases hmem x hx with hx | hx
      ·exact (g1.stable x hS).2 (k4 x (by simp[hx]))
      ·exact (g4 x hx).2.1 hS)
    (List.nodup_cons.2 ⟨hb2,hnd hbn.2 g3 hdis⟩)
    (fun x hx=>by
     rcases List.mem_cons.1 hx with rfl | hx
     ·exact .inl (by simp)
     ·rcases hmem x hx with hx | hx
      ·exact .inl (by simp[hx])
      ·exact .inr ⟨(g4 x hx).1,(g4 x hx).2.2⟩)
    (fun y hy hy'=>setRow_other _ _ _ _ (fun e=>hy (by simp[e]))) (g1.keeps.setRow hown) (by rw[setRow_size];exact Nat.le_refl _)
    ⟨some ⟨b,ob,none⟩,cap,by simp,by simpa using m2,fun x hx=>by
      rcases List.mem_or_eq_of_mem_set hx with hx | rfl
      ·exact m3 x hx
      ·have:=m3 e (List.mem_of_getElem? hn)
       rw[yH0 (by omega)];exact this,.inr ⟨b,ob,_,ty,fz,own2,rfl,rfl,setRow_heap w b arr _ ty fz m7,by
        have hspl:ob+n * k+off+(a.eval x).cells.toList.length<=arr.toList.length:=by rw[r3,hsz];simp;omega
        have:=yH0 hspl;simpa [this] using m8,m9,hset⟩⟩
    (by
     have:=g1.stS;have:=g1.stB;intro g' hg';simp[A.stamp] at hg';subst hg';have hm:∃cs:List A,A.ow g true k els∈cs/\((∃av∈(tkC (tM0 base) (σ.epoch,i) x'.cs σ).2.slots,av.cs=cs)\/some cs∈(tkC (tM0 base) (σ.epoch,i) x'.cs σ).2.boxes):=by
      cases r with
      | slot t=>
       simp only[AS.cell,Option.bind_eq_some_iff] at hcell;obtain ⟨av,h1,h2⟩:=hcell;exact ⟨av.cs,List.mem_of_getElem? h2,.inl ⟨av,List.mem_of_getElem? h1,rfl⟩⟩
      | box t=>
       simp only[AS.cell,Option.bind_eq_some_iff] at hcell;obtain ⟨_,h1,cs,rfl,h2⟩:=hcell;exact ⟨cs,List.mem_of_getElem? h2,.inr (List.mem_of_getElem? h1)⟩
     obtain ⟨cs,hm1,hm2⟩:=hm;rcases hm2 with ⟨av,hav,rfl⟩ | hm2
     ·exact g1.stS av hav _ hm1 g rfl
     ·exact g1.stB cs hm2 _ hm1 g rfl)
    (fun g' d' k' els' he'=>by
     simp at he';obtain ⟨rfl,rfl,rfl,rfl⟩:=he';exact .inr ⟨_,els,rfl,by simp⟩)
   refine ⟨.skip,undef,_,?_,.inr ⟨rfl,rfl⟩,mM0 (i:=i) q1 ?_⟩
   ·simp only[execOp,e2,Instr.storeAt,Instr.sureAddr,pure_bind]
    simp only[Sem.run_bind,hst]
    rfl
   ·rw[yL0,g9]
    exact g8.setDead rfl
 have elboth:∀r c g n off,p'=⟨.one,[.eptr r c g n off]⟩->(x'.sh=.one\/x'.sh=.agg)->x'.cs.length=ti.size->
   (match σ.ad? r c g with
    | some (true,_,_)=>(holdCells base (σ.epoch,i) x'.cs σ).bind fun y=>(y.2.ad? r c g).bind fun q=>(q.2.2[n]?).bind fun e=>if q.1=true/\off+ti.size<=q.2.1 then some (y.2.setCell r c (.ow g true q.2.1 (q.2.2.set n (splice e off y.1)))) else none
    | _=>(fzC x'.cs σ).bind fun y=>(y.2.at? r c g).bind fun q=>(q.2[n]?).bind fun e=>if off+ti.size<=q.1 then some (y.2.setCell r c (.ow g false q.1 (q.2.set n (splice e off y.1)))) else none)=some σ1->
   ∃n v w',(execOp a.eval ⟨dst,.store t p x,type,pos,after,guard⟩).run P w=.ok n w'/\(n=.value v\/(n=.skip/\v=undef))/\Inv C (i::X) (σ1.putO dst ⟨.any,[]⟩) (a.put dst v) w':=by
  intro r c g n off hpp hsh hsz hx
  split at hx
  ·exact elcaseD r c g n off hpp hsh hsz hx
  ·exact elcase r c g n off hpp hsh hsz hx
 split at hx'
 ·rename_i b off hs
  split at hx'<;>try (simp at hx';done)
  rename_i hsz;exact boxcase b off rfl (.inl hs) hsz hx'
 ·rename_i b off hs
  split at hx'<;>try (simp at hx';done)
  rename_i hsz;exact boxcase b off rfl (.inr hs) hsz hx'
 ·rename_i r c g n off hs
  split at hx'<;>try (simp at hx';done)
  rename_i hsz;exact elboth r c g n off rfl (.inl hs) hsz hx'
 ·rename_i r c g n off hs
  split at hx'<;>try (simp at hx';done)
  rename_i hsz;exact elboth r c g n off rfl (.inr hs) hsz hx'
 ·simp at hx'
end
end Go.Av
