/- Part PQ8 of the proof: Of what a function hands over of its own some may be let go: slices in a deep slice that read as shared from here on. / A loop over a slice of ones own: its head keeps one slot that refers to a slice in a boxs cell. -/
import Derived.Test.YtnmkmfancgcaeaaGreatDoorPD13
import Derived.Test.YtnmkmfancgcaeaaGreatDoorPD12
import Derived.Test.YtnmkmfancgcaeaaGreatDoorPQ6
import Derived.Test.YtnmkmfancgcaeaaGreatDoorPN6
set_option linter.all false
/- Of what a function hands over of its own some may be let go: slices in a deep slice that read as shared from here on. -/
namespace Go.Av
def gzC:List T->List T->Prop
 | [],[]=>True
 | c::cs,d::ds=>(d=c\/d=c.er)/\gzC cs ds
 | _,_=>False
def fzE:List (List T)->List (List T)->Prop
 | [],[]=>True
 | c::cs,d::ds=>gzC c d/\fzE cs ds
 | _,_=>False
def fzA:A->A->Prop
 | .ow g true k els,c'=>∃els',fzE els els'/\c'=.ow g true k els'
 | c,c'=>c'=c
def fzAs:List A->List A->Prop
 | [],[]=>True
 | c::cs,d::ds=>fzA c d/\fzAs cs ds
 | _,_=>False
theorem WE0:∀{c d:List T},gzC c d->d.length=c.length
 | [],[],_=>rfl
 | _::_,_::_,h=>by rw[List.length_cons,List.length_cons,WE0 h.2]
 | [],_::_,h=>h.elim
 | _::_,[],h=>h.elim
theorem fW0:∀{c d:List (List T)},fzE c d->d.length=c.length
 | [],[],_=>rfl
 | _::_,_::_,h=>by rw[List.length_cons,List.length_cons,fW0 h.2]
 | [],_::_,h=>h.elim
 | _::_,[],h=>h.elim
theorem MX0 {k:Nat}:∀{c d:List (List T)},fzE c d->(∀e∈c,e.length=k)->∀e∈d,e.length=k
 | [],[],_,_=>by simp
 | c::_,d::_,h,ha=>by
  intro e he;rcases List.mem_cons.1 he with rfl | he
  ·rw[WE0 h.1];exact ha c (by simp)
  ·exact MX0 h.2 (fun e he=>ha e (by simp[he])) e he
 | [],_::_,h,_=>h.elim
 | _::_,[],h,_=>h.elim
theorem er_L {S:Nat->Prop} {w:World} {c:T} {u:Value} (h:RepS S w c.er u):RepL S w c.er u []:=by
 cases c<;>simp only[T.er,RepS,RepL] at h |-
 ·exact ⟨h.1,h.2,trivial⟩
 ·exact ⟨h,trivial⟩
 ·exact ⟨h,trivial⟩
theorem RepLC.fz {S:Nat->Prop} {w:World} {b:Nat}:∀{o:Nat} {cs ds:List T} {own:List Nat},gzC cs ds->RepLC S w b o cs own->
  ∃o' m,own.Perm (o'++m)/\∀S':Nat->Prop,(∀b,S b->S' b)->(∀b∈m,S' b)->RepLC S' w b o ds o'
 | o,[],[],own,_,h=>by
  simp only[RepLC] at h;exact ⟨[],[],by rw[h];exact List.Perm.nil,fun S' _ _=>by simp only[RepLC]⟩
 | o,c::cs,d::ds,own,hf,h=>by
  simp only[RepLC] at h;obtain ⟨u,o1,o2,rfl,h1,h2,h3⟩:=h;obtain ⟨o',m,hp,hr⟩:=RepLC.fz hf.2 h3;rcases hf.1 with rfl | rfl
  ·refine ⟨o1++o',m,?_,fun S' hS hm=>?_⟩
   ·rw[List.append_assoc];exact List.Perm.append_left _ hp
   ·simp only[RepLC]
    exact ⟨u,o1,o',rfl,h1,RepL.mono hS (fun _ _=>rfl) _ _ _ (fun _ _=>rfl) h2,hr S' hS hm⟩
  ·refine ⟨o',o1++m,?_,fun S' hS hm=>?_⟩
   ·refine (List.Perm.append_left o1 hp).trans ?_
    rw[<-List.append_assoc,<-List.append_assoc];exact List.Perm.append_right _ List.perm_append_comm
   ·simp only[RepLC]
    exact ⟨u,[],o',rfl,h1,er_L (RepL.toS hS _ _ _ (fun b hb=>hm b (by simp[hb])) h2),hr S' hS fun b hb=>hm b (by simp[hb])⟩
 | _,[],_::_,_,h,_=>h.elim
 | _,_::_,[],_,h,_=>h.elim
theorem RepLE.fz {S:Nat->Prop} {w:World} {b:Nat}:∀{o:Nat} {cs ds:List (List T)} {own:List Nat},fzE cs ds->RepLE S w b o cs own->
  ∃o' m,own.Perm (o'++m)/\∀S':Nat->Prop,(∀b,S b->S' b)->(∀b∈m,S' b)->RepLE S' w b o ds o'
 | o,[],[],own,_,h=>by
  simp only[RepLE] at h;exact ⟨[],[],by rw[h];exact List.Perm.nil,fun S' _ _=>by simp only[RepLE]⟩
 | o,c::cs,d::ds,own,hf,h=>by
  simp only[RepLE] at h;obtain ⟨o1,o2,rfl,h2,h3⟩:=h;obtain ⟨p1,m1,q1,r1⟩:=RepLC.fz hf.1 h2;obtain ⟨p2,m2,q2,r2⟩:=RepLE.fz hf.2 h3;refine ⟨p1++p2,m1++m2,?_,fun S' hS hm=>?_⟩
  ·refine (List.Perm.append q1 q2).trans ?_
   rw[List.append_assoc,List.append_assoc];refine List.Perm.append_left _ ?_;rw[<-List.append_assoc,<-List.append_assoc];exact List.Perm.append_right _ List.perm_append_comm
  ·simp only[RepLE]
   exact ⟨p1,p2,rfl,r1 S' hS fun b hb=>hm b (by simp[hb]),by rw[WE0 hf.1];exact r2 S' hS fun b hb=>hm b (by simp[hb])⟩
 | _,[],_::_,_,h,_=>h.elim
 | _,_::_,[],_,h,_=>h.elim
theorem RepA.fz {S:Nat->Prop} {bl:List Nat} {w:World} {c d:A} {u:Value} {own:List Nat} (hf:fzA c d) (h:RepA (Env.zero S S bl w) c u own) :
  ∃o' m,own.Perm (o'++m)/\∀S':Nat->Prop,(∀b,S b->S' b)->(∀b∈m,S' b)->RepA (Env.zero S' S' bl w) d u o':=by
 have key:d=c->∃o' m,own.Perm (o'++m)/\∀S':Nat->Prop,(∀b,S b->S' b)->(∀b∈m,S' b)->RepA (Env.zero S' S' bl w) d u o':=fun e=>by
  subst e;exact ⟨own,[],by rw[List.append_nil],fun S' hS _=>RepA.go (le_zero hS) (fun _ _=>rfl) (yR0 [d] d List.mem_cons_self) h⟩
 cases c<;>try exact key hf
 rename_i g dd k els;cases dd
 ·exact key hf
 obtain ⟨els',he,rfl⟩:=hf;obtain ⟨ad,cap,h1,h2,h3,h4⟩:=h;rcases h4 with ⟨rfl,rfl,rfl⟩ | ⟨b,o,arr,ty,fz,n,g1,rfl,g3,g4,g5,g6⟩
 ·have e0:els'=[]:=by have:=fW0 he;simpa using this
  subst e0;exact ⟨[],[],List.Perm.nil,fun S' _ _=>⟨ad,0,h1,h2,h3,.inl ⟨rfl,rfl,rfl⟩⟩⟩
 ·obtain ⟨o',m,q1,q2⟩:=RepLE.fz he g6
  refine ⟨b::o',m,List.Perm.cons _ q1,fun S' hS hm=>⟨ad,cap,by rw[fW0 he];exact h1,by rw[fW0 he];exact h2,MX0 he h3,.inr ⟨b,o,arr,ty,fz,o',g1,rfl,g3,g4,g5,q2 S' hS hm⟩⟩⟩
theorem RpA.fz {S:Nat->Prop} {bl:List Nat} {w:World}:∀{cs ds:List A} {us:List Value} {own:List Nat},fzAs cs ds->RpA (Env.zero S S bl w) cs us own->
  ∃o' m,own.Perm (o'++m)/\∀S':Nat->Prop,(∀b,S b->S' b)->(∀b∈m,S' b)->RpA (Env.zero S' S' bl w) ds us o'
 | [],[],us,own,_,h=>by
  obtain ⟨rfl,rfl⟩:=h;exact ⟨[],[],List.Perm.nil,fun S' _ _=>⟨rfl,rfl⟩⟩
 | c::cs,d::ds,us,own,hf,h=>by
  obtain ⟨u,us',o1,o2,rfl,rfl,h2,h3⟩:=h;obtain ⟨p1,m1,q1,r1⟩:=RepA.fz hf.1 h2;obtain ⟨p2,m2,q2,r2⟩:=RpA.fz hf.2 h3;refine ⟨p1++p2,m1++m2,?_,fun S' hS hm=>⟨u,us',p1,p2,rfl,rfl,r1 S' hS fun b hb=>hm b (by simp[hb]),r2 S' hS fun b hb=>hm b (by simp[hb])⟩⟩
  refine (List.Perm.append q1 q2).trans ?_;rw[List.append_assoc,List.append_assoc];refine List.Perm.append_left _ ?_;rw[<-List.append_assoc,<-List.append_assoc];exact List.Perm.append_right _ List.perm_append_comm
 | [],_::_,_,_,h,_=>h.elim
 | _::_,[],_,_,h,_=>h.elim
theorem uJ1 {P:Program} {f:FuncId} {args:List AV} {bx:List (Option (List A))} {cs ds:List A} {x:List (Option (List A))} (hf:fzAs cs ds)
  (h:ACl P f args bx (fun res bx=>res=⟨.agg,cs⟩/\bx=x)):ACl P f args bx (fun res bx=>res=⟨.agg,ds⟩/\bx=x):=by
 intro w vals S L bl O1 O2 h1 h2 h3 h4 h5 h6;refine (h w vals S L bl O1 O2 h1 h2 h3 h4 h5 h6).mono ?_;rintro e w' ⟨v,rfl,res,bx',S',bl',o1,o2,⟨rfl,rfl⟩,hv,hb,hn,hs,hSS,hS',hk,ho,hp⟩;have hlt:∀b∈o1,b < w'.heap.size:=RpA.lt hv.2;obtain ⟨o',m,hpm,hr⟩:=RpA.fz hf hv.2;have hup:∀b,S' b->(fun b=>S' b\/b∈m) b:=fun b h=>Or.inl h;have hn2:((o'++m)++o2).Nodup:=(List.Perm.append_right o2 hpm).nodup_iff.1 hn
 have hin:∀b,b∈o'\/b∈m->b∈o1:=fun b hb=>hpm.mem_iff.2 (List.mem_append.2 hb);refine ⟨v,rfl,⟨.agg,ds⟩,_,fun b=>S' b\/b∈m,bl',o',o2,⟨rfl,rfl⟩,⟨hv.1,hr _ hup fun b hb=>Or.inr hb⟩,RpB.go (le_zero hup) (fun _ _=>rfl) (fun c cs' _ _=>yR0 cs') hb,?_,?_,fun b hb=>Or.inl (hSS b hb),?_,hk,?_,hp⟩
 ·rw[List.append_assoc] at hn2
  have a:=List.nodup_append.1 hn2;have b:=List.nodup_append.1 a.2.1;exact List.nodup_append.2 ⟨a.1,b.2.1,fun x hx y hy=>a.2.2 x hx y (by simp[hy])⟩
 ·rintro b (hb | hb)
  ·refine ⟨(hs b hb).1,fun hb2=>(hs b hb).2 ?_⟩
   rcases List.mem_append.1 hb2 with hb2 | hb2
   ·exact List.mem_append_left _ (hin b (.inl hb2))
   ·exact List.mem_append_right _ hb2
  ·refine ⟨hlt b (hin b (.inr hb)),fun hb2=>?_⟩
   rw[List.append_assoc] at hn2;have a:=List.nodup_append.1 hn2;have c:=List.nodup_append.1 a.2.1;rcases List.mem_append.1 hb2 with hb2 | hb2
   ·exact a.2.2 b hb2 b (by simp[hb]) rfl
   ·exact c.2.2 b hb b hb2 rfl
 ·rintro b (hb | hb)
  ·exact hS' b hb
  ·rcases ho b (List.mem_append_left _ (hin b (.inr hb))) with h | h
   ·exact Or.inr (Or.inl h)
   ·exact Or.inr (Or.inr h)
 ·intro b hb
  rcases List.mem_append.1 hb with hb | hb
  ·exact ho b (List.mem_append_left _ (hin b (.inl hb)))
  ·exact ho b (List.mem_append_right _ hb)
end Go.Av
/- A loop over a slice of one's own: its head keeps one slot that refers to a slice in a box's cell. -/
namespace Go.Av
theorem mD0 {nb:Nat} {kk:Nat->Option Nat}:∀{cs ds:List A} {j c:Nat} {x:A},wU0 nb kk j cs=some ds->cs[c]?=some x->∃y,uG0 nb (kk (j+c)) x=some y/\ds[c]?=some y
 | [],_,_,c,x,_,h=>by simp at h
 | d::cs,ds,j,0,x,hx,h=>by
  simp only[wU0,Option.bind_eq_some_iff,Option.map_eq_some_iff] at hx;obtain ⟨y,hy,q,hq,rfl⟩:=hx;simp at h;subst h;exact ⟨y,hy,rfl⟩
 | d::cs,ds,j,c+1,x,hx,h=>by
  simp only[wU0,Option.bind_eq_some_iff,Option.map_eq_some_iff] at hx;obtain ⟨y,hy,q,hq,rfl⟩:=hx;obtain ⟨z,h1,h2⟩:=mD0 hq (by simpa using h)
  exact ⟨z,by rw[show j+(c+1)=j+1+c by omega];exact h1,by simpa using h2⟩
theorem tZ0 {nb:Nat} {kk:Root->Nat->Option Nat}:∀{bs bs':List (Option (List A))} {b m:Nat} {cs:List A} {y:Option (List A)},wJ0 nb kk b bs=some bs'->bs[m]?=some (some cs)->bs'[m]?=some y->∃ds,y=some ds/\wU0 nb (kk (.box (b+m))) 0 cs=some ds/\b+m < nb
 | [],_,_,m,_,_,_,h,_=>by simp at h
 | x::bs,bs',b,m,cs,y,hx,h,hy=>by
  by_cases hlt:b < nb
  ·cases x with
   | none=>
    simp only[wJ0,if_pos hlt,Option.map_eq_some_iff] at hx;obtain ⟨q,hq,rfl⟩:=hx;cases m with
    | zero=>simp at h
    | succ m=>
     obtain ⟨ds,h1,h2,h3⟩:=tZ0 hq (by simpa using h) (by simpa using hy)
     exact ⟨ds,h1,by rw[show b+(m+1)=b+1+m by omega];exact h2,by omega⟩
   | some ds0=>
    simp only[wJ0,if_pos hlt,Option.bind_eq_some_iff,Option.map_eq_some_iff] at hx;obtain ⟨d,hd,q,hq,rfl⟩:=hx;cases m with
    | zero=>
     simp at h hy;subst h;subst hy;exact ⟨d,rfl,hd,by omega⟩
    | succ m=>
     obtain ⟨ds,h1,h2,h3⟩:=tZ0 hq (by simpa using h) (by simpa using hy)
     exact ⟨ds,h1,by rw[show b+(m+1)=b+1+m by omega];exact h2,by omega⟩
  ·have hbx:bs'=[]:=by cases x<;>simp[wJ0,hlt] at hx<;>exact hx
   subst hbx;simp at hy
section
variable {P:Program} {C:Ctx} {X:List Nat} {σ:AS} {a:Act} {w:World}
def wkS (nb:Nat) (keep:Nat->Bool) (kk:Root->Nat->Option Nat) (t:Nat) (σ:AS):Option AS:=match σ.slots[t]? with
 | some ⟨.one,[.sref (.box b) c g lo len]⟩=>match σ.cell (.box b) c with
  | some (.ow g' _ _ _)=>if g'=g then match wk nb keep kk σ with
    | some σ'=>match σ'.cell (.box b) c with
     | some _=>some (σ'.put t ⟨.one,[.sref (.box b) c (0,0) lo len]⟩).next
     | none=>none
    | none=>none
   else none
  | _=>none
 | _=>none
theorem DH0 {nb t:Nat} {keep:Nat->Bool} {kk:Root->Nat->Option Nat} {σ':AS} (hx:wkS nb keep kk t σ=some σ') (hC:C.bl0.length<=nb) (h:Inv C X σ a w):Inv C [] σ' a w:=by
 obtain ⟨S,L,bl,O1,O2,h⟩:=h;unfold wkS at hx
 split at hx
 case h_2=>cases hx
 rename_i b c g lo len hs
 split at hx
 case h_2=>cases hx
 rename_i g' d k els hc
 split at hx
 case isFalse=>cases hx
 rename_i hg;subst hg
 split at hx
 case h_2=>cases hx
 rename_i σ1 hw
 split at hx
 case h_2=>cases hx
 rename_i y hy;simp only[Option.some.injEq] at hx;subst hx;obtain ⟨v,p,o,q,g1,g2,g3,-⟩:=RpS.split t _ h.slots hs;obtain ⟨hone,u,us,o1,o2,f1,f2,f3,f4⟩:=g3;have f4:us=[]:=f4.1;subst f4;have hvu:v=u:=by
  obtain ⟨ha,hb⟩:=hone;cases v<;>simp[flat,isTuple,zZ0] at f1 ha hb |-<;>exact f1
 subst hvu;obtain ⟨-,hone',hfa⟩:=f3;obtain ⟨hlo,ad,cap,x,hcv,hu,hsub⟩:=hfa d k els hc;have hw':=hw;simp only[wk,Option.bind_eq_some_iff,Option.map_eq_some_iff] at hw;obtain ⟨sl,hsl,bx,hbx,rfl⟩:=hw;obtain ⟨q1,s1,s2,s3⟩:=qU0 (ca':=(⟨sl,bx,1⟩:AS).cell) hsl h.slots;obtain ⟨q2,t1,t2,t3⟩:=tC0 (ca':=(⟨sl,bx,1⟩:AS).cell) (Nat.zero_le _) hbx h.boxes;have hsubl:=List.Sublist.append s2 t2;have hst:∀cs,Plain cs->∀c∈cs,stampIn [] 1 c:=fun cs hcs c hc g hg=>by
  rw[(hcs c hc).2 g hg];exact .inl (by simp)
 have hI:InvAt C [] ⟨sl,bx,1⟩ a w S L (bl.take nb) q1 q2:=by
  refine ⟨h.defers,s1,by simpa using t1,h.nodup.sublist hsubl,h.sl,fun b hb=>⟨(h.stable b hb).1,fun hm=>(h.stable b hb).2 (hsubl.subset hm)⟩,h.s0,h.keeps,fun b hb=>h.own b (hsubl.subset hb),?_,fun av hav=>hst _ (s3 av hav),fun cs hcs=>hst _ (t3 cs hcs)⟩
  obtain ⟨r,hr⟩:=h.pre;rw[<-hr,List.take_append,List.take_of_length_le hC];exact List.prefix_append _ _
 obtain ⟨cs,hb1,hb2⟩:∃cs,σ.boxes[b]?=some (some cs)/\cs[c]?=some (.ow g' d k els):=by
  simp only[AS.cell] at hc;cases hbb:σ.boxes[b]? with
  | none=>simp[hbb] at hc
  | some z=>cases z with
   | none=>simp[hbb] at hc
   | some cs=>exact ⟨cs,rfl,by simpa [hbb] using hc⟩
 obtain ⟨ds,hd1,hd2⟩:∃ds,bx[b]?=some (some ds)/\ds[c]?=some y:=by
  simp only[AS.cell] at hy;cases hbb:bx[b]? with
  | none=>simp[hbb] at hy
  | some z=>cases z with
   | none=>simp[hbb] at hy
   | some cs=>exact ⟨cs,rfl,by simpa [hbb] using hy⟩
 obtain ⟨ds',hd3,hd4,hbn⟩:=tZ0 hbx hb1 hd1;simp only[Option.some.injEq] at hd3;subst hd3;obtain ⟨y',hy1,hy2⟩:=mD0 hd4 hb2;have hyy:y=y':=by rw[hd2] at hy2;exact Option.some.inj hy2
 subst hyy;simp only[uG0,Option.some.injEq] at hy1;have hcv':Env.cv ⟨S,L,bl.take nb,a,w,(⟨sl,bx,1⟩:AS).cell⟩ (.box b) c=some (.slice ad els.length cap):=by
  simp only[Env.cv] at hcv |-;rw[List.getElem?_take,if_pos (by omega)]
  exact hcv
 have hcell:(⟨sl,bx,1⟩:AS).cell (.box b) c=some (.ow (0,0) (wE0 (kk (.box (0+b)) (0+c)) d) k els):=by
  rw[hy,<-hy1]
 have hv:RepV ⟨S,L,bl.take nb,a,w,(⟨sl,bx,1⟩:AS).cell⟩ ⟨.one,[.sref (.box b) c (0,0) lo len]⟩ v []:=by
  refine ⟨hone,v,[],[],[],by rw[f1],rfl,⟨rfl,hone',fun d' k' els' he=>?_⟩,rfl,rfl⟩
  rw[show (Env.mk S L (bl.take nb) a w (⟨sl,bx,1⟩:AS).cell).ca (.box b) c=_ from hcell] at he
  simp only[Option.some.injEq,A.ow.injEq,true_and] at he;obtain ⟨-,rfl,rfl⟩:=he;exact ⟨hlo,ad,cap,x,hcv',hu,hsub⟩
 have h':=hI.mono (X':=[0]) (fun x hx=>by simp at hx)
 have hput:=h'.put (d:=t) (i:=0) (av:=⟨.one,[.sref (.box b) c (0,0) lo len]⟩) (v:=v) (o':=[]) (hI.fresh (by simp)) hv
  (by intro c0 hc0;simp only[List.mem_singleton] at hc0;subst hc0;exact Or.inr (by simp[A.rstamp]))
  (by intro c0 hc0;simp only[List.mem_singleton] at hc0;subst hc0;intro g0 hg0;simp only[A.stamp,Option.some.injEq] at hg0;subst hg0;exact .inl (by simp))
  (by intro g0 d0 k0 e0 hm;simp at hm) (by simp) (by simp)
 obtain ⟨q1',hput⟩:=hput;have hav:a.put (some t) v=a:=by
  unfold Act.put;have:a.tmps.setIfInBounds t v=a.tmps:=by
   apply Array.ext';rw[Array.toList_setIfInBounds];exact HY0 g1
  simp only[this]
 rw[hav] at hput;exact Inv.next ⟨S,L,bl.take nb,q1',q2,hput⟩
def vN0 (nb:Nat) (keep:Nat->Bool) (kk:Root->Nat->Option Nat) (t:Nat) (σ:AS) (K:AS->Prop):Prop:=match wkS nb keep kk t σ with
 | some σ'=>K σ'
 | none=>False
theorem AWp.loopS {nb t:Nat} {keep:Nat->Bool} {kk:Root->Nat->Option Nat} {c:Code} {Q:Exit->AS->Prop} (I:Nat->AS->Prop) (hC:C.bl0.length<=nb) (h0:vN0 nb keep kk t σ fun σ'=>∃n,I n σ')
  (round:∀n σ,I n σ->AWp P C c σ (uL0 (fun σ'=>vN0 nb keep kk t σ' fun σ''=>∃m,m < n/\I m σ'') Q)):AWp P C (.loop c) σ Q:=by
 unfold vN0 at h0
 split at h0
 ·rename_i σ' hx
  obtain ⟨n,hn⟩:=h0;intro a w hi;refine (AWp.loop I hn fun n σ hI=>?_) a w (DH0 hx hC hi);intro a w hi;refine wp_mono (round n σ hI a w hi) ?_;rintro e a' w' ⟨σ1,h1,h2⟩;cases e<;>first
   | exact ⟨σ1,h1,h2⟩
   | (simp only[uL0,vN0] at h1;split at h1;(rename_i σ2 hx2;exact ⟨σ2,h1,DH0 hx2 hC h2⟩);(exact h1.elim))
 ·exact h0.elim
end
end Go.Av
namespace Go.Gv
open Go.Av
theorem qLs {α:Type} {O:Ops} {ts:Nat->Option TI} {P:Program} {C:Ctx} {σ:AS} {Q:Exit->AS->Prop} {c:Code} (nb:Nat) (ks:List Nat) (kk:Root->Nat->Option Nat) (t:Nat) (S:α->AS) (V:α->Prop) (μ:α->Nat) (h0:vN0 nb (fun t=>ks.contains t) kk t σ fun σ'=>∃a,σ'=S a/\V a)
  (round:∀a,V a->Nx (nxt O ts P C c (S a) (uL0 (fun σ'=>vN0 nb (fun t=>ks.contains t) kk t σ' fun σ''=>∃a',σ''=S a'/\V a'/\μ a' < μ a) Q))) (hC':C.bl0.length<=nb:=by first|(simp at hC;simp[hC];done)|(simp[hC];done)|omega|(simp at hC;omega)|fail):At O ts P C (.loop c) σ Q:=by
 refine ⟨fun hO ht=>AWp.loopS (nb:=nb) (t:=t) (keep:=fun t=>ks.contains t) (kk:=kk) (fun n σ=>∃a,σ=S a/\V a/\n=μ a) hC' ?_ fun n σ=>?_⟩
 ·unfold vN0 at h0 |-
  split at h0
  ·rename_i x hx
   obtain ⟨a,h1,h2⟩:=h0;exact ⟨_,a,h1,h2,rfl⟩
  ·exact h0.elim
 ·rintro ⟨a,rfl,h1,rfl⟩
  have h:=(round a h1).go;have e:(uL0 (fun σ'=>vN0 nb (fun t=>ks.contains t) kk t σ' fun σ''=>∃a',σ''=S a'/\V a'/\μ a' < μ a) Q)=(uL0 (fun σ'=>vN0 nb (fun t=>ks.contains t) kk t σ' fun σ''=>∃m,m < μ a/\∃a,σ''=S a/\V a/\m=μ a) Q):=by
   congr 1
   funext σ'
   congr 1
   funext σ''
   exact propext ⟨fun ⟨a',h1,h2,h3⟩=>⟨_,h3,a',h1,h2,rfl⟩,fun ⟨m,h3,a',h1,h2,h4⟩=>⟨a',h1,h2,h4 ▸ h3⟩⟩
  rw[e] at h;exact tU0 h hO ht
open Go.Av Go.Proofs
set_option maxRecDepth 10000
set_option maxHeartbeats 8000000
variable {I:∀{α:Type},α->α}
open Classical in
noncomputable def Ru.z (r:Ru):List T:=[.lit (.int .i64 r.k),.lit (.int .i64 r.p.k),.lit (.int .i64 r.p.n),.lit (.string r.p.s),if r.k=4 then .sl (r.p.l.map Ex.t) else .own (r.p.l.map Ex.o),.sl (r.a.map Sm.t)]
def Fu.z (f:Fu):List T:=[.lit (.string f.name),.own (f.params.map strT),.sl (f.a.map Sm.t)]
def mixP {α:Type} (f g:α->List T) (l:List α) (i:Nat):List (List T):=(l.take i).map f++(l.drop i).map g
section
variable {α:Type} [Inhabited α] (f g:α->List T)
theorem UU0 {l:List α} {i:Nat} (h:l.length<=i):mixP f g l i=l.map f:=by rw[mixP,List.take_of_length_le h,List.drop_of_length_le h];simp
theorem UT0 (l:List α) (i:Nat):(mixP f g l i).length=l.length:=by simp[mixP];omega
theorem MB0 {l:List α} {i:Nat} (h:i < l.length):(mixP f g l i).getD i []=g l[i]!:=by
 have h1:((l.take i).map f).length=i:=by simp;omega
 rw[List.getD_eq_getElem?_getD,mixP,List.getElem?_append_right (by omega),h1,Nat.sub_self,List.getElem?_map,List.getElem?_drop,Nat.add_zero,List.getElem?_eq_getElem h]
 simp[h]
theorem UR0 {l:List α} {i:Nat} (h:i < l.length) (z:List T) (hz:z=f l[i]!):(mixP f g l i).set i z=mixP f g l (i+1):=by
 have h1:((l.take i).map f).length=i:=by simp;omega
 rw[hz,mixP,mixP,zU0 h,List.set_append,if_neg (by omega),h1,Nat.sub_self,JN0 h,List.map_cons,List.set_cons_zero,List.map_append,List.append_assoc]
 rfl
end
def LsQ:Prop:=(∀(n:Nat) (a:T) (l:List T),List.take (n+1) (a::l)=a::List.take n l)/\(∀l:List T,List.take 0 l=[])/\(∀(n:Nat) (a:T) (l:List T),List.drop (n+1) (a::l)=List.drop n l)/\(∀l:List T,List.drop 0 l=l)/\(∀(a:T) (l m:List T),List.append (a::l) m=a::List.append l m)/\(∀m:List T,List.append [] m=m)
theorem lsQ:LsQ:=⟨fun _ _ _=>rfl,fun _=>rfl,fun _ _ _=>rfl,fun _=>rfl,fun _ _ _=>rfl,fun _=>rfl⟩
noncomputable def Ru.f (ff:Ex->Ex) (r:Ru):List T:=(Ru.mp ff r).o
noncomputable def Fu.f (ff:Ex->Ex) (r:Fu):List T:=(Fu.mp ff r).o
theorem nJ0 (hI:II @I) (ff:Ex->Ex) (p:Pg) (c1:ACl Tryz.prog 37 [pA @I p] [] (fun res bx=>res=⟨.agg,[.ow (0,0) true 6 (I (p.rules.map Ru.z)),.ow (0,0) true 3 (I (p.fns.map Fu.z))]⟩/\bx=[])) (c2:ACl Tryz.prog 38 [pA @I p] [] (fun res bx=>res=litB true/\bx=[])) (h1:p.rules.length<=1048576) (h2:p.fns.length<=1048576) (h3:∀f∈p.fns,f.params.length<=1048576) (hz:∀r∈p.rules,¬r.k=4->rG0 r.p) (ih1:∀r∈p.rules,r.k=4->FdE @I 8 ff r.p) (ih2:∀r∈p.rules,FdS @I ff r.a) (ih3:∀f∈p.fns,FdS @I ff f.a):ACl Tryz.prog 15 [pA @I p] [] (fun res bx=>res=pO @I (Pg.mp ff p)/\bx=[]):=by
 refine qN hI tyK Tryz.func15 60 [.cell 2 42] ?_;unhygienic intros
 refine qB 0 ?_
 repeat' first|refine qA 0 ?_|refine qJ (nN []) ?_|refine qp ?_ ?_|refine qk (fun h=>?_) fun h=>?_|fail
 clear c1 c2;refine qLs 3 [1,2,3,16,17] kk0 15 (fun i:Nat=>⟨vag 60 [(1,⟨.one,[.ptr 0 0]⟩),(2,⟨.one,[.ptr 1 0]⟩),(3,⟨.one,[.ptr 2 0]⟩),(15,⟨.one,[.sref (.box 2) 0 (0,0) 0 (I p.rules.length)]⟩),(16,litI (Int.ofNat (I p.rules.length))),(17,litI (Int.ofNat (I i)))],[some (pA @I p).cs,some [.nil,.nil],some [.ow (0,0) true 6 (I (mixP (Ru.f ff) Ru.z p.rules i)),.ow (0,0) true 3 (I (p.fns.map Fu.z))]],2⟩) (fun i=>i<=p.rules.length) (fun i=>p.rules.length - i) ?_ fun i hi=>?_
 ·cbv
  exact ⟨0,by simp only[hI.e];rfl,by omega⟩
 by_cases hh:i < p.rules.length
 ·have cf:=ih1 _ (zB0 hh)
  have c2:=ih2 _ (zB0 hh);have hzr:=hz _ (zB0 hh);have hm:=MB0 (Ru.f ff) Ru.z hh;have hs:=fun z=>UR0 (Ru.f ff) Ru.z hh z;have hl:=UT0 (Ru.f ff) Ru.z p.rules i;generalize hr:p.rules[i]! = r at *;generalize mixP (Ru.f ff) Ru.z p.rules i=E at *;have hix:idx (Int.ofNat (nadd 0 (nat (Int.ofNat (I i))))) (I p.rules.length):=F.n15 i _ hh
  by_cases h4:r.k=4
  ·have c1:=cf h4
   obtain ⟨E',hE'⟩:∃E',E'=E.set i [.lit (.int .i64 r.k),.lit (.int .i64 r.p.k),.lit (.int .i64 r.p.n),.lit (.string r.p.s),.sl (r.p.l.map Ex.t),.own ((r.a.map (Sm.mp ff)).map Sm.o)]:=⟨_,rfl⟩;have e1:len (I E)=I p.rules.length/\len (I E')=I p.rules.length:=by
    simp only[hI.e];cases hO;exact ⟨hl,by show E'.length=_;rw[hE',List.length_set];exact hl⟩
   have e2:get (I E) (nadd 0 (nat (Int.ofNat (I i))))=[.lit (.int .i64 (I r.k)),.lit (.int .i64 (I r.p.k)),.lit (.int .i64 (I r.p.n)),.lit (.string (I r.p.s)),.sl (I (r.p.l.map Ex.t)),.sl (I (r.a.map Sm.t))]/\get (I E') (nadd 0 (nat (Int.ofNat (I i))))=[.lit (.int .i64 (I r.k)),.lit (.int .i64 (I r.p.k)),.lit (.int .i64 (I r.p.n)),.lit (.string (I r.p.s)),.sl (I (r.p.l.map Ex.t)),.own (I ((r.a.map (Sm.mp ff)).map Sm.o))]:=by
    simp only[hI.e];cases hO;have ei:(0+(Int.ofNat i).toNat)=i:=by simp
    refine ⟨?_,?_⟩
    ·show E.getD (0+(Int.ofNat i).toNat) []=_
     rw[ei,hm,Ru.z,if_pos h4]
    ·show E'.getD (0+(Int.ofNat i).toNat) []=_
     rw[ei,hE'];simp[hl,hh]
   have e3:set (I E) (nadd 0 (nat (Int.ofNat (I i)))) [.lit (.int .i64 (I r.k)),.lit (.int .i64 (I r.p.k)),.lit (.int .i64 (I r.p.n)),.lit (.string (I r.p.s)),.sl (I (r.p.l.map Ex.t)),.own (I ((r.a.map (Sm.mp ff)).map Sm.o))]=I E'/\set (I E') (nadd 0 (nat (Int.ofNat (I i)))) [.lit (.int .i64 (I r.k)),.lit (.int .i64 (I (ff r.p).k)),.lit (.int .i64 (I (ff r.p).n)),.lit (.string (I (ff r.p).s)),.own (I ((ff r.p).l.map Ex.o)),.own (I ((r.a.map (Sm.mp ff)).map Sm.o))]=I (mixP (Ru.f ff) Ru.z p.rules (i+1)):=by
    simp only[hI.e];cases hO;have ei:(0+(Int.ofNat i).toNat)=i:=by simp
    refine ⟨?_,?_⟩
    ·show E.set (0+(Int.ofNat i).toNat) _=_
     rw[ei,hE']
    ·show E'.set (0+(Int.ofNat i).toNat) _=_
     rw[ei,hE',List.set_set,<-hs _ (by rw[Ru.f,Ru.o_eq,show (Ru.mp ff r).p=ff r.p by unfold Ru.mp;dsimp only;rw[if_pos h4]])];rfl
   have o1:one (I E) (nadd 0 (nat (Int.ofNat (I i)))) 6:=by
    have q:=e2.1;simp only[hI.e] at q |-;cases hO;exact ⟨by simp[hl,hh],by have:=congrArg List.length q;exact this⟩
   have o2:one (I E') (nadd 0 (nat (Int.ofNat (I i)))) 6:=by
    have q:=e2.2;simp only[hI.e] at q |-;cases hO;exact ⟨by simp[hE',hl,hh],by have:=congrArg List.length q;exact this⟩
   have e1:=And.intro e1 lsQ;unfold LsQ at e1;clear hm hs hE' cf;refine qB 0 ?_
   (repeat' first|refine qA 0 ?_|refine qJ (nN []) ?_|refine qp ?_ ?_|refine qk (fun h=>?_) fun h=>?_|fail)
   all_goals first | exact absurd hh (by assumption) | exact absurd h4 (by assumption) | exact ⟨i+1,by (try simp only[A.reset,hI.e]);rfl,by omega,by omega⟩
  ·obtain ⟨E',hE'⟩:∃E',E'=mixP (Ru.f ff) Ru.z p.rules (i+1):=⟨_,rfl⟩
   have e1:len (I E)=I p.rules.length:=by simp only[hI.e];cases hO;exact hl
   have e2:get (I E) (nadd 0 (nat (Int.ofNat (I i))))=[.lit (.int .i64 (I r.k)),.lit (.int .i64 (I r.p.k)),.lit (.int .i64 (I r.p.n)),.lit (.string (I r.p.s)),.own (I (r.p.l.map Ex.o)),.sl (I (r.a.map Sm.t))]:=by
    simp only[hI.e];cases hO
    show E.getD (0+(Int.ofNat i).toNat) []=_
    rw[show (0+(Int.ofNat i).toNat)=i by simp,hm,Ru.z,if_neg h4]
   have e3:set (I E) (nadd 0 (nat (Int.ofNat (I i)))) [.lit (.int .i64 (I r.k)),.lit (.int .i64 (I r.p.k)),.lit (.int .i64 (I r.p.n)),.lit (.string (I r.p.s)),.own (I (r.p.l.map Ex.o)),.own (I ((r.a.map (Sm.mp ff)).map Sm.o))]=I E':=by
    simp only[hI.e];cases hO
    show E.set (0+(Int.ofNat i).toNat) _=_
    rw[show (0+(Int.ofNat i).toNat)=i by simp,hE',<-hs _ (by rw[Ru.f,Ru.o_eq,show (Ru.mp ff r).p=r.p by unfold Ru.mp;dsimp only;rw[if_neg h4]])];rfl
   have o1:one (I E) (nadd 0 (nat (Int.ofNat (I i)))) 6:=by
    have q:=e2;simp only[hI.e] at q |-;cases hO;exact ⟨by simp[hl,hh],by have:=congrArg List.length q;exact this⟩
   have e1:=And.intro e1 lsQ;unfold LsQ at e1;clear hm hs cf;refine qB 0 ?_
   (repeat' first|refine qA 0 ?_|refine qJ (nN []) ?_|refine qp ?_ ?_|refine qk (fun h=>?_) fun h=>?_|fail)
   all_goals first | exact absurd hh (by assumption) | exact absurd (by assumption) h4 | exact ⟨i+1,by (try simp only[A.reset,hI.e]);(try rw[hE']);rfl,by omega,by omega⟩
 ·have e1:I (mixP (Ru.f ff) Ru.z p.rules i)=I (p.rules.map (Ru.f ff)):=by rw[UU0 _ _ (by omega)]
  refine qB 0 ?_
  repeat' first|refine qA 0 ?_|refine qJ (nN []) ?_|refine qp ?_ ?_|refine qk (fun h=>?_) fun h=>?_|fail
  all_goals first | exact absurd (by assumption) hh | skip
  clear e1;refine qLs 3 [1,2,3,44,45] kk0 43 (fun j:Nat=>⟨vag 60 [(1,⟨.one,[.ptr 0 0]⟩),(2,⟨.one,[.ptr 1 0]⟩),(3,⟨.one,[.ptr 2 0]⟩),(43,⟨.one,[.sref (.box 2) 1 (0,0) 0 (I p.fns.length)]⟩),(44,litI (Int.ofNat (I p.fns.length))),(45,litI (Int.ofNat (I j)))],[some (pA @I p).cs,some [.nil,.nil],some [.ow (0,0) true 6 (I (p.rules.map (Ru.f ff))),.ow (0,0) true 3 (I (mixP (Fu.f ff) Fu.z p.fns j))]],2⟩) (fun j=>j<=p.fns.length) (fun j=>p.fns.length - j) ?_ fun j hj=>?_
  ·cbv
   exact ⟨0,by simp only[hI.e];rfl,by omega⟩
  by_cases hh2:j < p.fns.length
  ·have c2:=ih3 _ (zB0 hh2)
   have hm:=MB0 (Fu.f ff) Fu.z hh2;have hs:=fun z=>UR0 (Fu.f ff) Fu.z hh2 z;have hl:=UT0 (Fu.f ff) Fu.z p.fns j;generalize hr:p.fns[j]! = r at *;generalize mixP (Fu.f ff) Fu.z p.fns j=E at *;have hix:idx (Int.ofNat (nadd 0 (nat (Int.ofNat (I j))))) (I p.fns.length):=F.n15 j _ hh2;obtain ⟨E',hE'⟩:∃E',E'=mixP (Fu.f ff) Fu.z p.fns (j+1):=⟨_,rfl⟩;have e1:len (I E)=I p.fns.length:=by simp only[hI.e];cases hO;exact hl
   have e2:get (I E) (nadd 0 (nat (Int.ofNat (I j))))=[.lit (.string (I r.name)),.own (I (r.params.map strT)),.sl (I (r.a.map Sm.t))]:=by
    simp only[hI.e];cases hO
    show E.getD (0+(Int.ofNat j).toNat) []=_
    rw[show (0+(Int.ofNat j).toNat)=j by simp,hm,Fu.z]
   have e3:set (I E) (nadd 0 (nat (Int.ofNat (I j)))) [.lit (.string (I r.name)),.own (I (r.params.map strT)),.own (I ((r.a.map (Sm.mp ff)).map Sm.o))]=I E':=by
    simp only[hI.e];cases hO
    show E.set (0+(Int.ofNat j).toNat) _=_
    rw[show (0+(Int.ofNat j).toNat)=j by simp,hE',<-hs _ (by rw[Fu.f,Fu.o_eq])];rfl
   have o1:one (I E) (nadd 0 (nat (Int.ofNat (I j)))) 3:=by
    have q:=e2;simp only[hI.e] at q |-;cases hO;exact ⟨by simp[hl,hh2],by have:=congrArg List.length q;exact this⟩
   have e1:=And.intro e1 lsQ;unfold LsQ at e1;clear hm hs;refine qB 0 ?_
   (repeat' first|refine qA 0 ?_|refine qJ (nN []) ?_|refine qp ?_ ?_|refine qk (fun h=>?_) fun h=>?_|fail)
   all_goals first | exact absurd hh2 (by assumption) | exact ⟨j+1,by (try simp only[A.reset,hI.e]);(try rw[hE']);rfl,by omega,by omega⟩
  ·have e1:I (mixP (Fu.f ff) Fu.z p.fns j)=I (p.fns.map (Fu.f ff)):=by rw[UU0 _ _ (by omega)]
   refine qB 0 ?_
   (repeat' first|refine qA 0 ?_|refine qJ (nN []) ?_|refine qp ?_ ?_|refine qk (fun h=>?_) fun h=>?_|fail)
   all_goals first | exact absurd (by assumption) hh2 | skip
   have m1:p.rules.map (Ru.f ff)=(Pg.mp ff p).rules.map Ru.o:=by rw[Pg.mp,List.map_map];rfl
   have m2:p.fns.map (Fu.f ff)=(Pg.mp ff p).fns.map Fu.o:=by rw[Pg.mp,List.map_map];rfl
   exact hR _ _ ⟨by rw[m1,m2],rfl⟩
end Go.Gv
