/- Part PA4 of the proof: Avs, part 18: append. / Avs, part 19: structs and slices put together. / Avs, part 21: functions: how they are entered and left. -/
import Derived.Test.YtnmkmfancgcaeaaGreatDoorPA3
import Derived.Deep.AppendSrc
set_option linter.all false
/- Avs, part 18: append. -/
namespace Go.Av
theorem RepTs.append {S:Nat->Prop} {w:World}:∀{t1 t2:List T} {u1 u2:List Value},RepTs S w t1 u1->RepTs S w t2 u2->RepTs S w (t1++t2) (u1++u2)
 | [],t2,u1,u2,h1,h2=>by subst h1;exact h2
 | t::t1,t2,u1,u2,h1,h2=>by
  obtain ⟨u,us',rfl,h3,h4⟩:=h1;exact ⟨u,us'++u2,rfl,h3,RepTs.append h4 h2⟩
theorem RepTs.split {S:Nat->Prop} {w:World}:∀{t1 t2:List T} {us:List Value},RepTs S w (t1++t2) us->∃u1 u2,us=u1++u2/\RepTs S w t1 u1/\RepTs S w t2 u2
 | [],t2,us,h=>⟨[],us,rfl,rfl,h⟩
 | t::t1,t2,us,h=>by
  obtain ⟨u,us',rfl,h3,h4⟩:=h;obtain ⟨u1,u2,rfl,h5,h6⟩:=RepTs.split h4;exact ⟨u::u1,u2,rfl,⟨u,u1,rfl,h3,h5⟩,h6⟩
theorem RepSC.flat {S:Nat->Prop} {w:World} {b:Nat}:∀{o:Nat} {cs:List T},RepSC S w b o cs->∃us,RepTs S w cs us/\∀j u,us[j]?=some u->w.cell? ⟨b,o+j,none⟩=some u
 | o,[],_=>⟨[],rfl,by simp⟩
 | o,c::cs,h=>by
  simp only[RepSC] at h;obtain ⟨⟨u,h1,h2⟩,h3⟩:=h;obtain ⟨us,h4,h5⟩:=RepSC.flat h3;refine ⟨u::us,⟨u,us,rfl,h2,h4⟩,fun j v hj=>?_⟩;cases j with
  | zero=>simp at hj;subst hj;exact h1
  | succ j=>simp at hj;have:=h5 j v hj;rwa[Nat.add_assoc,Nat.add_comm 1 j] at this
theorem RepSE.flat {S:Nat->Prop} {w:World} {b:Nat}:∀{o:Nat} {es:List (List T)},RepSE S w b o es->∃us,RepTs S w es.flatten us/\∀j u,us[j]?=some u->w.cell? ⟨b,o+j,none⟩=some u
 | o,[],_=>⟨[],rfl,by simp⟩
 | o,e::es,h=>by
  simp only[RepSE] at h;obtain ⟨u1,h1,h2⟩:=RepSC.flat h.1;obtain ⟨u2,h3,h4⟩:=RepSE.flat h.2;refine ⟨u1++u2,h1.append h3,fun j v hj=>?_⟩
  by_cases hlt:j < u1.length
  ·rw[List.getElem?_append_left hlt] at hj
   exact h2 j v hj
  ·rw[List.getElem?_append_right (by omega)] at hj
   have:=h4 _ v hj;rw[<-h1.length] at this;rwa[show o+u1.length+(j - u1.length)=o+j by omega] at this
theorem RepSC.ofFlat {S:Nat->Prop} {w:World} {b:Nat}:∀{o:Nat} {cs:List T} {us:List Value},RepTs S w cs us->(∀j u,us[j]?=some u->w.cell? ⟨b,o+j,none⟩=some u)->RepSC S w b o cs
 | o,[],_,_,_=>by simp only[RepSC]
 | o,c::cs,us,h,hc=>by
  obtain ⟨u,us',rfl,h3,h4⟩:=h;simp only[RepSC];refine ⟨⟨u,hc 0 u rfl,h3⟩,RepSC.ofFlat h4 fun j v hj=>?_⟩;have:=hc (j+1) v (by simpa using hj)
  rwa[Nat.add_comm j 1,<-Nat.add_assoc] at this
theorem RepSE.ofFlat {S:Nat->Prop} {w:World} {b:Nat}:∀{o:Nat} {es:List (List T)} {us:List Value},RepTs S w es.flatten us->(∀j u,us[j]?=some u->w.cell? ⟨b,o+j,none⟩=some u)->RepSE S w b o es
 | o,[],_,_,_=>by simp only[RepSE]
 | o,e::es,us,h,hc=>by
  rw[List.flatten_cons] at h;obtain ⟨u1,u2,rfl,h1,h2⟩:=h.split;simp only[RepSE];refine ⟨RepSC.ofFlat h1 fun j v hj=>hc j v (by rw[List.getElem?_append_left (List.getElem?_eq_some_iff.1 hj).1];exact hj),RepSE.ofFlat h2 fun j v hj=>?_⟩
  have:=hc (u1.length+j) v (by rw[List.getElem?_append_right (by omega)];simpa using hj)
  rw[<-h1.length];rwa[<-Nat.add_assoc] at this
theorem RepS.oneCell {S:Nat->Prop} {w:World} {t:T} {u:Value} (h:RepS S w t u):u.oneCell'=true:=by
 cases t with
 | lit v=>simp only[RepS] at h;obtain ⟨rfl,hl⟩:=h;cases u<;>first | rfl | simp[isLit] at hl
 | sl els=>simp only[RepS] at h;obtain ⟨ad,cap,rfl,_⟩:=h;rfl
 | own els=>simp only[RepS] at h
theorem RepTs.one {S:Nat->Prop} {w:World}:∀{ts:List T} {us:List Value},RepTs S w ts us->∀u∈us,u.oneCell'=true
 | [],_,h=>by subst h;simp
 | t::ts,us,h=>by
  obtain ⟨u,us',rfl,h2,h3⟩:=h;intro x hx;rcases List.mem_cons.1 hx with rfl | hx
  ·exact RepS.oneCell h2
  ·exact RepTs.one h3 x hx
section
variable {P:Program}
theorem VU0 {S:Nat->Prop} {w:World} {t tx e ty:TypeId} {ti te:TI} (ht:tyOf P t=some ti) (hk:ti.tk=.slice e) (he:tyOf P e=some te)
  {sub xs:List (List T)} {v x:Value} {own:List Nat} {news:List Value} (hv:RepO S w false te.size sub v own) (hS:∀b∈own,¬S b) (hSz:∀b,S b->b < w.heap.size)
  (hx:Src P te.size tx x xs.length news w) (hxs:∀y∈xs,y.length=te.size) (hn:RepTs S w xs.flatten news)
  (hsz:(sub.length+xs.length) * te.bytes<=140737488355328) (h63:sub.length+xs.length<=9223372036854775807) :
  ∃v' w' own',(Builtin.append_ #[t,tx] ty #[v,x]).run P w=.ok v' w'/\RepO S w' false te.size (sub++xs) v' own'/\(own'=own\/own'=[w.heap.size])/\
   (∀b,b < w.heap.size->b∉own->w'.heap[b]?=w.heap[b]?)/\w'.os=w.os/\w'.tape=w.tape/\w'.output=w.output/\w.heap.size<=w'.heap.size/\(own'=[w.heap.size]->w.heap.size < w'.heap.size):=by
 have hzero:=mG0 he;obtain ⟨i,d,z,h1,h2,h3,rfl⟩:=zK0 he;obtain ⟨it,dt,zt,k1,k2,k3,rfl⟩:=zK0 ht;simp only at hv hx hxs hsz hk hzero |-;have hut:P.underlying t=some (.slice e):=by cases dt<;>simp[tkOf] at hk;subst hk;exact k2
 obtain ⟨ad,cap,rfl,c1,c2,c3⟩:=hv;have hall:∀y∈sub++xs,y.length=i.size:=fun y hy=>by rcases List.mem_append.1 hy with hy | hy;exact c2 y hy;exact hxs y hy
 have hnl:=hx.newsLen
 by_cases hroom:sub.length+xs.length<=cap
 ·
  rcases c3 with ⟨rfl,rfl,rfl⟩ | ⟨b,o,arr,tyb,fz,rfl,rfl,g3,g4,g5,g6⟩
  ·simp at hroom
   subst hroom;simp at hnl;refine ⟨.slice ad 0 0,w,[],?_,⟨ad,0,rfl,Nat.le_refl _,by simp,.inl ⟨rfl,rfl,rfl⟩⟩,.inl rfl,fun _ _ _=>rfl,rfl,rfl,rfl,Nat.le_refl _,by simp⟩
   subst hnl;have hc0:(Builtin.firstCells i.size 0 x).run P w=.ok #[] w:=by simpa using hx.cells
   rcases hx.kind with ⟨e',hk'⟩ | hk'<;>(simp[Builtin.append_,run_underlying hut,run_underlying hk',sizeOf,typeInfo,h1,hx.len,hc0];cases ad<;>simp[storeCells])
  ·have hmul:(sub.length+xs.length) * i.size<=cap * i.size:=Nat.mul_le_mul_right _ hroom
   rw[Nat.add_mul] at hmul;have hst:=tE0 (P:=P) b (o+sub.length * i.size) tyb fz news 0 arr w g3 (by rw[hnl];omega) (fun y hy hy'=>g5 y (by omega) (by rw[hnl] at hy';omega)) hx.one
   simp only[Nat.add_zero] at hst;have hspl:o+sub.length * i.size+news.length<=arr.toList.length:=by rw[hnl];simp;omega
   have hcell:∀j,(w.setRow b (splice arr.toList (o+sub.length * i.size) news).toArray).cell? ⟨b,j,none⟩=if o+sub.length * i.size<=j/\j < o+sub.length * i.size+news.length then news[j - (o+sub.length * i.size)]? else w.cell? ⟨b,j,none⟩:=by
    intro j;simp only[World.cell?,setRow_heap w b arr _ tyb fz g3,g3,Option.isSome_none,Bool.false_eq_true,if_false];rw[<-Array.getElem?_toList,<-Array.getElem?_toList];exact xV0 hspl j
   have hSame:∀y,S y->(w.setRow b (splice arr.toList (o+sub.length * i.size) news).toArray).heap[y]?=w.heap[y]?:=fun y hy=>setRow_other _ _ _ _ (fun e=>hS b (by simp) (e ▸ hy))
   obtain ⟨olds,p1,p2⟩:=g6.flat;have hol:olds.length=sub.length * i.size:=by rw[p1.length,zC0 c2]
   refine ⟨.slice (some ⟨b,o,none⟩) (sub.length+xs.length) cap,w.setRow b (splice arr.toList (o+sub.length * i.size) news).toArray,[b],?_,⟨_,cap,by simp,by simpa using hroom,hall,.inr ⟨b,o,_,tyb,fz,rfl,rfl,setRow_heap w b arr _ tyb fz g3,?_,g5,?_⟩⟩,.inl rfl,
    fun y _ hy=>setRow_other _ _ _ _ (by simpa using hy),rfl,rfl,rfl,by rw[setRow_size];exact Nat.le_refl _,fun e=>?_⟩
   ·rcases hx.kind with ⟨e',hk'⟩ | hk'<;>simp[Builtin.append_,run_underlying hut,run_underlying hk',sizeOf,typeInfo,h1,hx.len,hroom,hx.cells,Addr.add_lit,hst]
   ·have:=yH0 hspl
    simpa [this] using g4
   ·refine RepSE.ofFlat (us:=olds++news) (by rw[List.flatten_append];exact (p1.mono (fun _ h=>h) hSame).append (hn.mono (fun _ h=>h) hSame)) fun j u hj=>?_
    rw[hcell]
    by_cases hlt:j < olds.length
    ·rw[List.getElem?_append_left hlt] at hj
     rw[if_neg (by omega)]
     exact p2 j u hj
    ·rw[List.getElem?_append_right (by omega)] at hj
     have:=(List.getElem?_eq_some_iff.1 hj).1;rw[if_pos (by omega),<-hj]
     congr 1
     omega
   ·simp at e
    have:=(Array.getElem?_eq_some_iff.1 g3).1;omega
 ·
  obtain ⟨olds,p1,p2⟩:∃olds,RepTs S w sub.flatten olds/\(Builtin.firstCells i.size sub.length (.slice ad sub.length cap)).run P w.drew=.ok olds.toArray w.drew:=by
   rcases c3 with ⟨rfl,rfl,rfl⟩ | ⟨b,o,arr,tyb,fz,rfl,rfl,g3,g4,g5,g6⟩
   ·refine ⟨[],rfl,?_⟩
    cases ad<;>simp[Builtin.firstCells,loadCells,loadCellsFrom]
   ·obtain ⟨olds,p1,p2⟩:=g6.flat
    exact ⟨olds,p1,run_firstCells_some w.drew i.size sub.length _ _ _ olds (by rw[p1.length,zC0 c2]) (fun j u hj=>by rw[yE0];simpa using p2 j u hj)⟩
  have hol:olds.length=sub.length * i.size:=by rw[p1.length,zC0 c2]
  have hrun:=run_append_grow_src (P:=P) w t tx ty e i z hut h1 h3 ad sub.length cap olds p2 x xs.length news hx (by omega) (by omega) (growslice_fits (by omega) hsz)
  have hge:=grownCap_ge w (sub.length+xs.length) cap e;have hnewSize:(w.drew.alloc (.cells ((olds++news).toArray++Builtin.zeroCells z.cells (grownCap w (sub.length+xs.length) cap e - (sub.length+xs.length))) e)).heap[w.heap.size]?=some (.cells ((olds++news).toArray++Builtin.zeroCells z.cells (grownCap w (sub.length+xs.length) cap e - (sub.length+xs.length))) e):=heap_alloc_new w.drew _;have hold:∀y,y < w.heap.size->(w.drew.alloc (.cells ((olds++news).toArray++Builtin.zeroCells z.cells (grownCap w (sub.length+xs.length) cap e - (sub.length+xs.length))) e)).heap[y]?=w.heap[y]?:=fun y hy=>zN0 w.drew _ y hy
  refine ⟨_,_,[w.heap.size],hrun,⟨some ⟨w.heap.size,0,none⟩,grownCap w (sub.length+xs.length) cap e,by simp,by simpa using hge,hall,.inr ⟨w.heap.size,0,_,e,(0,0),rfl,rfl,hnewSize,?_,fun y _ _=>by omega,?_⟩⟩,.inr rfl,fun y hy _=>hold y hy,rfl,rfl,rfl,by simp,fun _=>by simp⟩
  ·simp only[Array.size_append,List.size_toArray,List.length_append,size_zeroCells,hol,hnl,Nat.zero_add]
   have hz:z.cells.size=i.size:=by simpa using hzero
   rw[hz,<-Nat.add_mul,<-Nat.add_mul];have:sub.length+xs.length+(grownCap w (sub.length+xs.length) cap e - (sub.length+xs.length))=grownCap w (sub.length+xs.length) cap e:=by omega
   rw[this];exact Nat.le_refl _
  ·refine RepSE.ofFlat (us:=olds++news) (by rw[List.flatten_append];exact (p1.mono (fun _ h=>h) fun y hy=>hold y (hSz y hy)).append (hn.mono (fun _ h=>h) fun y hy=>hold y (hSz y hy))) fun j u hj=>?_
   simp only[World.cell?,hnewSize,Nat.zero_add,Option.isSome_none,Bool.false_eq_true,if_false];have:=(List.getElem?_eq_some_iff.1 hj).1;rw[Array.getElem?_append_left (by simpa using this)]
   simpa using hj
theorem RepL.oneCell {S:Nat->Prop} {w:World} {t:T} {u:Value} {own:List Nat} (h:RepL S w t u own):u.oneCell'=true:=by
 cases t with
 | lit v=>simp only[RepL] at h;obtain ⟨rfl,hl,_⟩:=h;cases u<;>first | rfl | simp[isLit] at hl
 | sl els=>simp only[RepL,RepS] at h;obtain ⟨⟨ad,cap,rfl,_⟩,_⟩:=h;rfl
 | own els=>simp only[RepL] at h;obtain ⟨ad,cap,rfl,_⟩:=h;rfl
theorem RepTL.one {S:Nat->Prop} {w:World}:∀{ts:List T} {us:List Value} {own:List Nat},RepTL S w ts us own->∀u∈us,u.oneCell'=true
 | [],_,_,h=>by rw[h.1];simp
 | t::ts,us,_,h=>by
  obtain ⟨u,us',o1,o2,rfl,_,h2,h3⟩:=h;intro x hx;rcases List.mem_cons.1 hx with rfl | hx
  ·exact RepL.oneCell h2
  ·exact RepTL.one h3 x hx
theorem RepTL.append {S:Nat->Prop} {w:World}:∀{t1 t2:List T} {u1 u2:List Value} {o1 o2:List Nat},RepTL S w t1 u1 o1->RepTL S w t2 u2 o2->RepTL S w (t1++t2) (u1++u2) (o1++o2)
 | [],t2,u1,u2,o1,o2,h1,h2=>by obtain ⟨rfl,rfl⟩:=h1;exact h2
 | t::t1,t2,u1,u2,o1,o2,h1,h2=>by
  obtain ⟨u,us',p1,p2,rfl,rfl,h3,h4⟩:=h1;exact ⟨u,us'++u2,p1,p2++o2,rfl,by simp,h3,RepTL.append h4 h2⟩
theorem RepTL.split {S:Nat->Prop} {w:World}:∀{t1 t2:List T} {us:List Value} {own:List Nat},RepTL S w (t1++t2) us own->∃u1 u2 o1 o2,us=u1++u2/\own=o1++o2/\RepTL S w t1 u1 o1/\RepTL S w t2 u2 o2
 | [],t2,us,own,h=>⟨[],us,[],own,rfl,rfl,⟨rfl,rfl⟩,h⟩
 | t::t1,t2,us,own,h=>by
  obtain ⟨u,us',p1,p2,rfl,rfl,h3,h4⟩:=h;obtain ⟨u1,u2,o1,o2,rfl,rfl,h5,h6⟩:=RepTL.split h4;exact ⟨u::u1,u2,p1++o1,o2,rfl,by simp,⟨u,u1,p1,o1,rfl,rfl,h3,h5⟩,h6⟩
theorem RepTs.toL {S:Nat->Prop} {w:World}:∀{ts:List T} {us:List Value},RepTs S w ts us->RepTL S w ts us []
 | [],_,h=>⟨h,rfl⟩
 | t::ts,us,h=>by
  obtain ⟨u,us',rfl,h2,h3⟩:=h;exact ⟨u,us',[],[],rfl,rfl,h2.toL,h3.toL⟩
theorem RepLC.flat {S:Nat->Prop} {w:World} {b:Nat}:∀{o:Nat} {cs:List T} {own:List Nat},RepLC S w b o cs own->∃us,RepTL S w cs us own/\∀j u,us[j]?=some u->w.cell? ⟨b,o+j,none⟩=some u
 | o,[],own,h=>⟨[],⟨rfl,by simpa only [RepLC] using h⟩,by simp⟩
 | o,c::cs,_,h=>by
  simp only[RepLC] at h;obtain ⟨u,o1,o2,rfl,h1,h2,h3⟩:=h;obtain ⟨us,h4,h5⟩:=RepLC.flat h3;refine ⟨u::us,⟨u,us,o1,o2,rfl,rfl,h2,h4⟩,fun j v hj=>?_⟩;cases j with
  | zero=>simp at hj;subst hj;exact h1
  | succ j=>simp at hj;have:=h5 j v hj;rwa[Nat.add_assoc,Nat.add_comm 1 j] at this
theorem RepLE.flat {S:Nat->Prop} {w:World} {b:Nat}:∀{o:Nat} {es:List (List T)} {own:List Nat},RepLE S w b o es own->∃us,RepTL S w es.flatten us own/\∀j u,us[j]?=some u->w.cell? ⟨b,o+j,none⟩=some u
 | o,[],own,h=>⟨[],⟨rfl,by simpa only [RepLE] using h⟩,by simp⟩
 | o,e::es,_,h=>by
  simp only[RepLE] at h;obtain ⟨o1,o2,rfl,h0,h9⟩:=h;obtain ⟨u1,h1,h2⟩:=RepLC.flat h0;obtain ⟨u2,h3,h4⟩:=RepLE.flat h9;refine ⟨u1++u2,h1.append h3,fun j v hj=>?_⟩
  by_cases hlt:j < u1.length
  ·rw[List.getElem?_append_left hlt] at hj
   exact h2 j v hj
  ·rw[List.getElem?_append_right (by omega)] at hj
   have:=h4 _ v hj;rw[<-h1.length] at this;rwa[show o+u1.length+(j - u1.length)=o+j by omega] at this
theorem RepLE.ofFlat {S:Nat->Prop} {w:World} {b:Nat}:∀{o:Nat} {es:List (List T)} {us:List Value} {own:List Nat},RepTL S w es.flatten us own->(∀j u,us[j]?=some u->w.cell? ⟨b,o+j,none⟩=some u)->RepLE S w b o es own
 | o,[],_,_,h,_=>by simp only[RepLE];exact h.2
 | o,e::es,us,_,h,hc=>by
  rw[List.flatten_cons] at h;obtain ⟨u1,u2,o1,o2,rfl,rfl,h1,h2⟩:=h.split;simp only[RepLE];refine ⟨o1,o2,rfl,RepTL.toLC (fun j v hj=>hc j v (by rw[List.getElem?_append_left (List.getElem?_eq_some_iff.1 hj).1];exact hj)) h1,RepLE.ofFlat h2 fun j v hj=>?_⟩
  have:=hc (u1.length+j) v (by rw[List.getElem?_append_right (by omega)];simpa using hj)
  rw[<-h1.length];rwa[<-Nat.add_assoc] at this
theorem nA0 {S:Nat->Prop} {w:World} {t tx e ty:TypeId} {ti te:TI} (ht:tyOf P t=some ti) (hk:ti.tk=.slice e) (he:tyOf P e=some te)
  {sub xs:List (List T)} {v x:Value} {own:List Nat} {news:List Value} (hv:RepO S w true te.size sub v own) {ownx:List Nat} (hdis:∀b∈own,b∉ownx) (hS:∀b∈own,¬S b) (hSz:∀b,S b->b < w.heap.size) (hnd:own.Nodup) (hnx:ownx.Nodup) (hoz:∀b∈own,b < w.heap.size) (hxz:∀b∈ownx,b < w.heap.size)
  (hx:Src P te.size tx x xs.length news w) (hxs:∀y∈xs,y.length=te.size) (hn:RepTL S w xs.flatten news ownx)
  (hsz:(sub.length+xs.length) * te.bytes<=140737488355328) (h63:sub.length+xs.length<=9223372036854775807) :
  ∃v' w' own',(Builtin.append_ #[t,tx] ty #[v,x]).run P w=.ok v' w'/\RepO S w' true te.size (sub++xs) v' own'/\(∀b∈own',b∈own\/b∈ownx\/b=w.heap.size)/\own'.Nodup/\
   (∀b,b < w.heap.size->b∉own->w'.heap[b]?=w.heap[b]?)/\w'.os=w.os/\w'.tape=w.tape/\w'.output=w.output/\w.heap.size<=w'.heap.size/\(w.heap.size∈own'->w.heap.size < w'.heap.size):=by
 have hzero:=mG0 he;obtain ⟨i,d,z,h1,h2,h3,rfl⟩:=zK0 he;obtain ⟨it,dt,zt,k1,k2,k3,rfl⟩:=zK0 ht;simp only at hv hx hxs hsz hk hzero |-;have hut:P.underlying t=some (.slice e):=by cases dt<;>simp[tkOf] at hk;subst hk;exact k2
 obtain ⟨ad,cap,rfl,c1,c2,c3⟩:=hv;have hall:∀y∈sub++xs,y.length=i.size:=fun y hy=>by rcases List.mem_append.1 hy with hy | hy;exact c2 y hy;exact hxs y hy
 have hnl:=hx.newsLen
 by_cases hroom:sub.length+xs.length<=cap
 ·
  rcases c3 with ⟨rfl,rfl,rfl⟩ | ⟨b,o,arr,tyb,fz,n,rfl,rfl,g3,g4,g5,g6⟩
  ·simp at hroom
   subst hroom;simp at hnl;refine ⟨.slice ad 0 0,w,[],?_,⟨ad,0,rfl,Nat.le_refl _,by simp,.inl ⟨rfl,rfl,rfl⟩⟩,by simp,List.nodup_nil,fun _ _ _=>rfl,rfl,rfl,rfl,Nat.le_refl _,by simp⟩
   subst hnl;have hc0:(Builtin.firstCells i.size 0 x).run P w=.ok #[] w:=by simpa using hx.cells
   rcases hx.kind with ⟨e',hk'⟩ | hk'<;>(simp[Builtin.append_,run_underlying hut,run_underlying hk',sizeOf,typeInfo,h1,hx.len,hc0];cases ad<;>simp[storeCells])
  ·have hmul:(sub.length+xs.length) * i.size<=cap * i.size:=Nat.mul_le_mul_right _ hroom
   rw[Nat.add_mul] at hmul;have hst:=tE0 (P:=P) b (o+sub.length * i.size) tyb fz news 0 arr w g3 (by rw[hnl];omega) (fun y hy hy'=>g5 y (by omega) (by rw[hnl] at hy';omega)) hx.one
   simp only[Nat.add_zero] at hst;have hspl:o+sub.length * i.size+news.length<=arr.toList.length:=by rw[hnl];simp;omega
   have hcell:∀j,(w.setRow b (splice arr.toList (o+sub.length * i.size) news).toArray).cell? ⟨b,j,none⟩=if o+sub.length * i.size<=j/\j < o+sub.length * i.size+news.length then news[j - (o+sub.length * i.size)]? else w.cell? ⟨b,j,none⟩:=by
    intro j;simp only[World.cell?,setRow_heap w b arr _ tyb fz g3,g3,Option.isSome_none,Bool.false_eq_true,if_false];rw[<-Array.getElem?_toList,<-Array.getElem?_toList];exact xV0 hspl j
   have hother:∀y,y≠b->(w.setRow b (splice arr.toList (o+sub.length * i.size) news).toArray).heap[y]?=w.heap[y]?:=fun y hy=>setRow_other _ _ _ _ hy;have hSame:∀y,S y->(w.setRow b (splice arr.toList (o+sub.length * i.size) news).toArray).heap[y]?=w.heap[y]?:=fun y hy=>hother y (fun e=>hS b (by simp) (e ▸ hy))
   have hbn:=List.nodup_cons.1 hnd;have hbx:b∉ownx:=hdis b (by simp)
   obtain ⟨olds,p1,p2⟩:=g6.flat;have hol:olds.length=sub.length * i.size:=by rw[p1.length,zC0 c2]
   refine ⟨.slice (some ⟨b,o,none⟩) (sub.length+xs.length) cap,w.setRow b (splice arr.toList (o+sub.length * i.size) news).toArray,b::(n++ownx),?_,⟨_,cap,by simp,by simpa using hroom,hall,.inr ⟨b,o,_,tyb,fz,n++ownx,rfl,rfl,setRow_heap w b arr _ tyb fz g3,?_,g5,?_⟩⟩,?_,?_,
    fun y _ hy=>hother y (fun e=>hy (by simp[e])),rfl,rfl,rfl,by rw[setRow_size];exact Nat.le_refl _,fun e=>?_⟩
   ·rcases hx.kind with ⟨e',hk'⟩ | hk'<;>simp[Builtin.append_,run_underlying hut,run_underlying hk',sizeOf,typeInfo,h1,hx.len,hroom,hx.cells,Addr.add_lit,hst]
   ·have:=yH0 hspl
    simpa [this] using g4
   ·refine RepLE.ofFlat (us:=olds++news) (by rw[List.flatten_append];exact (p1.mono (fun _ h=>h) hSame (fun x hx=>hother x (fun e=>hbn.1 (e ▸ hx)))).append (hn.mono (fun _ h=>h) hSame (fun x hx=>hother x (fun e=>hbx (e ▸ hx))))) fun j u hj=>?_
    rw[hcell]
    by_cases hlt:j < olds.length
    ·rw[List.getElem?_append_left hlt] at hj
     rw[if_neg (by omega)]
     exact p2 j u hj
    ·rw[List.getElem?_append_right (by omega)] at hj
     have:=(List.getElem?_eq_some_iff.1 hj).1;rw[if_pos (by omega),<-hj]
     congr 1
     omega
   ·intro x h
    simp only[List.mem_cons,List.mem_append] at h |-;rcases h with h | h | h<;>simp[h]
   ·exact List.nodup_cons.2 ⟨fun h=>(List.mem_append.1 h).elim hbn.1 hbx,List.nodup_append.2 ⟨hbn.2,hnx,fun x hx y hy e=>hdis x (by simp[hx]) (e ▸ hy)⟩⟩
   ·rcases List.mem_cons.1 e with e | e
    ·have:=hoz b (by simp)
     omega
    ·rcases List.mem_append.1 e with e | e
     ·have:=hoz _ (List.mem_cons_of_mem _ e);omega
     ·have:=hxz _ e;omega
 ·
  obtain ⟨olds,n,p1,hn1,hn2,p2⟩:∃olds n,RepTL S w sub.flatten olds n/\(∀b∈n,b∈own)/\n.Nodup/\(Builtin.firstCells i.size sub.length (.slice ad sub.length cap)).run P w.drew=.ok olds.toArray w.drew:=by
   rcases c3 with ⟨rfl,rfl,rfl⟩ | ⟨b,o,arr,tyb,fz,n,rfl,rfl,g3,g4,g5,g6⟩
   ·refine ⟨[],[],⟨rfl,rfl⟩,by simp,List.nodup_nil,?_⟩
    cases ad<;>simp[Builtin.firstCells,loadCells,loadCellsFrom]
   ·obtain ⟨olds,p1,p2⟩:=g6.flat
    exact ⟨olds,n,p1,fun x hx=>by simp[hx],(List.nodup_cons.1 hnd).2,run_firstCells_some w.drew i.size sub.length _ _ _ olds (by rw[p1.length,zC0 c2]) (fun j u hj=>by rw[yE0];simpa using p2 j u hj)⟩
  have hol:olds.length=sub.length * i.size:=by rw[p1.length,zC0 c2]
  have hrun:=run_append_grow_src (P:=P) w t tx ty e i z hut h1 h3 ad sub.length cap olds p2 x xs.length news hx (by omega) (by omega) (growslice_fits (by omega) hsz)
  have hge:=grownCap_ge w (sub.length+xs.length) cap e;have hnewSize:(w.drew.alloc (.cells ((olds++news).toArray++Builtin.zeroCells z.cells (grownCap w (sub.length+xs.length) cap e - (sub.length+xs.length))) e)).heap[w.heap.size]?=some (.cells ((olds++news).toArray++Builtin.zeroCells z.cells (grownCap w (sub.length+xs.length) cap e - (sub.length+xs.length))) e):=heap_alloc_new w.drew _;have hold:∀y,y < w.heap.size->(w.drew.alloc (.cells ((olds++news).toArray++Builtin.zeroCells z.cells (grownCap w (sub.length+xs.length) cap e - (sub.length+xs.length))) e)).heap[y]?=w.heap[y]?:=fun y hy=>zN0 w.drew _ y hy
  refine ⟨_,_,w.heap.size::(n++ownx),hrun,⟨some ⟨w.heap.size,0,none⟩,grownCap w (sub.length+xs.length) cap e,by simp,by simpa using hge,hall,.inr ⟨w.heap.size,0,_,e,(0,0),n++ownx,rfl,rfl,hnewSize,?_,fun y _ _=>by omega,?_⟩⟩,?_,?_,fun y hy _=>hold y hy,rfl,rfl,rfl,by simp,fun _=>by simp⟩
  ·simp only[Array.size_append,List.size_toArray,List.length_append,size_zeroCells,hol,hnl,Nat.zero_add]
   have hz:z.cells.size=i.size:=by simpa using hzero
   rw[hz,<-Nat.add_mul,<-Nat.add_mul];have:sub.length+xs.length+(grownCap w (sub.length+xs.length) cap e - (sub.length+xs.length))=grownCap w (sub.length+xs.length) cap e:=by omega
   rw[this];exact Nat.le_refl _
  ·refine RepLE.ofFlat (us:=olds++news) (by rw[List.flatten_append];exact (p1.mono (fun _ h=>h) (fun y hy=>hold y (hSz y hy)) (fun x hx=>hold x (hoz x (hn1 x hx)))).append (hn.mono (fun _ h=>h) (fun y hy=>hold y (hSz y hy)) (fun x hx=>hold x (hxz x hx)))) fun j u hj=>?_
   simp only[World.cell?,hnewSize,Nat.zero_add,Option.isSome_none,Bool.false_eq_true,if_false];have:=(List.getElem?_eq_some_iff.1 hj).1;rw[Array.getElem?_append_left (by simpa using this)]
   simpa using hj
  ·intro x h
   simp only[List.mem_cons,List.mem_append] at h |-;rcases h with h | h | h
   ·simp[h]
   ·exact .inl (hn1 x h)
   ·simp[h]
  ·refine List.nodup_cons.2 ⟨fun h=>?_,List.nodup_append.2 ⟨hn2,hnx,fun x hx y hy e=>hdis x (hn1 x hx) (e ▸ hy)⟩⟩
   rcases List.mem_append.1 h with h | h
   ·have:=hoz _ (hn1 _ h);omega
   ·have:=hxz _ h;omega
def isL:T->Bool | .lit _=>true | _=>false
def DT0:A->Bool | .ro false _=>true | _=>false
theorem RepSC.lits {S S':Nat->Prop} {w:World} {b:Nat}:∀{o:Nat} {cs:List T},(∀t∈cs,isL t=true)->RepSC S w b o cs->RepSC S' w b o cs
 | _,[],_,_=>by simp only[RepSC]
 | o,c::cs,hl,h=>by
  simp only[RepSC] at h |-;obtain ⟨⟨u,h1,h2⟩,h3⟩:=h;have hc:=hl c (List.mem_cons_self);refine ⟨⟨u,h1,?_⟩,RepSC.lits (fun t ht=>hl t (List.mem_cons_of_mem _ ht)) h3⟩;cases c with
  | lit v=>simpa only [RepS] using h2
  | sl els=>simp[isL] at hc
  | own els=>simp[isL] at hc
theorem RepSE.lits {S S':Nat->Prop} {w:World} {b:Nat}:∀{o:Nat} {es:List (List T)},(∀y∈es,∀t∈y,isL t=true)->RepSE S w b o es->RepSE S' w b o es
 | _,[],_,_=>by simp only[RepSE]
 | o,e::es,hl,h=>by
  simp only[RepSE] at h |-;exact ⟨RepSC.lits (hl e (List.mem_cons_self)) h.1,RepSE.lits (fun y hy=>hl y (List.mem_cons_of_mem _ hy)) h.2⟩
def tN0 (P:Program) (σ:AS) (tx:TypeId) (size:Nat) (x:AV):Option (List (List T)):=
 (tyOf P tx).bind fun ti=>match ti.tk,x with
  | .slice _,⟨.one,[c]⟩=>(σ.els c).bind fun xs=>if (∀y∈xs,y.length=size)/\(DT0 c=true->∀y∈xs,∀t∈y,isL t=true) then some xs else none
  | .str,⟨.one,[.lit (.string s)]⟩=>if size=1 then some (s.data.toList.map fun b=>[T.lit (.int .u8 b.toNat)]) else none
  | _,_=>none
def yG0 (σ:AS) (size:Nat):A->Option ((Bool×List (List T))×AS)
 | .nil=>some ((false,[]),σ)
 | .sref r c g lo len=>(σ.ad? r c g).bind fun p=>if p.2.1=size then some ((p.1,(p.2.2.drop lo).take len),σ.setCell r c .dead) else none
 | _=>none
def xU0 (P:Program) (σ:AS) (tx:TypeId) (size:Nat):AV->Option (List (List T)×AS)
 | ⟨.one,[.sref r c g lo len]⟩=>match σ.ad? r c g with
  | some (true,k,els)=>(tyOf P tx).bind fun ti=>match ti.tk with
   | .slice _=>if k=size then some ((els.drop lo).take len,σ.setCell r c .dead) else none
   | _=>none
  | _=>none
 | _=>none
def tB0 (P:Program) (i:Nat) (σ:AS) (args:Array Operand) (argTypes:Array TypeId):Option (AV×AS):=
 match args.toList,argTypes.toList with
 | [s,x],[t,tx]=>(tyOf P t).bind fun ti=>match ti.tk with
  | .slice e=>(tyOf P e).bind fun te=>opt2 (σ.ev s) (σ.ev x) fun s x=>match s with
   | ⟨.one,[c]⟩=>match xU0 P σ tx te.size x with
    | some y=>(yG0 y.2 te.size c).bind fun b=>
     if (b.1.2.length+y.1.length) * te.bytes<=140737488355328/\b.1.2.length+y.1.length<=9223372036854775807 then some (one (.ow (σ.epoch,i) true te.size (b.1.2++y.1)),b.2) else none
    | none=>opt2 (tN0 P σ tx te.size x) (yG0 σ te.size c) fun xs b=>
     if (b.1.2.length+xs.length) * te.bytes<=140737488355328/\b.1.2.length+xs.length<=9223372036854775807 then some (one (.ow (σ.epoch,i) b.1.1 te.size (b.1.2++xs)),b.2) else none
   | _=>none
  | _=>none
 | _,_=>none
theorem src_ok {C:Ctx} {X:List Nat} {σ:AS} {a:Act} {w:World} {S L:Nat->Prop} {bl O1 O2:List Nat} (h:InvAt C X σ a w S L bl O1 O2) {tx:TypeId} {size:Nat} {xo:Operand} {x:AV} {xs:List (List T)}
  (hxe:σ.ev xo=some x) (hs:tN0 P σ tx size x=some xs):(∀y∈xs,y.length=size)/\∃news,Src P size tx (a.eval xo) xs.length news w/\RepTs S w xs.flatten news:=by
 simp only[tN0,Option.bind_eq_some_iff] at hs;obtain ⟨ti,ht,hs⟩:=hs;obtain ⟨it,dt,zt,k1,k2,k3,rfl⟩:=zK0 ht;have he:=h.ev hxe
 split at hs<;>try (simp at hs;done)
 ·rename_i e' c hk
  simp only[Option.bind_eq_some_iff] at hs;obtain ⟨xs',hxs,hs⟩:=hs;obtain ⟨⟨hall,hlent⟩,rfl⟩:=zP0 hs;have hut:P.underlying tx=some (.slice e'):=by simp only at hk;cases dt<;>simp[tkOf] at hk;subst hk;exact k2
  refine ⟨hall,?_⟩;obtain ⟨r1,_⟩:=he.cell;have hslice:∃ad cap,a.eval xo=.slice ad xs'.length cap/\(xs'≠[]->∃b o,ad=some ⟨b,o,none⟩/\RepSE S w b o xs'):=by
   cases c<;>simp only[AS.els,reduceCtorEq] at hxs
   ·simp at hxs;subst hxs;obtain ⟨⟨ad,hv⟩,_⟩:=r1;exact ⟨ad,0,by simpa using hv,by simp⟩
   ·rename_i st els
    simp only[Option.some.injEq] at hxs;subst hxs;obtain ⟨r1,_⟩:=r1;simp only[RepS] at r1;obtain ⟨ad,cap,h1,h2,h3⟩:=r1;refine ⟨ad,cap,h1,fun hne=>?_⟩;obtain ⟨b,o,e1,e2,e3⟩:=h3 hne;refine ⟨b,o,e1,?_⟩
    rename Bool=>bst
    cases hst:bst with
    | true=>rw[hst] at e3;exact e3
    | false=>rw[hst] at e3 hlent;exact RepSE.lits (hlent rfl) e3
   ·simp only[Option.map_eq_some_iff] at hxs
    obtain ⟨⟨k,els⟩,hat,rfl⟩:=hxs;have hcell:=AS.at?_some hat;obtain ⟨hlo,ad,cap,xx,e1,e2,e3⟩:=r1.2.2 false k els hcell;obtain ⟨u0,o,q1,q2,q3⟩:=h.peek hcell;rw[e1] at q1;simp at q1;subst q1;obtain ⟨own',s1,s2⟩:=RepO.sub (show RepO S w false k els _ o from q2) hlo e3
    obtain ⟨ad',cap',m1,m2,m3,m4⟩:=s1;rw[e2,m1];refine ⟨ad',cap',rfl,fun hne=>?_⟩;rcases m4 with ⟨_,h0,_⟩ | ⟨b,o,arr,ty,fz,rfl,_,_,_,_,g6⟩
    ·exact absurd h0 hne
    ·exact ⟨b,o,rfl,g6⟩
  obtain ⟨ad,cap,hv,hne⟩:=hslice
  by_cases h0:xs'=[]
  ·subst h0
   refine ⟨[],?_,rfl⟩;rw[hv];cases ad with
   | none=>exact Src.ofNil w hut cap
   | some ad=>exact Src.ofSlice w hut ad 0 cap [] (by simp) (by simp) (by simp)
  ·obtain ⟨b,o,rfl,hE⟩:=hne h0
   obtain ⟨us,p1,p2⟩:=hE.flat;refine ⟨us,?_,p1⟩;rw[hv];exact Src.ofSlice w hut ⟨b,o,none⟩ xs'.length cap us (by rw[p1.length,zC0 hall]) (fun j u hj=>by rw[yE0];exact p2 j u hj) p1.one
 ·rename_i s hk
  obtain ⟨rfl,rfl⟩:=zP0 hs;have hut:P.underlying tx=some .string:=by simp only at hk;cases dt<;>simp[tkOf] at hk;exact k2
  obtain ⟨ex,_,_⟩:=he.lit? (x:=.string s) rfl;refine ⟨by simp,byteCells s,?_,?_⟩
  ·rw[ex]
   have:=Src.ofString (P:=P) w hut s;have hl:(s.data.toList.map fun b=>[T.lit (.int .u8 b.toNat)]).length=s.size:=by rw[List.length_map,Array.length_toList];rfl
   rw[hl];exact this
  ·unfold byteCells
   generalize s.data.toList=l
   induction l with
   | nil=>rfl
   | cons b l ih=>exact ⟨_,_,rfl,by simp[RepS,isLit],ih⟩
theorem mH0 {C:Ctx} {X:List Nat} {σ σ':AS} {a:Act} {w:World} {S L:Nat->Prop} {bl O1 O2:List Nat} {i:Nat} (h:InvAt C X σ a w S L bl O1 O2) (hf:Fresh σ (σ.epoch,i)) {size:Nat} {c:A} {v:Value} {d:Bool} {sub:List (List T)}
  (hr:RepA ⟨S,L,bl,a,w,σ.cell⟩ c v []) (hs:yG0 σ size c=some ((d,sub),σ')) :
  ∃O1' O2' own,InvAt C X σ' a w S L bl O1' O2'/\RepO S w d size sub v own/\Fresh σ' (σ.epoch,i)/\σ'.epoch=σ.epoch/\own.Nodup/\(∀b∈own,b∈O1++O2/\b∉O1'++O2'/\¬L b/\(b∈C.O0\/C.w0.heap.size<=b))/\(∀b∈O1'++O2',b∈O1++O2):=by
 cases c<;>simp only[yG0,reduceCtorEq] at hs
 ·simp at hs
  obtain ⟨⟨rfl,rfl⟩,rfl⟩:=hs;obtain ⟨⟨ad,rfl⟩,_⟩:=hr;exact ⟨O1,O2,[],h,⟨ad,0,by simp,by simp,by simp,.inl ⟨rfl,rfl,rfl⟩⟩,hf,rfl,List.nodup_nil,by simp,fun _ h=>h⟩
 ·rename_i r x g lo len
  simp only[Option.bind_eq_some_iff] at hs;obtain ⟨⟨d',k,els⟩,hat,hs1⟩:=hs;obtain ⟨hk,hs2⟩:=zP0 hs1;clear hs1;simp only[Prod.mk.injEq] at hk hs2;subst hk;obtain ⟨⟨rfl,rfl⟩,rfl⟩:=hs2;have hcell:=AS.ad?_some hat;obtain ⟨hlo,ad,cap,xx,e1,e2,e3⟩:=hr.2.2 d' k els hcell;obtain ⟨u0,o,k1,k2,k3,k4,k5⟩:=h.recell hcell hf;rw[e1] at k1;simp at k1;subst k1;obtain ⟨O1a,O2a,ha,hmem⟩:=k5 S L w .dead [] (fun _ h=>h) (fun _ h=>h) h.sl (fun b hb=>.inl hb) (fun b hb=>.inl hb) (by simp) (.inr rfl) (fun _ _ _=>rfl) h.keeps (Nat.le_refl _) ⟨rfl,RepA.oneC k2⟩
   (fun g hg=>by simp[A.stamp] at hg) (fun g d k els' he=>by simp at he)
  obtain ⟨own',s1,s2⟩:=RepO.sub (show RepO S w d' k els _ o from k2) hlo e3
  have hown:∀b∈own',b∈o:=fun b hb=>s2.subset hb;refine ⟨O1a,O2a,own',ha,by rw[e2];exact s1,hf.setDead rfl,yL0,k3.sublist s2,fun b hb=>⟨k4 b (hown b hb),fun hx=>?_,fun hS=>(h.stable b hS).2 (k4 b (hown b hb)),h.own b (k4 b (hown b hb))⟩,fun b hb=>?_⟩
  ·have:=(hmem b).1 hx
   simp at this;exact this.2 (hown b hb)
  ·have:=(hmem b).1 hb
   simp at this;simpa using this.1
theorem RL0 {C:Ctx} {X:List Nat} {σ σ':AS} {a:Act} {w:World} {S L:Nat->Prop} {bl O1 O2:List Nat} {i:Nat} (h:InvAt C X σ a w S L bl O1 O2) (hf:Fresh σ (σ.epoch,i)) {tx:TypeId} {size:Nat} {xo:Operand} {x:AV} {xs:List (List T)}
  (hxe:σ.ev xo=some x) (hs:xU0 P σ tx size x=some (xs,σ')) :
  (∀y∈xs,y.length=size)/\∃O1' O2' own news,InvAt C X σ' a w S L bl O1' O2'/\Src P size tx (a.eval xo) xs.length news w/\RepTL S w xs.flatten news own/\Fresh σ' (σ.epoch,i)/\σ'.epoch=σ.epoch/\own.Nodup/\
   (∀b∈own,b∈O1++O2/\b∉O1'++O2'/\¬L b/\(b∈C.O0\/C.w0.heap.size<=b))/\(∀b∈O1'++O2',b∈O1++O2)/\Env.Le none ⟨S,L,bl,a,w,σ.cell⟩ ⟨S,L,bl,a,w,σ'.cell⟩:=by
 unfold xU0 at hs
 split at hs<;>try (simp at hs;done)
 rename_i r c g lo len
 split at hs<;>try (simp at hs;done)
 rename_i k els hat;simp only[Option.bind_eq_some_iff] at hs;obtain ⟨ti,ht,hs⟩:=hs
 split at hs<;>try (simp at hs;done)
 rename_i e hk;obtain ⟨rfl,hs2⟩:=zP0 hs;simp only[Prod.mk.injEq] at hs2;obtain ⟨rfl,rfl⟩:=hs2;obtain ⟨it,dt,zt,t1,t2,t3,rfl⟩:=zK0 ht;have hut:P.underlying tx=some (.slice e):=by simp only at hk;cases dt<;>simp[tkOf] at hk;subst hk;exact t2
 have hcell:=AS.ad?_some hat;obtain ⟨hr,_⟩:=(h.ev hxe).cell;obtain ⟨hlo,ad,cap,xx,e1,e2,e3⟩:=hr.2.2 true k els hcell;obtain ⟨u0,o,k1,k2,k3,k4,k5⟩:=h.recell hcell hf;rw[e1] at k1;simp at k1;subst k1;obtain ⟨O1a,O2a,ha,hmem⟩:=k5 S L w .dead [] (fun _ h=>h) (fun _ h=>h) h.sl (fun b hb=>.inl hb) (fun b hb=>.inl hb) (by simp) (.inr rfl) (fun _ _ _=>rfl) h.keeps (Nat.le_refl _) ⟨rfl,RepA.oneC k2⟩
  (fun g hg=>by simp[A.stamp] at hg) (fun g d k els' he=>by simp at he)
 obtain ⟨own',s1,s2⟩:=RepO.sub (show RepO S w true k els _ o from k2) hlo e3
 obtain ⟨ad',cap',m1,m2,m3,m4⟩:=s1;have hx:∃own news,(∀b∈own,b∈own')/\own.Nodup/\Src P k tx (a.eval xo) ((els.drop lo).take len).length news w/\RepTL S w ((els.drop lo).take len).flatten news own:=by
  rw[e2,m1];rcases m4 with ⟨_,h0,_⟩ | ⟨b,ob,arr,ty,fz,n,rfl,rfl,_,_,_,g6⟩
  ·rw[h0]
   refine ⟨[],[],by simp,List.nodup_nil,?_,⟨rfl,rfl⟩⟩
   cases ad' with
   | none=>exact Src.ofNil w hut cap'
   | some ad'=>exact Src.ofSlice w hut ad' 0 cap' [] (by simp) (by simp) (by simp)
  ·obtain ⟨us,p1,p2⟩:=g6.flat
   exact ⟨n,us,fun x hx=>by simp[hx],((List.nodup_cons.1 (k3.sublist s2))).2,Src.ofSlice w hut ⟨b,ob,none⟩ _ cap' us (by rw[p1.length,zC0 m3]) (fun j u hj=>by rw[yE0];exact p2 j u hj) p1.one,p1⟩
 obtain ⟨own,news,q1,q2,q3,q4⟩:=hx;have hown:∀b∈own,b∈o:=fun b hb=>s2.subset (q1 b hb);refine ⟨m3,O1a,O2a,own,news,ha,q3,q4,hf.setDead rfl,yL0,q2,fun b hb=>⟨k4 b (hown b hb),fun hx=>?_,fun hS=>(h.stable b hS).2 (k4 b (hown b hb)),h.own b (k4 b (hown b hb))⟩,fun b hb=>?_,gB0 hcell⟩
 ·have:=(hmem b).1 hx
  simp at this;exact this.2 (hown b hb)
 ·have:=(hmem b).1 hb
  simp at this;simpa using this.1
theorem JQ0 {C:Ctx} {i:Nat} {dst:Option Tmp} {σ σ1:AS} {av:AV} {args:Array Operand} {argTypes:Array TypeId} (hx:tB0 P i σ args argTypes=some (av,σ1)) :
  OpOk P C i (.call { callee:=.builtin .append,args,argTypes }) dst σ av σ1:=by
 rintro X a w ⟨S,L,bl,O1,O2,h⟩ hi type pos after guard;have h':=h.mono (fun x hx=>List.mem_cons_of_mem i hx);unfold tB0 at hx
 split at hx<;>try (simp at hx;done)
 rename_i s x t tx hargs htys;simp only[Option.bind_eq_some_iff] at hx;obtain ⟨ti,ht,hx⟩:=hx
 split at hx<;>try (simp at hx;done)
 rename_i e hk;simp only[Option.bind_eq_some_iff] at hx;obtain ⟨te,he,hx⟩:=hx;obtain ⟨s',x',hse,hxe,hx'⟩:=zQ0 hx;clear hx
 split at hx'<;>try (simp at hx';done)
 rename_i c;have hargs':args=#[s,x]:=by cases args;simp at hargs;subst hargs;rfl
 have htys':argTypes=#[t,tx]:=by cases argTypes;simp at htys;subst htys;rfl
 have fin:∀(σ':AS) (O1' O2' gone own':List Nat) (v':Value) (w':World) (d:Bool) (els:List (List T)),InvAt C (i::X) σ' a w S L bl O1' O2'->Fresh σ' (σ.epoch,i)->σ'.epoch=σ.epoch->(∀b∈gone,b∈O1++O2/\b∉O1'++O2'/\¬L b/\(b∈C.O0\/C.w0.heap.size<=b))->(∀b∈O1'++O2',b∈O1++O2)->
   (Builtin.append_ #[t,tx] type #[a.eval s,a.eval x]).run P w=.ok v' w'->RepO S w' d te.size els v' own'->(∀b∈own',b∈gone\/b=w.heap.size)->own'.Nodup->(∀b,b < w.heap.size->b∉gone->w'.heap[b]?=w.heap[b]?)->w'.os=w.os->w'.tape=w.tape->w'.output=w.output->w.heap.size<=w'.heap.size->
   ∃n v w',(execOp a.eval ⟨dst,.call { callee:=.builtin .append,args,argTypes },type,pos,after,guard⟩).run P w=.ok n w'/\(n=.value v\/(n=.skip/\v=undef))/\Inv C (i::X) (σ'.putO dst (one (.ow (σ.epoch,i) d te.size els))) (a.put dst v) w':=by
  intro σ' O1' O2' gone own' v' w' d els g1 g3 g4 g6 g7 r1 r2 r3 rn r4 r5 r6 r7 r8;have hlt:∀b∈O1'++O2',b < w.heap.size:=fun b hb=>h.own_lt (g7 b hb);have g1':=g1.world (w':=w') (fun b hb=>by
    rcases hb with hb | hb
    ·exact r4 b (h.stable b hb).1 (fun hm=>(g6 b hm).2.2.1 hb)
    ·exact r4 b (hlt b hb) (fun hm=>(g6 b hm).2.1 hb))
   ⟨r5.trans h.keeps.os,r6.trans h.keeps.tape,r7.trans h.keeps.output,Nat.le_trans h.keeps.size r8,fun b hb hn=>by
    rw[r4 b (Nat.lt_of_lt_of_le hb h.keeps.size) (fun hm=>by rcases (g6 b hm).2.2.2 with h1 | h1;exact hn h1;omega)]
    exact h.keeps.block b hb hn⟩ r8
  have hv1:isTuple v'=false/\zZ0 v'=false:=by obtain ⟨ad,cap,rfl,_⟩:=RepO.head r2;exact ⟨rfl,rfl⟩
  refine ⟨_,v',w',?_,.inl rfl,g1'.done (i:=i) (o':=own') (by rw[g4];exact g3) ⟨hv1,by rw[yK0 hv1];exact ⟨v',[],own',[],rfl,by simp,r2,rfl,rfl⟩⟩ (fun c hc=>by simp[one] at hc;subst hc;exact .inl rfl)
   (fun c hc g hg=>by simp[one] at hc;subst hc;simp[A.stamp] at hg;subst hg;rw[g4];exact .inr ⟨rfl,by simp⟩) (fun g d k els hm=>by simp[one] at hm;rw[g4];exact hm.1) rn ?_⟩
  ·subst hargs';subst htys'
   simp only[execOp,resolve,pure_bind,invoke,builtin,Sem.run_bind];simp[r1]
  ·intro b hb
   rcases r3 b hb with hb | rfl
   ·exact (g6 b hb).2
   ·exact ⟨fun hm=>by have:=hlt _ hm;omega,fun hS=>by have:=(h.stable _ hS).1;omega,.inr h.keeps.size⟩
 split at hx'
 ·rename_i y hsrc
  obtain ⟨xs,σs⟩:=y;simp only[Option.bind_eq_some_iff] at hx';obtain ⟨⟨⟨d,sub⟩,σ'⟩,hbase,hx⟩:=hx';obtain ⟨⟨hsz,h63⟩,hx⟩:=zP0 hx;simp only[Prod.mk.injEq] at hx;obtain ⟨rfl,rfl⟩:=hx;obtain ⟨hall,O1s,O2s,ownx,news,s1,hnews,hts,s2,s3,s4,s5,s6,s7⟩:=RL0 (P:=P) h' (h.fresh hi) hxe hsrc;obtain ⟨O1',O2',own,g1,g2,g3,g4,g5,g6,g7⟩:=mH0 s1 (i:=i) (by rw[s3];exact s2) (RepA.go s7 (fun _ hb=>by simp at hb) (by cases c.rstamp<;>simp) (h.ev hse).cell.1) hbase
  have g2':RepO S w true te.size sub (a.eval s) own:=by
   cases d
   ·exact RepO.deep g2
   ·exact g2
  obtain ⟨v',w',own',r1,r2,r3,rn,r4,r5,r6,r7,r8,r9⟩:=nA0 (P:=P) (ty:=type) ht hk he g2' (fun b hb hm=>(s5 b hm).2.1 (g6 b hb).1) (fun b hb hS=>(g6 b hb).2.2.1 (h.sl b hS)) (fun b hb=>(h.stable b (h.sl b hb)).1) g5 s4 (fun b hb=>s1.own_lt (g6 b hb).1) (fun b hb=>h.own_lt (s5 b hb).1) hnews hall hts hsz h63;exact fin σ' O1' O2' (own++ownx) own' v' w' true (sub++xs) g1 (by rw[<-s3];exact g3) (g4.trans s3) (fun b hb=>by
   rcases List.mem_append.1 hb with hb | hb
   ·exact ⟨s6 b (g6 b hb).1,(g6 b hb).2⟩
   ·exact ⟨(s5 b hb).1,fun hm=>(s5 b hb).2.1 (g7 b hm),(s5 b hb).2.2⟩) (fun b hb=>s6 b (g7 b hb)) r1 r2 (fun b hb=>by
   rcases r3 b hb with h | h | h<;>simp[h]) rn (fun b hb hn=>r4 b hb (fun hm=>hn (by simp[hm]))) r5 r6 r7 r8
 ·obtain ⟨xs,⟨⟨d,sub⟩,σ'⟩,hsrc,hbase,hx⟩:=zQ0 hx'
  obtain ⟨⟨hsz,h63⟩,hx⟩:=zP0 hx;simp only[Prod.mk.injEq] at hx;obtain ⟨rfl,rfl⟩:=hx;obtain ⟨hall,news,hnews,hts⟩:=src_ok (P:=P) h' hxe hsrc;obtain ⟨O1',O2',own,g1,g2,g3,g4,g5,g6,g7⟩:=mH0 h' (i:=i) (h.fresh hi) (h.ev hse).cell.1 hbase;cases d
  ·obtain ⟨v',w',own',r1,r2,r3,r4,r5,r6,r7,r8,r9⟩:=VU0 (P:=P) (ty:=type) ht hk he g2 (fun b hb hS=>(g6 b hb).2.2.1 (h.sl b hS)) (fun b hb=>(h.stable b (h.sl b hb)).1) hnews hall hts hsz h63
   exact fin σ' O1' O2' own own' v' w' false (sub++xs) g1 g3 g4 g6 g7 r1 r2 (fun b hb=>by
    rcases r3 with rfl | rfl
    ·exact .inl hb
    ·exact .inr (by simpa using hb)) (by rcases r3 with rfl | rfl;exact g5;simp) (fun b hb hn=>r4 b hb hn) r5 r6 r7 r8
  ·obtain ⟨v',w',own',r1,r2,r3,rn,r4,r5,r6,r7,r8,r9⟩:=nA0 (P:=P) (ty:=type) ht hk he g2 (ownx:=[]) (by simp) (fun b hb hS=>(g6 b hb).2.2.1 (h.sl b hS)) (fun b hb=>(h.stable b (h.sl b hb)).1) g5 List.nodup_nil (fun b hb=>h.own_lt (g6 b hb).1) (by simp) hnews hall hts.toL hsz h63
   exact fin σ' O1' O2' own own' v' w' true (sub++xs) g1 g3 g4 g6 g7 r1 r2 (fun b hb=>by
    rcases r3 b hb with h | h | h
    ·exact .inl h
    ·simp at h
    ·exact .inr h) rn (fun b hb hn=>r4 b hb hn) r5 r6 r7 r8
end
end Go.Av
/- Avs, part 19: structs and slices put together. -/
namespace Go.Av
theorem foldl_set (off:Nat):∀(l:List Value) (k:Nat) (cells:Array Value),off+k+l.length<=cells.size->
  (l.zipIdx k).foldl (fun cs (p:Value×Nat)=>cs.setIfInBounds (off+p.2) p.1) cells=(splice cells.toList (off+k) l).toArray
 | [],k,cells,_=>by simp[splice]
 | v::l,k,cells,h=>by
  simp only[List.zipIdx_cons,List.foldl_cons];rw[foldl_set off l (k+1) _ (by simp at h |-;omega)]
  have e:=list_seg_step cells.toList (off+k) v l (by simp at h |-;omega)
  congr 1
  simpa [splice,Array.toList_setIfInBounds,Nat.add_assoc] using e
theorem ZR0 (place:Nat->Option (Nat×Nat)) (cells:Array Value) (i:Nat) (v:Value) (rest:List (Nat×Value)) {off size:Nat} (hp:place i=some (off,size)) (hs:v.cells.size=size) (hl:off+size<=cells.size) :
  Instr.fill place cells ((i,v)::rest)=Instr.fill place (splice cells.toList off v.cells.toList).toArray rest:=by
 simp only[Instr.fill,hp];rw[if_neg (by simp[hs];omega)]
 congr 1
 have:=foldl_set off v.cells.toList 0 cells (by simp;omega)
 simp only[Nat.add_zero] at this;rw[<-this];rw[<-Array.foldl_toList];simp[Array.toList_zipIdx]
theorem RpA.splice {E:Env} {cs cs':List A} {us us':List Value} {off:Nat} (h:RpA E cs us []) (h':RpA E cs' us' []):RpA E (splice cs off cs') (splice us off us') []:=by
 unfold Av.splice;have hl:=RpA.length h';rw[hl];exact RpA.append_iff.2 ⟨_,_,[],[],rfl,rfl,RpA.append_iff.2 ⟨_,_,[],[],rfl,rfl,h.take off,h'⟩,h.drop _⟩
def yQ0 (P:Program) (σ:AS) (fs:List (Nat×TypeId)):List A->List (Nat×Operand)->Option (List A)
 | cs,[]=>some cs
 | cs,(j,x)::rest=>(fs[j]?).bind fun f=>(tyOf P f.2).bind fun tf=>(σ.ev x).bind fun av=>
   if av.cs.length=tf.size/\f.1+tf.size<=cs.length then
    match av.sh with
    | .one | .agg=>yQ0 P σ fs (splice cs f.1 av.cs) rest
    | _=>none
   else none
def nD0 (P:Program) (σ:AS) (t:TypeId) (parts:Array (Nat×Operand)):Option AV:=
 (tyOf P t).bind fun ti=>(ti.zero.mapM yW0).bind fun z=>match ti.tk with
  | .struct fs=>if fs.all (fun f=>(tyOf P f.2).isSome) then (yQ0 P σ fs z parts.toList).map fun cs=>⟨.agg,cs⟩ else none
  | _=>none
section
variable {P:Program} {C:Ctx} {X:List Nat} {σ:AS} {a:Act} {w:World} {S L:Nat->Prop} {bl O1 O2:List Nat}
theorem qJ0 (h:InvAt C X σ a w S L bl O1 O2) {fs:List (Nat×TypeId)} {place:Nat->Option (Nat×Nat)} (hplace:∀(j:Nat) (f:Nat×TypeId) (tf:TI),fs[j]?=some f->tyOf P f.2=some tf->place j=some (f.1,tf.size)) :
  ∀{parts:List (Nat×Operand)} {cs cs':List A} {us:List Value},RpA ⟨S,L,bl,a,w,σ.cell⟩ cs us []->(∀c∈cs,stampIn X σ.epoch c)->(∀g d k els,A.ow g d k els∉cs)->yQ0 P σ fs cs parts=some cs'->
  ∃us',Instr.fill place us.toArray (parts.map fun p=>(p.1,a.eval p.2))=some us'.toArray/\RpA ⟨S,L,bl,a,w,σ.cell⟩ cs' us' []/\(∀c∈cs',stampIn X σ.epoch c)/\(∀g d k els,A.ow g d k els∉cs')
 | [],cs,cs',us,hr,hst,hno,hx=>by
  simp[yQ0] at hx;subst hx;exact ⟨us,rfl,hr,hst,hno⟩
 | (j,x)::rest,cs,cs',us,hr,hst,hno,hx=>by
  simp only[yQ0,Option.bind_eq_some_iff] at hx;obtain ⟨f,hf,tf,htf,av,hav,hx⟩:=hx
  split at hx<;>try (simp at hx;done)
  rename_i hc;have hsh:av.sh=.one\/av.sh=.agg:=by
   cases hs:av.sh<;>simp[hs] at hx<;>simp
  have hx':yQ0 P σ fs (splice cs f.1 av.cs) rest=some cs':=by
   rcases hsh with hs | hs<;>simpa [hs] using hx
  have he:=h.ev hav;obtain ⟨r1,r2,r3⟩:=xA0 he hsh;have hl:=RpA.length hr;obtain ⟨us',g1,g2,g3,g4⟩:=qJ0 h hplace (hr.splice r1 (off:=f.1)) (fun c hc=>by
    simp only[splice,List.mem_append] at hc;rcases hc with (hc | hc) | hc
    ·exact hst c (List.mem_of_mem_take hc)
    ·exact he.st c hc
    ·exact hst c (List.mem_of_mem_drop hc)) (fun g d k els hc=>by
    simp only[splice,List.mem_append] at hc;rcases hc with (hc | hc) | hc
    ·exact hno g d k els (List.mem_of_mem_take hc)
    ·exact he.noOw g d k els hc
    ·exact hno g d k els (List.mem_of_mem_drop hc)) hx'
  refine ⟨us',?_,g2,g3,g4⟩;simp only[List.map_cons];rw[ZR0 place us.toArray j (a.eval x) _ (hplace j f tf hf htf) (by have:=r3.trans hc.1;simpa using this) (by simp;omega)]
  simpa using g1
theorem UJ0 {α β:Type} (f:α->Sem β) (g:α->β) (w:World):∀l:List α,(∀x∈l,(f x).run P w=.ok (g x) w)->(l.mapM f).run P w=.ok (l.map g) w
 | [],_=>rfl
 | x::l,hf=>by
  have ih:=UJ0 f g w l fun y hy=>hf y (List.mem_cons_of_mem _ hy);simp only[List.mapM_cons,Sem.run_bind,hf x (List.mem_cons_self),Result.andThen,ih]
  rfl
theorem FT0 {i:Nat} {dst:Option Tmp} {av:AV} {t:TypeId} {parts:Array (Nat×Operand)} (hx:nD0 P σ t parts=some av):OpOk P C i (.build t parts) dst σ av σ:=by
 rintro X a w ⟨S,L,bl,O1,O2,h⟩ hi type pos after guard;have h':=h.mono (fun x hx=>List.mem_cons_of_mem i hx);simp only[nD0,Option.bind_eq_some_iff] at hx;obtain ⟨ti,ht,z,hz,hx⟩:=hx
 split at hx<;>try (simp at hx;done)
 rename_i fs hk
 split at hx<;>try (simp at hx;done)
 rename_i hfall;simp only[Option.map_eq_some_iff] at hx;obtain ⟨cs,hcs,rfl⟩:=hx;obtain ⟨zr,hzr,hzc⟩:=mR0 ht w;obtain ⟨r1,r2⟩:=wD0 (E:=⟨S,L,bl,a,w,σ.cell⟩) hz;obtain ⟨ff,hd,hff⟩:∃ff:Array Field,(underlying t).run P w=.ok (.struct ff) w/\fs=ff.toList.map fun f=>(f.offset,f.type):=by
  obtain ⟨d,hd1,hd2⟩:=rP0 ht w;rw[hk] at hd2;cases d<;>simp[tkOf] at hd2
  exact ⟨_,hd1,hd2⟩
 have hsz:∀f∈ff.toList,∃tf,tyOf P f.type=some tf:=by
  intro f hf;have:=List.all_eq_true.1 hfall (f.offset,f.type) (by rw[hff];exact List.mem_map.2 ⟨f,hf,rfl⟩)
  exact Option.isSome_iff_exists.1 this
 let sz:Field->Nat:=fun f=>((tyOf P f.type).map (·.size)).getD 0
 have hplaces:(ff.mapM fun f=>do pure (f.offset,<-sizeOf f.type):Sem (Array (Nat×Nat))).run P w=.ok (ff.toList.map fun f=>(f.offset,sz f)).toArray w:=by
  rw[Array.mapM_eq_mapM_toList];have:=UJ0 (P:=P) (fun f:Field=>(do pure (f.offset,<-sizeOf f.type):Sem (Nat×Nat))) (fun f=>(f.offset,sz f)) w ff.toList fun f hf=>by
   obtain ⟨tf,htf⟩:=hsz f hf;simp only[Sem.run_bind,yC0 htf,Result.andThen];simp[sz,htf]
  simp only[map_eq_pure_bind,Sem.run_bind,this,Result.andThen]
  rfl
 have hpl:∀(j:Nat) (f:Nat×TypeId) (tf:TI),fs[j]?=some f->tyOf P f.2=some tf->(ff.toList.map fun f=>(f.offset,sz f)).toArray[j]?=some (f.1,tf.size):=by
  intro j f tf hj htf;rw[hff] at hj;simp only[List.getElem?_map,Option.map_eq_some_iff] at hj;obtain ⟨f0,hf0,rfl⟩:=hj;simp only at htf;simp[hf0,sz,htf]
  try (rw[Array.getElem?_toList] at hf0;exact ⟨f0,hf0,rfl,by rw[htf];rfl⟩)
 obtain ⟨us',g1,g2,g3,g4⟩:=qJ0 h (place:=((ff.toList.map fun f=>(f.offset,sz f)).toArray[·]?)) hpl r1 (fun c hc g hg=>by rw[(r2 c hc).1] at hg;simp at hg) (fun g d k els hm=>by have:=(r2 _ hm).2;simp[isOw] at this) hcs
 refine ⟨_,.agg us'.toArray,w,?_,.inl rfl,h'.done (h.fresh hi) ⟨rfl,by simpa [flat] using g2⟩ (fX0 g3 hi) (vY0 g3) (fun g d k els hm=>absurd hm (g4 g d k els)) List.nodup_nil (by simp)⟩
 have hz2:zr.cells=ti.zero.toArray:=by rw[<-hzc]
 simp only[execOp,Instr.build,Sem.run_bind,hzr,Result.andThen,hd,hplaces];have g1':Instr.fill (fun x=>(ff.toList.map fun f=>(f.offset,sz f)).toArray[x]?) zr.cells (parts.map fun x=>(x.1,a.eval x.2)).toList=some us'.toArray:=by
  rw[hz2];simpa using g1
 have e:(parts.map fun (x:Nat×Operand)=>match x with|(i,x)=>(i,a.eval x))=parts.map fun x=>(x.1,a.eval x.2):=rfl
 rw[e,g1']
 rfl
def chunks (k:Nat):Nat->List T->List (List T)
 | 0,_=>[]
 | n+1,ts=>ts.take k::chunks k n (ts.drop k)
theorem pH0 {k:Nat}:∀{n:Nat} {ts:List T},ts.length=n * k->(chunks k n ts).length=n/\(chunks k n ts).flatten=ts/\∀e∈chunks k n ts,e.length=k
 | 0,ts,h=>by simp at h;subst h;simp[chunks]
 | n+1,ts,h=>by
  rw[Nat.succ_mul] at h;obtain ⟨h1,h2,h3⟩:=pH0 (k:=k) (n:=n) (ts:=ts.drop k) (by rw[List.length_drop];omega)
  refine ⟨by simp[chunks,h1],by simp only[chunks,List.flatten_cons,h2,List.take_append_drop],fun e he=>?_⟩
  simp only[chunks] at he;rcases List.mem_cons.1 he with rfl | he
  ·simp;omega
  ·exact h3 e he
def zT0 (σ:AS) (k:Nat):List (Nat×Operand)->Nat->Option (List A)
 | [],_=>some []
 | (i,x)::rest,j=>(σ.ev x).bind fun av=>if i=j/\av.cs.length=k then
   match av.sh with
   | .one | .agg=>(zT0 σ k rest (j+1)).map fun cs=>av.cs++cs
   | _=>none
  else none
def deepRoot (σ:AS):A->Bool
 | .sref r x g _ _=>match σ.ad? r x g with
  | some (true,_,_)=>true
  | _=>false
 | _=>false
def yT0 (P:Program) (i:Nat) (σ:AS) (t:TypeId) (len:Nat) (parts:Array (Nat×Operand)):Option (AV×AS):=
 (tyOf P t).bind fun ti=>match ti.tk with
  | .slice e=>(tyOf P e).bind fun te=>(zT0 σ te.size parts.toList 0).bind fun cs=>
    if parts.size=len/\len * te.size<=16777216 then (if cs.any (deepRoot σ) then (holdCells 0 (σ.epoch,i) cs σ).map fun r=>(one (.ow (σ.epoch,i) true te.size (chunks te.size len r.1)),r.2)
     else (fzC cs σ).map fun r=>(one (.ow (σ.epoch,i) false te.size (chunks te.size len r.1)),r.2)) else none
  | _=>none
theorem pP0 (h:InvAt C X σ a w S L bl O1 O2) {k:Nat}:∀{parts:List (Nat×Operand)} {j:Nat} {cs:List A},zT0 σ k parts j=some cs->
  ∃us,RpA ⟨S,L,bl,a,w,σ.cell⟩ cs us []/\us.length=parts.length * k/\(∀c∈cs,stampIn X σ.epoch c)/\
   ∀(pre rest:List Value),pre.length=j * k->rest.length=parts.length * k->
    Instr.fill (fun i=>some (i * k,k)) (pre++rest).toArray (parts.map fun p=>(p.1,a.eval p.2))=some (pre++us).toArray
 | [],j,cs,hx=>by
  simp[zT0] at hx;subst hx;exact ⟨[],⟨rfl,rfl⟩,by simp,by simp,fun pre rest h1 h2=>by simp at h2;subst h2;rfl⟩
 | (i,x)::rest,j,cs,hx=>by
  simp only[zT0,Option.bind_eq_some_iff] at hx;obtain ⟨av,hav,hx⟩:=hx
  split at hx<;>try (simp at hx;done)
  rename_i hc;obtain ⟨rfl,hk⟩:=hc;have hsh:av.sh=.one\/av.sh=.agg:=by
   cases hs:av.sh<;>simp[hs] at hx<;>simp
  have hx':(zT0 σ k rest (i+1)).map (fun cs=>av.cs++cs)=some cs:=by
   rcases hsh with hs | hs<;>simpa [hs] using hx
  simp only[Option.map_eq_some_iff] at hx';obtain ⟨cs',hcs',rfl⟩:=hx';have he:=h.ev hav;obtain ⟨r1,r2,r3⟩:=xA0 he hsh;obtain ⟨us,g1,g2,g3,g4⟩:=pP0 h hcs';refine ⟨(a.eval x).cells.toList++us,RpA.append_iff.2 ⟨_,_,[],[],rfl,rfl,r1,g1⟩,by rw[List.length_append,r3,hk,g2,List.length_cons,Nat.succ_mul,Nat.add_comm],?_,fun pre rst hp hr=>?_⟩
  ·intro c hc
   rcases List.mem_append.1 hc with hc | hc
   ·exact he.st c hc
   ·exact g3 c hc
  ·simp only[List.map_cons]
   have hv:(a.eval x).cells.size=k:=by have:=r3.trans hk;simpa using this
   rw[List.length_cons,Nat.succ_mul] at hr;rw[ZR0 _ _ i (a.eval x) _ (off:=i * k) (size:=k) rfl hv (by simp;omega)]
   have hsp:splice (pre++rst) (i * k) (a.eval x).cells.toList=(pre++(a.eval x).cells.toList)++rst.drop k:=by
    unfold splice;rw[<-hp,List.take_left',List.drop_append,List.drop_of_length_le (by omega)]
    ·have:pre.length+(a.eval x).cells.toList.length - pre.length=k:=by rw[r3,hk];omega
     rw[this];simp
    ·rfl
   rw[hsp,g4 (pre++(a.eval x).cells.toList) (rst.drop k) (by rw[List.length_append,hp,r3,hk,Nat.succ_mul]) (by rw[List.length_drop];omega)]
   simp
theorem NU0 {i:Nat} {dst:Option Tmp} {d:Bool} {k:Nat} {els:List (List T)} {v:Value} {own:List Nat} (h:InvAt C X σ a w S L bl O1 O2) (hi:i∈X) (hf:Fresh σ (σ.epoch,i)) (hr:RepO S w d k els v own) (hn:own.Nodup)
  (ho:∀b∈own,b∉O1++O2/\¬L b/\(b∈C.O0\/C.w0.heap.size<=b)):Inv C X (σ.putO dst (one (.ow (σ.epoch,i) d k els))) (a.put dst v) w:=by
 have hv1:isTuple v=false/\zZ0 v=false:=by obtain ⟨ad,cap,rfl,_⟩:=RepO.head hr;exact ⟨rfl,rfl⟩
 exact h.done (i:=i) (o':=own) hf ⟨hv1,by rw[yK0 hv1];exact ⟨v,[],own,[],rfl,by simp,hr,rfl,rfl⟩⟩ (fun c hc=>by simp[one] at hc;subst hc;exact .inl rfl)
  (fun c hc g hg=>by simp[one] at hc;subst hc;simp[A.stamp] at hg;subst hg;exact .inr ⟨rfl,hi⟩) (fun g d k els hm=>by simp[one] at hm;exact hm.1) hn ho
theorem kG0 {i:Nat} {dst:Option Tmp} {k:Nat} {els:List (List T)} {us rest:List Value} {e:TypeId} {cap:Nat} (h:InvAt C X σ a w S L bl O1 O2) (hi:i∈X) (hf:Fresh σ (σ.epoch,i)) (hk:∀x∈els,x.length=k)
  (hr:RepTs S w els.flatten us) (hc:els.length<=cap) (hl:cap * k<=us.length+rest.length) :
  Inv C X (σ.putO dst (one (.ow (σ.epoch,i) false k els))) (a.put dst (.slice (some ⟨w.heap.size,0,none⟩) els.length cap)) (w.alloc (.cells (us++rest).toArray e)):=by
 have hSame:∀b,S b->(w.alloc (.cells (us++rest).toArray e)).heap[b]?=w.heap[b]?:=fun b hb=>zN0 _ _ _ (h.stable b (h.sl b hb)).1;have h2:=h.world (w':=w.alloc (.cells (us++rest).toArray e)) (fun b hb=>by
   rcases hb with hb | hb
   ·exact zN0 _ _ _ (h.stable b hb).1
   ·exact zN0 _ _ _ (h.own_lt hb)) (h.keeps.alloc _) (by simp)
 refine NU0 h2 hi hf (own:=[w.heap.size]) ⟨_,cap,rfl,hc,hk,.inr ⟨w.heap.size,0,_,e,(0,0),rfl,rfl,heap_alloc_new _ _,by simpa using hl,fun x _ _=>by omega,?_⟩⟩ (by simp) ?_
 ·refine RepSE.ofFlat (hr.mono (fun _ h=>h) hSame) fun j u hj=>?_
  simp only[World.cell?,heap_alloc_new,Nat.zero_add,Option.isSome_none,Bool.false_eq_true,if_false];have:=(List.getElem?_eq_some_iff.1 hj).1;simp[List.getElem?_append_left this,hj]
 ·intro b hb
  simp at hb;subst hb;exact ⟨fun hm=>by have:=h.own_lt hm;omega,fun hS=>by have:=(h.stable _ hS).1;omega,.inr h.keeps.size⟩
theorem bU0 {i:Nat} {dst:Option Tmp} {k:Nat} {els:List (List T)} {us rest:List Value} {e:TypeId} {cap:Nat} {own:List Nat} (h:InvAt C X σ a w S L bl O1 O2) (hi:i∈X) (hf:Fresh σ (σ.epoch,i)) (hk:∀x∈els,x.length=k)
  (hr:RepTL S w els.flatten us own) (hn:own.Nodup) (ho:∀b∈own,b < w.heap.size/\b∉O1++O2/\¬L b/\(b∈C.O0\/C.w0.heap.size<=b)) (hc:els.length<=cap) (hl:cap * k<=us.length+rest.length) :
  Inv C X (σ.putO dst (one (.ow (σ.epoch,i) true k els))) (a.put dst (.slice (some ⟨w.heap.size,0,none⟩) els.length cap)) (w.alloc (.cells (us++rest).toArray e)):=by
 have hSame:∀b,S b->(w.alloc (.cells (us++rest).toArray e)).heap[b]?=w.heap[b]?:=fun b hb=>zN0 _ _ _ (h.stable b (h.sl b hb)).1;have h2:=h.world (w':=w.alloc (.cells (us++rest).toArray e)) (fun b hb=>by
   rcases hb with hb | hb
   ·exact zN0 _ _ _ (h.stable b hb).1
   ·exact zN0 _ _ _ (h.own_lt hb)) (h.keeps.alloc _) (by simp)
 refine NU0 h2 hi hf (own:=w.heap.size::own) ⟨_,cap,rfl,hc,hk,.inr ⟨w.heap.size,0,_,e,(0,0),own,rfl,rfl,heap_alloc_new _ _,by simpa using hl,fun x _ _=>by omega,?_⟩⟩ (List.nodup_cons.2 ⟨fun h=>by have:=(ho _ h).1;omega,hn⟩) ?_
 ·refine RepLE.ofFlat (hr.mono (fun _ h=>h) hSame (fun x hx=>zN0 _ _ _ (ho x hx).1)) fun j u hj=>?_
  simp only[World.cell?,heap_alloc_new,Nat.zero_add,Option.isSome_none,Bool.false_eq_true,if_false];have:=(List.getElem?_eq_some_iff.1 hj).1;simp[List.getElem?_append_left this,hj]
 ·intro b hb
  rcases List.mem_cons.1 hb with rfl | hb
  ·exact ⟨fun hm=>by have:=h.own_lt hm;omega,fun hS=>by have:=(h.stable _ hS).1;omega,.inr h.keeps.size⟩
  ·exact (ho b hb).2
theorem tT0 (h:InvAt C X σ a w S L bl O1 O2) {k:Nat}:∀{parts:List (Nat×Operand)} {j:Nat} {cs:List A},zT0 σ k parts j=some cs->∀g d k els,A.ow g d k els∉cs
 | [],j,cs,hx=>by simp[zT0] at hx;subst hx;simp
 | (i,x)::rest,j,cs,hx=>by
  simp only[zT0,Option.bind_eq_some_iff] at hx;obtain ⟨av,hav,hx⟩:=hx
  split at hx<;>try (simp at hx;done)
  have hx':(zT0 σ k rest (j+1)).map (fun cs=>av.cs++cs)=some cs:=by
   cases hs:av.sh<;>simp[hs] at hx<;>simpa using hx
  simp only[Option.map_eq_some_iff] at hx';obtain ⟨cs',hcs',rfl⟩:=hx';intro g d k els hm;rcases List.mem_append.1 hm with hm | hm
  ·exact (h.ev hav).noOw g d k els hm
  ·exact tT0 h hcs' g d k els hm
theorem dU0 {i:Nat} {dst:Option Tmp} {av:AV} {σ1:AS} {t:TypeId} {len:Nat} {parts:Array (Nat×Operand)} (hx:yT0 P i σ t len parts=some (av,σ1)):OpOk P C i (.buildSlice t len parts) dst σ av σ1:=by
 rintro X a w ⟨S,L,bl,O1,O2,h⟩ hi type pos after guard;have h':=h.mono (fun x hx=>List.mem_cons_of_mem i hx);simp only[yT0,Option.bind_eq_some_iff] at hx;obtain ⟨ti,ht,hx⟩:=hx
 split at hx<;>try (simp at hx;done)
 rename_i e hk;simp only[Option.bind_eq_some_iff] at hx;obtain ⟨te,he,cs,hcs,hx⟩:=hx
 split at hx<;>try (simp at hx;done)
 rename_i hc;obtain ⟨hpl,hlim⟩:=hc;obtain ⟨us,g1,g2,g3,g4⟩:=pP0 h hcs;have hpl':parts.toList.length=len:=by simpa using hpl
 have hul:us.length=len * te.size:=by rw[g2,hpl']
 obtain ⟨z,hz,hzc⟩:=mR0 he w;have hfin:Inv C (i::X) (σ1.putO dst av) (a.put dst (.slice (some ⟨w.heap.size,0,none⟩) len len)) (w.alloc (.cells us.toArray e)):=by
  split at hx
  ·simp only[holdCells,Option.map_map,Option.map_eq_some_iff,Function.comp,Prod.mk.injEq] at hx
   obtain ⟨ts,hts,rfl,rfl⟩:=hx;have hnoow:∀g d k els,A.ow g d k els∉cs:=tT0 h hcs;obtain ⟨O1',O2',own',q1,q2,q3,q4,q5,q6,q7,q8,q9,q10,q11,q12,q13,q14⟩:=yF0 (tM0 0) h' (i:=i) (by simp) (h.fresh hi) g1 (vY0 g3) (fX0 g3 hi) hnoow
   have q2:=q2.toOwn hts;obtain ⟨c1,c2,c3⟩:=pH0 (k:=te.size) (n:=len) (ts:=ts) (by rw[<-q2.length,hul])
   have hfin:=bU0 (i:=i) (dst:=dst) (e:=e) (cap:=len) (rest:=[]) q1 (by simp) (by rw[q9];exact q8) c3 (by rw[c2];exact q2) q3 (fun b hb=>⟨h.own_lt (q11 b hb),q4 b hb⟩) (by rw[c1];exact Nat.le_refl _) (by simp[hul])
   rw[q9,c1,List.append_nil] at hfin;exact hfin
  ·simp only[Option.map_eq_some_iff,Prod.mk.injEq] at hx
   obtain ⟨⟨ts,σ'⟩,hfz,rfl,rfl⟩:=hx;obtain ⟨S',L',O1',O2',q1,q2,q3,qL,q4,q5,q6,q7,q8,q9⟩:=wB0 h' (i:=i) (h.fresh hi) g1 hfz;obtain ⟨c1,c2,c3⟩:=pH0 (k:=te.size) (n:=len) (ts:=ts) (by rw[<-q2.length,hul])
   have hfin:=kG0 (i:=i) (dst:=dst) (e:=e) (cap:=len) (rest:=[]) q1 (by simp) (by rw[q6];exact q5) c3 (by rw[c2];exact q2) (by rw[c1];exact Nat.le_refl _) (by simp[hul])
   rw[q6,c1,List.append_nil] at hfin;exact hfin
 refine ⟨_,.slice (some ⟨w.heap.size,0,none⟩) len len,w.alloc (.cells us.toArray e),?_,.inl rfl,hfin⟩;have hfill:∀zz:Array Value,Instr.fill (fun i=>some (i * te.size,te.size)) ((Array.range (len * te.size)).map (zz[· % zz.size]!)) (parts.toList.map fun x=>(x.1,a.eval x.2))=some us.toArray:=by
  intro zz;have:=g4 [] ((Array.range (len * te.size)).map (zz[· % zz.size]!)).toList (by simp) (by rw[hpl'];simp)
  simpa only [List.nil_append,Array.toArray_toList] using this
 have e1:(parts.map fun (x:Nat×Operand)=>match x with|(i,x)=>(i,a.eval x))=parts.map fun x=>(x.1,a.eval x.2):=rfl
 have hnot:¬(len * te.size > 2 ^ 24):=by
  have:(2:Nat) ^ 24=16777216:=by decide
  omega
 simp only[execOp,Instr.buildSlice,Sem.run_bind,yB0 ht w hk,Result.andThen,yC0 he,if_neg hnot]
 by_cases h0:len * te.size=0
 ·have hf0:=hfill #[]
  simp[h0] at hf0;simp[h0,hf0,newRow,Result.andThen]
 ·simp[h0,hz,Result.andThen,hfill,newRow]
end
end Go.Av
/- Avs, part 21: functions: how they are entered and left. -/
namespace Go.Av
def Env.zero (S L:Nat->Prop) (bl:List Nat) (w:World):Env:=⟨S,L,bl,⟨#[],[]⟩,w,fun _ _=>none⟩
def ACl (P:Program) (f:FuncId) (args:List AV) (bx:List (Option (List A))) (R:AV->List (Option (List A))->Prop):Prop:=
 ∀(w:World) (vals:Array Value) (S L:Nat->Prop) (bl O1 O2:List Nat),
  RpS (Env.zero S L bl w) args vals.toList O1->RpB (Env.zero S L bl w) bx bl O2->(O1++O2).Nodup->(∀b,S b->L b)->(∀b,L b->b < w.heap.size/\b∉O1++O2)->Gd w S->
  Calls P f vals w fun e w'=>∃v,e=.returned v/\∃res bx' S' bl' o1 o2,R res bx'/\RepV (Env.zero S' S' bl' w') res v o1/\RpB (Env.zero S' S' bl' w') bx' bl' o2/\
   (o1++o2).Nodup/\(∀b,S' b->b < w'.heap.size/\b∉o1++o2)/\(∀b,S b->S' b)/\(∀b,S' b->S b\/b∈O1++O2\/w.heap.size<=b)/\Keeps (O1++O2) w w'/\
   (∀b∈o1++o2,b∈O1++O2\/w.heap.size<=b)/\bl <+: bl'
def A.leaves:A->Bool
 | .ro false _ | .rptr false _ | .sref .. | .eptr ..=>false
 | _=>true
def A.reset:A->A
 | .ow _ d k els=>.ow (0,0) d k els
 | c=>c
theorem RepA.reset {E:Env} {c:A} {u:Value} {own:List Nat} (h:RepA E c u own):RepA E c.reset u own:=by
 cases c<;>exact h
theorem RpA.reset {E:Env}:∀{cs:List A} {us:List Value} {own:List Nat},RpA E cs us own->RpA E (cs.map A.reset) us own
 | [],_,_,h=>h
 | c::cs,us,own,h=>by
  obtain ⟨u,us',o1,o2,h1,h2,h3,h4⟩:=h;exact ⟨u,us',o1,o2,h1,h2,h3.reset,RpA.reset h4⟩
def bP0 (nb:Nat):A->Bool
 | .ptr b _=>decide (b < nb)
 | .fn _ caps=>caps.all fun c=>decide (c.1 < nb)
 | _=>true
def goes (nb:Nat) (c:A):Bool:=c.leaves && bP0 nb c
theorem RepA.leave {S L:Nat->Prop} {bl:List Nat} {a:Act} {w:World} {ca:Root->Nat->Option A} {nb:Nat} {c:A} {u:Value} {own:List Nat} (hl:goes nb c=true) (h:RepA ⟨S,L,bl,a,w,ca⟩ c u own):RepA (Env.zero S S (bl.take nb) w) c.reset u own:=by
 simp only[goes,Bool.and_eq_true] at hl;obtain ⟨hl,hp⟩:=hl;cases c with
 | ro st els=>
  cases st with
  | true=>exact h
  | false=>simp[A.leaves] at hl
 | rptr st cells=>
  cases st with
  | true=>exact h
  | false=>simp[A.leaves] at hl
 | sref r c g lo len=>simp[A.leaves] at hl
 | eptr r c g i off=>simp[A.leaves] at hl
 | ptr b off=>
  obtain ⟨h0,blk,h2,rfl⟩:=h;simp only[bP0,decide_eq_true_eq] at hp;exact ⟨h0,blk,by simp only[Env.zero,List.getElem?_take,if_pos hp];exact h2,rfl⟩
 | fn f caps=>
  obtain ⟨h0,vs,h2,h3,h4⟩:=h;refine ⟨h0,vs,h2,h3,fun j b off hj=>?_⟩;obtain ⟨blk,k1,k2⟩:=h4 j b off hj;simp only[bP0,List.all_eq_true,decide_eq_true_eq] at hp;exact ⟨blk,by simp only[Env.zero,List.getElem?_take,if_pos (hp (b,off) (List.mem_of_getElem? hj))];exact k1,k2⟩
 | _=>exact h
theorem RpA.leave {S L:Nat->Prop} {bl:List Nat} {a:Act} {w:World} {ca:Root->Nat->Option A} {nb:Nat}:∀{cs:List A} {us:List Value} {own:List Nat},(∀c∈cs,goes nb c=true)->RpA ⟨S,L,bl,a,w,ca⟩ cs us own->RpA (Env.zero S S (bl.take nb) w) (cs.map A.reset) us own
 | [],_,_,_,h=>h
 | c::cs,us,own,hl,h=>by
  obtain ⟨u,us',o1,o2,h1,h2,h3,h4⟩:=h;exact ⟨u,us',o1,o2,h1,h2,h3.leave (hl c List.mem_cons_self),RpA.leave (fun x hx=>hl x (List.mem_cons_of_mem _ hx)) h4⟩
def vX0 (nb:Nat) (o:Option (List A)):Option (List A):=match o with
 | some cs=>if cs.all (goes nb) then some (cs.map A.reset) else none
 | none=>none
theorem RpB.leave {S L:Nat->Prop} {bl:List Nat} {a:Act} {w:World} {ca:Root->Nat->Option A} {nb:Nat}:∀{bx:List (Option (List A))} {bs own:List Nat} (n:Nat),RpB ⟨S,L,bl,a,w,ca⟩ bx bs own->
  ∃own',RpB (Env.zero S S (bl.take nb) w) ((bx.take n).map (vX0 nb)) (bs.take n) own'/\List.Sublist own' own
 | [],bs,own,n,h=>by obtain ⟨rfl,rfl⟩:=h;exact ⟨[],by simp[RpB],List.Sublist.refl _⟩
 | x::bx,bs,own,0,h=>⟨[],by simp[RpB],List.nil_sublist _⟩
 | x::bx,bs,own,n+1,h=>by
  obtain ⟨b,bs',o1,o2,rfl,rfl,h3,h4⟩:=h;obtain ⟨ow,k1,k2⟩:=RpB.leave (nb:=nb) n h4;have hdrop:vX0 nb x=none->∃own',RpB (Env.zero S S (bl.take nb) w) (((x::bx).take (n+1)).map (vX0 nb)) ((b::bs').take (n+1)) own'/\List.Sublist own' (o1++o2):=fun e=>by
   refine ⟨ow,⟨b,bs'.take n,[],ow,rfl,rfl,?_,k1⟩,k2.trans (List.sublist_append_right _ _)⟩;rw[e];rfl
  cases x with
  | none=>exact hdrop rfl
  | some cs=>
   by_cases hc:cs.all (goes nb)=true
   ·obtain ⟨o,arr,ty,m1,m2,m3⟩:=h3
    refine ⟨o1++ow,⟨b,bs'.take n,o1,ow,rfl,rfl,?_,k1⟩,List.Sublist.append (List.Sublist.refl _) k2⟩;simp only[vX0,if_pos hc];exact ⟨o,arr,ty,m1,m2,m3.leave (List.all_eq_true.1 hc)⟩
   ·exact hdrop (by simp only[vX0,if_neg hc])
def yM0:AV:=⟨.tup [],[]⟩
def qX0 (args:List AV) (n:Nat):List AV:=args++List.replicate (n - args.length) yM0
def uM0 (args:List AV) (n:Nat) (bx:List (Option (List A))):AS:=⟨qX0 args n,bx,1⟩
theorem RpS.append {E:Env}:∀{a b:List AV} {us vs:List Value} {o p:List Nat},RpS E a us o->RpS E b vs p->RpS E (a++b) (us++vs) (o++p)
 | [],b,us,vs,o,p,h,h'=>by obtain ⟨rfl,rfl⟩:=h;exact h'
 | x::a,b,us,vs,o,p,h,h'=>by
  obtain ⟨u,us',o1,o2,rfl,rfl,h3,h4⟩:=h;exact ⟨u,us'++vs,o1,o2++p,rfl,by simp,h3,RpS.append h4 h'⟩
theorem RpS.undef {E:Env}:∀n,RpS E (List.replicate n yM0) (List.replicate n Go.undef) []
 | 0=>⟨rfl,rfl⟩
 | n+1=>⟨Go.undef,List.replicate n Go.undef,[],[],rfl,rfl,⟨⟨#[],rfl,rfl,by simp⟩,rfl,rfl⟩,RpS.undef n⟩
def yU0 (cs:List A):Prop:=∀c∈cs,stampIn [] 1 c/\c.rstamp=none
def UM0 (av:AV):Option (Bool×Nat×List A):=match av.sh with
 | .one=>some (false,av.cs.length,av.cs)
 | .agg=>some (true,av.cs.length,av.cs)
 | _=>none
def TZ0 (P:Program) (σ:AS):ResultVar->Option AV
 | .tmp t=>σ.ev (.tmp t)
 | .cell t ty=>(σ.ev (.tmp t)).bind fun x=>match x with
  | ⟨.one,[c]⟩=>dX0 P σ ty c
  | _=>none
def pJ0 (P:Program) (σ:AS) (r:ResultVar):Option (Bool×Nat×List A):=(TZ0 P σ r).bind UM0
def uF0 (P:Program) (σ:AS):List ResultVar->Option (List (Bool×Nat)×List A)
 | []=>some ([],[])
 | r::rest=>(pJ0 P σ r).bind fun r=>(uF0 P σ rest).map fun q=>((r.1,r.2.1)::q.1,r.2.2++q.2)
def jQ0 (P:Program) (σ:AS) (rs:List ResultVar):Option AV:=match rs with
 | [r]=>(pJ0 P σ r).map fun r=>⟨if r.1 then .agg else .one,r.2.2⟩
 | rs=>(uF0 P σ rs).map fun q=>⟨.tup q.1,q.2⟩
def GH0 (base:Nat) (r:Root) (_:Nat):Bool:=match r with | .slot _=>true | .box b=>decide (base<=b)
def fF0 (base:Nat) (r:List A×AS):Nat:=if r.1.all (bP0 base) && (r.2.boxes.take base).all (fun o=>match o with | none=>true | some cs=>cs.all (bP0 base)) then base else r.2.boxes.length
def aRes (P:Program) (base:Nat) (rs:List ResultVar) (σ:AS):Option (AV×List (Option (List A))):=
 (jQ0 P σ rs).bind fun av=>
  let r:=tkC (GH0 base) (σ.epoch,0) av.cs σ
  if r.1.all (goes (fF0 base r)) && decide (base<=fF0 base r) then some (⟨av.sh,r.1.map A.reset⟩,(r.2.boxes.take (fF0 base r)).map (vX0 (fF0 base r))) else none
section
variable {P:Program} {C:Ctx} {X:List Nat} {σ:AS} {a:Act} {w:World} {S L:Nat->Prop} {bl O1 O2:List Nat}
theorem RepA.free {a':Act} {ca ca':Root->Nat->Option A} {c:A} {u:Value} {own:List Nat} (hl:c.rstamp=none) (h:RepA ⟨S,L,bl,a,w,ca⟩ c u own):RepA ⟨S,L,bl,a',w,ca'⟩ c u own:=by
 cases c with
 | sref r c g lo len=>simp[A.rstamp] at hl
 | eptr r c g i off=>simp[A.rstamp] at hl
 | _=>exact h
theorem RpA.free {a':Act} {ca ca':Root->Nat->Option A}:∀{cs:List A} {us:List Value} {own:List Nat},(∀c∈cs,c.rstamp=none)->RpA ⟨S,L,bl,a,w,ca⟩ cs us own->RpA ⟨S,L,bl,a',w,ca'⟩ cs us own
 | [],_,_,_,h=>h
 | c::cs,us,own,hl,h=>by
  obtain ⟨u,us',o1,o2,h1,h2,h3,h4⟩:=h;exact ⟨u,us',o1,o2,h1,h2,h3.free (hl c List.mem_cons_self),RpA.free (fun x hx=>hl x (List.mem_cons_of_mem _ hx)) h4⟩
theorem RpS.free {a':Act} {ca ca':Root->Nat->Option A}:∀{sl:List AV} {us:List Value} {own:List Nat},(∀av∈sl,∀c∈av.cs,c.rstamp=none)->RpS ⟨S,L,bl,a,w,ca⟩ sl us own->RpS ⟨S,L,bl,a',w,ca'⟩ sl us own
 | [],_,_,_,h=>h
 | av::sl,us,own,hl,h=>by
  obtain ⟨u,us',o1,o2,h1,h2,h3,h4⟩:=h;refine ⟨u,us',o1,o2,h1,h2,?_,RpS.free (fun x hx=>hl x (List.mem_cons_of_mem _ hx)) h4⟩;have hl0:=hl av List.mem_cons_self;obtain ⟨sh,cs⟩:=av;cases sh with
  | any=>exact h3
  | one=>exact ⟨h3.1,h3.2.free hl0⟩
  | agg=>exact ⟨h3.1,h3.2.free hl0⟩
  | tup ns=>exact ⟨h3.1,h3.2.free hl0⟩
theorem RpB.free {a':Act} {ca ca':Root->Nat->Option A}:∀{bx:List (Option (List A))} {bs own:List Nat},(∀cs,some cs∈bx->∀c∈cs,c.rstamp=none)->RpB ⟨S,L,bl,a,w,ca⟩ bx bs own->RpB ⟨S,L,bl,a',w,ca'⟩ bx bs own
 | [],_,_,_,h=>h
 | x::bx,bs,own,hl,h=>by
  obtain ⟨b,bs',o1,o2,h1,h2,h3,h4⟩:=h;refine ⟨b,bs',o1,o2,h1,h2,?_,RpB.free (fun cs hcs=>hl cs (List.mem_cons_of_mem _ hcs)) h4⟩;cases x with
  | none=>exact h3
  | some cs=>
   obtain ⟨o,arr,ty,k1,k2,k3⟩:=h3;exact ⟨o,arr,ty,k1,k2,k3.free (hl cs List.mem_cons_self)⟩
def mW0 (tmps:Array Value):ResultVar->Sem Value
 | .tmp t=>pure (tmps.getD t undef)
 | .cell a t=>do loadVar t (<-asAddr (tmps.getD a undef))
theorem JY0 (h:InvAt C X σ a w S L bl O1 O2) {r:ResultVar} {av:AV} (hx:TZ0 P σ r=some av):∃v,(mW0 a.tmps r).run P w=.ok v w/\EvOk C X σ ⟨S,L,bl,a,w,σ.cell⟩ av v:=by
 cases r with
 | tmp t=>exact ⟨a.eval (.tmp t),rfl,h.ev hx⟩
 | cell t ty=>
  simp only[TZ0,Option.bind_eq_some_iff] at hx;obtain ⟨x',h1,hx⟩:=hx
  split at hx<;>try (simp at hx;done)
  rename_i c;unfold dX0 at hx;obtain ⟨ti,cs,h2,h3,hx⟩:=zQ0 hx;have he:=h.ev h1;obtain ⟨r1,r2,r3,r4,r5⟩:=he.cell;obtain ⟨b,o,hv,hrow,hst,hno⟩:=DN0 h r1 r4 h3;obtain ⟨v,h4,h5,h6⟩:=mV0 (P:=P) h2 (hrow.take ti.size) hx;refine ⟨v,?_,h5,fun x hx=>hst x (List.mem_of_mem_take (h6 ▸ hx)),fun g d k els hx=>hno g d k els (List.mem_of_mem_take (h6 ▸ hx))⟩;have hv':a.tmps.getD t undef=.pointer (some ⟨b,o,none⟩):=hv
  simp only[mW0,hv',asAddr,pure_bind];exact h4
theorem gV0 (h:InvAt C X σ a w S L bl O1 O2) {rv:ResultVar} {r:Bool×Nat×List A} (hx:pJ0 P σ rv=some r):∃v,(mW0 a.tmps rv).run P w=.ok v w/\
  isTuple v=false/\shapeOf v=(r.1,r.2.1)/\zZ0 v=r.1/\RpA ⟨S,L,bl,a,w,σ.cell⟩ r.2.2 v.cells.toList []/\
   (∀c∈r.2.2,stampIn X σ.epoch c)/\∀g d k els,A.ow g d k els∉r.2.2:=by
 simp only[pJ0,Option.bind_eq_some_iff] at hx;obtain ⟨av,hev,hx⟩:=hx;obtain ⟨v,hrun,he⟩:=JY0 h hev;refine ⟨v,hrun,?_⟩;unfold UM0 at hx;cases hs:av.sh<;>simp only[hs,reduceCtorEq,Option.some.injEq] at hx
 ·subst hx
  obtain ⟨r1,r2,r3⟩:=xA0 he (.inl hs);have hr:=he.rep;obtain ⟨sh,cs⟩:=av;simp only at hs;subst hs;refine ⟨hr.1.1,?_,hr.1.2,r1,he.st,he.noOw⟩;have h1:=hr.1;simp only[shOk] at h1;have hfl:=RpA.length hr.2;rw[yK0 h1] at hfl;simp only[List.length_singleton] at hfl;simp only[<-hfl];cases hv:v<;>first | rfl|(rw[hv] at h1;simp[zZ0] at h1)
 ·subst hx
  obtain ⟨r1,r2,r3⟩:=xA0 he (.inr hs);have hr:=he.rep;obtain ⟨sh,cs⟩:=av;simp only at hs;subst hs;have h1:=hr.1;simp only[shOk] at h1;cases hv:v<;>first|(rw[hv] at h1;simp[zZ0] at h1;done) | skip
  rw[hv] at r1 r3;refine ⟨rfl,?_,rfl,r1,he.st,he.noOw⟩;simp only[shapeOf,Prod.mk.injEq,true_and];simpa [Value.cells] using r3
theorem jP0 (h:InvAt C X σ a w S L bl O1 O2):∀{rs:List ResultVar} {q:List (Bool×Nat)×List A},uF0 P σ rs=some q->
  ∃vs:List Value,(rs.mapM (mW0 a.tmps)).run P w=.ok vs w/\vs.length=rs.length/\vs.map shapeOf=q.1/\(∀v∈vs,isTuple v=false)/\RpA ⟨S,L,bl,a,w,σ.cell⟩ q.2 (vs.flatMap (·.cells.toList)) []/\
   (∀c∈q.2,stampIn X σ.epoch c)/\∀g d k els,A.ow g d k els∉q.2
 | [],q,hx=>by simp[uF0] at hx;subst hx;exact ⟨[],rfl,rfl,rfl,by simp,⟨rfl,rfl⟩,by simp,by simp⟩
 | rv::rest,q,hx=>by
  simp only[uF0,Option.bind_eq_some_iff,Option.map_eq_some_iff] at hx;obtain ⟨r,hr,q',hq,rfl⟩:=hx;obtain ⟨vs,g0,g1,g2,g3,g4,g5,g6⟩:=jP0 h hq;obtain ⟨v,k0,k1,k2,k3,k4,k5,k6⟩:=gV0 h hr;refine ⟨v::vs,?_,by simp[g1],?_,fun x hx=>?_,?_,fun c hc=>?_,fun g d k els hm=>?_⟩
  ·simp only[List.mapM_cons,Sem.run_bind,k0,Result.andThen,g0]
   rfl
  ·simp only[List.map_cons,k2]
   rw[<-g2]
  ·rcases List.mem_cons.1 hx with rfl | hx
   ·exact k1
   ·exact g3 x hx
  ·simp only[List.flatMap_cons]
   exact RpA.append_iff.2 ⟨_,_,[],[],rfl,rfl,k4,g4⟩
  ·rcases List.mem_append.1 hc with hc | hc
   ·exact k5 c hc
   ·exact g5 c hc
  ·rcases List.mem_append.1 hm with hm | hm
   ·exact k6 g d k els hm
   ·exact g6 g d k els hm
theorem mU0 (fn:Func) (a:Act) (w:World) {vs:List Value} (hall:(fn.results.toList.mapM (mW0 a.tmps)).run P w=.ok vs w) :
  (results fn a.tmps).run P w=.ok (if h:vs.length=1 then vs[0] else .tuple vs.toArray) w:=by
 unfold results;rw[Array.mapM_eq_mapM_toList];simp only[map_eq_pure_bind,bind_assoc,pure_bind,Sem.run_bind];have e:∀f:ResultVar->Sem Value,(∀x,f x=mW0 a.tmps x)->List.mapM f fn.results.toList=fn.results.toList.mapM (mW0 a.tmps):=fun f hf=>by rw[funext hf]
 rw[e _ (fun x=>by cases x<;>rfl),hall]
 simp only[Result.andThen]
 rfl
theorem PH0 (h:InvAt C X σ a w S L bl O1 O2) {fn:Func} {av:AV} (hx:jQ0 P σ fn.results.toList=some av) :
  ∃v,(results fn a.tmps).run P w=.ok v w/\RepV ⟨S,L,bl,a,w,σ.cell⟩ av v []/\(∀c∈av.cs,stampIn X σ.epoch c)/\(∀g d k els,A.ow g d k els∉av.cs)/\av.sh≠.any:=by
 unfold jQ0 at hx
 split at hx
 ·rename_i rv ht
  simp only[Option.map_eq_some_iff] at hx;obtain ⟨r,hr,rfl⟩:=hx;obtain ⟨v,k0,k1,k2,k3,k4,k5,k6⟩:=gV0 h hr;refine ⟨v,?_,?_,k5,k6,by cases r.1<;>simp⟩
  ·rw[mU0 fn a w (vs:=[v]) (by rw[ht];simp only[List.mapM_cons,List.mapM_nil,Sem.run_bind,k0,Result.andThen];rfl)]
   rfl
  ·cases hb:r.1 with
   | false=>
    rw[hb] at k3;exact ⟨⟨k1,k3⟩,by rw[vH0 k1];exact k4⟩
   | true=>
    rw[hb] at k3;exact ⟨k3,by rw[vH0 k1];exact k4⟩
 ·rename_i hne
  simp only[Option.map_eq_some_iff] at hx;obtain ⟨q,hq,rfl⟩:=hx;obtain ⟨vs,g0,g1,g2,g3,g4,g5,g6⟩:=jP0 h hq;have hl:¬vs.length=1:=by
   intro hl;rw[g1] at hl;obtain ⟨r,hr⟩:=List.length_eq_one_iff.1 hl;exact hne r hr
  refine ⟨.tuple vs.toArray,?_,⟨⟨_,rfl,by simpa using g2,by simpa using g3⟩,?_⟩,g5,g6,by simp⟩
  ·rw[mU0 fn a w g0,dif_neg hl]
  ·simpa [flat] using g4
end
end Go.Av
