/- Part D14 of the proof: What a function hands over as nil may be taken for an empty slice of ones own. / A step of the elder walks, once. / A slice of bytes that is converted to its own type as bytes out of a constant text are laid: its block gets a mark, the slice is shared and a rule for regions with one operation that is shown by hand. / Texts in order, each once what a program names. / What is told of terms and statements, and what they name: the same. / Texts that are sorted and of which each is left once: they st -/
import Derived.Test.YtomgmhbmchidnaaGreatD5
import Derived.Test.YtomgmhbmchidnaaGreatD8
import Derived.Lib.SlicesCompact
import Derived.Sort.Grow
import Derived.Sort.EncStr
import Derived.WalkKit
import Derived.ProofKit
import Derived.OpenShut
import Derived.ShutString
import Derived.ChangeOld
import Derived.Below
set_option linter.all false
/- What a function hands over as nil may be taken for an empty slice of one's own. -/
namespace Go.Av
def A.owC (k:Nat):A->A
 | .nil=>.ow (0,0) false k []
 | c=>c
def AV.owC (k:Nat) (av:AV):AV:=⟨av.sh,av.cs.map (A.owC k)⟩
theorem RepA.owC {E:Env} {k:Nat} {c:A} {u:Value} {own:List Nat} (h:RepA E c u own):RepA E (c.owC k) u own:=by
 cases c<;>try exact h
 obtain ⟨⟨ad,rfl⟩,rfl⟩:=h;exact ⟨ad,0,rfl,Nat.le_refl _,by simp,.inl ⟨rfl,rfl,rfl⟩⟩
theorem RpA.owC {E:Env} {k:Nat}:∀{cs:List A} {us:List Value} {own:List Nat},RpA E cs us own->RpA E (cs.map (A.owC k)) us own
 | [],us,own,h=>h
 | c::cs,us,own,h=>by
  obtain ⟨u,us',o1,o2,rfl,rfl,h3,h4⟩:=h;exact ⟨u,us',o1,o2,rfl,rfl,RepA.owC h3,RpA.owC h4⟩
theorem ACl.own {P:Program} {f:FuncId} {args:List AV} {bx:List (Option (List A))} {R:AV->List (Option (List A))->Prop} (k:Nat) (h:ACl P f args bx R) :
  ACl P f args bx (fun res bx=>∃r0,R r0 bx/\res=r0.owC k):=by
 intro w vals S L bl O1 O2 h1 h2 h3 h4 h5;refine (h w vals S L bl O1 O2 h1 h2 h3 h4 h5).mono ?_;rintro e w' ⟨v,rfl,res,bx',S',bl',o1,o2,hR,hv,hr⟩;refine ⟨v,rfl,res.owC k,bx',S',bl',o1,o2,⟨res,hR,rfl⟩,?_,hr⟩;obtain ⟨sh,cs⟩:=res;cases sh with
 | any=>
  have hc:cs=[]:=hv.1;subst hc;exact hv
 | one=>exact ⟨hv.1,RpA.owC hv.2⟩
 | agg=>exact ⟨hv.1,RpA.owC hv.2⟩
 | tup ns=>exact ⟨hv.1,RpA.owC hv.2⟩
theorem NA0 {P:Program} {f:FuncId} {args:List AV} {bx:List (Option (List A))} {α:Type} {W:α->Prop} {r:α->AV} {x:α->List (Option (List A))} (k:Nat) (h:ACl P f args bx (fun res bx=>∃a,W a/\res.owC k=r a/\bx=x a)):ACl P f args bx (fun res bx=>∃a,W a/\res=r a/\bx=x a):=
 acI (h.own k) fun _ _ ⟨_,⟨a,ha,h,h'⟩,e⟩=>⟨a,ha,by rw[e,h],h'⟩
end Go.Av
/- A step of the elder walks, once. -/
namespace Go.Gv
open Go.Av
structure Wo (p:Prop):Prop where
 go:p
theorem qO {G H:Prop} (h:H) (t:Wo H->G:=by
 intro hZ
 (try with_reducible refine Nx.mk ?_);first|(with_reducible refine atId ?_)|(with_reducible refine nxId ?_;(conv=>whnf);(first|(with_reducible refine atId ?_)|(with_reducible refine FinAt.mk ?_;cbv;try simp only[hseg])|(cbv;try simp only[hseg])))|(try cbv;try simp only[hseg])
 exact hZ.go):G:=t ⟨h⟩
end Go.Gv
/- A slice of bytes that is converted to its own type (as bytes out of a constant text are laid): its block gets a mark, the slice is shared; and a rule for regions with one operation that is shown by hand. -/
namespace Go.Av
theorem UL0 {w:World} {b n:Nat} {arr:Array Value} {ty:TypeId} {fz:Nat×Nat} (h:w.heap[b]?=some (.cells arr ty fz)):∃fz',(w.freeze ⟨b,n,none⟩ 1).heap[b]?=some (.cells arr ty fz'):=by
 obtain ⟨lo,hi⟩:=fz;unfold World.freeze;rw[if_neg (by decide)]
 exact ⟨_,by simp only[Array.getElem?_modify,if_true,h,Option.map_some];rfl⟩
theorem nX0 {w:World} {b n x:Nat} (h:x≠b):(w.freeze ⟨b,n,none⟩ 1).heap[x]?=w.heap[x]?:=by
 unfold World.freeze;rw[if_neg (by decide)]
 simp only[Array.getElem?_modify,if_neg (Ne.symm h)]
theorem hD0 {w:World} {b n:Nat}:(w.freeze ⟨b,n,none⟩ 1).heap.size=w.heap.size:=by
 unfold World.freeze;rw[if_neg (by decide)]
 simp
theorem Keeps.freeze {O:List Nat} {w0 w:World} {b n:Nat} (h:Keeps O w0 w) (hg:b∈O\/w0.heap.size<=b):Keeps O w0 (w.freeze ⟨b,n,none⟩ 1):=by
 refine ⟨?_,?_,?_,by rw[hD0];exact h.size,fun x hx hn=>?_⟩
 ·unfold World.freeze;rw[if_neg (by decide)];exact h.os
 ·unfold World.freeze;rw[if_neg (by decide)];exact h.tape
 ·unfold World.freeze;rw[if_neg (by decide)];exact h.output
 ·rw[nX0 (by rintro rfl;rcases hg with hg | hg;exact hn hg;omega)]
  exact h.block x hx hn
section
variable {P:Program} {C:Ctx} {σ:AS} {i:Nat} {dst:Option Tmp}
theorem tU1 {s e:TypeId} {x:Operand} {r:Root} {c k:Nat} {g:yA0} {els:List (List T)} {ti te:TI} (hx:σ.ev x=some ⟨.one,[.sref r c g 0 els.length]⟩) (hat:σ.at? r c g=some (k,els)) (hs:tyOf P s=some ti) (hk:ti.tk=.slice e)
  (he:tyOf P e=some te) (hke:te.tk=.int .u8) (hne:els≠[]):OpOk P C i (.convert s s x) dst σ ⟨.one,[.ro true els]⟩ (σ.setCell r c (.ro true els)):=by
 rintro X a w ⟨S,L,bl,O1,O2,h⟩ hi type pos after guard;have h':=h.mono (fun x hx=>List.mem_cons_of_mem i hx);have hxe:=h.ev hx;have hc:=AS.at?_some hat;obtain ⟨hra,_⟩:=hxe.cell;obtain ⟨_,_,hra⟩:=hra;obtain ⟨_,ad,cap,xx,e1,e2,e3⟩:=hra false k els hc;obtain ⟨u0,o,k1,k2,k3,k4,k5⟩:=h'.recell (i:=i) hc (h.fresh hi);rw[e1] at k1;simp only[Option.some.injEq] at k1;subst k1;obtain ⟨ad',cap',m1,m2,m3,m4⟩:=k2
 simp only[Value.slice.injEq,true_and] at m1;obtain ⟨rfl,rfl⟩:=m1;rcases m4 with ⟨_,h0,_⟩ | ⟨b,ob,arr,ty,fz,m5,m6,m7,m8,m9,m10⟩
 ·exact absurd h0 hne
 subst m5;subst m6;have hcap:0 < cap:=by
  have:0 < els.length:=List.length_pos_iff.2 hne;omega
 have hxx:xx=some ⟨b,ob,none⟩:=by
  have:=e3 hcap;simpa [Addr.add] using this
 subst hxx;have hnL:¬L b:=fun hS=>(h.stable b hS).2 (k4 b (by simp))
 have hnS:¬S b:=fun hS=>hnL (h.sl b hS);obtain ⟨w1,hw1⟩:∃w1,w1=w.freeze ⟨b,arr.size,none⟩ 1:=⟨_,rfl⟩;obtain ⟨fz',hfz⟩:=UL0 (n:=arr.size) m7;rw[<-hw1] at hfz;have hother:∀x,x≠b->w1.heap[x]?=w.heap[x]?:=fun x hx=>by rw[hw1];exact nX0 hx
 have hcell:∀j,w1.cell? ⟨b,j,none⟩=w.cell? ⟨b,j,none⟩:=fun j=>by simp only[World.cell?,hfz,m7]
 have hrow:RepSE (fun x=>S x\/x∈[b]) w1 b ob els:=RepSE.of_get m3 fun i' e' hi'=>RepSC.of_get fun j t hj=>by
  obtain ⟨u,hu,hr⟩:=(m10.get m3 i' e' hi').get j t hj;exact ⟨u,by rw[hcell];exact hu,RepS.mono (fun _ hb=>.inl hb) (fun x hx=>hother x (by rintro rfl;exact hnS hx)) _ _ hr⟩
 have hro:RepS (fun x=>S x\/x∈[b]) w1 (.sl els) (.slice (some ⟨b,ob,none⟩) els.length cap):=by
  simp only[RepS];exact ⟨_,cap,rfl,m2,fun _=>⟨b,ob,rfl,.inr (by simp),hrow⟩⟩
 have hown:=h.own b (k4 b (by simp))
 obtain ⟨O1a,O2a,ha,hmem⟩:=k5 (fun x=>S x\/x∈[b]) (fun x=>L x\/x∈[b]) w1 (.ro true els) [] (fun _ hb=>.inl hb) (fun _ hb=>.inl hb) (fun x hb=>hb.imp (h.sl x) id) (fun x hb=>hb) (fun x hb=>hb) (by simp) (.inr rfl)
  (fun x hx _=>hother x (by simpa using hx)) (by rw[hw1];exact h.keeps.freeze hown) (by rw[hw1,hD0];exact Nat.le_refl _) ⟨hro,rfl⟩ (fun g hg=>by simp[A.stamp] at hg) (fun g d k els' he=>by simp at he)
 refine ⟨_,.slice (some ⟨b,ob,none⟩) els.length cap,w1,?_,.inl rfl,?_⟩
 ·have hcv:(convert s s (a.eval x)).run P w=.ok (.slice (some ⟨b,ob,none⟩) els.length cap) w1:=by
   rw[e2];have hsh:w.shape? b=some (ty,arr.size):=by simp only[World.shape?,m7]
   simp only[convert,Sem.run_bind,yK0 hs w hk,Result.andThen,xH0 he w hke,beq_self_eq_true,markStringish,run_shape,hsh,run_freeze,Sem.run_pure,hw1,Nat.sub_zero]
  simp only[execOp,Sem.run_bind,hcv,Result.andThen]
  rfl
 ·have hep:(σ.setCell r c (.ro true els)).epoch=σ.epoch:=yV0
  refine ha.done (i:=i) (o':=[]) (by rw[hep];exact (h.fresh hi).setDead rfl) ?_ (fun c' hc'=>by simp at hc';subst hc';exact .inl rfl) (fun c' hc' g' hg=>by simp at hc';subst hc';simp[A.stamp] at hg) (fun g' d' k' els' hm=>by simp at hm) List.nodup_nil (by simp)
  exact ⟨⟨rfl,rfl⟩,_,[],[],[],rfl,rfl,⟨hro,rfl⟩,rfl,rfl⟩
theorem VK0 {base:Nat} {ops:Array Oper} {Q:Exit->Act->World->Prop} {K:AS->Prop} {l':List Nat}:∀(l:List Nat) (X:List Nat) (σ:AS) (a:Act) (w:World),l.Nodup->(∀i∈l,i∉X)->aOps P base ops l σ K->Inv C X σ a w->
  (∀X' σ' a' w',(∀j∈X',j∈X\/j∈l)->K σ'->Inv C X' σ' a' w'->wpOps P ops Q l' a' w')->wpOps P ops Q (l++l') a w
 | [],X,σ,a,w,_,_,hx,h,hK=>hK X σ a w (fun _ h=>.inl h) hx h
 | i::rest,X,σ,a,w,hn,hd,hx,h,hK=>by
  rw[List.cons_append,wpOps_cons];simp only[List.nodup_cons] at hn;refine wpOp_mono ?_ (rE0 hx h (hd i List.mem_cons_self));rintro a' w' ⟨σ',hK',h'⟩;refine VK0 rest (i::X) σ' a' w' hn.2 (fun j hj hm=>?_) hK' h' fun X' σ2 a2 w2 hX=>hK X' σ2 a2 w2 fun j hj=>?_
  ·rcases List.mem_cons.1 hm with rfl | hm
   ·exact hn.1 hj
   ·exact hd j (List.mem_cons_of_mem _ hj) hm
  ·rcases hX j hj with h | h
   ·rcases List.mem_cons.1 h with rfl | h
    ·exact .inr List.mem_cons_self
    ·exact .inl h
   ·exact .inr (List.mem_cons_of_mem _ h)
end
end Go.Av
namespace Go.Gv
open Go.Av
variable {O:Ops} {ts:Nat->Option TI} {P:Program} {C:Ctx} {σ:AS} {Q:Exit->AS->Prop}
theorem GWp.regionX {base id:Nat} {ops:Array Oper} {pre post:List Nat} {j:Nat} {o:Oper} (hr:List.range ops.size=pre++j::post) (ho:ops[j]?=some o) (hg:o.guard=none) (K1:AS->Prop)
  (h:O=.std->(∀n ti,ts n=some ti->tyOf P n=some ti)->aOps P base ops pre σ K1)
  (h1:∀σ',K1 σ'->∃av σ1,OpOk P C j o.op o.dst σ' av σ1/\∀K:AS->Prop,(∀σ2,Q .normal σ2->K σ2)->gOps O ts P base ops post [] [] (σ1.putO o.dst av) K):GWp O ts P C (.region id ops false) σ Q:=by
 intro hO ht;subst hO;have hnd:(pre++j::post).Nodup:=hr ▸ List.nodup_range;obtain ⟨hn1,hn2,hn3⟩:=List.nodup_append.1 hnd;simp only[List.nodup_cons] at hn2;intro a w hi;refine wp_region ?_;rw[hr];refine VK0 pre [] σ a w hn1 (by simp) (h rfl ht) hi fun X' σ' a' w' hX hK hi'=>?_
 obtain ⟨av,σ1,hop,hrest⟩:=h1 σ' hK;have hj:j∉X':=fun hm=>by
  rcases hX j hm with h | h
  ·simp at h
  ·exact hn3 j h j List.mem_cons_self rfl
 obtain ⟨dst,op,type,pos,after,guard⟩:=o;obtain ⟨n,v,w2,g1,g2,g3⟩:=hop X' a' w' hi' hj type pos after guard;simp only at hg;subst hg;rw[wpOps_cons];unfold wpOp;simp only[ho,Region.wanted,if_true];refine .inl ?_;unfold Oper.wp;rw[g1];have hpost:=jY0 ht (hrest (fun σ2=>Q .normal σ2) fun _ h=>h);have key:∀a2,Inv C (j::X') (σ1.putO dst av) a2 w2->wpOps P ops (fun e a' w'=>∃σ',Q e σ'/\Inv C [] σ' a' w') post a2 w2:=fun a2 hi2=>
  RM0 (Q:=fun e a' w'=>∃σ',Q e σ'/\Inv C [] σ' a' w') (fun _ _ _ _ hq hv=>⟨_,hq,hv.next⟩) post (j::X') _ _ _ hn2.2 (fun i hi hm=>by
   rcases List.mem_cons.1 hm with rfl | hm
   ·exact hn2.1 hi
   ·rcases hX i hm with h | h
    ·simp at h
    ·exact hn3 i h i (List.mem_cons_of_mem _ hi) rfl) hpost.2 hi2
 rcases g2 with rfl | ⟨rfl,rfl⟩
 ·exact key _ g3
 ·exact key _ g3
structure GHand (P:Program) (C:Ctx) (i:Nat) (op:Op) (dst:Option Tmp) (σ:AS) (K:AS->Prop):Prop where
 go:∃av σ1,OpOk P C i op dst σ av σ1/\K (σ1.putO dst av)
theorem xR {base id:Nat} {ops:Array Oper} {post:List Nat} {o:Oper} (hr:List.range ops.size=0::1::post) (ho:ops[1]?=some o) (hg:o.guard=none)
  (h:xV1 O ts P base ops 0 [] [] σ fun acc _ σ'=>out acc (GHand P C 1 o.op o.dst σ' fun σ2=>∀K:AS->Prop,(∀σ3,Q .normal σ3->K σ3)->gOps O ts P base ops post [] [] σ2 K)):At O ts P C (.region id ops false) σ Q:=by
 refine ⟨GWp.regionX (base:=base) (pre:=[0]) hr ho hg (fun σ'=>GHand P C 1 o.op o.dst σ' fun σ2=>∀K:AS->Prop,(∀σ3,Q .normal σ3->K σ3)->gOps O ts P base ops post [] [] σ2 K) (fun hO ht=>?_) fun σ' hK=>?_⟩
 ·subst hO
  exact (QW0 ht (fun acc _ σ' hk=>out_iff.1 hk) h).2
 ·obtain ⟨av,σ1,h1,h2⟩:=hK.go
  exact ⟨av,σ1,h1,h2⟩
end Go.Gv
/- Texts in order, each once; what a program names. -/
namespace Go.Gv
open Go.Av
def ltB (a b:ByteArray):Prop:=Op.bytesLess a.toList b.toList=true
theorem jT0:∀l:List UInt8,Op.bytesLess l l=false
 | []=>by simp[Op.bytesLess]
 | a::l=>by simp[Op.bytesLess,jT0 l]
theorem fU0:∀{a b c:List UInt8},Op.bytesLess a b=true->Op.bytesLess b c=true->Op.bytesLess a c=true
 | [],[],_,h,_=>by simp[Op.bytesLess] at h
 | [],_::_,[],_,h=>by simp[Op.bytesLess] at h
 | [],_::_,_::_,_,_=>by simp[Op.bytesLess]
 | _::_,[],_,h,_=>by simp[Op.bytesLess] at h
 | _::_,_::_,[],_,h=>by simp[Op.bytesLess] at h
 | x::a,y::b,z::c,h,h'=>by
  simp only[Op.bytesLess] at h h' |-;have ih:=@fU0 a b c;have hi:x.toNat=y.toNat->x=y:=UInt8.toNat_inj.1;have hj:y.toNat=z.toNat->y=z:=UInt8.toNat_inj.1;simp only[UInt8.lt_iff_toNat_lt] at *
  grind
theorem fV0:∀{a b:List UInt8},Op.bytesLess a b=false->a≠b->Op.bytesLess b a=true
 | [],[],_,h=>absurd rfl h
 | [],_::_,h,_=>by simp[Op.bytesLess] at h
 | _::_,[],_,_=>by simp[Op.bytesLess]
 | x::a,y::b,h,h'=>by
  simp only[Op.bytesLess] at h |-;have ih:=@fV0 a b;have hi:x.toNat=y.toNat->x=y:=UInt8.toNat_inj.1;simp only[UInt8.lt_iff_toNat_lt] at *
  grind
theorem ltB.irrefl (a:ByteArray):¬ltB a a:=by simp[ltB,jT0]
theorem ltB.trans {a b c:ByteArray} (h:ltB a b) (h':ltB b c):ltB a c:=fU0 h h'
theorem mY1 {a b:ByteArray} (h:a.toList=b.toList):a=b:=by
 have:=ba_eq (a:=a) (b:=b);rw[h] at this;simpa using this.symm
theorem ltB.total {a b:ByteArray} (h:¬ltB a b) (hn:a≠b):ltB b a:=fV0 (by simpa [ltB] using h) (fun h=>hn (mY1 h))
theorem rE1 {a b:ByteArray}:pX0 .gtr a b=true↔ltB b a:=by
 simp only[pX0,ba_eq,Bool.not_eq_true',Bool.or_eq_false_iff,decide_eq_false_iff_not]
 constructor
 ·rintro ⟨h1,h2⟩;exact ltB.total (by simp[ltB,h1]) h2
 ·intro h
  refine ⟨?_,fun e=>ltB.irrefl b (e ▸ h)⟩;cases h1:Op.bytesLess a.toList b.toList with
  | false=>rfl
  | true=>exact absurd (ltB.trans h h1) (ltB.irrefl b)
def Asc:List ByteArray->Prop
 | []=>True
 | a::l=>(∀b∈l,ltB a b)/\Asc l
theorem Asc.app:∀{a b:List ByteArray},Asc (a++b)↔Asc a/\Asc b/\∀x∈a,∀y∈b,ltB x y
 | [],b=>by simp[Asc]
 | x::a,b=>by
  rw[List.cons_append,Asc,Asc,Asc.app];simp only[List.mem_append,List.mem_cons]
  constructor
  ·rintro ⟨h1,h2,h3,h4⟩
   refine ⟨⟨fun y hy=>h1 y (.inl hy),h2⟩,h3,fun z hz y hy=>?_⟩;rcases hz with rfl | hz
   ·exact h1 y (.inr hy)
   ·exact h4 z hz y hy
  ·rintro ⟨⟨h1,h2⟩,h3,h4⟩
   refine ⟨fun y hy=>?_,h2,h3,fun z hz y hy=>h4 z (.inr hz) y hy⟩;rcases hy with hy | hy
   ·exact h1 y hy
   ·exact h4 x (.inl rfl) y hy
theorem Asc.unique:∀{a b:List ByteArray},Asc a->Asc b->(∀s,s∈a↔s∈b)->a=b
 | [],[],_,_,_=>rfl
 | [],y::b,_,_,h=>by have:=(h y).2 (by simp);simp at this
 | x::a,[],_,_,h=>by have:=(h x).1 (by simp);simp at this
 | x::a,y::b,ha,hb,h=>by
  have hxy:x=y:=by
   have h1:=(h x).1 (by simp)
   have h2:=(h y).2 (by simp)
   rcases List.mem_cons.1 h1 with h1 | h1
   ·exact h1
   rcases List.mem_cons.1 h2 with h2 | h2
   ·exact h2.symm
   ·exact absurd (ltB.trans (ha.1 y h2) (hb.1 x h1)) (ltB.irrefl x)
  subst hxy;rw[Asc.unique ha.2 hb.2 fun s=>?_];have:=h s;simp only[List.mem_cons] at this
  constructor
  ·intro hs
   rcases this.1 (.inr hs) with e | e
   ·subst e;exact absurd (ha.1 s hs) (ltB.irrefl s)
   ·exact e
  ·intro hs
   rcases this.2 (.inr hs) with e | e
   ·subst e;exact absurd (hb.1 s hs) (ltB.irrefl s)
   ·exact e
theorem Asc.put {l:List ByteArray} {s:ByteArray} {k:Nat} (hl:Asc l) (hs:s∉l) (h1:∀j x,k<=j->l[j]?=some x->ltB s x) (h2:∀x,0 < k->l[k - 1]?=some x->¬ltB s x) (hk:k<=l.length):Asc (l.take k++s::l.drop k):=by
 have hsp:l=l.take k++l.drop k:=(List.take_append_drop k l).symm;have hasc:=hl;rw[hsp] at hasc;obtain ⟨a1,a2,a3⟩:=Asc.app.1 hasc;have hlow:∀x∈l.take k,ltB x s:=by
  intro x hx;have hk0:0 < k:=by
   rcases Nat.eq_zero_or_pos k with h | h
   ·subst h;simp at hx
   ·exact h
  obtain ⟨y,hy⟩:∃y,l[k - 1]?=some y:=⟨_,List.getElem?_eq_getElem (by omega)⟩
  have hys:ltB y s:=ltB.total (h2 y hk0 hy) (fun e=>hs (e ▸ List.mem_of_getElem? hy));have htk:l.take k=l.take (k - 1)++[y]:=by
   have:=List.take_succ_eq_append_getElem (i:=k - 1) (l:=l) (by omega)
   rw[show k - 1+1=k by omega] at this
   rw[this]
   congr 2
   rw[List.getElem?_eq_getElem (by omega)] at hy
   exact Option.some.inj hy
  rw[htk] at hx a1;rcases List.mem_append.1 hx with hx | hx
  ·exact ltB.trans ((Asc.app.1 a1).2.2 x hx y (by simp)) hys
  ·obtain rfl:=List.mem_singleton.1 hx;exact hys
 have hhigh:∀x∈l.drop k,ltB s x:=by
  intro x hx;obtain ⟨j,hj⟩:=List.mem_iff_getElem?.1 hx;rw[List.getElem?_drop] at hj;exact h1 _ x (by omega) hj
 refine Asc.app.2 ⟨a1,⟨hhigh,a2⟩,fun x hx y hy=>?_⟩;rcases List.mem_cons.1 hy with rfl | hy
 ·exact hlow x hx
 ·exact a3 x hx y hy
theorem put_mem {l:List ByteArray} {s t:ByteArray} {k:Nat}:t∈l.take k++s::l.drop k↔t=s\/t∈l:=by
 have:t∈l↔t∈l.take k\/t∈l.drop k:=by rw[<-List.mem_append,List.take_append_drop]
 rw[this,List.mem_append,List.mem_cons]
 constructor
 ·rintro (h | h | h)
  ·exact .inr (.inl h)
  ·exact .inl h
  ·exact .inr (.inr h)
 ·rintro (h | h | h)
  ·exact .inr (.inl h)
  ·exact .inl h
  ·exact .inr (.inr h)
mutual
def Ex.vs:Ex->List ByteArray
 | .mk k _ s l=>(if k=3 then [s] else [])++Ex.vss l
def Ex.vss:List Ex->List ByteArray
 | []=>[]
 | e::l=>Ex.vs e++Ex.vss l
end
mutual
def Ex.tb:Ex->List ByteArray
 | .mk k _ s l=>(if k=4\/k=9 then [s] else [])++Ex.tbs l
def Ex.tbs:List Ex->List ByteArray
 | []=>[]
 | e::l=>Ex.tb e++Ex.tbs l
end
mutual
def Ex.cl:Ex->List Ex
 | .mk k n s l=>(if k=11 then [.mk k n s l] else [])++Ex.cls l
def Ex.cls:List Ex->List Ex
 | []=>[]
 | e::l=>Ex.cl e++Ex.cls l
end
mutual
def Sm.vs:Sm->List ByteArray
 | .mk k s _ x a b=>(if k=2\/k=7 then [s] else [])++Ex.vss x++Sm.vss a++Sm.vss b
def Sm.vss:List Sm->List ByteArray
 | []=>[]
 | e::l=>Sm.vs e++Sm.vss l
end
mutual
def Sm.tb:Sm->List ByteArray
 | .mk k s t x a b=>(if k=3\/k=11 then [s] else [])++(if k=7 then [t] else [])++Ex.tbs x++Sm.tbs a++Sm.tbs b
def Sm.tbs:List Sm->List ByteArray
 | []=>[]
 | e::l=>Sm.tb e++Sm.tbs l
end
mutual
def Sm.cl:Sm->List Ex
 | .mk _ _ _ x a b=>Ex.cls x++Sm.cls a++Sm.cls b
def Sm.cls:List Sm->List Ex
 | []=>[]
 | e::l=>Sm.cl e++Sm.cls l
end
mutual
def Sm.ks:Sm->List Int
 | .mk k _ _ _ a b=>k::(Sm.kss a++Sm.kss b)
def Sm.kss:List Sm->List Int
 | []=>[]
 | e::l=>Sm.ks e++Sm.kss l
end
end Go.Gv
/- What is told of terms and statements, and what they name: the same. -/
namespace Go.Gv
open Go.Av
def zv:Ex->List ByteArray | .mk k _ s _=>if k=3 then [s] else []
def zvS:Sm->List ByteArray | .mk k s _ _ _ _=>if k=2\/k=7 then [s] else []
def zt:Ex->List ByteArray | .mk k _ s _=>if k=4\/k=9 then [s] else []
def ztS:Sm->List ByteArray | .mk k s t _ _ _=>(if k=3\/k=11 then [s] else [])++(if k=7 then [t] else [])
def zc:Ex->List Ex | .mk k n s l=>if k=11 then [.mk k n s l] else []
def PlOk (ru:Int):Sm->Prop | .mk k _ _ _ _ _=>(k=8->ru=3\/ru=4)/\(k=10->ru=0)
theorem Sm.x_mk (k:Int) (s t:ByteArray) (x:List Ex) (a b:List Sm):(Sm.mk k s t x a b).x=x:=rfl
mutual
theorem Ex.z1_vs:∀e:Ex,Ex.z1 zv e=e.vs
 | .mk k n s l=>by rw[Ex.z1,Ex.vs,Ex.zl_vs l,zv]
theorem Ex.zl_vs:∀l:List Ex,Ex.zl zv l=Ex.vss l
 | []=>by rw[Ex.zl,Ex.vss]
 | e::l=>by rw[Ex.zl,Ex.vss,Ex.z1_vs e,Ex.zl_vs l]
end
mutual
theorem Ex.z1_tb:∀e:Ex,Ex.z1 zt e=e.tb
 | .mk k n s l=>by rw[Ex.z1,Ex.tb,Ex.zl_tb l,zt]
theorem Ex.zl_tb:∀l:List Ex,Ex.zl zt l=Ex.tbs l
 | []=>by rw[Ex.zl,Ex.tbs]
 | e::l=>by rw[Ex.zl,Ex.tbs,Ex.z1_tb e,Ex.zl_tb l]
end
mutual
theorem Ex.z1_cl:∀e:Ex,Ex.z1 zc e=e.cl
 | .mk k n s l=>by rw[Ex.z1,Ex.cl,Ex.zl_cl l,zc]
theorem Ex.zl_cl:∀l:List Ex,Ex.zl zc l=Ex.cls l
 | []=>by rw[Ex.zl,Ex.cls]
 | e::l=>by rw[Ex.zl,Ex.cls,Ex.z1_cl e,Ex.zl_cl l]
end
mutual
theorem Sm.m1_vs (c:ByteArray):∀y:Sm,(c∈Sm.z1 zvS y\/c∈Sm.z1 (fun y=>Ex.zl zv y.x) y)↔c∈y.vs
 | .mk k s t x a b=>by
  have h1:=Sm.ml_vs c a;have h2:=Sm.ml_vs c b;simp only[Sm.z1,Sm.vs,List.mem_append,<-h1,<-h2,Sm.x,Ex.zl_vs,zvS];simp only[or_assoc,or_left_comm,or_comm]
theorem Sm.ml_vs (c:ByteArray):∀l:List Sm,(c∈Sm.zl zvS l\/c∈Sm.zl (fun y=>Ex.zl zv y.x) l)↔c∈Sm.vss l
 | []=>by simp[Sm.zl,Sm.vss]
 | y::l=>by
  have h1:=Sm.m1_vs c y;have h2:=Sm.ml_vs c l;simp only[Sm.zl,Sm.vss,List.mem_append,<-h1,<-h2];simp only[or_assoc,or_left_comm,or_comm]
end
mutual
theorem Sm.m1_tb (c:ByteArray):∀y:Sm,(c∈Sm.z1 ztS y\/c∈Sm.z1 (fun y=>Ex.zl zt y.x) y)↔c∈y.tb
 | .mk k s t x a b=>by
  have h1:=Sm.ml_tb c a;have h2:=Sm.ml_tb c b;simp only[Sm.z1,Sm.tb,List.mem_append,<-h1,<-h2,Sm.x,Ex.zl_tb,ztS];simp only[or_assoc,or_left_comm,or_comm]
theorem Sm.ml_tb (c:ByteArray):∀l:List Sm,(c∈Sm.zl ztS l\/c∈Sm.zl (fun y=>Ex.zl zt y.x) l)↔c∈Sm.tbs l
 | []=>by simp[Sm.zl,Sm.tbs]
 | y::l=>by
  have h1:=Sm.m1_tb c y;have h2:=Sm.ml_tb c l;simp only[Sm.zl,Sm.tbs,List.mem_append,<-h1,<-h2];simp only[or_assoc,or_left_comm,or_comm]
end
mutual
theorem Sm.m1_cl (c:Ex):∀y:Sm,c∈Sm.z1 (fun y=>Ex.zl zc y.x) y↔c∈y.cl
 | .mk k s t x a b=>by
  have h1:=Sm.ml_cl c a;have h2:=Sm.ml_cl c b;rw[Sm.z1,Sm.cl,List.mem_append,List.mem_append,List.mem_append,List.mem_append,h1,h2,or_assoc];simp only[Sm.x_mk,Ex.zl_cl]
theorem Sm.ml_cl (c:Ex):∀l:List Sm,c∈Sm.zl (fun y=>Ex.zl zc y.x) l↔c∈Sm.cls l
 | []=>by simp[Sm.zl,Sm.cls]
 | y::l=>by
  have h1:=Sm.m1_cl c y;have h2:=Sm.ml_cl c l;rw[Sm.zl,Sm.cls,List.mem_append,List.mem_append,h1,h2]
end
def KsOk (ru:Int) (ks:List Int):Prop:=((8:Int)∈ks->ru=3\/ru=4)/\((10:Int)∈ks->ru=0)
theorem KsOk.app {ru:Int} {a b:List Int}:KsOk ru (a++b)↔KsOk ru a/\KsOk ru b:=by
 unfold KsOk;simp only[List.mem_append]
 constructor
 ·rintro ⟨h1,h2⟩
  exact ⟨⟨fun h=>h1 (.inl h),fun h=>h2 (.inl h)⟩,⟨fun h=>h1 (.inr h),fun h=>h2 (.inr h)⟩⟩
 ·rintro ⟨⟨h1,h2⟩,⟨h3,h4⟩⟩
  exact ⟨fun h=>h.elim h1 h3,fun h=>h.elim h2 h4⟩
theorem KsOk.one {ru k:Int}:KsOk ru [k]↔(k=8->ru=3\/ru=4)/\(k=10->ru=0):=by
 unfold KsOk;simp only[List.mem_singleton]
 constructor
 ·rintro ⟨h1,h2⟩
  exact ⟨fun h=>h1 h.symm,fun h=>h2 h.symm⟩
 ·rintro ⟨h1,h2⟩
  exact ⟨fun h=>h1 h.symm,fun h=>h2 h.symm⟩
mutual
theorem Sm.m1_ks (ru:Int):∀y:Sm,(∀c∈Sm.z1 (fun y=>[y]) y,PlOk ru c)↔KsOk ru y.ks
 | .mk k s t x a b=>by
  have h1:=Sm.ml_ks ru a;have h2:=Sm.ml_ks ru b;rw[Sm.z1,Sm.ks,show k::(Sm.kss a++Sm.kss b)=[k]++(Sm.kss a++Sm.kss b) from rfl,KsOk.app,KsOk.app,<-h1,<-h2,KsOk.one]
  simp only[List.mem_append,List.mem_singleton,or_imp,forall_and,forall_eq,PlOk]
theorem Sm.ml_ks (ru:Int):∀l:List Sm,(∀c∈Sm.zl (fun y=>[y]) l,PlOk ru c)↔KsOk ru (Sm.kss l)
 | []=>by simp[Sm.zl,Sm.kss,KsOk]
 | y::l=>by
  have h1:=Sm.m1_ks ru y;have h2:=Sm.ml_ks ru l;rw[Sm.zl,Sm.kss,KsOk.app,<-h1,<-h2];simp only[List.mem_append,or_imp,forall_and]
end
mutual
theorem Sm.w1_le:∀y:Sm,Sm.w1 (fun _=>1) y<=1+y.sz
 | .mk k s t x a b=>by
  have h1:=Sm.wl_le a;have h2:=Sm.wl_le b;rw[Sm.w1,Sm.sz];omega
theorem Sm.wl_le:∀l:List Sm,Sm.wl (fun _=>1) l<=l.length+Sm.szs l
 | []=>by simp[Sm.wl]
 | y::l=>by
  have h1:=Sm.w1_le y;have h2:=Sm.wl_le l;rw[Sm.wl,Sm.szs,List.length_cons];omega
end
mutual
theorem Sm.w1_parts:∀y:Sm,Sm.w1 (fun y=>Ex.partss y.x) y=y.parts
 | .mk k s t x a b=>by
  have h1:=Sm.wl_parts a;have h2:=Sm.wl_parts b;rw[Sm.w1,Sm.parts,h1,h2,Sm.x];omega
theorem Sm.wl_parts:∀l:List Sm,Sm.wl (fun y=>Ex.partss y.x) l=Sm.partss l
 | []=>by rw[Sm.wl,Sm.partss]
 | y::l=>by rw[Sm.wl,Sm.partss,Sm.w1_parts y,Sm.wl_parts l]
end
structure Pa where
 params:List ByteArray
 when_:List Ex
 l:List Sm
 rule:Int
def Pa.t (x:Pa):List T:=[.sl (strs x.params),.sl (x.when_.map Ex.t),.sl (x.l.map Sm.t),.lit (.int .i64 x.rule)]
def Pa.fu (f:Fu):Pa:=⟨f.params,[],f.a,0⟩
def Pa.ru (r:Ru):Pa:=⟨[],if r.k=4 then [r.p] else [],r.a,r.k⟩
def Pa.of (p:Pg):List Pa:=p.fns.map Pa.fu++p.rules.map Pa.ru
end Go.Gv
/- Texts that are sorted and of which each is left once: they stand in order, and are the same texts. -/
namespace Go.Gv
open Go.Av
theorem GF0:∀x y:List UInt8,Op.bytesLess x y=true↔x < y
 | [],[]=>by simp[Op.bytesLess]
 | _::_,[]=>by simp[Op.bytesLess]
 | [],_::_=>by simp[Op.bytesLess]
 | a::x,b::y=>by
  rw[List.cons_lt_cons_iff,<-GF0 x y];simp[Op.bytesLess]
def AscL:List (List UInt8)->Prop
 | []=>True
 | a::l=>(∀b∈l,a < b)/\AscL l
theorem AscL.snoc:∀{l:List (List UInt8)} {x:List UInt8},AscL l->(∀y∈l,y < x)->AscL (l++[x])
 | [],x,_,_=>by simp[AscL]
 | a::l,x,h,g=>by
  rw[List.cons_append,AscL];refine ⟨fun b hb=>?_,AscL.snoc h.2 fun y hy=>g y (List.mem_cons_of_mem _ hy)⟩;rcases List.mem_append.1 hb with hb | hb
  ·exact h.1 b hb
  ·obtain rfl:=List.mem_singleton.1 hb
   exact g a List.mem_cons_self
theorem lt_of_le_ne {a b:List UInt8} (h:a<=b) (hn:a≠b):a < b:=Classical.byContradiction fun hc=>hn (List.le_antisymm h hc)
theorem UF0 {a b c:List UInt8} (h:a<=b) (h':b < c):a < c:=List.lt_of_le_of_lt h h'
theorem PG0 (d:Array (List UInt8)) (hs:∀i j,i < j->j < d.size->d[i]!<=d[j]!):∀m,m<=d.size->AscL (Lib.compactUpTo d m)/\∀x,x∈Lib.compactUpTo d m↔∃j,j < m/\d[j]! = x
 | 0,_=>by simp[Lib.compactUpTo,AscL]
 | m+1,hm=>by
  obtain ⟨h1,h2⟩:=PG0 d hs m (by omega)
  rw[Lib.compactUpTo_succ];have hle:∀j,j < m->d[j]!<=d[m]!:=fun j hj=>hs j m hj (by omega)
  by_cases hk:Lib.keeps d m=true
  ·rw[if_pos hk]
   refine ⟨AscL.snoc h1 fun y hy=>?_,fun x=>?_⟩
   ·obtain ⟨j,hj,rfl⟩:=(h2 y).1 hy
    have hne:d[m]!≠d[m - 1]!:=by
     simp only[Lib.keeps,decide_eq_true_eq] at hk;rcases hk with h | h
     ·omega
     ·exact h
    have h3:d[m - 1]! < d[m]!:=lt_of_le_ne (hle (m - 1) (by omega)) fun e=>hne e.symm
    by_cases hjm:j=m - 1
    ·rw[hjm];exact h3
    ·exact UF0 (hs j (m - 1) (by omega) (by omega)) h3
   ·rw[List.mem_append,h2,List.mem_singleton]
    constructor
    ·rintro (⟨j,hj,rfl⟩ | rfl)
     ·exact ⟨j,by omega,rfl⟩
     ·exact ⟨m,by omega,rfl⟩
    ·rintro ⟨j,hj,rfl⟩
     by_cases hjm:j=m
     ·rw[hjm];exact .inr rfl
     ·exact .inl ⟨j,by omega,rfl⟩
  ·rw[if_neg hk,List.append_nil]
   refine ⟨h1,fun x=>?_⟩;simp only[Lib.keeps,decide_eq_true_eq,not_or,ne_eq,Classical.not_not] at hk;rw[h2]
   constructor
   ·rintro ⟨j,hj,rfl⟩
    exact ⟨j,by omega,rfl⟩
   ·rintro ⟨j,hj,rfl⟩
    by_cases hjm:j=m
    ·exact ⟨m - 1,by omega,by rw[hjm,hk.2]⟩
    ·exact ⟨j,by omega,rfl⟩
def srt (l:List (List UInt8)):List (List UInt8):=l.mergeSort fun x y=>decide (x<=y)
theorem VV0 (l:List (List UInt8)):AscL (Lib.compact (srt l))/\∀x,x∈Lib.compact (srt l)↔x∈l:=by
 have hp:(srt l).Pairwise fun a b=>decide (a<=b)=true:=by
  refine List.pairwise_mergeSort ?_ ?_ _
  ·intro a b c h1 h2
   simp only[decide_eq_true_eq] at *;exact List.le_trans h1 h2
  ·intro a b
   simp only[Bool.or_eq_true,decide_eq_true_eq];exact List.le_total a b
 have hs:∀i j,i < j->j < (srt l).toArray.size->(srt l).toArray[i]!<=(srt l).toArray[j]!:=by
  intro i j hij hj;have hj':j < (srt l).length:=by simpa using hj
  have:=List.pairwise_iff_getElem.1 hp i j (by omega) hj' hij
  simp only[decide_eq_true_eq] at this;rw[getElem!_pos _ i (by simp;omega),getElem!_pos _ j hj]
  simpa using this
 obtain ⟨h1,h2⟩:=PG0 (srt l).toArray hs (srt l).length (by simp)
 refine ⟨h1,fun x=>?_⟩;rw[Lib.compact,h2];have hm:x∈srt l↔x∈l:=(List.mergeSort_perm l _).mem_iff;rw[<-hm]
 constructor
 ·rintro ⟨j,hj,rfl⟩
  rw[getElem!_pos _ j (by simpa using hj)]
  simp
 ·intro hx
  obtain ⟨j,hj,rfl⟩:=List.mem_iff_getElem.1 hx;exact ⟨j,hj,by rw[getElem!_pos _ j (by simpa using hj)];simp⟩
def toBA (x:List UInt8):ByteArray:=⟨x.toArray⟩
theorem YD0 (x:ByteArray):toBA x.data.toList=x:=by cases x;rfl
theorem kM0 (x:List UInt8):(toBA x).toList=x:=by rw[ByteArray.toList_eq];rfl
theorem AscL.asc:∀{l:List (List UInt8)},AscL l->Asc (l.map toBA)
 | [],_=>trivial
 | a::l,h=>by
  refine ⟨fun b hb=>?_,AscL.asc h.2⟩;obtain ⟨c,hc,rfl⟩:=List.mem_map.1 hb;have:=h.1 c hc;rw[ltB,kM0,kM0];exact (GF0 a c).2 this
def srtB (l:List ByteArray):List ByteArray:=(Lib.compact (srt (l.map (·.data.toList)))).map toBA
theorem RZ0 (l:List ByteArray):Asc (srtB l):=(VV0 _).1.asc
theorem bD0 (l:List ByteArray) (s:ByteArray):s∈srtB l↔s∈l:=by
 unfold srtB;rw[List.mem_map]
 constructor
 ·rintro ⟨x,hx,rfl⟩
  rw[(VV0 _).2] at hx;obtain ⟨y,hy,rfl⟩:=List.mem_map.1 hx;rw[YD0];exact hy
 ·intro hs
  exact ⟨s.data.toList,((VV0 _).2 _).2 (List.mem_map.2 ⟨s,hs,rfl⟩),YD0 s⟩
end Go.Gv
/- A function that sorts texts in place and leaves each once: from what the library's contracts say of it to what it comes to. -/
namespace Go.Gv
open Go.Av Go.Proofs Go.Sort
theorem YH0 {S:Nat->Prop} {w:World} {b:Nat}:∀{l:List ByteArray} {o:Nat},RepSE S w b o (strs l)->∀j x,l[j]?=some x->w.cell? ⟨b,o+j,none⟩=some (.string x)
 | [],o,_,j,x,hj=>by simp at hj
 | y::l,o,h,j,x,hj=>by
  simp only[strs,List.map_cons,RepSE,RepSC,List.length_singleton] at h;obtain ⟨⟨⟨u,h1,h2⟩,_⟩,h3⟩:=h;cases j with
  | zero=>
   simp at hj;subst hj;simp only[RepS] at h2;rw[Nat.add_zero,h1,h2.1]
  | succ j=>
   simp at hj;have:=YH0 h3 j x hj;rwa[show o+1+j=o+(j+1) by omega] at this
theorem RW0 {S:Nat->Prop} {w:World} {b:Nat}:∀{l:List ByteArray} {o:Nat},(∀j x,l[j]?=some x->w.cell? ⟨b,o+j,none⟩=some (.string x))->RepSE S w b o (strs l)
 | [],o,_=>by simp[strs,RepSE]
 | y::l,o,h=>by
  simp only[strs,List.map_cons,RepSE,RepSC,List.length_singleton,and_true];refine ⟨⟨_,h 0 y rfl,by simp[RepS,isLit]⟩,RW0 fun j x hj=>?_⟩
  have:=h (j+1) x (by simpa using hj)
  rwa[show o+(j+1)=o+1+j by omega] at this
def ascW (w:World) (b o n q:Nat) (os:Array Obj) (l:List (List UInt8)):World:=
 putRow encStr (Sort.ahead (grow (putRow encStr (Sort.ahead w n) b o (srt l).toArray) os) q) b o (Lib.compact (srt l)++List.replicate (l.length - (Lib.compact (srt l)).length) []).toArray
theorem uP0 (l:List (List UInt8)):(srt l).length=l.length:=List.length_mergeSort l
theorem nF0 (l:List (List UInt8)):(Lib.compact (srt l)).length<=l.length:=by
 have h:∀(d:Array (List UInt8)) m,(Lib.compactUpTo d m).length<=m:=by
  intro d m;unfold Lib.compactUpTo;rw[List.length_map];exact Nat.le_trans (List.length_filter_le _ _) (by simp)
 have:=h (srt l).toArray (srt l).length;rw[uP0] at this;unfold Lib.compact;rw[uP0];exact this
theorem zG1 {w:World} {b o n q:Nat} {os:Array Obj} {l:List (List UInt8)} {arr:Array Value} {ty:TypeId} {fz:Nat×Nat} (hb:w.heap[b]?=some (.cells arr ty fz)) :
  ∃arr',arr'.size=arr.size/\(ascW w b o n q os l).heap[b]?=some (.cells arr' ty fz):=by
 have hg:b < w.heap.size:=(Array.getElem?_eq_some_iff.1 hb).1;have h:∃arr',(ascW w b o n q os l).heap[b]?=some (.cells arr' ty fz)/\arr'.size=arr.size:=by
  unfold ascW;simp only[putRow,mapBlock,Sort.ahead,Array.getElem?_modify,if_true,grow,Array.getElem?_append,Array.size_modify,hg,hb,Option.map_some,onCells];exact ⟨_,rfl,by simp[putCells]⟩
 obtain ⟨arr',h1,h2⟩:=h;exact ⟨arr',h2,h1⟩
theorem KV0 {w:World} {b o n q:Nat} {os:Array Obj} {l:List (List UInt8)} {k:Nat} (hk:k < w.heap.size) (hn:k≠b):(ascW w b o n q os l).heap[k]?=w.heap[k]?:=by
 have:b≠k:=fun e=>hn e.symm;unfold ascW;simp only[putRow,mapBlock,Sort.ahead,Array.getElem?_modify,this,if_false,grow,Array.getElem?_append,Array.size_modify,hk,if_true]
theorem zF1 (w:World) (b o n q:Nat) (os:Array Obj) (l:List (List UInt8)):w.heap.size<=(ascW w b o n q os l).heap.size:=by
 unfold ascW;simp[putRow,mapBlock,Sort.ahead,grow]
theorem zH1 {w:World} {b o n q:Nat} {os:Array Obj} {l:List (List UInt8)} (hg:b < w.heap.size) (hH:Holds encStr w b o l.toArray) {j:Nat} {x:List UInt8} (hj:(Lib.compact (srt l))[j]?=some x) :
  (ascW w b o n q os l).cell? ⟨b,o+j,none⟩=some (.string (toBA x)):=by
 have hle:=nF0 l;have hjl:j < (Lib.compact (srt l)).length:=(List.getElem?_eq_some_iff.1 hj).1;have h1:Holds encStr (putRow encStr (Sort.ahead w n) b o (srt l).toArray) b o (srt l).toArray:=holds_putRow encStr _ b o l.toArray _ (holds_ahead encStr w n b o _ hH) (by simp[uP0])
 have h2:=holds_grow encStr _ os b o _ (by simpa using hg) h1
 have h3:=cell?_putRow encStr (Sort.ahead (grow (putRow encStr (Sort.ahead w n) b o (srt l).toArray) os) q) b o (srt l).toArray (Lib.compact (srt l)++List.replicate (l.length - (Lib.compact (srt l)).length) []).toArray (holds_ahead encStr _ q b o _ h2) (by simp[uP0];omega) j (by simp;omega)
 unfold ascW;rw[h3];have h4:(Lib.compact (srt l)++List.replicate (l.length - (Lib.compact (srt l)).length) []).toArray[j]! = x:=by
  rw[getElem!_pos _ j (by simp;omega)]
  simp only[List.getElem_toArray];rw[List.getElem_append_left hjl];exact (List.getElem?_eq_some_iff.1 hj).2
 rw[h4]
 rfl
theorem KY0 {P:Program} {f:FuncId} (hA:∀ad w,Calls P f #[.slice ad 0 0] w fun e w'=>e=.returned (.slice ad 0 0)/\w'=w)
  (hB:∀b o cap zs w,Holds encStr w b o zs.toArray->b < w.heap.size->zs.length<=1073741824->zs.length<=cap->Calls P f #[.slice (some ⟨b,o,none⟩) zs.length cap] w fun e w'=>e=.returned (.slice (some ⟨b,o,none⟩) (Lib.compact (srt zs)).length cap)/\∃n os q,w'=ascW w b o n q os zs)
  (y:List ByteArray) (els:List (List T)) (he:els=strs y) (hy:y.length<=1073741824) :
  ACl P f [⟨.one,[.ow (0,0) false 1 els]⟩] [] (fun res bx=>∃els',els'=strs (srtB y)/\res=⟨.one,[.ow (0,0) false 1 els']⟩/\bx=[]):=by
 intro w vals S L bl O1 O2 h1 h2 hn hsl hst;obtain ⟨v1,us1,o1,o2,e1,rfl,⟨g1,g2⟩,h1⟩:=h1;obtain ⟨rfl,rfl⟩:=h1;obtain ⟨rfl,rfl⟩:=h2;rw[yU0 g1] at g2;obtain ⟨u,us,p1,p2,k1,rfl,hr,⟨_,rfl⟩⟩:=g2;simp at k1;obtain ⟨rfl,_⟩:=k1;have hv:vals=#[v1]:=by
  apply Array.ext';simpa using e1
 subst hv;obtain ⟨ad,cap,rfl,hcap,hk,hr⟩:=hr;simp only[List.append_nil] at *;rcases hr with ⟨rfl,h0,rfl⟩ | ⟨b,o,arr,ty,fz,rfl,rfl,hb,ho,hfz,hrep⟩
 ·have hy0:y=[]:=by
   cases y with
   | nil=>rfl
   | cons a r=>rw[he] at h0;simp[strs] at h0
  subst hy0;subst h0;refine Calls.mono (hA ad w) ?_;rintro e w' ⟨rfl,rfl⟩;have hs:strs (srtB [])=[]:=by
   have:srtB []=[]:=by
    cases h:srtB [] with
    | nil=>rfl
    | cons a r=>have:=(bD0 [] a).1 (by rw[h];simp);simp at this
   rw[this];rfl
  refine ⟨_,rfl,⟨.one,[.ow (0,0) false 1 []]⟩,[],S,[],[],[],⟨_,hs.symm,rfl,rfl⟩,⟨⟨rfl,rfl⟩,_,[],[],[],rfl,rfl,⟨ad,0,rfl,Nat.le_refl _,by simp,.inl ⟨rfl,rfl,rfl⟩⟩,rfl,rfl⟩,⟨rfl,rfl⟩,by simp,?_,fun _ h=>h,fun _ h=>.inl h,.refl _ _,by simp,List.prefix_rfl⟩
  intro b hb;have:=hst b (hsl b hb);exact ⟨this.1,by simp⟩
 ·subst he
  rw[tQ0] at hcap |-;obtain ⟨zs,hzs⟩:∃zs,zs=y.map (·.data.toList):=⟨_,rfl⟩
  have hzl:zs.length=y.length:=by rw[hzs];simp
  have hbs:b < w.heap.size:=(Array.getElem?_eq_some_iff.1 hb).1;have hcl:=YH0 hrep;have hH:Holds encStr w b o zs.toArray:=by
   intro j hj;have hj':j < y.length:=by simp at hj;omega
   refine ⟨?_,?_⟩
   ·have h3:=hcl j y[j] (List.getElem?_eq_getElem hj')
    simp only[Env.zero] at h3;rw[h3,getElem!_pos _ j hj];subst hzs;simp[encStr]
   ·have h4:=hfz (o+j) (by omega) (by omega)
    simp only[Env.zero] at hb;simp only[World.frozen?,hb];simp only[Bool.and_eq_false_iff,decide_eq_false_iff_not];omega
  have hmain:=hB b o cap zs w hH hbs (by omega) (by omega)
  rw[hzl] at hmain;refine Calls.mono hmain ?_;rintro e w' ⟨rfl,n,os,q,rfl⟩;obtain ⟨arr',hs',hb'⟩:=zG1 (o:=o) (n:=n) (q:=q) (os:=os) (l:=zs) hb;have hsz:=zF1 w b o n q os zs;have hoth:∀k,k < w.heap.size->k≠b->(ascW w b o n q os zs).heap[k]?=w.heap[k]?:=fun k=>KV0;have hle:=nF0 zs;have hlen:(strs (srtB y)).length=(Lib.compact (srt zs)).length:=by rw[tQ0,srtB,List.length_map,hzs]
  have hSb:∀k,S k->k < w.heap.size/\k≠b:=fun k hk=>by
   have:=hst k (hsl k hk);exact ⟨this.1,by simpa using this.2⟩
  refine ⟨_,rfl,⟨.one,[.ow (0,0) false 1 (strs (srtB y))]⟩,[],S,[],[b],[],⟨_,rfl,rfl,rfl⟩,⟨⟨rfl,rfl⟩,_,[],[b],[],rfl,rfl,⟨some ⟨b,o,none⟩,cap,by rw[hlen],by rw[hlen];omega,vA0 _,.inr ⟨b,o,arr',ty,fz,rfl,rfl,hb',by rw[hs'];exact ho,hfz,?_⟩⟩,rfl,rfl⟩,⟨rfl,rfl⟩,List.nodup_cons.2 ⟨by simp,List.nodup_nil⟩,?_,fun _ h=>h,fun _ h=>.inl h,⟨rfl,rfl,rfl,hsz,fun k hk hkn=>hoth k hk (by simpa using hkn)⟩,fun k hk=>.inl hk,List.prefix_rfl⟩
  ·refine RW0 fun j x hj=>?_
   rw[srtB,List.getElem?_map,Option.map_eq_some_iff] at hj;obtain ⟨z,hz,rfl⟩:=hj;rw[<-hzs] at hz;exact zH1 hbs hH hz
  ·intro k hk
   have:=hSb k hk;exact ⟨by omega,by simpa using this.2⟩
end Go.Gv
/- A law over one value of several cells, plain data that is read. -/
namespace Go.Gv
open Go.Av
theorem rK0 {E:Env} (hw:E.LS true=E.S):∀{ts:List T} {us:List Value},RepTs E.S E.w ts us->RpA E (ts.map (tA true)) us []
 | [],us,h=>by subst h;exact ⟨rfl,rfl⟩
 | t::ts,us,h=>by
  obtain ⟨u,us',rfl,h1,h2⟩:=h;refine ⟨u,us',[],[],rfl,rfl,?_,rK0 hw h2⟩;cases t with
  | lit v=>simp only[RepS] at h1;exact ⟨h1.1,h1.2,rfl⟩
  | sl els=>exact ⟨by rw[hw];exact h1,rfl⟩
  | own els=>simp only[RepS] at h1
theorem keeps_below {w w':World} (h:Av.Keeps [] w w'):RowKit.Below w.heap.size w w':=⟨h.os,h.tape,h.output,h.size,fun b hb=>h.block b hb (by simp)⟩
theorem VH0 {v:Value} (h:2<=v.cells.size):∃cs,v=.agg cs:=by
 cases v<;>first | exact ⟨_,rfl⟩|(simp[Value.cells] at h)
theorem slots_agg {w:World} {ts:List T} {v:Value} {avs:List AV} {vs:List Value} (hl:2<=ts.length) (hr:RepTs (fun b=>b < w.heap.size) w ts v.cells.toList)
  (h:RpS (Env.zero (fun b=>b < w.heap.size) (fun b=>b < w.heap.size) [] w) avs vs []) :
  RpS (Env.zero (fun b=>b < w.heap.size) (fun b=>b < w.heap.size) [] w) (⟨.agg,ts.map (tA true)⟩::avs) (v::vs) []:=by
 have hs:v.cells.size=ts.length:=by rw[<-Array.length_toList,RepTs.length hr]
 obtain ⟨cs,rfl⟩:=VH0 (v:=v) (by omega)
 exact ⟨_,vs,[],[],rfl,rfl,⟨rfl,rK0 rfl hr⟩,h⟩
theorem slots_nil {E:Env}:RpS E [] [] []:=⟨rfl,rfl⟩
end Go.Gv
