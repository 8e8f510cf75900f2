/- Part PD13 of the proof: A step of the elder walks, once. / A slice of bytes that is converted to its own type as bytes out of a constant text are laid: its block gets a mark, the slice is shared and a rule for regions with one operation that is shown by hand. / What a function hands over as nil may be taken for an empty slice of ones own. / A law over one value of several cells, plain data that is read. -/
import Derived.Test.YtnmkmfancgcaeaaGreatDoorPD7
import Derived.Test.YtnmkmfancgcaeaaGreatDoorPD5
import Derived.WalkKit
import Derived.ProofKit
import Derived.OpenShut
import Derived.ShutString
import Derived.ChangeOld
import Derived.Below
set_option linter.all false
/- A step of the elder walks, once. -/
namespace Go.Gv
open Go.Av
structure Wo (p:Prop):Prop where
 go:p
theorem qO {G H:Prop} (h:H) (t:Wo H->G:=by
 intro hZ
 (try with_reducible refine Nx.mk ?_);first|(with_reducible refine atId ?_)|(with_reducible refine nxId ?_;(conv=>whnf);(first|(with_reducible refine atId ?_)|(with_reducible refine FinAt.mk ?_;cbv;try simp only[hseg])|(cbv;try simp only[hseg])))|(try cbv;try simp only[hseg])
 exact hZ.go):G:=t ⟨h⟩
end Go.Gv
/- A slice of bytes that is converted to its own type (as bytes out of a constant text are laid): its block gets a mark, the slice is shared; and a rule for regions with one operation that is shown by hand. -/
namespace Go.Av
theorem WF0 {w:World} {b n:Nat} {arr:Array Value} {ty:TypeId} {fz:Nat×Nat} (h:w.heap[b]?=some (.cells arr ty fz)):∃fz',(w.freeze ⟨b,n,none⟩ 1).heap[b]?=some (.cells arr ty fz'):=by
 obtain ⟨lo,hi⟩:=fz;unfold World.freeze;rw[if_neg (by decide)]
 exact ⟨_,by simp only[Array.getElem?_modify,if_true,h,Option.map_some];rfl⟩
theorem pQ0 {w:World} {b n x:Nat} (h:x≠b):(w.freeze ⟨b,n,none⟩ 1).heap[x]?=w.heap[x]?:=by
 unfold World.freeze;rw[if_neg (by decide)]
 simp only[Array.getElem?_modify,if_neg (Ne.symm h)]
theorem kW0 {w:World} {b n:Nat}:(w.freeze ⟨b,n,none⟩ 1).heap.size=w.heap.size:=by
 unfold World.freeze;rw[if_neg (by decide)]
 simp
theorem Keeps.freeze {O:List Nat} {w0 w:World} {b n:Nat} (h:Keeps O w0 w) (hg:b∈O\/w0.heap.size<=b):Keeps O w0 (w.freeze ⟨b,n,none⟩ 1):=by
 refine ⟨?_,?_,?_,by rw[kW0];exact h.size,fun x hx hn=>?_⟩
 ·unfold World.freeze;rw[if_neg (by decide)];exact h.os
 ·unfold World.freeze;rw[if_neg (by decide)];exact h.tape
 ·unfold World.freeze;rw[if_neg (by decide)];exact h.output
 ·rw[pQ0 (by rintro rfl;rcases hg with hg | hg;exact hn hg;omega)]
  exact h.block x hx hn
section
variable {P:Program} {C:Ctx} {σ:AS} {i:Nat} {dst:Option Tmp}
theorem zY1 {s e:TypeId} {x:Operand} {r:Root} {c k:Nat} {g:zV0} {els:List (List T)} {ti te:TI} (hx:σ.ev x=some ⟨.one,[.sref r c g 0 els.length]⟩) (hat:σ.at? r c g=some (k,els)) (hs:tyOf P s=some ti) (hk:ti.tk=.slice e)
  (he:tyOf P e=some te) (hke:te.tk=.int .u8) (hne:els≠[]):OpOk P C i (.convert s s x) dst σ ⟨.one,[.ro true els]⟩ (σ.setCell r c (.ro true els)):=by
 rintro X a w ⟨S,L,bl,O1,O2,h⟩ hi type pos after guard;have h':=h.mono (fun x hx=>List.mem_cons_of_mem i hx);have hxe:=h.ev hx;have hc:=AS.at?_some hat;obtain ⟨hra,_⟩:=hxe.cell;obtain ⟨_,_,hra⟩:=hra;obtain ⟨_,ad,cap,xx,e1,e2,e3⟩:=hra false k els hc;obtain ⟨u0,o,k1,k2,k3,k4,k5⟩:=h'.recell (i:=i) hc (h.fresh hi);rw[e1] at k1;simp only[Option.some.injEq] at k1;subst k1;obtain ⟨ad',cap',m1,m2,m3,m4⟩:=k2
 simp only[Value.slice.injEq,true_and] at m1;obtain ⟨rfl,rfl⟩:=m1;rcases m4 with ⟨_,h0,_⟩ | ⟨b,ob,arr,ty,fz,m5,m6,m7,m8,m9,m10⟩
 ·exact absurd h0 hne
 subst m5;subst m6;have hcap:0 < cap:=by
  have:0 < els.length:=List.length_pos_iff.2 hne;omega
 have hxx:xx=some ⟨b,ob,none⟩:=by
  have:=e3 hcap;simpa [Addr.add] using this
 subst hxx;have hnL:¬L b:=fun hS=>(h.stable b hS).2 (k4 b (by simp))
 have hnS:¬S b:=fun hS=>hnL (h.sl b hS);obtain ⟨w1,hw1⟩:∃w1,w1=w.freeze ⟨b,arr.size,none⟩ 1:=⟨_,rfl⟩;obtain ⟨fz',hfz⟩:=WF0 (n:=arr.size) m7;rw[<-hw1] at hfz;have hother:∀x,x≠b->w1.heap[x]?=w.heap[x]?:=fun x hx=>by rw[hw1];exact pQ0 hx
 have hcell:∀j,w1.cell? ⟨b,j,none⟩=w.cell? ⟨b,j,none⟩:=fun j=>by simp only[World.cell?,hfz,m7]
 have hrow:RepSE (fun x=>S x\/x∈[b]) w1 b ob els:=RepSE.of_get m3 fun i' e' hi'=>RepSC.of_get fun j t hj=>by
  obtain ⟨u,hu,hr⟩:=(m10.get m3 i' e' hi').get j t hj;exact ⟨u,by rw[hcell];exact hu,RepS.mono (fun _ hb=>.inl hb) (fun x hx=>hother x (by rintro rfl;exact hnS hx)) _ _ hr⟩
 have hro:RepS (fun x=>S x\/x∈[b]) w1 (.sl els) (.slice (some ⟨b,ob,none⟩) els.length cap):=by
  simp only[RepS];exact ⟨_,cap,rfl,m2,fun _=>⟨b,ob,rfl,.inr (by simp),hrow⟩⟩
 have hown:=h.own b (k4 b (by simp))
 obtain ⟨O1a,O2a,ha,hmem⟩:=k5 (fun x=>S x\/x∈[b]) (fun x=>L x\/x∈[b]) w1 (.ro true els) [] (fun _ hb=>.inl hb) (fun _ hb=>.inl hb) (fun x hb=>hb.imp (h.sl x) id) (fun x hb=>hb) (fun x hb=>hb) (by simp) (.inr rfl)
  (fun x hx _=>hother x (by simpa using hx)) (by rw[hw1];exact h.keeps.freeze hown) (by rw[hw1,kW0];exact Nat.le_refl _) ⟨hro,rfl⟩ (fun g hg=>by simp[A.stamp] at hg) (fun g d k els' he=>by simp at he)
 refine ⟨_,.slice (some ⟨b,ob,none⟩) els.length cap,w1,?_,.inl rfl,?_⟩
 ·have hcv:(convert s s (a.eval x)).run P w=.ok (.slice (some ⟨b,ob,none⟩) els.length cap) w1:=by
   rw[e2];have hsh:w.shape? b=some (ty,arr.size):=by simp only[World.shape?,m7]
   simp only[convert,Sem.run_bind,yB0 hs w hk,Result.andThen,xC0 he w hke,beq_self_eq_true,markStringish,run_shape,hsh,run_freeze,Sem.run_pure,hw1,Nat.sub_zero]
  simp only[execOp,Sem.run_bind,hcv,Result.andThen]
  rfl
 ·have hep:(σ.setCell r c (.ro true els)).epoch=σ.epoch:=yL0
  refine ha.done (i:=i) (o':=[]) (by rw[hep];exact (h.fresh hi).setDead rfl) ?_ (fun c' hc'=>by simp at hc';subst hc';exact .inl rfl) (fun c' hc' g' hg=>by simp at hc';subst hc';simp[A.stamp] at hg) (fun g' d' k' els' hm=>by simp at hm) List.nodup_nil (by simp)
  exact ⟨⟨rfl,rfl⟩,_,[],[],[],rfl,rfl,⟨hro,rfl⟩,rfl,rfl⟩
theorem XM0 {base:Nat} {ops:Array Oper} {Q:Exit->Act->World->Prop} {K:AS->Prop} {l':List Nat}:∀(l:List Nat) (X:List Nat) (σ:AS) (a:Act) (w:World),l.Nodup->(∀i∈l,i∉X)->aOps P base ops l σ K->Inv C X σ a w->
  (∀X' σ' a' w',(∀j∈X',j∈X\/j∈l)->K σ'->Inv C X' σ' a' w'->wpOps P ops Q l' a' w')->wpOps P ops Q (l++l') a w
 | [],X,σ,a,w,_,_,hx,h,hK=>hK X σ a w (fun _ h=>.inl h) hx h
 | i::rest,X,σ,a,w,hn,hd,hx,h,hK=>by
  rw[List.cons_append,wpOps_cons];simp only[List.nodup_cons] at hn;refine wpOp_mono ?_ (nW0 hx h (hd i List.mem_cons_self));rintro a' w' ⟨σ',hK',h'⟩;refine XM0 rest (i::X) σ' a' w' hn.2 (fun j hj hm=>?_) hK' h' fun X' σ2 a2 w2 hX=>hK X' σ2 a2 w2 fun j hj=>?_
  ·rcases List.mem_cons.1 hm with rfl | hm
   ·exact hn.1 hj
   ·exact hd j (List.mem_cons_of_mem _ hj) hm
  ·rcases hX j hj with h | h
   ·rcases List.mem_cons.1 h with rfl | h
    ·exact .inr List.mem_cons_self
    ·exact .inl h
   ·exact .inr (List.mem_cons_of_mem _ h)
end
end Go.Av
namespace Go.Gv
open Go.Av
variable {O:Ops} {ts:Nat->Option TI} {P:Program} {C:Ctx} {σ:AS} {Q:Exit->AS->Prop}
theorem GWp.regionX {base id:Nat} {ops:Array Oper} {pre post:List Nat} {j:Nat} {o:Oper} (hr:List.range ops.size=pre++j::post) (ho:ops[j]?=some o) (hg:o.guard=none) (K1:AS->Prop)
  (h:O=.std->(∀n ti,ts n=some ti->tyOf P n=some ti)->aOps P base ops pre σ K1)
  (h1:∀σ',K1 σ'->∃av σ1,OpOk P C j o.op o.dst σ' av σ1/\∀K:AS->Prop,(∀σ2,Q .normal σ2->K σ2)->gOps O ts P base ops post [] [] (σ1.putO o.dst av) K):GWp O ts P C (.region id ops false) σ Q:=by
 intro hO ht;subst hO;have hnd:(pre++j::post).Nodup:=hr ▸ List.nodup_range;obtain ⟨hn1,hn2,hn3⟩:=List.nodup_append.1 hnd;simp only[List.nodup_cons] at hn2;intro a w hi;refine wp_region ?_;rw[hr];refine XM0 pre [] σ a w hn1 (by simp) (h rfl ht) hi fun X' σ' a' w' hX hK hi'=>?_
 obtain ⟨av,σ1,hop,hrest⟩:=h1 σ' hK;have hj:j∉X':=fun hm=>by
  rcases hX j hm with h | h
  ·simp at h
  ·exact hn3 j h j List.mem_cons_self rfl
 obtain ⟨dst,op,type,pos,after,guard⟩:=o;obtain ⟨n,v,w2,g1,g2,g3⟩:=hop X' a' w' hi' hj type pos after guard;simp only at hg;subst hg;rw[wpOps_cons];unfold wpOp;simp only[ho,Region.wanted,if_true];refine .inl ?_;unfold Oper.wp;rw[g1];have hpost:=WD0 ht (hrest (fun σ2=>Q .normal σ2) fun _ h=>h);have key:∀a2,Inv C (j::X') (σ1.putO dst av) a2 w2->wpOps P ops (fun e a' w'=>∃σ',Q e σ'/\Inv C [] σ' a' w') post a2 w2:=fun a2 hi2=>
  VX0 (Q:=fun e a' w'=>∃σ',Q e σ'/\Inv C [] σ' a' w') (fun _ _ _ _ hq hv=>⟨_,hq,hv.next⟩) post (j::X') _ _ _ hn2.2 (fun i hi hm=>by
   rcases List.mem_cons.1 hm with rfl | hm
   ·exact hn2.1 hi
   ·rcases hX i hm with h | h
    ·simp at h
    ·exact hn3 i h i (List.mem_cons_of_mem _ hi) rfl) hpost.2 hi2
 rcases g2 with rfl | ⟨rfl,rfl⟩
 ·exact key _ g3
 ·exact key _ g3
structure GHand (P:Program) (C:Ctx) (i:Nat) (op:Op) (dst:Option Tmp) (σ:AS) (K:AS->Prop):Prop where
 go:∃av σ1,OpOk P C i op dst σ av σ1/\K (σ1.putO dst av)
theorem xR {base id:Nat} {ops:Array Oper} {post:List Nat} {o:Oper} (hr:List.range ops.size=0::1::post) (ho:ops[1]?=some o) (hg:o.guard=none)
  (h:GU0 O ts P base ops 0 [] [] σ fun acc _ σ'=>out acc (GHand P C 1 o.op o.dst σ' fun σ2=>∀K:AS->Prop,(∀σ3,Q .normal σ3->K σ3)->gOps O ts P base ops post [] [] σ2 K)):At O ts P C (.region id ops false) σ Q:=by
 refine ⟨GWp.regionX (base:=base) (pre:=[0]) hr ho hg (fun σ'=>GHand P C 1 o.op o.dst σ' fun σ2=>∀K:AS->Prop,(∀σ3,Q .normal σ3->K σ3)->gOps O ts P base ops post [] [] σ2 K) (fun hO ht=>?_) fun σ' hK=>?_⟩
 ·subst hO
  exact (TD0 ht (fun acc _ σ' hk=>out_iff.1 hk) h).2
 ·obtain ⟨av,σ1,h1,h2⟩:=hK.go
  exact ⟨av,σ1,h1,h2⟩
end Go.Gv
/- What a function hands over as nil may be taken for an empty slice of one's own. -/
namespace Go.Av
end Go.Av
/- A law over one value of several cells, plain data that is read. -/
namespace Go.Gv
open Go.Av
theorem tR0 {E:Env} (hw:E.LS true=E.S):∀{ts:List T} {us:List Value},RepTs E.S E.w ts us->RpA E (ts.map (tA true)) us []
 | [],us,h=>by subst h;exact ⟨rfl,rfl⟩
 | t::ts,us,h=>by
  obtain ⟨u,us',rfl,h1,h2⟩:=h;refine ⟨u,us',[],[],rfl,rfl,?_,tR0 hw h2⟩;cases t with
  | lit v=>simp only[RepS] at h1;exact ⟨h1.1,h1.2,rfl⟩
  | sl els=>exact ⟨by rw[hw];exact h1,rfl⟩
  | own els=>simp only[RepS] at h1
theorem keeps_below {w w':World} (h:Av.Keeps [] w w'):RowKit.Below w.heap.size w w':=⟨h.os,h.tape,h.output,h.size,fun b hb=>h.block b hb (by simp)⟩
theorem XL0 {v:Value} (h:2<=v.cells.size):∃cs,v=.agg cs:=by
 cases v<;>first | exact ⟨_,rfl⟩|(simp[Value.cells] at h)
theorem slots_agg {w:World} {ts:List T} {v:Value} {avs:List AV} {vs:List Value} (hl:2<=ts.length) (hr:RepTs (fun b=>b < w.heap.size) w ts v.cells.toList)
  (h:RpS (Env.zero (fun b=>b < w.heap.size) (fun b=>b < w.heap.size) [] w) avs vs []) :
  RpS (Env.zero (fun b=>b < w.heap.size) (fun b=>b < w.heap.size) [] w) (⟨.agg,ts.map (tA true)⟩::avs) (v::vs) []:=by
 have hs:v.cells.size=ts.length:=by rw[<-Array.length_toList,RepTs.length hr]
 obtain ⟨cs,rfl⟩:=XL0 (v:=v) (by omega)
 exact ⟨_,vs,[],[],rfl,rfl,⟨rfl,tR0 rfl hr⟩,h⟩
theorem slots_nil {E:Env}:RpS E [] [] []:=⟨rfl,rfl⟩
end Go.Gv
