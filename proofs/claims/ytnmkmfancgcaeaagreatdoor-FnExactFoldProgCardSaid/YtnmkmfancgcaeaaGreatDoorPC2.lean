/- Part PC2 of the proof: Avs, part 36: the same, for what moves. / Avs, part 37: the same, for calls and results regions. / Avs, part 38: code, over the primitives that are variables. -/
import Derived.Test.YtnmkmfancgcaeaaGreatDoorPC1
set_option linter.all false
/- Avs, part 36: the same, for what moves. -/
namespace Go.Gv
open Go.Av
variable {P:Program} {ts:Nat->Option TI}
theorem DW0 (d:Bool) (els:List (List T)):erG .std d els=erD d els:=by cases d<;>rfl
theorem vR0 (mv:Root->Nat->Bool) (g:zV0):∀(cs:List A) (σ:AS),qW0 .std mv g cs σ=tkC mv g cs σ
 | [],σ=>rfl
 | c::cs,σ=>by
  cases c<;>simp only[qW0,tkC,vR0 mv g cs]
  split
  ·rename_i h;rw[if_pos h];split<;>rename_i h2<;>simp only[h2]<;>rfl
  ·rename_i h;rw[if_neg (by simp[h])]
theorem bH0 (sh:Root->Nat->Bool):∀(cs:List A) (σ:AS),mN0 .std sh cs σ=shC sh cs σ
 | [],σ=>rfl
 | c::cs,σ=>by
  cases c<;>simp only[mN0,shC,bH0 sh cs,DW0]
  split
  ·rename_i h;rw[if_pos h];split<;>rename_i h2<;>simp only[h2]<;>rfl
  ·rename_i h;rw[if_neg (by simp[h])]
theorem UY0 (σ:AS):∀(cs:List A),MJ0 .std σ cs=lendCells σ cs
 | []=>rfl
 | c::cs=>by
  have e:∀(y:Option (List A)) (d:A),(match y with | some q=>some (d::q) | none=>none)=y.map fun q=>d::q:=fun y d=>by cases y<;>rfl
  cases c<;>simp only[MJ0,lendCells,UY0 σ cs,DW0]<;>try exact e _ _
  split<;>rename_i h2<;>simp only[h2]<;>first | exact e _ _ | rfl
theorem wT0:∀(cs:List A) (σ:AS),wL0 .std cs σ=fzC cs σ
 | [],σ=>rfl
 | c::cs,σ=>by
  have e:∀(y:Option (List T×AS)) (d:T),(match y with | some (q1,q2)=>some (d::q1,q2) | none=>none)=y.map fun r=>(d::r.1,r.2):=fun y d=>by cases y<;>rfl
  cases c<;>try rfl
  ·simp only[wL0,fzC,wT0 cs];exact e _ _
  ·simp only[wL0,fzC,wT0 cs];exact e _ _
  ·rename_i st els
   cases st
   ·rfl
   ·simp only[wL0,fzC,wT0 cs];exact e _ _
  ·simp only[wL0,fzC,wT0 cs]
   split<;>rename_i h2<;>simp only[h2]<;>first | exact e _ _ | rfl
theorem bC0:∀cs:List A,UA0 cs=cs.mapM A.toOwn
 | []=>rfl
 | c::cs=>by
  simp only[UA0,List.mapM_cons,bC0 cs];cases c.toOwn with
  | none=>rfl
  | some t=>cases cs.mapM A.toOwn<;>rfl
theorem TB0 (base:Nat) (g:zV0) (cs:List A) (σ:AS):MR0 .std base g cs σ=holdCells base g cs σ:=by
 simp only[MR0,holdCells,vR0,bC0];cases (tkC (tM0 base) g cs σ).1.mapM A.toOwn<;>rfl
theorem PE0 (i:Nat) (dst:Option Tmp) (σ:AS) (x:Operand):VT0 .std i dst σ x=wM0 i dst σ x:=by
 cases x<;>simp only[VT0,wM0,yD0,vR0]<;>(cases σ.ev _<;>rfl)
theorem xN1 (base i:Nat) (σ:AS) (x:Operand):boxG .std base i σ x=aBox base i σ x:=by
 simp only[boxG,aBox,yD0,vR0];cases σ.ev x with
 | none=>rfl
 | some av=>simp only[Option.bind_some];split<;>rename_i h<;>simp only[h]<;>rfl
theorem JT0 (hts:∀n ti,ts n=some ti->tyOf P n=some ti) {σ:AS} {t:TypeId} {r:AV×AS} (h:JU0 ts σ t=some r):nE0 P σ t=some r:=by
 unfold JU0 at h
 split at h<;>try (simp at h;done)
 rename_i ti hti
 split at h<;>try (simp at h;done)
 rename_i cs hcs;simp only[nE0,hts _ _ hti,Option.bind_some,hcs,Option.map_some];exact h
theorem NX0 {α:Type} {x o:Option α} (h:∀r,x=some r->o=some r):Sd (bindO x ret) o:=by
 cases x with
 | none=>exact Sd.none
 | some a=>rw[h a rfl];exact Sd.ret
theorem PY0 (hts:∀n ti,ts n=some ti->tyOf P n=some ti) (base i:Nat) (σ:AS) (t:TypeId) (p x:Operand):Sd (PZ0 .std ts base i σ t p x) (nC0 P base i σ t p x):=by
 simp only[PZ0,nC0,yD0];refine Sd.ty hts fun ti=>Sd.bind2 fun p x=>?_;obtain ⟨sh,cs⟩:=x;obtain ⟨psh,pcs⟩:=p;have ptrCase:∀b off,Sd (if cs.length=ti.size then
     match qW0 .std (yY0 base b off ti.size) (σ.epoch,i) cs σ with
     | (q1,q2)=>match q2.boxes[b]? with
      | some (some cs0)=>if off+ti.size<=cs0.length then ret (q2.setBox b (splice cs0 off q1)) else none
      | _=>none
    else none) (if cs.length=ti.size then
    let r:=tkC (yY0 base b off ti.size) (σ.epoch,i) cs σ
    ((r.2.boxes[b]?).bind fun o=>o.bind fun cs0=>if off+ti.size<=cs0.length then some (r.2.setBox b (splice cs0 off r.1)) else none)
   else none):=by
  intro b off;rw[vR0]
  split
  ·simp only
   split
   ·rename_i h
    rw[h];simp only[Option.bind_some]
    split
    ·exact Sd.ret
    ·exact Sd.none
   ·exact Sd.none
  ·exact Sd.none
 have tail:∀(d:Bool) (r:Root) (c:Nat) (g:zV0) (n off:Nat) (y1:List T) (y2:AS) (q1:Nat) (q2:List (List T)),Sd (need (Ops.std.one q2 n q1) (if off+ti.size<=q1 then
       match (if off=0/\q1=y1.length then y1 else splice (Ops.std.get q2 n) off y1) with
       | z=>ret (y2.setCell r c (.ow g d q1 (Ops.std.set q2 n z))) else none))
   ((q2[n]?).bind fun e=>if off+ti.size<=q1 then some (y2.setCell r c (.ow g d q1 (q2.set n (splice e off y1)))) else none):=by
  intro d r c g n off y1 y2 q1 q2;refine Sd.need fun h=>?_;obtain ⟨h1,h2⟩:n < q2.length/\(q2.getD n []).length=q1:=h;rw[List.getElem?_eq_getElem h1];simp only[Option.bind_some]
  split
  ·have e1:Ops.std.get q2 n=q2[n]:=by simp[Ops.std,h1]
   have e2:(if off=0/\q1=y1.length then y1 else splice (Ops.std.get q2 n) off y1)=splice q2[n] off y1:=by
    rw[e1]
    split
    ·rename_i hh
     obtain ⟨rfl,hq⟩:=hh;have:q2[n].length=y1.length:=by rw[<-hq,<-h2];simp[h1]
     simp[splice,<-this]
    ·rfl
   rw[e2];exact Sd.ret
  ·exact Sd.none
 have eCase:∀r c g n off,Sd (if cs.length=ti.size then
     match σ.ad? r c g with
     | some (true,_,_)=>match MR0 .std base (σ.epoch,i) cs σ with
      | none=>none
      | some (y1,y2)=>match y2.ad? r c g with
       | some (true,q1,q2)=>need (Ops.std.one q2 n q1) (if off+ti.size<=q1 then
        match (if off=0/\q1=y1.length then y1 else splice (Ops.std.get q2 n) off y1) with
        | z=>ret (y2.setCell r c (.ow g true q1 (Ops.std.set q2 n z))) else none)
       | _=>none
     | _=>match wL0 .std cs σ with
      | none=>none
      | some (y1,y2)=>match y2.at? r c g with
       | none=>none
       | some (q1,q2)=>need (Ops.std.one q2 n q1) (if off+ti.size<=q1 then
        match (if off=0/\q1=y1.length then y1 else splice (Ops.std.get q2 n) off y1) with
        | z=>ret (y2.setCell r c (.ow g false q1 (Ops.std.set q2 n z))) else none)
    else none) (if cs.length=ti.size then
    match σ.ad? r c g with
    | some (true,_,_)=>(holdCells base (σ.epoch,i) cs σ).bind fun y=>(y.2.ad? r c g).bind fun q=>(q.2.2[n]?).bind fun e=>
     if q.1=true/\off+ti.size<=q.2.1 then some (y.2.setCell r c (.ow g true q.2.1 (q.2.2.set n (splice e off y.1)))) else none
    | _=>(fzC cs σ).bind fun y=>(y.2.at? r c g).bind fun q=>(q.2[n]?).bind fun e=>
     if off+ti.size<=q.1 then some (y.2.setCell r c (.ow g false q.1 (q.2.set n (splice e off y.1)))) else none
   else none):=by
  intro r c g n off;rw[wT0,TB0]
  split
  ·split
   ·split
    ·exact Sd.none
    ·rename_i y1 y2 hy
     rw[hy];simp only[Option.bind_some]
     split
     ·rename_i q1 q2 hq
      rw[hq];simp only[Option.bind_some,true_and];exact tail true r c g n off y1 y2 q1 q2
     ·exact Sd.none
   ·split
    ·exact Sd.none
    ·rename_i y1 y2 hy
     rw[hy];simp only[Option.bind_some]
     split
     ·exact Sd.none
     ·rename_i q1 q2 hq
      rw[hq];simp only[Option.bind_some];exact tail false r c g n off y1 y2 q1 q2
  ·exact Sd.none
 cases psh<;>try (cases sh<;>exact Sd.none)
 match pcs with
 | []=>cases sh<;>exact Sd.none
 | a::b::l=>cases sh<;>cases a<;>exact Sd.none
 | [c]=>
  cases c<;>try (cases sh<;>exact Sd.none)
  ·cases sh<;>first | exact Sd.none | exact ptrCase _ _
  ·cases sh<;>first | exact Sd.none | exact eCase _ _ _ _ _
theorem vE0 (hts:∀n ti,ts n=some ti->tyOf P n=some ti) {σ:AS} {fs:List (Nat×TypeId)}:∀{parts:List (Nat×Operand)} {cs r:List A},uD0 .std ts σ fs cs parts=some r->yQ0 P σ fs cs parts=some r
 | [],cs,r,h=>h
 | p::rest,cs,r,h=>by
  obtain ⟨j,x⟩:=p;simp only[uD0,yD0] at h
  split at h<;>try (simp at h;done)
  rename_i f hf
  split at h<;>try (simp at h;done)
  rename_i tf htf
  split at h<;>try (simp at h;done)
  rename_i av hav;simp only[yQ0,hf,hts _ _ htf,hav,Option.bind_some]
  split at h<;>try (simp at h;done)
  rename_i hc;rw[if_pos hc]
  split at h<;>try (simp at h;done)
  ·rename_i hs;simp only[hs];exact vE0 hts h
  ·rename_i hs;simp only[hs];exact vE0 hts h
theorem JM0 (hts:∀n ti,ts n=some ti->tyOf P n=some ti) {σ:AS} {t:TypeId} {parts:Array (Nat×Operand)} {r:AV} (h:TR0 .std ts σ t parts=some r):nD0 P σ t parts=some r:=by
 unfold TR0 at h
 split at h<;>try (simp at h;done)
 rename_i ti hti
 split at h<;>try (simp at h;done)
 rename_i z hz
 split at h<;>try (simp at h;done)
 rename_i fs hfs
 split at h<;>try (simp at h;done)
 rename_i ha
 split at h<;>try (simp at h;done)
 rename_i cs hcs;simp only[nD0,hts _ _ hti,hz,hfs,Option.bind_some];rw[if_pos ?_,vE0 hts hcs]
 ·exact h
 ·rw[List.all_eq_true] at ha |-
  intro f hf;have:=ha f hf;cases hq:ts f.2 with
  | none=>simp[hq] at this
  | some ti'=>simp[hts _ _ hq]
theorem rU0 (σ:AS) (k:Nat):∀(parts:List (Nat×Operand)) (j:Nat),tG0 .std σ k parts j=zT0 σ k parts j
 | [],_=>rfl
 | p::rest,j=>by
  obtain ⟨n,x⟩:=p;simp only[tG0,zT0,yD0,rU0 σ k rest];cases σ.ev x with
  | none=>rfl
  | some av=>
   simp only[Option.bind_some]
   split
   ·obtain ⟨sh,cs⟩:=av
    cases sh<;>simp only<;>first | rfl|(cases zT0 σ k rest (j+1)<;>rfl)
   ·rfl
theorem hT0 (hts:∀n ti,ts n=some ti->tyOf P n=some ti) {i:Nat} {σ:AS} {t:TypeId} {len:Nat} {parts:Array (Nat×Operand)} {r:AV×AS} (h:rD0 .std ts i σ t len parts=some r):yT0 P i σ t len parts=some r:=by
 simp only[rD0,rU0,wT0,TB0] at h
 split at h<;>try (simp at h;done)
 rename_i ti hti
 split at h<;>try (simp at h;done)
 rename_i e he
 split at h<;>try (simp at h;done)
 rename_i te hte
 split at h<;>try (simp at h;done)
 rename_i cs hcs
 split at h<;>try (simp at h;done)
 rename_i hc
 split at h
 ·rename_i hd
  split at h<;>try (simp at h;done)
  rename_i q1 q2 hq;simp only[yT0,hts _ _ hti,he,hts _ _ hte,hcs,Option.bind_some,if_pos hc,if_pos hd,hq,Option.map_some];exact h
 ·rename_i hd
  split at h<;>try (simp at h;done)
  rename_i q1 q2 hq;have hd':¬cs.any (deepRoot σ)=true:=by rw[hd];simp
  simp only[yT0,hts _ _ hti,he,hts _ _ hte,hcs,Option.bind_some,if_pos hc,if_neg hd',hq,Option.map_some];exact h
theorem zM1 (hts:∀n ti,ts n=some ti->tyOf P n=some ti) (σ:AS) (tx:TypeId) (size:Nat) (x:AV):Sd (srcG .std ts σ tx size x) (tN0 P σ tx size x):=by
 unfold srcG tN0;refine Sd.ty hts fun ti=>?_;obtain ⟨tk,_,_,_,_⟩:=ti;obtain ⟨sh,cs⟩:=x;cases tk<;>try exact Sd.none
 ·cases sh<;>try exact Sd.none
  match cs with
  | []=>exact Sd.none
  | a::b::l=>cases a<;>first | exact Sd.none|(rename_i v;cases v<;>exact Sd.none)
  | [c]=>
   cases c<;>try exact Sd.none
   rename_i v;cases v<;>try exact Sd.none
   simp only
   split<;>first | exact Sd.ret | exact Sd.none
 ·cases sh<;>try exact Sd.none
  match cs with
  | []=>exact Sd.none
  | a::b::l=>exact Sd.none
  | [c]=>
   simp only[<-KJ0];refine Sd.bindO fun xs=>Sd.need fun (h:∀y∈xs,y.length=size)=>?_
   split
   ·rename_i hl
    refine Sd.need fun (h2:∀y∈xs,∀t∈y,isL t=true)=>?_;rw[if_pos ⟨h,fun _=>h2⟩];exact Sd.ret
   ·rename_i hl
    rw[if_pos ⟨h,fun hh=>by rw[hl] at hh;simp at hh⟩];exact Sd.ret
theorem FW0 (σ:AS) (size:Nat) (c:A):FX0 .std σ size c=yG0 σ size c:=by
 cases c<;>try rfl
 simp only[FX0,yG0]
 split<;>rename_i h<;>rw[h]<;>rfl
theorem XT0 {σ:AS} {tx:TypeId} {ti:TI} {size:Nat} (x:AV) (ht:ts tx=some ti) (hts:tyOf P tx=some ti):rH0 .std ts σ tx size x=xU0 P σ tx size x:=by
 obtain ⟨sh,cs⟩:=x;cases sh<;>try rfl
 match cs with
 | []=>rfl
 | a::b::l=>cases a<;>rfl
 | [c]=>
  cases c<;>try rfl
  rename_i r c g lo len;simp only[rH0,xU0,ht,hts,Option.bind_some];cases σ.ad? r c g with
  | none=>rfl
  | some p=>obtain ⟨d,k,els⟩:=p;cases d<;>rfl
theorem PF0 (hts:∀n ti,ts n=some ti->tyOf P n=some ti) (i:Nat) (σ:AS) (args:Array Operand) (argTypes:Array TypeId):Sd (VV0 .std ts i σ args argTypes) (tB0 P i σ args argTypes):=by
 unfold VV0 tB0
 split
 ·rename_i s x t tx h1 h2
  simp only[h1,h2,yD0];refine Sd.ty hts fun ti=>?_;obtain ⟨tk,_,_,_,_⟩:=ti;cases tk<;>try exact Sd.none
  refine Sd.ty hts fun te=>Sd.bind2 fun s x=>?_
  split
  ·rename_i c
   simp only[FW0];have base:∀(d:Bool->Bool) (σ':AS) (xs:List (List T)),Sd (match yG0 σ' te.size c with
     | some ((d',b1),b2)=>need (Ops.std.aOk te.bytes b1 xs) (ret ((⟨.one,[.ow (σ.epoch,i) (d d') te.size (Ops.std.app b1 xs)]⟩:AV),b2))
     | none=>none) ((yG0 σ' te.size c).bind fun b=>if (b.1.2.length+xs.length) * te.bytes<=140737488355328/\b.1.2.length+xs.length<=9223372036854775807 then some (one (.ow (σ.epoch,i) (d b.1.1) te.size (b.1.2++xs)),b.2) else none):=by
    intro d σ' xs;cases yG0 σ' te.size c with
    | none=>exact Sd.none
    | some b=>
     obtain ⟨⟨d',b1⟩,b2⟩:=b;refine Sd.need fun (h:(b1.length+xs.length) * te.bytes<=140737488355328/\b1.length+xs.length<=9223372036854775807)=>?_;simp only[Option.bind_some];rw[if_pos h];exact Sd.ret
   cases htx:ts tx with
   | none=>
    have h0:rH0 .std ts σ tx te.size x=none:=by
     unfold rH0
     split<;>try rfl
     split<;>try rfl
     rw[htx]
    rw[h0];simp only[srcG,htx,bindO,bindM];exact Sd.none
   | some tix=>
    rw[XT0 x htx (hts _ _ htx)];cases hsrc:xU0 P σ tx te.size x with
    | some y=>
     obtain ⟨y1,y2⟩:=y;exact base (fun _=>true) y2 y1
    | none=>
     simp only;have h1:=zM1 hts σ tx te.size x;have h2:=Sd.bindM h1 (fun xs=>base (fun d=>d) σ xs);cases hs:tN0 P σ tx te.size x with
     | none=>rw[hs] at h2;exact h2
     | some xs=>
      rw[hs] at h2;cases hb:yG0 σ te.size c with
      | none=>rw[hb] at h2;exact h2
      | some b=>rw[hb] at h2;exact h2
  ·exact Sd.none
 ·exact Sd.none
theorem GK0 (hts:∀n ti,ts n=some ti->tyOf P n=some ti) (i:Nat) (σ:AS) (t:TypeId) (l c:Operand):Sd (yA1 .std ts i σ t l c) (XN0 P i σ t l c):=by
 unfold yA1 XN0 HA0;cases h:ts t with
 | none=>exact Sd.none
 | some ti=>
  rw[hts _ _ h];obtain ⟨tk,_,_,_,_⟩:=ti;cases tk<;>try exact Sd.none
  rename_i e;simp only[yD0]
  show Sd (bindO (ts e) _) _
  cases he:ts e with
  | none=>exact Sd.none
  | some te=>
   simp only[Option.bind_some,hts _ _ he]
   show Sd (bind2 _ _ _) _
   cases σ.ev l<;>cases σ.ev c<;>try exact Sd.none
   rename_i l c;simp only[opt2,bind2]
   split
   ·rename_i k1 l k2 c h1 h2
    refine Sd.need fun (hm:0<=l/\l<=c/\(te.bytes:Int) * c<=281474976710656/\c<=9223372036854775807)=>?_
    split
    ·rename_i hp
     simp only[h1,h2];rw[if_pos ⟨hm.1,hm.2.1,hm.2.2.1,hm.2.2.2,hp⟩];cases nY0 te.zero<;>first | exact Sd.none | exact Sd.ret
    ·exact Sd.none
   ·exact Sd.none
theorem HM0 (hts:∀n ti,ts n=some ti->tyOf P n=some ti) (σ:AS) (s d:TypeId) (x:Operand):Sd (PT0 .std ts σ s d x) (dW0 P σ s d x):=by
 simp only[PT0,dW0,yD0];refine Sd.bindO fun x=>?_
 split
 ·rename_i c
  have:∀{f:TI->TI->M AV} {g:TI->TI->Option AV},(∀a b,Sd (f a b) (g a b))->Sd (bind2 (ts s) (ts d) f) (opt2 (tyOf P s) (tyOf P d) g):=by
   intro f g hf;cases h1:ts s with
   | none=>exact Sd.none
   | some t1=>
    cases h2:ts d with
    | none=>exact Sd.none
    | some t2=>rw[hts _ _ h1,hts _ _ h2];exact hf _ _
  refine this fun t1 t2=>?_
  split
  ·rename_i e h1 h2
   simp only[h1,h2];refine Sd.ty hts fun te=>?_
   split
   ·rename_i h3
    simp only[h3,<-KJ0];refine Sd.bindO fun els=>Sd.need fun (h:(bytesOf els).isSome=true)=>?_;cases hb:bytesOf els with
    | none=>simp[hb] at h
    | some ns=>
     rw[show Ops.std.text els=textOf ns by simp[Ops.std,hb]]
     exact Sd.ret
   ·exact Sd.none
  ·exact Sd.none
 ·exact Sd.none
theorem WB0 {α:Type} {σ:AS} {x:M α} {o:Option α} (h:Sd x o):Sd (keep σ x) (o.map fun v=>(v,σ)):=by
 intro ps r hx hp;cases x with
 | none=>simp[keep] at hx
 | some v=>
  simp only[keep,Option.some.injEq,Prod.mk.injEq] at hx;obtain ⟨rfl,rfl⟩:=hx;rw[h v.1 v.2 rfl hp];rfl
theorem KK0 (hts:∀n ti,ts n=some ti->tyOf P n=some ti) (base i:Nat) (dst:Option Tmp) (σ:AS) (op:Op):Sd (effG .std ts base i dst σ op) (aEff P base i dst σ op):=by
 unfold effG
 split
 ·exact Sd.of_eq (PE0 i dst σ _)
 ·exact Sd.of_eq (xN1 base i σ _)
 ·exact NX0 fun r h=>JT0 hts h
 ·exact Sd.map (PY0 hts base i σ _ _ _)
 ·exact WB0 (NX0 fun r h=>JM0 hts h)
 ·exact NX0 fun r h=>hT0 hts h
 ·exact PF0 hts i σ _ _
 ·exact GK0 hts i σ _ _ _
 ·rename_i s d x
  refine WB0 (o:=(zA0 P σ (.convert s d x)).or (dW0 P σ s d x)) ?_;have h1:=DR0 hts σ (.convert s d x);have h2:=HM0 hts σ s d x;intro ps a hx hp;cases hq:opG .std ts σ (.convert s d x) with
  | some v=>
   simp only[hq,orM,Option.some.injEq] at hx;subst hx;rw[h1 _ _ hq hp];rfl
  | none=>
   simp only[hq,orM] at hx;have h3:=h2 _ _ hx hp;cases hz:zA0 P σ (.convert s d x) with
   | none=>simpa using h3
   | some v=>
    exfalso;clear h1 h2 hp;simp only[PT0,yD0] at hx;simp only[zA0,Option.bind_eq_some_iff] at hz;obtain ⟨y,hy,z,hz,hz'⟩:=hz;rw[hy] at hx;obtain ⟨z',hz0,_⟩:=Option.map_eq_some_iff.1 hz';unfold AV.lit? at hz
    split at hz<;>try (simp at hz;done)
    simp only[bindO,bind2] at hx
    split at hx<;>try (simp at hx;done)
    split at hx<;>try (simp at hx;done)
    split at hx<;>try (simp at hx;done)
    split at hx<;>try (simp at hx;done)
    simp[elsG] at hx
 ·rename_i _ h1 h2 h3 h4 h5 h6 h7 h8 h9
  have e:aEff P base i dst σ op=(zA0 P σ op).map fun av=>(av,σ):=by
   unfold aEff
   split<;>first | rfl | exact absurd rfl (h1 _) | exact absurd rfl (h2 _ _) | exact absurd rfl (h3 _) | exact absurd rfl (h4 _ _ _) | exact absurd rfl (h5 _ _) | exact absurd rfl (h6 _ _ _) | exact absurd rfl (h7 _ _) | exact absurd rfl (h8 _ _ _) | exact absurd rfl (h9 _ _ _)
  rw[e];exact WB0 (DR0 hts σ op)
end Go.Gv
/- Avs, part 37: the same, for calls and results; regions. -/
namespace Go.Gv
open Go.Av
variable {P:Program} {ts:Nat->Option TI}
theorem ZV0 (σ:AS):∀xs:List Operand,TJ0 .std σ xs=qC0 σ xs
 | []=>rfl
 | x::xs=>by
  simp only[TJ0,qC0,yD0,ZV0 σ xs];cases σ.ev x with
  | none=>rfl
  | some av=>
   obtain ⟨sh,cs⟩:=av;cases sh<;>simp only[Option.bind_some]<;>first | rfl|(cases qC0 σ xs<;>rfl)
theorem WM0 (h:Hint) (i:Nat) (σ:AS) (fop:Operand) (args:List Operand):dA0 .std h i σ fop args=wQ0 h i σ fop args:=by
 simp only[dA0,wQ0,yD0,ZV0,vR0,bH0,UY0];cases σ.ev fop with
 | none=>rfl
 | some fv=>
  simp only[Option.bind_some]
  split
  ·rename_i f caps hq
   simp only[Option.some.injEq] at hq;subst hq;simp only;cases qC0 σ args with
   | none=>rfl
   | some avs=>
    simp only[Option.bind_some];cases maskBoxes h.ids (shC h.sh (tkC h.mv (σ.epoch,i) ((avs++xD0 caps).flatMap (·.cs)) σ).1 (tkC h.mv (σ.epoch,i) ((avs++xD0 caps).flatMap (·.cs)) σ).2).2 with
    | none=>rfl
    | some q3=>
     simp only[Option.bind_some];cases hb:q3.1.all (·.all fun c=>c.rstamp.isNone) with
     | false=>rfl
     | true=>
      simp only[if_true];cases lendCells q3.2 (shC h.sh (tkC h.mv (σ.epoch,i) ((avs++xD0 caps).flatMap (·.cs)) σ).1 (tkC h.mv (σ.epoch,i) ((avs++xD0 caps).flatMap (·.cs)) σ).2).1 with
      | none=>rfl
      | some cs=>
       simp only[Option.bind_some];cases rR0 h.ids cs with
       | none=>rfl
       | some cs'=>
        simp only[Option.bind_some];cases uR0 h.ids q3.1<;>rfl
  ·rename_i hne
   split
   ·rename_i f caps;exact absurd rfl (hne f caps)
   ·rfl
theorem hY0 (hts:∀n ti,ts n=some ti->tyOf P n=some ti) (σ:AS) (r:ResultVar):Sd (fE0 .std ts σ r) (pJ0 P σ r):=by
 unfold fE0 pJ0;refine Sd.bindM ?_ fun av=>?_
 ·cases r with
  | tmp t=>exact Sd.of_eq (yD0 σ _)
  | cell t ty=>
   simp only[DP0,TZ0,yD0];refine Sd.bindO fun x=>?_
   split
   ·exact UX0 hts σ ty _
   ·exact Sd.none
 ·obtain ⟨sh,cs⟩:=av
  cases sh<;>first | exact Sd.none | exact Sd.ret
theorem mX0 (hts:∀n ti,ts n=some ti->tyOf P n=some ti) (σ:AS):∀rs:List ResultVar,Sd (nQ0 .std ts σ rs) (uF0 P σ rs)
 | []=>Sd.ret
 | r::rest=>by
  simp only[nQ0,uF0];exact Sd.bindM (hY0 hts σ r) fun r=>Sd.map (mX0 hts σ rest)
theorem RX0 (hts:∀n ti,ts n=some ti->tyOf P n=some ti) (σ:AS) (rs:List ResultVar):Sd (XX0 .std ts σ rs) (jQ0 P σ rs):=by
 unfold XX0 jQ0
 split
 ·rename_i r
  have e:∀r:Bool×Nat×List A,(⟨if r.1=true then .agg else .one,r.2.2⟩:AV)=⟨shOf r.1,r.2.2⟩:=fun r=>by cases r.1<;>rfl
  simp only[e];exact Sd.map (hY0 hts σ r)
 ·rename_i hne
  split
  ·rename_i r;exact absurd rfl (hne r)
  ·exact Sd.map (mX0 hts σ _)
theorem zR1 (hts:∀n ti,ts n=some ti->tyOf P n=some ti) (base:Nat) (rs:List ResultVar) (σ:AS):Sd (resG .std ts base rs σ) (aRes P base rs σ):=by
 unfold resG aRes;refine Sd.bindM (RX0 hts σ rs) fun av=>?_;rw[vR0];simp only
 split
 ·exact Sd.ret
 ·exact Sd.none
structure DB0 (ps:List Prop) (X:Prop):Prop where
 all:∀p∈ps,p
 go:X
structure GFork (b:Bool) (x y:Unit->Prop):Prop where
 yes:b=true->x ()
 no:b=false->y ()
structure GCallD (P:Program) (f:FuncId) (cargs:List AV) (cbx:List (Option (List A))) (ids:List Nat) (i:Nat) (dst:Option Tmp) (σm:AS) (K:AS->Prop):Prop where
 go:∃R,yP0 P f=true/\ACl P f cargs cbx R/\∀res bx,R res bx->K ((zF0 ids i σm res bx).2.putO dst (zF0 ids i σm res bx).1)
variable (O:Ops)
def ZM0 (P:Program) (h:Hint) (i:Nat) (fop:Operand) (args:Array Operand) (dst:Option Tmp) (σ:AS) (K:AS->Prop):Prop:=
 match dA0 O h i σ fop args.toList with
 | some (f,cargs,cbx,σm)=>GCallD P f cargs cbx h.ids i dst σm K
 | none=>False
structure GCall (O:Ops) (P:Program) (i:Nat) (fop:Operand) (args:Array Operand) (dst:Option Tmp) (σ:AS) (K:AS->Prop):Prop where
 go:∃h,ZM0 O P h i fop args dst σ K
def out (acc:List Prop) (X:Prop):Prop:=match acc with
 | []=>X
 | p::ps=>DB0 (p::ps) X
def ZL0 (ts:Nat->Option TI) (P:Program) (base i:Nat) (o:Oper) (acc:List Prop) (σ:AS) (K:List Prop->AS->Prop):Prop:=
 match o.op with
 | .call ⟨.value fop,args,_⟩=>out acc (GCall O P i fop args o.dst σ fun σ'=>K [] σ')
 | op=>match effG O ts base i o.dst σ op with
  | some (ps,r)=>K (cat acc ps) (r.2.putO o.dst r.1)
  | none=>False
def yB1:List (Nat×Bool)->Nat->Option Bool
 | [],_=>none
 | (k,b)::r,g=>if k=g then some b else yB1 r g
def GU0 (ts:Nat->Option TI) (P:Program) (base:Nat) (ops:Array Oper) (i:Nat) (acc:List Prop) (kn:List (Nat×Bool)) (σ:AS) (K:List Prop->List (Nat×Bool)->AS->Prop):Prop:=
 match ops[i]? with
 | none=>K acc kn σ
 | some o=>match o.guard with
  | none=>ZL0 O ts P base i o acc σ fun acc' σ'=>K acc' kn σ'
  | some (g,want)=>match ((ops[g]?).bind (·.dst)).bind (σ.slots[·]?) with
   | some ⟨.one,[.lit (.bool b)]⟩=>match yB1 kn g with
    | none=>match want with
     | true=>out acc (GFork b (fun _=>ZL0 O ts P base i o [] (σ.known ops g true) fun acc' σ'=>K acc' ((g,true)::kn) σ') (fun _=>K [] ((g,false)::kn) ((σ.known ops g false).putO o.dst yM0)))
     | false=>out acc (GFork b (fun _=>K [] ((g,true)::kn) ((σ.known ops g true).putO o.dst yM0)) (fun _=>ZL0 O ts P base i o [] (σ.known ops g false) fun acc' σ'=>K acc' ((g,false)::kn) σ'))
    | some _=>match b with
     | true=>match want with
      | true=>ZL0 O ts P base i o acc σ fun acc' σ'=>K acc' kn σ'
      | false=>K acc kn (σ.putO o.dst yM0)
     | false=>match want with
      | true=>K acc kn (σ.putO o.dst yM0)
      | false=>ZL0 O ts P base i o acc σ fun acc' σ'=>K acc' kn σ'
   | some ⟨.tup [],[]⟩=>K acc kn (σ.putO o.dst yM0)
   | _=>False
def fin (acc:List Prop) (K:AS->Prop) (s:List AV) (b:List (Option (List A))) (e:Nat):Prop:=out acc (K ⟨s,b,e⟩)
def gOps (ts:Nat->Option TI) (P:Program) (base:Nat) (ops:Array Oper):List Nat->List Prop->List (Nat×Bool)->AS->(AS->Prop)->Prop
 | [],acc,_,σ,K=>match σ with
  | ⟨s,b,e⟩=>fin acc K s b (e+1)
 | i::rest,acc,kn,σ,K=>GU0 O ts P base ops i acc kn σ fun acc' kn' σ'=>gOps ts P base ops rest acc' kn' σ' K
theorem out_iff {acc:List Prop} {X:Prop}:out acc X↔(∀p∈acc,p)/\X:=by
 cases acc with
 | nil=>simp[out]
 | cons p ps=>exact ⟨fun h=>⟨h.all,h.go⟩,fun h=>⟨h.1,h.2⟩⟩
theorem cat_all {ps qs:List Prop}:(∀p∈cat ps qs,p)↔(∀p∈ps,p)/\∀p∈qs,p:=by
 constructor
 ·exact fun h=>⟨fun p hp=>h p (mem_cat.2 (.inl hp)),fun p hp=>h p (mem_cat.2 (.inr hp))⟩
 ·rintro ⟨h1,h2⟩ p hp
  rcases mem_cat.1 hp with hp | hp
  ·exact h1 p hp
  ·exact h2 p hp
theorem wX0 (hts:∀n ti,ts n=some ti->tyOf P n=some ti) {base i:Nat} {o:Oper} {acc:List Prop} {σ:AS} {K:List Prop->AS->Prop} {K':AS->Prop} (hK:∀acc σ,K acc σ->(∀p∈acc,p)/\K' σ) (h:ZL0 .std ts P base i o acc σ K):(∀p∈acc,p)/\jT0 P base i o σ K':=by
 unfold ZL0 at h;unfold jT0
 split at h
 ·rename_i fop args at' hop
  simp only[hop];rw[out_iff] at h;refine ⟨h.1,?_⟩;obtain ⟨hh,h2⟩:=h.2.go;refine ⟨hh,?_⟩;unfold ZM0 at h2;unfold RC0;rw[<-WM0]
  split at h2
  ·rename_i f cargs cbx σm hpre
   simp only[hpre];obtain ⟨R,g1,g2,g3⟩:=h2.go;exact ⟨R,g1,g2,fun res bx hR=>(hK _ _ (g3 res bx hR)).2⟩
  ·exact h2.elim
 ·rename_i op hne
  split at h
  ·rename_i ps r hr
   obtain ⟨h1,h2⟩:=hK _ _ h;rw[cat_all] at h1;have:=KK0 hts base i o.dst σ o.op ps r hr h1.2;refine ⟨h1.1,?_⟩
   split
   ·rename_i fop args at' hop;exact absurd hop (hne fop args at')
   ·rename_i op' hne';rw[this];exact h2
  ·exact h.elim
theorem yX0 {ops:Array Oper} {g:Nat} {σ:AS} {b:Bool} (h:((ops[g]?).bind (·.dst)).bind (σ.slots[·]?)=some ⟨.one,[.lit (.bool b)]⟩):σ.known ops g b=σ:=AS.known_eq h
theorem TD0 (hts:∀n ti,ts n=some ti->tyOf P n=some ti) {base i:Nat} {ops:Array Oper} {acc:List Prop} {kn:List (Nat×Bool)} {σ:AS} {K:List Prop->List (Nat×Bool)->AS->Prop} {K':AS->Prop} (hK:∀acc kn σ,K acc kn σ->(∀p∈acc,p)/\K' σ) (h:GU0 .std ts P base ops i acc kn σ K):(∀p∈acc,p)/\nK0 P base ops i σ K':=by
 unfold GU0 at h;unfold nK0
 split at h
 ·rename_i ho;simp only[ho];exact hK _ _ _ h
 ·rename_i o ho
  simp only[ho]
  split at h
  ·rename_i hg;simp only[hg];exact wX0 hts (fun acc σ=>hK acc _ σ) h
  ·rename_i g want hg
   simp only[hg]
   split at h
   ·rename_i b hb
    simp only[hb]
    split at h
    ·cases want with
     | true=>
      simp only[out_iff] at h;refine ⟨h.1,?_⟩;have h2:=h.2;exact ⟨fun hb=>(wX0 hts (fun acc σ=>hK acc _ σ) (h2.yes (by simpa using hb))).2,fun hb=>(hK _ _ _ (h2.no (by simpa using hb))).2⟩
     | false=>
      simp only[out_iff] at h;refine ⟨h.1,?_⟩;have h2:=h.2;exact ⟨fun hb=>(wX0 hts (fun acc σ=>hK acc _ σ) (h2.no (by simpa using hb))).2,fun hb=>(hK _ _ _ (h2.yes (by simpa using hb))).2⟩
    ·cases b<;>cases want<;>simp only at h
     ·have:=wX0 hts (fun acc σ=>hK acc _ σ) h
      rw[yX0 hb];exact ⟨this.1,fun _=>this.2,fun hb=>by simp at hb⟩
     ·have:=hK _ _ _ h
      refine ⟨this.1,fun hb=>by simp at hb,fun _=>?_⟩
      rw[show (!true)=false from rfl,yX0 hb];exact this.2
     ·have:=hK _ _ _ h
      refine ⟨this.1,fun hb=>by simp at hb,fun _=>?_⟩
      rw[show (!false)=true from rfl,yX0 hb];exact this.2
     ·have:=wX0 hts (fun acc σ=>hK acc _ σ) h
      rw[yX0 hb];exact ⟨this.1,fun _=>this.2,fun hb=>by simp at hb⟩
   ·rename_i hb
    simp only[hb];exact hK _ _ _ h
   ·exact h.elim
theorem WD0 (hts:∀n ti,ts n=some ti->tyOf P n=some ti) {base:Nat} {ops:Array Oper} {K:AS->Prop}:∀{is:List Nat} {acc:List Prop} {kn:List (Nat×Bool)} {σ:AS},gOps .std ts P base ops is acc kn σ K->(∀p∈acc,p)/\aOps P base ops is σ fun σ'=>K σ'.next
 | [],acc,kn,σ,h=>by
  simp only[gOps,fin,out_iff] at h;exact h
 | i::rest,acc,kn,σ,h=>TD0 hts (fun acc kn σ h=>WD0 hts h) h
end Go.Gv
/- Avs, part 38: code, over the primitives that are variables. -/
namespace Go.Gv
open Go.Av
def GWp (O:Ops) (ts:Nat->Option TI) (P:Program) (C:Ctx) (c:Code) (σ:AS) (Q:Exit->AS->Prop):Prop:=
 O=Ops.std->(∀n ti,ts n=some ti->tyOf P n=some ti)->AWp P C c σ Q
variable {O:Ops} {ts:Nat->Option TI} {P:Program} {C:Ctx} {σ:AS} {Q:Exit->AS->Prop}
theorem GWp.seq {x y:Code} (h:GWp O ts P C x σ (uL0 (fun σ'=>GWp O ts P C y σ' Q) Q)):GWp O ts P C (.seq x y) σ Q:=fun hO ht=>
 AWp.seq ((h hO ht).mono fun e σ' hq=>by cases e<;>first | exact hq hO ht | exact hq)
theorem GWp.skip (h:Q .normal σ):GWp O ts P C .skip σ Q:=fun _ _=>AWp.skip h
theorem GWp.ret (h:Q .ret σ):GWp O ts P C .ret σ Q:=fun _ _=>AWp.ret h
theorem GWp.exit {id:Nat} (h:Q (.exit id) σ):GWp O ts P C (.exit id) σ Q:=fun _ _=>AWp.exit h
theorem GWp.region {base id:Nat} {ops:Array Oper} (h:∀K:AS->Prop,(∀σ',Q .normal σ'->K σ')->gOps O ts P base ops (List.range ops.size) [] [] σ K):GWp O ts P C (.region id ops false) σ Q:=by
 intro hO ht;subst hO;exact AWp.region (WD0 ht (h (fun σ'=>Q .normal σ') fun _ h=>h)).2
theorem GWp.cond {c:Operand} {x y:Code} {b:Bool} (hc:σ.ev c=some ⟨.one,[.lit (.bool b)]⟩) (h1:b=true->GWp O ts P C x σ Q) (h2:b=false->GWp O ts P C y σ Q):GWp O ts P C (.cond c x y) σ Q:=fun hO ht=>
 AWp.cond hc (fun hb=>h1 hb hO ht) fun hb=>h2 hb hO ht
theorem GWp.block {id:Nat} {c:Code} (h:GWp O ts P C c σ (nT0 id Q)):GWp O ts P C (.block id c) σ Q:=fun hO ht=>AWp.block (h hO ht)
theorem GWp.mono {c:Code} {Q':Exit->AS->Prop} (h:GWp O ts P C c σ Q) (hq:∀e σ,Q e σ->Q' e σ):GWp O ts P C c σ Q':=fun hO ht=>(h hO ht).mono hq
theorem GWp.loop {nb:Nat} {keep:Nat->Bool} {kk:Root->Nat->Option Nat} {c:Code} (I:Nat->AS->Prop) (hC:C.bl0.length<=nb) (h0:xR0 nb keep kk σ fun σ'=>∃n,I n σ')
  (round:∀n σ,I n σ->GWp O ts P C c σ (uL0 (fun σ'=>xR0 nb keep kk σ' fun σ''=>∃m,m < n/\I m σ'') Q)):GWp O ts P C (.loop c) σ Q:=fun hO ht=>
 AWp.loopW I hC h0 fun n σ hI=>round n σ hI hO ht
theorem GCall.by (h:Hint) {i:Nat} {fop:Operand} {args:Array Operand} {dst:Option Tmp} {K:AS->Prop} (hx:ZM0 O P h i fop args dst σ K):GCall O P i fop args dst σ K:=⟨⟨h,hx⟩⟩
theorem GCallD.by {P0:Program} (hP:P=P0) {f:FuncId} {cargs:List AV} {cbx:List (Option (List A))} {ids:List Nat} {i:Nat} {dst:Option Tmp} {σm:AS} {K:AS->Prop} {R:AV->List (Option (List A))->Prop} (he:yP0 P0 f=true) (hc:ACl P0 f cargs cbx R)
  (hK:∀res bx,R res bx->K ((zF0 ids i σm res bx).2.putO dst (zF0 ids i σm res bx).1)):GCallD P f cargs cbx ids i dst σm K:=by
 subst hP;exact ⟨⟨R,he,hc,hK⟩⟩
def gFin (O:Ops) (ts:Nat->Option TI) (base:Nat) (rs:List ResultVar) (R:AV->List (Option (List A))->Prop) (σ:AS):Prop:=match resG O ts base rs σ with
 | some (ps,(⟨sh,cs⟩,bx))=>out ps (R ⟨sh,cs⟩ bx)
 | none=>False
def yG1 (O:Ops) (ts:Nat->Option TI) (base:Nat) (rs:List ResultVar) (R:AV->List (Option (List A))->Prop):Exit->AS->Prop
 | .normal,σ | .ret,σ=>gFin O ts base rs R σ
 | _,_=>False
theorem MV0 (ht:∀n ti,ts n=some ti->tyOf P n=some ti) {base:Nat} {rs:List ResultVar} {R:AV->List (Option (List A))->Prop} (h:gFin .std ts base rs R σ):∃r,aRes P base rs σ=some r/\R r.1 r.2:=by
 unfold gFin at h
 split at h
 ·rename_i ps sh cs bx hr
  rw[out_iff] at h;exact ⟨_,zR1 ht base rs σ _ _ hr h.1,h.2⟩
 ·exact h.elim
theorem ZJ0 {P0:Program} (ht:∀n ti,ts n=some ti->tyOf P0 n=some ti) {f:FuncId} {fn:Func} {c:Code} {args:List AV} {bx:List (Option (List A))} {R:AV->List (Option (List A))->Prop} (n:Nat) (rs:List ResultVar) (hf:P0.funcs[f]?=some fn) (hb:fn.body=some c)
  (hn:fn.ntmps=n) (hrs:fn.results.toList=rs) (hA:∀av∈args,yU0 av.cs) (hB:∀cs,some cs∈bx->yU0 cs)
  (h:∀O,O=Ops.std->∀P,P=P0->∀C,C.bl0.length=bx.length->∀R':AV->List (Option (List A))->Prop,(∀res bx',R res bx'->R' res bx')->GWp O ts P C c (uM0 args n bx) (yG1 O ts bx.length rs R')):ACl P0 f args bx R:=by
 refine JW0 hf hb hA hB fun C hC=>?_;subst hn;subst hrs;refine (h Ops.std rfl P0 rfl C hC R (fun _ _ h=>h) rfl ht).mono ?_;intro e σ' hq;cases e with
 | normal=>
  obtain ⟨r,h1,h2⟩:=MV0 ht (P:=P0) hq;simp only[JZ0,h1];exact h2
 | ret=>
  obtain ⟨r,h1,h2⟩:=MV0 ht (P:=P0) hq;simp only[JZ0,h1];exact h2
 | _=>exact hq.elim
end Go.Gv
