/- Part N9 of the proof: contracts of functions of the program, each walked once. -/
import Derived.Test.YtjeejieaalnbeaaGreatN7
import Derived.Test.YtjeejieaalnbeaaGreatQ1
set_option linter.all false
namespace Go.Gv
open Go.Av Go.Proofs Go.Shelf Go.RowKit
set_option maxRecDepth 10000
set_option maxHeartbeats 8000000
mutual
def Sm.cnt:Sm->Nat
 | .mk _ _ _ _ a b=>1+Sm.cnts a+Sm.cnts b
def Sm.cnts:List Sm->Nat
 | []=>0
 | e::l=>Sm.cnt e+Sm.cnts l
end
mutual
def Sm.dep:Sm->Nat
 | .mk _ _ _ _ a b=>1+max (Sm.deps a) (Sm.deps b)
def Sm.deps:List Sm->Nat
 | []=>0
 | e::l=>max (Sm.dep e) (Sm.deps l)
end
theorem Sm.cnts_app:∀a b,Sm.cnts (a++b)=Sm.cnts a+Sm.cnts b
 | [],b=>by simp[Sm.cnts]
 | e::a,b=>by rw[List.cons_append,Sm.cnts,Sm.cnts,Sm.cnts_app a b];omega
theorem Sm.cnts_one (x:Sm):Sm.cnts [x]=x.cnt:=by simp[Sm.cnts]
theorem Sm.cnts_take (l:List Sm) (i:Nat):Sm.cnts (l.take i)<=Sm.cnts l:=by
 have:=congrArg Sm.cnts (List.take_append_drop i l);rw[Sm.cnts_app] at this;omega
theorem Sm.deps_le {l:List Sm} {m:Nat}:Sm.deps l<=m↔∀x∈l,x.dep<=m:=by
 induction l with
 | nil=>simp[Sm.deps]
 | cons a l ih=>rw[Sm.deps,List.forall_mem_cons,<-ih];omega
theorem Sm.cnt_pos (e:Sm):1<=e.cnt:=by cases e;rw[Sm.cnt];omega
theorem Sm.dep_pos (e:Sm):1<=e.dep:=by cases e;rw[Sm.dep];omega
theorem Sm.szs_mem:∀{l:List Sm} {x:Sm},x∈l->x.sz<=Sm.szs l
 | [],x,h=>by simp at h
 | y::l,x,h=>by
  rw[Sm.szs];rcases List.mem_cons.1 h with rfl | h
  ·omega
  ·have:=Sm.szs_mem h;omega
theorem ssz_inv {k:Int} {s t:ByteArray} {x:List Ex} {a b:List Sm} (h:(Sm.mk k s t x a b).sz<=1048576):s.size<=1048576/\t.size<=1048576/\x.length<=1048576/\(∀e∈x,e.sz<=1048576)/\a.length<=1048576/\b.length<=1048576/\∀y∈a++b,y.sz<=1048576:=by
 rw[Sm.sz] at h;refine ⟨by omega,by omega,by omega,fun e he=>?_,by omega,by omega,fun y hy=>?_⟩
 ·have:=Ex.szs_mem he;omega
 ·rcases List.mem_append.1 hy with hy | hy
  ·have:=Sm.szs_mem hy;omega
  ·have:=Sm.szs_mem hy;omega
inductive Sm.ok:Sm->Prop where
 | mk {k:Int} {s t:ByteArray} {x:List Ex} {a b:List Sm} (hx:∀e∈x,e.good) (h:SmHere k s t x.length a.length b.length (headK x)) (hl:∀y∈a++b,Sm.ok y):Sm.ok (.mk k s t x a b)
theorem smok_iff {k:Int} {s t:ByteArray} {x:List Ex} {a b:List Sm}:(Sm.mk k s t x a b).ok↔((∀e∈x,e.good)/\SmHere k s t x.length a.length b.length (headK x))/\∀y∈a++b,Sm.ok y:=⟨fun h=>by cases h with | mk hx h hl=>exact ⟨⟨hx,h⟩,hl⟩,fun h=>.mk h.1.1 h.1.2 h.2⟩
def Sm.good (y:Sm):Prop:=y.ok/\y.cnt<=60/\y.dep<=5
def lowS (l:List Sm) (d i:Nat):Prop:=(∀x∈l.take i,x.dep+(d+1)<=6)/\1+Sm.cnts (l.take i)<=60
theorem lowS_all {k:Int} {s t:ByteArray} {x:List Ex} {a b:List Sm} {d:Nat} (hd:d<=5):lowS (a++b) d (a.length+b.length)↔(Sm.mk k s t x a b).dep+d<=6/\(Sm.mk k s t x a b).cnt<=60:=by
 unfold lowS;rw[<-List.length_append,List.take_length,Sm.dep,Sm.cnt,Sm.cnts_app,<-Nat.add_assoc];refine and_congr_left fun _=>?_;rw[show 1+max (Sm.deps a) (Sm.deps b)+d<=6↔Sm.deps a<=5 - d/\Sm.deps b<=5 - d by omega,Sm.deps_le,Sm.deps_le,List.forall_mem_append]
 exact and_congr (forall_congr' fun x=>forall_congr' fun _=>by omega) (forall_congr' fun x=>forall_congr' fun _=>by omega)
theorem lowS_mono {l:List Sm} {d i j:Nat} (hij:i<=j) (h:lowS l d j):lowS l d i:=by
 unfold lowS at *;have e:l.take i=(l.take j).take i:=by rw[List.take_take,Nat.min_eq_left hij]
 rw[e];exact ⟨fun x hx=>h.1 x (List.mem_of_mem_take hx),by have:=Sm.cnts_take (l.take j) i;omega⟩
theorem lowS_succ {l:List Sm} {d i j:Nat} {x:Sm} (ht:l.take j=l.take i++[x]):lowS l d j↔lowS l d i/\x.dep+(d+1)<=6/\1+Sm.cnts (l.take i)+x.cnt<=60:=by
 unfold lowS;rw[ht,Sm.cnts_app,Sm.cnts_one];simp only[List.mem_append,List.mem_singleton]
 constructor
 ·rintro ⟨h1,h2⟩;exact ⟨⟨fun y hy=>h1 y (.inl hy),by omega⟩,h1 x (.inr rfl),by omega⟩
 ·rintro ⟨⟨h1,h2⟩,h3,h4⟩
  refine ⟨fun y hy=>?_,by omega⟩
  rcases hy with hy | rfl
  ·exact h1 y hy
  ·exact h3
theorem take_fst {a b:List Sm} {i:Nat} {x:Sm} (hi:i < a.length) (h:a.take (i+1)=a.take i++[x]):(a++b).take (0+(i+1))=(a++b).take (0+i)++[x]:=by
 rw[Nat.zero_add,Nat.zero_add,List.take_append_of_le_length (by omega),List.take_append_of_le_length (by omega),h]
theorem take_snd {a b:List Sm} {i:Nat} {x:Sm} (h:b.take (i+1)=b.take i++[x]):(a++b).take (a.length+(i+1))=(a++b).take (a.length+i)++[x]:=by
 rw[List.take_length_add_append,List.take_length_add_append,h,List.append_assoc]
def invC1 (cs:List A) (a b:List Sm) (d:Nat) (N:Nat) (σ:AS):Prop:=
 ∃(i n:Nat),σ=⟨vag 53 [(1,litI (Int.ofNat d)),(2,⟨.one,[.ptr 0 0]⟩),(5,litI (Int.ofNat n)),(6,litI (Int.ofNat i))],[some cs],1⟩/\i<=a.length/\
  1<=n/\n<=61+60 * (6 - d)/\(n<=60↔lowS (a++b) d (0+i))/\(n<=60->n=1+Sm.cnts ((a++b).take (0+i)))/\N=a.length - i
def invC2 (cs:List A) (a b:List Sm) (d:Nat) (N:Nat) (σ:AS):Prop:=
 ∃(i n:Nat),σ=⟨vag 53 [(1,litI (Int.ofNat d)),(2,⟨.one,[.ptr 0 0]⟩),(5,litI (Int.ofNat n)),(7,litI (Int.ofNat i))],[some cs],1⟩/\i<=b.length/\
  1<=n/\n<=61+60 * (6 - d)/\(n<=60↔lowS (a++b) d (a.length+i))/\(n<=60->n=1+Sm.cnts ((a++b).take (a.length+i)))/\N=b.length - i
abbrev CountAt (r:Sm):Prop:=∀(d:Nat),d<=6->r.sz<=1048576->ACl Tryz.prog 193 [agT r.t,litI (Int.ofNat d)] []
  (fun res bx=>∃n:Nat,1<=n/\n<=61+60 * (6 - d)/\(n<=60↔r.dep+d<=6/\r.cnt<=60)/\(n<=60->n=r.cnt)/\res=litI (Int.ofNat n)/\bx=[])
theorem c_l9Count_step (k:Int) (s t:ByteArray) (x:List Ex) (a b:List Sm) (ih:∀y∈a++b,CountAt y):CountAt (.mk k s t x a b):=by
 intro d hd hw;have hlow:=fun h:d<=5=>lowS_all (k:=k) (s:=s) (t:=t) (x:=x) (a:=a) (b:=b) h;have hcnt:(Sm.mk k s t x a b).cnt=1+Sm.cnts (a++b):=by rw[Sm.cnt,Sm.cnts_app,Nat.add_assoc]
 have hdep:1<=(Sm.mk k s t x a b).dep:=Sm.dep_pos _;generalize (Sm.mk k s t x a b).dep=dep at *;generalize (Sm.mk k s t x a b).cnt=cnt at *;obtain ⟨_,_,_,_,hla,hlb,hwl⟩:=ssz_inv hw;rw[sm_agT];obtain ⟨xl,hxl⟩:=qX (x.map Ex.t);obtain ⟨al,hal⟩:=qX (a.map Sm.t);obtain ⟨bl,hbl⟩:=qX (b.map Sm.t);rw[<-hxl,<-hal,<-hbl];refine qF tyK Tryz.func193 53 [.tmp 4] ?_;unhygienic intros;obtain ⟨NA,hNA⟩:=qX a.length
 obtain ⟨NB,hNB⟩:=qX b.length;have la:len al=NA:=lnO hO (by simp[hal,hNA])
 have lb:len bl=NB:=lnO hO (by simp[hbl,hNB])
 have haa:all al 6:=alO hO (by subst hal;simp[Sm.t_len])
 have hab:all bl 6:=alO hO (by subst hbl;simp[Sm.t_len])
 obtain ⟨cs,hcs⟩:=qX ([.lit (.int .i64 k),.lit (.string s),.lit (.string t),.ro true xl,.ro true al,.ro true bl]:List A);rw[<-hNA] at hla;rw[<-hNB] at hlb;revert hK K;refine qW0 ?_;intro K hK;refine nC rfl (fun h1=>?_) (fun h1=>?_)
 ·have h2:5 < d:=qw1
  revert hK K;refine qW0 ?_;intro K hK;exact hR _ _ ⟨61,by omega,by omega,by omega,by omega,rfl,rfl⟩
 have h2:d<=5:=qw1;clear h1;have hlow:=hlow h2;have ed:bin .add .i64 (Int.ofNat d) 1=_:=iSc hO (by omega)
 have hend:∀n:Nat,1<=n->n<=61+60 * (6 - d)->(n<=60↔lowS (a++b) d (a.length+b.length))->(n<=60->n=1+Sm.cnts (a++b))->R (litI (Int.ofNat n)) []:=fun n p1 p2 p3 p4=>hR _ _ ⟨n,p1,p2,p3.trans hlow,fun h=>(p4 h).trans hcnt.symm,rfl,rfl⟩;revert hK K;refine qW0 ?_;intro K hK;refine qL 1 [1,2,5,6] kk0 (invC1 cs a b d) ?_ ?_
 ·cbv
  exact ⟨_,0,1,by (try rw[hcs]);cbv,by simp,by omega,by omega,by simp[lowS,Sm.cnts],by simp[Sm.cnts],rfl⟩
 rintro m σ ⟨i,n,rfl,g1,g2,g3,g4,g5,rfl⟩
 try rw[hcs]
 revert hK K;refine qW0 ?_;intro K hK;simp only[la];refine GFork.mk (fun h3=>?_) (fun h3=>?_)<;>cbv
 ·have hlt:i < NA:=qv3
  obtain ⟨x,hx,hx',ht,e1⟩:=mpA hO hal (hNA ▸ hlt);have hxm:x∈a++b:=List.mem_append_left _ hx;have ht2:(a++b).take (0+(i+1))=(a++b).take (0+i)++[x]:=take_fst (hNA ▸ hlt) ht;have e:bin .add .i64 (Int.ofNat i) 1=_:=iSc hO (by omega)
  have hidx:idx (Int.ofNat i) (len al):=la ▸ ixN hO hlt;have hst:=lowS_succ (d:=d) ht2;have hpx:=Sm.cnts_app ((a++b).take (0+i)) [x];rw[<-ht2,Sm.cnts_one] at hpx;have hcall:=ih x hxm (d+1) (by omega) (hwl x hxm)
  have hpp:=x.cnt_pos;generalize x.dep=xd at *;generalize x.cnt=xp at *;obtain ⟨k',s',t',x',a',b'⟩:=x;simp only[agT,Sm.t_mk,List.map,tA] at hcall e1;generalize x'.map Ex.t=xl' at hcall e1;generalize a'.map Sm.t=al' at hcall e1;generalize b'.map Sm.t=bl' at hcall e1;revert hK K;refine qW0 ?_;intro K hK;refine nC rfl (fun h5=>?_) (fun h5=>?_)
  ·have h60:n<=60:=qw5
   revert hK K;refine qW0 ?_;intro K hK
   repeat (simp only[e1];cbv)
   simp only[ed];refine ndC hidx (ndC haa (ndN ?_));refine qG ?_;refine qD hP hcall ?_;rintro res bx ⟨q,q1,q2,q3,q4,rfl,rfl⟩;refine qC ?_;have e2:bin .add .i64 (Int.ofNat n) (Int.ofNat q)=_:=add_nat hO (by omega)
   generalize hm3:n+q=m3 at e2;simp only[e2];revert hK K;refine qW0 ?_;intro K hK;rw[e];refine ⟨NA - (i+1),by omega,i+1,m3,by (try rw[hcs]);cbv,by omega,by omega,by omega,?_,fun h=>?_,by rw[hNA]⟩
   ·rw[hst]
    have:=g5 h60;have:=g4.1 h60
    constructor
    ·intro h
     have h7:q<=60:=by omega
     have:=q4 h7;exact ⟨g4.1 h60,(q3.1 h7).1,by omega⟩
    ·rintro ⟨_,h7,h8⟩
     have:=q3.2 ⟨h7,by omega⟩
     have:=q4 this;omega
   ·have:=g5 h60
    have:=q4 (by omega)
    omega
  ·have h60:60 < n:=qw5
   have g4':n<=60↔lowS (a++b) d (a.length+0):=⟨fun h=>by omega,fun h=>g4.2 (lowS_mono (by omega) h)⟩
   have g5':n<=60->n=1+Sm.cnts ((a++b).take (a.length+0)):=fun h=>by omega
   clear hcall hst hpx hpp g4 g5 ht ht2 hx hx' hxm e1 e hidx h5 h3 hlt;revert hK K;refine qW0 ?_;intro K hK;refine qL 1 [1,2,5,7] kk0 (invC2 cs a b d) ?_ ?_
   ·cbv
    exact ⟨_,0,n,by (try rw[hcs]);cbv,by simp,g2,g3,g4',g5',rfl⟩
   clear g4' g5' g1 g2 g3;rintro m2 σ ⟨i,n,rfl,g1,g2,g3,g4,g5,rfl⟩
   try rw[hcs]
   revert hK K;refine qW0 ?_;intro K hK;simp only[lb];refine GFork.mk (fun h3=>?_) (fun h3=>?_)<;>cbv
   ·have hlt:i < NB:=qv3
    obtain ⟨x,hx,hx',ht,e1⟩:=mpA hO hbl (hNB ▸ hlt);have hxm:x∈a++b:=List.mem_append_right _ hx;have ht2:(a++b).take (a.length+(i+1))=(a++b).take (a.length+i)++[x]:=take_snd ht;have e:bin .add .i64 (Int.ofNat i) 1=_:=iSc hO (by omega)
    have hidx:idx (Int.ofNat i) (len bl):=lb ▸ ixN hO hlt;have hst:=lowS_succ (d:=d) ht2;have hpx:=Sm.cnts_app ((a++b).take (a.length+i)) [x];rw[<-ht2,Sm.cnts_one] at hpx;have hcall:=ih x hxm (d+1) (by omega) (hwl x hxm)
    have hpp:=x.cnt_pos;generalize x.dep=xd at *;generalize x.cnt=xp at *;obtain ⟨k',s',t',x',a',b'⟩:=x;simp only[agT,Sm.t_mk,List.map,tA] at hcall e1;generalize x'.map Ex.t=xl' at hcall e1;generalize a'.map Sm.t=al' at hcall e1;generalize b'.map Sm.t=bl' at hcall e1;revert hK K;refine qW0 ?_;intro K hK;refine nC rfl (fun h5=>?_) (fun h5=>?_)
    ·have h60:n<=60:=qw5
     revert hK K;refine qW0 ?_;intro K hK
     repeat (simp only[e1];cbv)
     simp only[ed];refine ndC hidx (ndC hab (ndN ?_));refine qG ?_;refine qD hP hcall ?_;rintro res bx ⟨q,q1,q2,q3,q4,rfl,rfl⟩;refine qC ?_;have e2:bin .add .i64 (Int.ofNat n) (Int.ofNat q)=_:=add_nat hO (by omega)
     generalize hm3:n+q=m3 at e2;simp only[e2];revert hK K;refine qW0 ?_;intro K hK;rw[e];refine ⟨NB - (i+1),by omega,i+1,m3,by (try rw[hcs]);cbv,by omega,by omega,by omega,?_,fun h=>?_,by rw[hNB]⟩
     ·rw[hst]
      have:=g5 h60;have:=g4.1 h60
      constructor
      ·intro h
       have h7:q<=60:=by omega
       have:=q4 h7;exact ⟨g4.1 h60,(q3.1 h7).1,by omega⟩
      ·rintro ⟨_,h7,h8⟩
       have:=q3.2 ⟨h7,by omega⟩
       have:=q4 this;omega
     ·have:=g5 h60
      have:=q4 (by omega)
      omega
    ·have h60:60 < n:=qw5
     revert hK K;refine qW0 ?_;intro K hK;exact hend n g2 g3 ⟨fun h=>by omega,fun h=>g4.2 (lowS_mono (by omega) h)⟩ (fun h=>by omega)
   ·have hge:i=NB:=qw3
    have hil:i=b.length:=by omega
    rw[hil] at g4 g5;revert hK K;refine qW0 ?_;intro K hK;exact hend n g2 g3 g4 fun h=>by have:=g5 h;rwa[<-List.length_append,List.take_length] at this
 ·have hge:i=NA:=qw3
  have hil:i=a.length:=by omega
  have g4':n<=60↔lowS (a++b) d (a.length+0):=by rw[g4,hil,Nat.zero_add,Nat.add_zero]
  have g5':n<=60->n=1+Sm.cnts ((a++b).take (a.length+0)):=fun h=>by rw[Nat.add_zero,<-hil];have:=g5 h;rwa[Nat.zero_add] at this
  clear g4 g5 hge h3;revert hK K;refine qW0 ?_;intro K hK;refine qL 1 [1,2,5,7] kk0 (invC2 cs a b d) ?_ ?_
  ·cbv
   exact ⟨_,0,n,by (try rw[hcs]);cbv,by simp,g2,g3,g4',g5',rfl⟩
  clear g4' g5' g1 g2 g3;rintro m2 σ ⟨i,n,rfl,g1,g2,g3,g4,g5,rfl⟩
  try rw[hcs]
  revert hK K;refine qW0 ?_;intro K hK;simp only[lb];refine GFork.mk (fun h3=>?_) (fun h3=>?_)<;>cbv
  ·have hlt:i < NB:=qv3
   obtain ⟨x,hx,hx',ht,e1⟩:=mpA hO hbl (hNB ▸ hlt);have hxm:x∈a++b:=List.mem_append_right _ hx;have ht2:(a++b).take (a.length+(i+1))=(a++b).take (a.length+i)++[x]:=take_snd ht;have e:bin .add .i64 (Int.ofNat i) 1=_:=iSc hO (by omega)
   have hidx:idx (Int.ofNat i) (len bl):=lb ▸ ixN hO hlt;have hst:=lowS_succ (d:=d) ht2;have hpx:=Sm.cnts_app ((a++b).take (a.length+i)) [x];rw[<-ht2,Sm.cnts_one] at hpx;have hcall:=ih x hxm (d+1) (by omega) (hwl x hxm)
   have hpp:=x.cnt_pos;generalize x.dep=xd at *;generalize x.cnt=xp at *;obtain ⟨k',s',t',x',a',b'⟩:=x;simp only[agT,Sm.t_mk,List.map,tA] at hcall e1;generalize x'.map Ex.t=xl' at hcall e1;generalize a'.map Sm.t=al' at hcall e1;generalize b'.map Sm.t=bl' at hcall e1;revert hK K;refine qW0 ?_;intro K hK;refine nC rfl (fun h5=>?_) (fun h5=>?_)
   ·have h60:n<=60:=qw5
    revert hK K;refine qW0 ?_;intro K hK
    repeat (simp only[e1];cbv)
    simp only[ed];refine ndC hidx (ndC hab (ndN ?_));refine qG ?_;refine qD hP hcall ?_;rintro res bx ⟨q,q1,q2,q3,q4,rfl,rfl⟩;refine qC ?_;have e2:bin .add .i64 (Int.ofNat n) (Int.ofNat q)=_:=add_nat hO (by omega)
    generalize hm3:n+q=m3 at e2;simp only[e2];revert hK K;refine qW0 ?_;intro K hK;rw[e];refine ⟨NB - (i+1),by omega,i+1,m3,by (try rw[hcs]);cbv,by omega,by omega,by omega,?_,fun h=>?_,by rw[hNB]⟩
    ·rw[hst]
     have:=g5 h60;have:=g4.1 h60
     constructor
     ·intro h
      have h7:q<=60:=by omega
      have:=q4 h7;exact ⟨g4.1 h60,(q3.1 h7).1,by omega⟩
     ·rintro ⟨_,h7,h8⟩
      have:=q3.2 ⟨h7,by omega⟩
      have:=q4 this;omega
    ·have:=g5 h60
     have:=q4 (by omega)
     omega
   ·have h60:60 < n:=qw5
    revert hK K;refine qW0 ?_;intro K hK;exact hend n g2 g3 ⟨fun h=>by omega,fun h=>g4.2 (lowS_mono (by omega) h)⟩ (fun h=>by omega)
  ·have hge:i=NB:=qw3
   have hil:i=b.length:=by omega
   rw[hil] at g4 g5;revert hK K;refine qW0 ?_;intro K hK;exact hend n g2 g3 g4 fun h=>by have:=g5 h;rwa[<-List.length_append,List.take_length] at this
theorem c_l9Count (r:Sm):CountAt r:=by
 obtain ⟨k,s,t,x,a,b⟩:=r;exact c_l9Count_step k s t x a b fun y hy=>c_l9Count y
termination_by SizeOf.sizeOf r
decreasing_by
 rcases List.mem_append.1 hy with hy | hy
 ·have:=List.sizeOf_lt_of_mem hy
  simp;omega
 ·have:=List.sizeOf_lt_of_mem hy
  simp;omega
abbrev SmOkAt (r:Sm):Prop:=r.sz<=1048576->ACl Tryz.prog 194 [agT r.t] [] (fun res bx=>∃b:Bool,(b=true↔r.ok)/\res=litB b/\bx=[])
def invD1 (xl:List (List T)) (l:List Sm) (N:Nat) (σ:AS):Prop:=
 ∃(i:Nat),σ=⟨vag 16 [(0,⟨.one,[.ro true xl]⟩),(3,litI (Int.ofNat i))],[],1⟩/\i<=l.length/\(∀x∈l.take i,x.ok)/\N=l.length - i
theorem c_l9Block (l:List Sm) (hl:l.length<=1048576) (hz:∀x∈l,x.sz<=1048576) (ih:∀x∈l,SmOkAt x) (xl:List (List T)) (hxl:xl=l.map Sm.t) :
  ACl Tryz.prog 216 [⟨.one,[.ro true xl]⟩] [] (fun res bx=>∃b:Bool,(b=true↔∀x∈l,x.ok)/\res=litB b/\bx=[]):=by
 refine qF tyK Tryz.func216 16 [.tmp 2] ?_;unhygienic intros;obtain ⟨N,hN⟩:=qX l.length;have hlen:len xl=N:=lnO hO (by simp[hxl,hN])
 have ha:all xl 6:=alO hO (by subst hxl;simp[Sm.t_len])
 have hnt:bnot true=false:=by cases hO;rfl
 have hnf:bnot false=true:=by cases hO;rfl
 rw[<-hN] at hl;revert hK K;refine qW0 ?_;intro K hK;refine qL 0 [0,3] kk0 (invD1 xl l) ?_ ?_
 ·cbv
  exact ⟨_,0,by cbv,by simp,by simp,rfl⟩
 rintro m σ ⟨i,rfl,g1,g2,rfl⟩;rw[<-hN] at g1 |-;revert hK K;refine qW0 ?_;intro K hK;simp only[hlen];refine nC rfl (fun h3=>?_) (fun h3=>?_)
 ·have hlt:i < N:=qv3
  obtain ⟨x,hx,hx',ht,e1⟩:=mpA hO hxl (hN ▸ hlt);have e:bin .add .i64 (Int.ofNat i) 1=_:=iSc hO (by omega)
  have hidx:idx (Int.ofNat i) (len xl):=hlen ▸ ixN hO hlt;have hcall:=ih x hx (hz x hx);obtain ⟨o,ho⟩:=qX x.ok;rw[<-ho] at hcall;obtain ⟨k',s',t',x',a',b'⟩:=x;simp only[agT,Sm.t_mk,List.map,tA] at hcall e1;generalize x'.map Ex.t=xl' at hcall e1;generalize a'.map Sm.t=al' at hcall e1;generalize b'.map Sm.t=bl' at hcall e1;revert hK K;refine qW0 ?_;intro K hK
  repeat (simp only[e1];cbv)
  refine ndC hidx (ndC ha (ndN ?_));revert hK K;refine qW0 ?_;intro K hK;refine qG ?_;refine qD hP hcall ?_;rintro res bx ⟨b,hb,rfl,rfl⟩;refine qC ?_;cases b
  ·revert hK K;refine qW0 ?_;intro K hK
   simp only[hnf];revert hK K;refine qW0 ?_;intro K hK;exact hR _ _ ⟨_,⟨fun h=>by simp at h,fun h=>absurd (hb.2 (ho ▸ h _ hx)) (by simp)⟩,rfl,rfl⟩
  ·have hok:=hb.1 rfl
   rw[ho] at hok;revert hK K;refine qW0 ?_;intro K hK;simp only[hnt];revert hK K;refine qW0 ?_;intro K hK;rw[e];refine ⟨N - (i+1),by omega,i+1,by cbv,by omega,?_,by rw[hN]⟩
   rw[ht];intro y hy;rcases List.mem_append.1 hy with hy | hy
   ·exact g2 y hy
   obtain rfl:=List.mem_singleton.1 hy;exact hok
 ·have hge:i=N:=qw3
  rw[List.take_of_length_le (by omega)] at g2
  revert hK K;refine qW0 ?_;intro K hK;exact hR _ _ ⟨_,⟨fun _=>g2,fun _=>rfl⟩,rfl,rfl⟩
def invD2 (cs:List A) (l:List Ex) (N:Nat) (σ:AS):Prop:=
 ∃(i:Nat),σ=⟨vag 30 [(1,⟨.one,[.ptr 0 0]⟩),(3,litI (Int.ofNat i))],[some cs],1⟩/\i<=l.length/\(∀x∈l.take i,x.good)/\N=l.length - i
theorem c_l9Ok_step (k:Int) (s t:ByteArray) (x:List Ex) (a b:List Sm) (ih:∀y∈a++b,SmOkAt y):SmOkAt (.mk k s t x a b):=by
 intro hw;rw[smok_iff];obtain ⟨hs,ht,hxs,hxz,hla,hlb,hwl⟩:=ssz_inv hw;have hhere:=c_l9Here k s t x a b hs ht;have hexp:=fun (e:Ex) (h:e∈x)=>c_ExprOk_spec e (hxz e h);have hba:=fun al h=>c_l9Block a hla (fun y hy=>hwl y (List.mem_append_left _ hy)) (fun y hy=>ih y (List.mem_append_left _ hy)) al h;have hbb:=fun bl h=>c_l9Block b hlb (fun y hy=>hwl y (List.mem_append_right _ hy)) (fun y hy=>ih y (List.mem_append_right _ hy)) bl h
 have hmem:(∀y∈a++b,y.ok)↔(∀y∈a,y.ok)/\∀y∈b,y.ok:=List.forall_mem_append;rw[hmem];generalize SmHere k s t x.length a.length b.length (headK x)=HH at *;obtain ⟨xl,hxl⟩:=qX (x.map Ex.t);obtain ⟨al,hal⟩:=qX (a.map Sm.t);obtain ⟨bl,hbl⟩:=qX (b.map Sm.t);rw[sm_agT,<-hxl,<-hal,<-hbl] at hhere |-;have hba:=hba al hal;have hbb:=hbb bl hbl;generalize hoa:(∀y∈a,y.ok)=oa at *;generalize hob:(∀y∈b,y.ok)=ob at *;clear hoa hob hmem ih hwl
 refine qF tyK Tryz.func194 30 [.tmp 2] ?_;unhygienic intros;obtain ⟨N,hN⟩:=qX x.length;have hlen:len xl=N:=lnO hO (by simp[hxl,hN])
 have ha:all xl 4:=alO hO (by subst hxl;simp[Ex.t_len])
 have hnt:bnot true=false:=by cases hO;rfl
 have hnf:bnot false=true:=by cases hO;rfl
 obtain ⟨cs,hcs⟩:=qX ([.lit (.int .i64 k),.lit (.string s),.lit (.string t),.ro true xl,.ro true al,.ro true bl]:List A);rw[<-hN] at hxs;revert hK K;refine qW0 ?_;intro K hK;refine qL 1 [1,3] kk0 (invD2 cs x) ?_ ?_
 ·cbv
  exact ⟨_,0,by (try rw[hcs]);cbv,by simp,by simp,rfl⟩
 rintro m σ ⟨i,rfl,g1,g2,rfl⟩
 try rw[hcs]
 revert hK K;refine qW0 ?_;intro K hK;simp only[hlen];refine nC rfl (fun h3=>?_) (fun h3=>?_)
 ·have hlt:i < N:=qv3
  obtain ⟨y,hx,hx',ht,e1⟩:=mpA hO hxl (hN ▸ hlt);have e:bin .add .i64 (Int.ofNat i) 1=_:=iSc hO (by omega)
  have hidx:idx (Int.ofNat i) (len xl):=hlen ▸ ixN hO hlt;have hcall:=hexp y hx;obtain ⟨o,ho⟩:=qX y.good;rw[<-ho] at hcall;obtain ⟨k',n',s',l'⟩:=y;simp only[agT,Ex.t_mk,List.map,tA] at hcall e1;generalize l'.map Ex.t=xl' at hcall e1;revert hK K;refine qW0 ?_;intro K hK
  repeat (simp only[e1];cbv)
  refine ndC hidx (ndC ha (ndN ?_));revert hK K;refine qW0 ?_;intro K hK;refine qG ?_;refine qD hP hcall ?_;rintro res bx ⟨r,hr,rfl,rfl⟩;refine qC ?_;cases r
  ·revert hK K;refine qW0 ?_;intro K hK
   simp only[hnf];revert hK K;refine qW0 ?_;intro K hK;exact hR _ _ ⟨_,⟨fun h=>by simp at h,fun h=>absurd (hr.2 (ho ▸ h.1.1 _ hx)) (by simp)⟩,rfl,rfl⟩
  ·have hok:=hr.1 rfl
   rw[ho] at hok;revert hK K;refine qW0 ?_;intro K hK;simp only[hnt];revert hK K;refine qW0 ?_;intro K hK;rw[e];refine ⟨N - (i+1),by omega,i+1,by (try rw[hcs]);cbv,by omega,?_,by rw[hN]⟩
   rw[ht];intro z hz;rcases List.mem_append.1 hz with hz | hz
   ·exact g2 z hz
   obtain rfl:=List.mem_singleton.1 hz;exact hok
 ·have hge:i=N:=qw3
  rw[List.take_of_length_le (by omega)] at g2
  revert hK K;refine qW0 ?_;intro K hK;refine qG ?_;refine qD hP hhere ?_;rintro res bx ⟨r,hr,rfl,rfl⟩;refine qC ?_;cases r
  ·revert hK K;refine qW0 ?_;intro K hK
   exact hR _ _ ⟨_,⟨fun h=>by simp at h,fun h=>hr.2 h.1.2⟩,rfl,rfl⟩
  ·revert hK K;refine qW0 ?_;intro K hK
   refine qG ?_;refine qD hP hba ?_;rintro res bx ⟨r,hra,rfl,rfl⟩;refine qC ?_;cases r
   ·revert hK K;refine qW0 ?_;intro K hK
    exact hR _ _ ⟨_,⟨fun h=>by simp at h,fun h=>hra.2 h.2.1⟩,rfl,rfl⟩
   ·revert hK K;refine qW0 ?_;intro K hK
    refine qG ?_;refine qD hP hbb ?_;rintro res bx ⟨r,hrb,rfl,rfl⟩;refine qC ?_;revert hK K;refine qW0 ?_;intro K hK;exact hR _ _ ⟨r,hrb.trans ⟨fun h=>⟨⟨g2,hr.1 rfl⟩,hra.1 rfl,h⟩,fun h=>h.2.2⟩,rfl,rfl⟩
theorem c_l9Ok (r:Sm):SmOkAt r:=by
 obtain ⟨k,s,t,x,a,b⟩:=r;exact c_l9Ok_step k s t x a b fun y hy=>c_l9Ok y
termination_by SizeOf.sizeOf r
decreasing_by
 rcases List.mem_append.1 hy with hy | hy
 ·have:=List.sizeOf_lt_of_mem hy
  simp;omega
 ·have:=List.sizeOf_lt_of_mem hy
  simp;omega
abbrev StmtQ (f:FuncId):Prop:=∀r:Sm,r.sz<=1048576->ACl Tryz.prog f [agT r.t] [] (fun res bx=>∃b:Bool,(b=true↔r.good)/\res=litB b/\bx=[])
theorem c_StmtOk_spec:StmtQ 157:=by
 intro r hw;have h1:=c_l9Count r 1 (by omega) hw
 have h2:=c_l9Ok r hw;have hg:r.good↔r.ok/\r.dep+1<=6/\r.cnt<=60:=by unfold Sm.good;constructor<;>(rintro ⟨a,b,c⟩;exact ⟨a,by omega,by omega⟩)
 rw[hg];clear hg;generalize r.ok=o at *;generalize r.dep=dp at *;generalize r.cnt=pt at *;obtain ⟨k,s,t,x,a,b⟩:=r;rw[sm_agT] at h1 h2 |-;generalize x.map Ex.t=xl at *;generalize a.map Sm.t=al at *;generalize b.map Sm.t=bl at *;refine qF tyK Tryz.func157 10 [.tmp 2] ?_;unhygienic intros;revert hK K;refine qW0 ?_;intro K hK;refine qG ?_;refine qD hP h1 ?_;rintro res bx ⟨n,n1,n2,n3,n4,rfl,rfl⟩;refine qC ?_
 revert hK K;refine qW0 ?_;intro K hK;refine GFork.mk (fun h3=>?_) (fun h3=>?_)<;>cbv
 ·have h60:n<=60:=qw3
  revert hK K;refine qW0 ?_;intro K hK;refine qG ?_;refine qD hP h2 ?_;rintro res bx ⟨b,hb,rfl,rfl⟩;refine qC ?_;revert hK K;refine qW0 ?_;intro K hK;exact hR _ _ ⟨b,hb.trans ⟨fun h=>⟨h,n3.1 h60⟩,fun h=>h.1⟩,rfl,rfl⟩
 ·have h60:60 < n:=qw3
  revert hK K;refine qW0 ?_;intro K hK;exact hR _ _ ⟨_,⟨fun h=>by simp at h,fun h=>by have:=n3.2 h.2;omega⟩,rfl,rfl⟩
end Go.Gv
