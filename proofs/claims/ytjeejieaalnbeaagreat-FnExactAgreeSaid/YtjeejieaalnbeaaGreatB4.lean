/- Part B4 of the proof: contracts of functions of the program, each walked once. -/
import Derived.Test.YtjeejieaalnbeaaGreatB1
import Derived.Test.YtjeejieaalnbeaaGreatQ1
set_option linter.all false
namespace Go.Gv
open Go.Av Go.Proofs Go.Shelf Go.RowKit
set_option maxRecDepth 10000
theorem depths_le {l:List Rx} {m:Nat}:Rx.depths l<=m↔∀x∈l,x.depth<=m:=by
 induction l with
 | nil=>simp[Rx.depths]
 | cons a l ih=>rw[Rx.depths,List.forall_mem_cons,<-ih];omega
theorem partss_app:∀a b,Rx.partss (a++b)=Rx.partss a+Rx.partss b
 | [],b=>by simp[Rx.partss]
 | e::a,b=>by rw[List.cons_append,Rx.partss,Rx.partss,partss_app a b];omega
theorem partss_one (x:Rx):Rx.partss [x]=x.parts:=by simp[Rx.partss]
theorem partss_take (l:List Rx) (i:Nat):Rx.partss (l.take i)<=Rx.partss l:=by
 have:=congrArg Rx.partss (List.take_append_drop i l);rw[partss_app] at this;omega
def lowTo (l:List Rx) (d i:Nat):Prop:=(∀x∈l.take i,x.depth+(d+1)<=7)/\1+Rx.partss (l.take i)<=60
theorem lowTo_all {k:Int} {s:ByteArray} {l:List Rx} {d:Nat} (hd:d<=6):lowTo l d l.length↔(Rx.mk k s l).depth+d<=7/\(Rx.mk k s l).parts<=60:=by
 unfold lowTo;rw[List.take_length,Rx.depth,Rx.parts];refine and_congr_left fun _=>?_;rw[show 1+Rx.depths l+d<=7↔Rx.depths l<=6 - d by omega,depths_le]
 exact forall_congr' fun x=>forall_congr' fun _=>by omega
theorem lowTo_mono {l:List Rx} {d i:Nat} (h:lowTo l d l.length):lowTo l d i:=by
 unfold lowTo at *;rw[List.take_length] at h;exact ⟨fun x hx=>h.1 x (List.mem_of_mem_take hx),by have:=partss_take l i;omega⟩
theorem lowTo_succ {l:List Rx} {d i:Nat} {x:Rx} (ht:l.take (i+1)=l.take i++[x]):lowTo l d (i+1)↔lowTo l d i/\x.depth+(d+1)<=7/\1+Rx.partss (l.take i)+x.parts<=60:=by
 unfold lowTo;rw[ht,partss_app,partss_one];simp only[List.mem_append,List.mem_singleton]
 constructor
 ·rintro ⟨h1,h2⟩;exact ⟨⟨fun y hy=>h1 y (.inl hy),by omega⟩,h1 x (.inr rfl),by omega⟩
 ·rintro ⟨⟨h1,h2⟩,h3,h4⟩
  refine ⟨fun y hy=>?_,by omega⟩
  rcases hy with hy | rfl
  ·exact h1 y hy
  ·exact h3
def inv256 (cs:List A) (l:List Rx) (d:Nat) (N:Nat) (σ:AS):Prop:=
 ∃(i n:Nat),σ=⟨vag 31 [(1,litI (Int.ofNat d)),(2,⟨.one,[.ptr 0 0]⟩),(5,litI (Int.ofNat n)),(6,litI (Int.ofNat i))],[some cs],1⟩/\i<=l.length/\
  1<=n/\n<=61+60 * (7 - d)/\(n<=60↔lowTo l d i)/\(n<=60->n=1+Rx.partss (l.take i))/\N=l.length - i
theorem c_l3Parts (r:Rx):∀(d:Nat),d<=7->r.Wf->ACl Tryz.prog 256 [agT r.t,litI (Int.ofNat d)] []
  (fun res bx=>∃n:Nat,1<=n/\n<=61+60 * (7 - d)/\(n<=60↔r.depth+d<=7/\r.parts<=60)/\(n<=60->n=r.parts)/\res=litI (Int.ofNat n)/\bx=[]):=by
 obtain ⟨k,s,l⟩:=r;intro d hd hw;have ih:=fun x (hx:x∈l)=>c_l3Parts x;have hlow:=fun h:d<=6=>lowTo_all (k:=k) (s:=s) (l:=l) h;have hpar:(Rx.mk k s l).parts=1+Rx.partss l:=by rw[Rx.parts]
 have hdep:1<=(Rx.mk k s l).depth:=Rx.depth_pos _;generalize (Rx.mk k s l).depth=dep at *;generalize (Rx.mk k s l).parts=par at *;obtain ⟨hsz,hll,hwl⟩:=hw.inv;obtain ⟨xl,hxl⟩:=qX (l.map Rx.t);simp only[agT,Rx.t_mk,List.map,tA];rw[<-hxl];refine qF tyK Tryz.func256 31 [.tmp 4] ?_;unhygienic intros;obtain ⟨N,hN⟩:=qX l.length;have hlen:len xl=N:=lnO hO (by simp[hxl,hN])
 have ha:all xl 3:=alO hO (by subst hxl;simp[Rx.t_len])
 obtain ⟨cs,hcs⟩:=qX ([.lit (.int .i64 k),.lit (.string s),.ro true xl]:List A);rw[<-hN] at hll;revert hK K;refine qW0 ?_;intro K hK;refine nC rfl (fun h1=>?_) (fun h1=>?_)
 ·have h2:6 < d:=qw1
  revert hK K;refine qW0 ?_;intro K hK;exact hR _ _ ⟨61,by omega,by omega,by omega,by omega,rfl,rfl⟩
 ·have h2:d<=6:=qw1
  have hlow:=hlow h2;have ed:bin .add .i64 (Int.ofNat d) 1=_:=iSc hO (by omega)
  revert hK K;refine qW0 ?_;intro K hK;refine qL 1 [1,2,5,6] kk0 (inv256 cs l d) ?_ ?_
  ·cbv
   exact ⟨_,0,1,by (try rw[hcs]);cbv,by simp,by omega,by omega,by simp[lowTo,Rx.partss],by simp[Rx.partss],rfl⟩
  rintro m σ ⟨i,n,rfl,g1,g2,g3,g4,g5,rfl⟩
  try rw[hcs]
  revert hK K;refine qW0 ?_;intro K hK;simp only[hlen];refine GFork.mk (fun h3=>?_) (fun h3=>?_)<;>cbv
  ·have hlt:i < N:=qv3
   obtain ⟨x,hx,hx',ht,e1⟩:=mpA hO hxl (hN ▸ hlt);have e:bin .add .i64 (Int.ofNat i) 1=_:=iSc hO (by omega)
   have hidx:idx (Int.ofNat i) (len xl):=hlen ▸ ixN hO hlt;have hst:=lowTo_succ (d:=d) ht;have hpx:=partss_app (l.take i) [x];rw[<-ht,partss_one] at hpx;have hcall:=ih x hx (d+1) (by omega) (hwl x hx)
   have hpp:=x.parts_pos;generalize x.depth=xd at *;generalize x.parts=xp at *;obtain ⟨k',s',l'⟩:=x;simp only[agT,Rx.t_mk,List.map,tA] at hcall e1;generalize l'.map Rx.t=xl' at hcall e1;revert hK K;refine qW0 ?_;intro K hK;refine nC rfl (fun h5=>?_) (fun h5=>?_)
   ·have h60:n<=60:=qw5
    revert hK K;refine qW0 ?_;intro K hK
    repeat (simp only[e1];cbv)
    simp only[ed];refine ndC hidx (ndC ha (ndN ?_));refine qG ?_;refine qD hP hcall ?_;rintro res bx ⟨q,q1,q2,q3,q4,rfl,rfl⟩;refine qC ?_;have e2:bin .add .i64 (Int.ofNat n) (Int.ofNat q)=_:=add_nat hO (by omega)
    generalize hm3:n+q=m3 at e2;simp only[e2];revert hK K;refine qW0 ?_;intro K hK;rw[e];refine ⟨N - (i+1),by omega,i+1,m3,by (try rw[hcs]);cbv,by omega,by omega,by omega,?_,fun h=>?_,by rw[hN]⟩
    ·rw[hst]
     have:=g5 h60;have:=g4.1 h60
     constructor
     ·intro h
      have h7:q<=60:=by omega
      have:=q4 h7;exact ⟨g4.1 h60,(q3.1 h7).1,by omega⟩
     ·rintro ⟨_,h7,h8⟩
      have:=q3.2 ⟨h7,by omega⟩
      have:=q4 this;omega
    ·have:=g5 h60
     have:=q4 (by omega)
     omega
   ·have h60:60 < n:=qw5
    revert hK K;refine qW0 ?_;intro K hK;refine hR _ _ ⟨n,g2,g3,⟨fun h=>by omega,fun h=>?_⟩,fun h=>by omega,rfl,rfl⟩
    exact g4.2 (lowTo_mono (hlow.2 h))
  ·have hge:i=N:=qw3
   have hil:i=l.length:=by omega
   have e2:l.take i=l:=List.take_of_length_le (by omega)
   rw[e2] at g5;rw[hil,hlow] at g4;revert hK K;refine qW0 ?_;intro K hK;exact hR _ _ ⟨n,g2,g3,g4,fun h=>by rw[g5 h,hpar],rfl,rfl⟩
termination_by SizeOf.sizeOf r
decreasing_by
 have:=List.sizeOf_lt_of_mem hx;simp;omega
end Go.Gv
