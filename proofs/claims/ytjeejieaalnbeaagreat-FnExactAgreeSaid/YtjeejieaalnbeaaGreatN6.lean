/- Part N6 of the proof: contracts of functions of the program, each walked once. -/
import Derived.Test.YtjeejieaalnbeaaGreatN5
import Derived.Test.YtjeejieaalnbeaaGreatK1
import Derived.Test.YtjeejieaalnbeaaGreatQ1
set_option linter.all false
namespace Go.Gv
open Go.Av Go.Proofs Go.Shelf Go.RowKit
set_option maxRecDepth 10000
set_option maxHeartbeats 4000000
mutual
def Ex.depth:Ex->Nat
 | .mk _ _ _ l=>1+Ex.depths l
def Ex.depths:List Ex->Nat
 | []=>0
 | e::l=>max (Ex.depth e) (Ex.depths l)
end
theorem Ex.depths_le {l:List Ex} {m:Nat}:Ex.depths l<=m↔∀x∈l,x.depth<=m:=by
 induction l with
 | nil=>simp[Ex.depths]
 | cons a l ih=>rw[Ex.depths,List.forall_mem_cons,<-ih];omega
theorem Ex.depth_pos (e:Ex):1<=e.depth:=by cases e;rw[Ex.depth];omega
theorem Ex.parts_pos (e:Ex):1<=e.parts:=by cases e;rw[Ex.parts];omega
theorem Ex.szs_mem:∀{l:List Ex} {x:Ex},x∈l->x.sz<=Ex.szs l
 | [],x,h=>by simp at h
 | y::l,x,h=>by
  rw[Ex.szs];rcases List.mem_cons.1 h with rfl | h
  ·omega
  ·have:=Ex.szs_mem h;omega
theorem Ex.partss_take (l:List Ex) (i:Nat):Ex.partss (l.take i)<=Ex.partss l:=by
 have:=congrArg Ex.partss (List.take_append_drop i l);rw[Ex.partss_app] at this;omega
inductive Ex.ok:Ex->Prop where
 | mk {k n:Int} {s:ByteArray} {l:List Ex} (h:ExHere k n s l.length) (hl:∀x∈l,Ex.ok x):Ex.ok (.mk k n s l)
theorem exok_iff {k n:Int} {s:ByteArray} {l:List Ex}:(Ex.mk k n s l).ok↔ExHere k n s l.length/\∀x∈l,Ex.ok x:=⟨fun h=>by cases h with | mk h hl=>exact ⟨h,hl⟩,fun h=>.mk h.1 h.2⟩
def Ex.good (e:Ex):Prop:=e.ok/\e.parts<=100/\e.depth<=10
theorem sz_inv {k n:Int} {s:ByteArray} {l:List Ex} (h:(Ex.mk k n s l).sz<=1048576):s.size<=1048576/\l.length<=1048576/\∀x∈l,x.sz<=1048576:=by
 rw[Ex.sz] at h;exact ⟨by omega,by omega,fun x hx=>by have:=Ex.szs_mem hx;omega⟩
def lowX (l:List Ex) (d i:Nat):Prop:=(∀x∈l.take i,x.depth+(d+1)<=11)/\1+Ex.partss (l.take i)<=100
theorem lowX_all {k n:Int} {s:ByteArray} {l:List Ex} {d:Nat} (hd:d<=10):lowX l d l.length↔(Ex.mk k n s l).depth+d<=11/\(Ex.mk k n s l).parts<=100:=by
 unfold lowX;rw[List.take_length,Ex.depth,Ex.parts];refine and_congr_left fun _=>?_;rw[show 1+Ex.depths l+d<=11↔Ex.depths l<=10 - d by omega,Ex.depths_le]
 exact forall_congr' fun x=>forall_congr' fun _=>by omega
theorem lowX_mono {l:List Ex} {d i:Nat} (h:lowX l d l.length):lowX l d i:=by
 unfold lowX at *;rw[List.take_length] at h;exact ⟨fun x hx=>h.1 x (List.mem_of_mem_take hx),by have:=Ex.partss_take l i;omega⟩
theorem lowX_succ {l:List Ex} {d i:Nat} {x:Ex} (ht:l.take (i+1)=l.take i++[x]):lowX l d (i+1)↔lowX l d i/\x.depth+(d+1)<=11/\1+Ex.partss (l.take i)+x.parts<=100:=by
 unfold lowX;rw[ht,Ex.partss_app,Ex.partss_one];simp only[List.mem_append,List.mem_singleton]
 constructor
 ·rintro ⟨h1,h2⟩;exact ⟨⟨fun y hy=>h1 y (.inl hy),by omega⟩,h1 x (.inr rfl),by omega⟩
 ·rintro ⟨⟨h1,h2⟩,h3,h4⟩
  refine ⟨fun y hy=>?_,by omega⟩
  rcases hy with hy | rfl
  ·exact h1 y hy
  ·exact h3
def invN6 (cs:List A) (l:List Ex) (d:Nat) (N:Nat) (σ:AS):Prop:=
 ∃(i n:Nat),σ=⟨vag 31 [(1,litI (Int.ofNat d)),(2,⟨.one,[.ptr 0 0]⟩),(5,litI (Int.ofNat n)),(6,litI (Int.ofNat i))],[some cs],1⟩/\i<=l.length/\
  1<=n/\n<=101+100 * (11 - d)/\(n<=100↔lowX l d i)/\(n<=100->n=1+Ex.partss (l.take i))/\N=l.length - i
theorem c_l8Parts (r:Ex):∀(d:Nat),d<=11->r.sz<=1048576->ACl Tryz.prog 188 [agT r.t,litI (Int.ofNat d)] []
  (fun res bx=>∃n:Nat,1<=n/\n<=101+100 * (11 - d)/\(n<=100↔r.depth+d<=11/\r.parts<=100)/\(n<=100->n=r.parts)/\res=litI (Int.ofNat n)/\bx=[]):=by
 obtain ⟨k,n0,s,l⟩:=r;intro d hd hw;have ih:=fun x (hx:x∈l)=>c_l8Parts x;have hlow:=fun h:d<=10=>lowX_all (k:=k) (n:=n0) (s:=s) (l:=l) h;have hpar:(Ex.mk k n0 s l).parts=1+Ex.partss l:=by rw[Ex.parts]
 have hdep:1<=(Ex.mk k n0 s l).depth:=Ex.depth_pos _;generalize (Ex.mk k n0 s l).depth=dep at *;generalize (Ex.mk k n0 s l).parts=par at *;obtain ⟨hsz,hll,hwl⟩:=sz_inv hw;obtain ⟨xl,hxl⟩:=qX (l.map Ex.t);simp only[agT,Ex.t_mk,List.map,tA];rw[<-hxl];refine qF tyK Tryz.func188 31 [.tmp 4] ?_;unhygienic intros;obtain ⟨N,hN⟩:=qX l.length;have hlen:len xl=N:=lnO hO (by simp[hxl,hN])
 have ha:all xl 4:=alO hO (by subst hxl;simp[Ex.t_len])
 obtain ⟨cs,hcs⟩:=qX ([.lit (.int .i64 k),.lit (.int .i64 n0),.lit (.string s),.ro true xl]:List A);rw[<-hN] at hll;revert hK K;refine qW0 ?_;intro K hK;refine nC rfl (fun h1=>?_) (fun h1=>?_)
 ·have h2:10 < d:=qw1
  revert hK K;refine qW0 ?_;intro K hK;exact hR _ _ ⟨101,by omega,by omega,by omega,by omega,rfl,rfl⟩
 ·have h2:d<=10:=qw1
  have hlow:=hlow h2;have ed:bin .add .i64 (Int.ofNat d) 1=_:=iSc hO (by omega)
  revert hK K;refine qW0 ?_;intro K hK;refine qL 1 [1,2,5,6] kk0 (invN6 cs l d) ?_ ?_
  ·cbv
   exact ⟨_,0,1,by (try rw[hcs]);cbv,by simp,by omega,by omega,by simp[lowX,Ex.partss],by simp[Ex.partss],rfl⟩
  rintro m σ ⟨i,n,rfl,g1,g2,g3,g4,g5,rfl⟩
  try rw[hcs]
  revert hK K;refine qW0 ?_;intro K hK;simp only[hlen];refine GFork.mk (fun h3=>?_) (fun h3=>?_)<;>cbv
  ·have hlt:i < N:=qv3
   obtain ⟨x,hx,hx',ht,e1⟩:=mpA hO hxl (hN ▸ hlt);have e:bin .add .i64 (Int.ofNat i) 1=_:=iSc hO (by omega)
   have hidx:idx (Int.ofNat i) (len xl):=hlen ▸ ixN hO hlt;have hst:=lowX_succ (d:=d) ht;have hpx:=Ex.partss_app (l.take i) [x];rw[<-ht,Ex.partss_one] at hpx;have hcall:=ih x hx (d+1) (by omega) (hwl x hx)
   have hpp:=x.parts_pos;generalize x.depth=xd at *;generalize x.parts=xp at *;obtain ⟨k',n',s',l'⟩:=x;simp only[agT,Ex.t_mk,List.map,tA] at hcall e1;generalize l'.map Ex.t=xl' at hcall e1;revert hK K;refine qW0 ?_;intro K hK;refine nC rfl (fun h5=>?_) (fun h5=>?_)
   ·have h100:n<=100:=qw5
    revert hK K;refine qW0 ?_;intro K hK
    repeat (simp only[e1];cbv)
    simp only[ed];refine ndC hidx (ndC ha (ndN ?_));refine qG ?_;refine qD hP hcall ?_;rintro res bx ⟨q,q1,q2,q3,q4,rfl,rfl⟩;refine qC ?_;have e2:bin .add .i64 (Int.ofNat n) (Int.ofNat q)=_:=add_nat hO (by omega)
    generalize hm3:n+q=m3 at e2;simp only[e2];revert hK K;refine qW0 ?_;intro K hK;rw[e];refine ⟨N - (i+1),by omega,i+1,m3,by (try rw[hcs]);cbv,by omega,by omega,by omega,?_,fun h=>?_,by rw[hN]⟩
    ·rw[hst]
     have:=g5 h100;have:=g4.1 h100
     constructor
     ·intro h
      have h7:q<=100:=by omega
      have:=q4 h7;exact ⟨g4.1 h100,(q3.1 h7).1,by omega⟩
     ·rintro ⟨_,h7,h8⟩
      have:=q3.2 ⟨h7,by omega⟩
      have:=q4 this;omega
    ·have:=g5 h100
     have:=q4 (by omega)
     omega
   ·have h100:100 < n:=qw5
    revert hK K;refine qW0 ?_;intro K hK;refine hR _ _ ⟨n,g2,g3,⟨fun h=>by omega,fun h=>?_⟩,fun h=>by omega,rfl,rfl⟩
    exact g4.2 (lowX_mono (hlow.2 h))
  ·have hge:i=N:=qw3
   have hil:i=l.length:=by omega
   have e2:l.take i=l:=List.take_of_length_le (by omega)
   rw[e2] at g5;rw[hil,hlow] at g4;revert hK K;refine qW0 ?_;intro K hK;exact hR _ _ ⟨n,g2,g3,g4,fun h=>by rw[g5 h,hpar],rfl,rfl⟩
termination_by SizeOf.sizeOf r
decreasing_by
 have:=List.sizeOf_lt_of_mem hx;simp;omega
def invN7 (cs:List A) (l:List Ex) (N:Nat) (σ:AS):Prop:=
 ∃(i:Nat),σ=⟨vag 20 [(1,⟨.one,[.ptr 0 0]⟩),(3,litI (Int.ofNat i))],[some cs],1⟩/\i<=l.length/\(∀x∈l.take i,x.ok)/\N=l.length - i
abbrev ExOkAt (f:FuncId) (r:Ex):Prop:=r.sz<=1048576->ACl Tryz.prog f [agT r.t] [] (fun res bx=>∃b:Bool,(b=true↔r.ok)/\res=litB b/\bx=[])
theorem c_l8Ok_step (k n0:Int) (s:ByteArray) (l:List Ex) (ih:∀x∈l,ExOkAt 189 x):ExOkAt 189 (.mk k n0 s l):=by
 intro hw;rw[exok_iff];obtain ⟨hsz,hll,hwl⟩:=sz_inv hw;have hhere:=c_l8Here k n0 s l hsz;generalize ExHere k n0 s l.length=HH at *;obtain ⟨xl,hxl⟩:=qX (l.map Ex.t);simp only[agT,Ex.t_mk,List.map,tA] at hhere |-;rw[<-hxl] at hhere |-;refine qF tyK Tryz.func189 20 [.tmp 2] ?_;unhygienic intros;obtain ⟨N,hN⟩:=qX l.length;have hlen:len xl=N:=lnO hO (by simp[hxl,hN])
 have ha:all xl 4:=alO hO (by subst hxl;simp[Ex.t_len])
 have hnt:bnot true=false:=by cases hO;rfl
 have hnf:bnot false=true:=by cases hO;rfl
 obtain ⟨cs,hcs⟩:=qX ([.lit (.int .i64 k),.lit (.int .i64 n0),.lit (.string s),.ro true xl]:List A);rw[<-hN] at hll;revert hK K;refine qW0 ?_;intro K hK;refine qL 1 [1,3] kk0 (invN7 cs l) ?_ ?_
 ·cbv
  exact ⟨_,0,by (try rw[hcs]);cbv,by simp,by simp,rfl⟩
 rintro m σ ⟨i,rfl,g1,g2,rfl⟩
 try rw[hcs]
 revert hK K;refine qW0 ?_;intro K hK;simp only[hlen];refine nC rfl (fun h3=>?_) (fun h3=>?_)
 ·have hlt:i < N:=qv3
  obtain ⟨x,hx,hx',ht,e1⟩:=mpA hO hxl (hN ▸ hlt);have e:bin .add .i64 (Int.ofNat i) 1=_:=iSc hO (by omega)
  have hidx:idx (Int.ofNat i) (len xl):=hlen ▸ ixN hO hlt;have hcall:=ih x hx (hwl x hx);obtain ⟨o,ho⟩:=qX x.ok;rw[<-ho] at hcall;obtain ⟨k',n',s',l'⟩:=x;simp only[agT,Ex.t_mk,List.map,tA] at hcall e1;generalize l'.map Ex.t=xl' at hcall e1;revert hK K;refine qW0 ?_;intro K hK
  repeat (simp only[e1];cbv)
  refine ndC hidx (ndC ha (ndN ?_));revert hK K;refine qW0 ?_;intro K hK;refine qG ?_;refine qD hP hcall ?_;rintro res bx ⟨b,hb,rfl,rfl⟩;refine qC ?_;cases b
  ·revert hK K;refine qW0 ?_;intro K hK
   simp only[hnf];revert hK K;refine qW0 ?_;intro K hK;refine hR _ _ ⟨_,⟨fun h=>by simp at h,fun h=>absurd (hb.2 (ho ▸ h.2 _ hx)) (by simp)⟩,rfl,rfl⟩
  ·have hok:=hb.1 rfl
   rw[ho] at hok;revert hK K;refine qW0 ?_;intro K hK;simp only[hnt];revert hK K;refine qW0 ?_;intro K hK;rw[e];refine ⟨N - (i+1),by omega,i+1,by (try rw[hcs]);cbv,by omega,?_,by rw[hN]⟩
   rw[ht];intro y hy;rcases List.mem_append.1 hy with hy | hy
   ·exact g2 y hy
   obtain rfl:=List.mem_singleton.1 hy;exact hok
 ·have hge:i=N:=qw3
  rw[List.take_of_length_le (by omega)] at g2
  revert hK K;refine qW0 ?_;intro K hK;refine qG ?_;refine qD hP hhere ?_;rintro res bx ⟨b,hb,rfl,rfl⟩;refine qC ?_;revert hK K;refine qW0 ?_;intro K hK;exact hR _ _ ⟨b,hb.trans ⟨fun h=>⟨h,g2⟩,fun h=>h.1⟩,rfl,rfl⟩
theorem c_l8Ok (r:Ex):ExOkAt 189 r:=by
 obtain ⟨k,n,s,l⟩:=r;exact c_l8Ok_step k n s l fun x hx=>c_l8Ok x
termination_by SizeOf.sizeOf r
decreasing_by
 have:=List.sizeOf_lt_of_mem hx;simp;omega
def goodX (l:List Ex) (d i:Nat):Prop:=∀x∈l.take i,x.ok/\x.depth+(d+1)<=11
def Ex.goodAt (r:Ex) (d:Nat):Prop:=r.ok/\r.depth+d<=11/\r.parts<=100
abbrev XPartsAt (r:Ex):Prop:=∀(d:Nat),d<=11->r.sz<=1048576->ACl Tryz.prog 199 [agT r.t,litI (Int.ofNat d)] []
  (fun res bx=>∃n:Nat,1<=n/\n<=101/\(n<=100↔r.goodAt d)/\(n<=100->n=r.parts)/\res=litI (Int.ofNat n)/\bx=[])
def invN8 (cs:List A) (xl:List (List T)) (l:List Ex) (d:Nat) (N:Nat) (σ:AS):Prop:=
 ∃(i n:Nat),σ=⟨vag 32 [(1,litI (Int.ofNat d)),(5,litI (Int.ofNat n)),(16,⟨.one,[.ro true xl]⟩),(17,litI (Int.ofNat l.length)),(18,litI (Int.ofNat i))],[some cs],1⟩/\i<=l.length/\
  n=1+Ex.partss (l.take i)/\n<=100/\goodX l d i/\N=l.length - i
theorem c_exprParts_step (k n0:Int) (s:ByteArray) (l:List Ex) (ih:∀x∈l,XPartsAt x):XPartsAt (.mk k n0 s l):=by
 intro d hd hw;obtain ⟨hsz,hll,hwl⟩:=sz_inv hw;have hgood:d<=10->ExHere k n0 s l.length->((Ex.mk k n0 s l).goodAt d↔goodX l d l.length/\1+Ex.partss l<=100):=fun hd6 hh=>by
  have hlow:=lowX_all (k:=k) (n:=n0) (s:=s) (l:=l) hd6;unfold Ex.goodAt goodX;rw[exok_iff,List.take_length,Ex.parts];unfold lowX at hlow;rw[List.take_length,Ex.parts] at hlow
  constructor
  ·rintro ⟨⟨_,h1⟩,h2,h3⟩;exact ⟨fun x hx=>⟨h1 x hx,(hlow.2 ⟨h2,h3⟩).1 x hx⟩,h3⟩
  ·rintro ⟨h1,h2⟩
   have:=hlow.1 ⟨fun x hx=>(h1 x hx).2,h2⟩;exact ⟨⟨hh,fun x hx=>(h1 x hx).1⟩,this⟩
 have hbad:(Ex.mk k n0 s l).goodAt d->d<=10/\ExHere k n0 s l.length:=fun h=>⟨by have:=Ex.depth_pos (.mk k n0 s l);have:=h.2.1;omega,(exok_iff.1 h.1).1⟩
 have hpar:(Ex.mk k n0 s l).parts=1+Ex.partss l:=by rw[Ex.parts]
 have hhere:=c_exprHeadOk k n0 s l hsz;generalize (Ex.mk k n0 s l).goodAt d=GD at hgood hbad |-;generalize (Ex.mk k n0 s l).parts=par at *;generalize ExHere k n0 s l.length=HH at *;obtain ⟨xl,hxl⟩:=qX (l.map Ex.t);simp only[agT,Ex.t_mk,List.map,tA] at hhere |-;rw[<-hxl] at hhere |-;refine qF tyK Tryz.func199 32 [.tmp 4] ?_;unhygienic intros;obtain ⟨N,hN⟩:=qX l.length;have hlen:len xl=N:=lnO hO (by simp[hxl,hN])
 have ha:all xl 4:=alO hO (by subst hxl;simp[Ex.t_len])
 have hnt:bnot true=false:=by cases hO;rfl
 have hnf:bnot false=true:=by cases hO;rfl
 rw[<-hN] at hll;obtain ⟨cs,hcs⟩:=qX ([.lit (.int .i64 k),.lit (.int .i64 n0),.lit (.string s),.ro true xl]:List A);have ed:bin .add .i64 (Int.ofNat d) 1=_:=iSc hO (by omega)
 revert hK K;refine qW0 ?_;intro K hK;refine GFork.mk (fun h1=>?_) (fun h1=>?_)<;>cbv
 ·have h2:10 < d:=qw1
  revert hK K;refine qW0 ?_;intro K hK;exact hR _ _ ⟨101,by omega,by omega,⟨fun h=>by omega,fun h=>by have:=(hbad h).1;omega⟩,by omega,rfl,rfl⟩
 have h2:d<=10:=qw1;clear h1;have hgood:=hgood h2;revert hK K;refine qW0 ?_;intro K hK;refine qG ?_;refine qD hP hhere ?_;rintro res bx ⟨b,hb,rfl,rfl⟩;refine qC ?_;cases b
 ·revert hK K;refine qW0 ?_;intro K hK
  simp only[hnf];revert hK K;refine qW0 ?_;intro K hK;exact hR _ _ ⟨101,by omega,by omega,⟨fun h=>by omega,fun h=>absurd (hb.2 (hbad h).2) (by simp)⟩,by omega,rfl,rfl⟩
 ·have hgood:=hgood (hb.1 rfl)
  revert hK K;refine qW0 ?_;intro K hK;simp only[hnt];revert hK K;refine qW0 ?_;intro K hK;simp only[hlen];refine qL 1 [1,5,16,17,18] kk0 (invN8 cs xl l d) ?_ ?_
  ·cbv
   exact ⟨_,0,1,by (try rw[hcs]);rw[<-hN];cbv,by simp,by simp[Ex.partss],by omega,by simp[goodX],rfl⟩
  rintro m σ ⟨i,n,rfl,g1,g2,g3,g4,rfl⟩
  try rw[hcs]
  rw[<-hN];revert hK K;refine qW0 ?_;intro K hK;refine nC rfl (fun h3=>?_) (fun h3=>?_)
  ·have hlt:i < N:=qv3
   obtain ⟨x,hx,hx',ht,e1⟩:=mpA hO hxl (hN ▸ hlt);have e:bin .add .i64 (Int.ofNat i) 1=_:=iSc hO (by omega)
   have hidx:idx (Int.ofNat i) (len xl):=hlen ▸ ixN hO hlt;have hpx:=Ex.partss_app (l.take i) [x];rw[<-ht,Ex.partss_one] at hpx;have hcall:=ih x hx (d+1) (by omega) (hwl x hx)
   have hpt:=Ex.partss_take l (i+1);have hlast:goodX l d l.length->x.ok/\x.depth+(d+1)<=11:=fun h=>by
    unfold goodX at h;rw[List.take_length] at h;exact h x hx
   have hnext:x.goodAt (d+1)->goodX l d (i+1):=fun h y hy=>by
    rw[ht] at hy;rcases List.mem_append.1 hy with hy | hy
    ·exact g4 y hy
    ·obtain rfl:=List.mem_singleton.1 hy;exact ⟨h.1,h.2.1⟩
   have hga:x.ok->x.depth+(d+1)<=11->x.parts<=100->x.goodAt (d+1):=fun a b c=>⟨a,b,c⟩;generalize x.goodAt (d+1)=ga at *;generalize x.depth=xd at *;generalize x.parts=xp at *;generalize x.ok=xo at *;obtain ⟨k',n',s',l'⟩:=x;simp only[agT,Ex.t_mk,List.map,tA] at hcall e1;generalize l'.map Ex.t=xl' at hcall e1;revert hK K;refine qW0 ?_;intro K hK
   repeat (simp only[e1];cbv)
   refine ndC hidx (ndC ha (ndN ?_));revert hK K;refine qW0 ?_;intro K hK;simp only[ed];refine qG ?_;refine qD hP hcall ?_;rintro res bx ⟨q,q1,q2,q3,q4,rfl,rfl⟩;refine qC ?_;have e2:bin .add .i64 (Int.ofNat n) (Int.ofNat q)=_:=add_nat hO (by omega)
   generalize hm3:n+q=m3 at e2;simp only[e2];revert hK K;refine qW0 ?_;intro K hK;refine nC rfl (fun h5=>?_) (fun h5=>?_)
   ·have h101:101<=m3:=qw5
    revert hK K;refine qW0 ?_;intro K hK;refine hR _ _ ⟨101,by omega,by omega,⟨fun h=>by omega,fun h=>?_⟩,by omega,rfl,rfl⟩
    obtain ⟨h6,h7⟩:=hgood.1 h;obtain ⟨h8,h9⟩:=hlast h6;have h10:=q3.2 (hga h8 h9 (by omega))
    have:=q4 h10;omega
   ·have h101:m3 < 101:=qw5
    revert hK K;refine qW0 ?_;intro K hK;rw[e];have h7:q<=100:=by omega
    have:=q4 h7;exact ⟨N - (i+1),by omega,i+1,m3,by (try rw[hcs]);rw[<-hN];cbv,by omega,by omega,by omega,hnext (q3.1 h7),by rw[hN]⟩
  ·have hge:i=N:=qw3
   have hil:i=l.length:=by omega
   rw[List.take_of_length_le (by omega)] at g2
   rw[hil] at g4;revert hK K;refine qW0 ?_;intro K hK;exact hR _ _ ⟨n,by omega,by omega,⟨fun _=>hgood.2 ⟨g4,by omega⟩,fun _=>g3⟩,fun _=>by omega,rfl,rfl⟩
theorem c_exprParts (r:Ex):XPartsAt r:=by
 obtain ⟨k,n,s,l⟩:=r;exact c_exprParts_step k n s l fun x hx=>c_exprParts x
termination_by SizeOf.sizeOf r
decreasing_by
 have:=List.sizeOf_lt_of_mem hx;simp;omega
abbrev ExprQ (f:FuncId):Prop:=∀r:Ex,r.sz<=1048576->ACl Tryz.prog f [agT r.t] [] (fun res bx=>∃b:Bool,(b=true↔r.good)/\res=litB b/\bx=[])
theorem c_ExprOk_spec:ExprQ 154:=by
 intro r hw;have h1:=c_l8Parts r 1 (by omega) hw
 have h2:=c_l8Ok r hw;have hg:r.good↔r.ok/\r.depth+1<=11/\r.parts<=100:=by unfold Ex.good;constructor<;>(rintro ⟨a,b,c⟩;exact ⟨a,by omega,by omega⟩)
 rw[hg];clear hg;generalize r.ok=o at *;generalize r.depth=dp at *;generalize r.parts=pt at *;obtain ⟨k,n,s,l⟩:=r;simp only[agT,Ex.t_mk,List.map,tA] at h1 h2 |-;generalize l.map Ex.t=xl at *;refine qF tyK Tryz.func154 10 [.tmp 2] ?_;unhygienic intros;revert hK K;refine qW0 ?_;intro K hK;refine qG ?_;refine qD hP h1 ?_;rintro res bx ⟨n,n1,n2,n3,n4,rfl,rfl⟩;refine qC ?_;revert hK K;refine qW0 ?_;intro K hK
 refine GFork.mk (fun h3=>?_) (fun h3=>?_)<;>cbv
 ·have h60:n<=100:=qw3
  revert hK K;refine qW0 ?_;intro K hK;refine qG ?_;refine qD hP h2 ?_;rintro res bx ⟨b,hb,rfl,rfl⟩;refine qC ?_;revert hK K;refine qW0 ?_;intro K hK;exact hR _ _ ⟨b,hb.trans ⟨fun h=>⟨h,n3.1 h60⟩,fun h=>h.1⟩,rfl,rfl⟩
 ·have h60:100 < n:=qw3
  revert hK K;refine qW0 ?_;intro K hK;exact hR _ _ ⟨_,⟨fun h=>by simp at h,fun h=>by have:=n3.2 h.2;omega⟩,rfl,rfl⟩
theorem c_ExprOk_impl:ExprQ 171:=by
 intro r hw;have h1:=c_exprParts r 1 (by omega) hw
 have hg:r.good↔r.goodAt 1:=by unfold Ex.good Ex.goodAt;constructor<;>(rintro ⟨a,b,c⟩;exact ⟨a,by omega,by omega⟩)
 rw[hg];clear hg;generalize r.goodAt 1=g at *;generalize r.parts=pt at *;obtain ⟨k,n,s,l⟩:=r;simp only[agT,Ex.t_mk,List.map,tA] at h1 |-;generalize l.map Ex.t=xl at *;refine qF tyK Tryz.func171 6 [.tmp 2] ?_;unhygienic intros;revert hK K;refine qW0 ?_;intro K hK;refine qG ?_;refine qD hP h1 ?_;rintro res bx ⟨n,n1,n2,n3,n4,rfl,rfl⟩;refine qC ?_;revert hK K;refine qW0 ?_;intro K hK;refine hR _ _ ⟨_,?_,rfl,rfl⟩
 rw[<-n3];clear hM hP hC hR;cases hO;simp only[Ops.std,sCm,decide_eq_true_eq,Int.ofNat_eq_natCast];omega
end Go.Gv
