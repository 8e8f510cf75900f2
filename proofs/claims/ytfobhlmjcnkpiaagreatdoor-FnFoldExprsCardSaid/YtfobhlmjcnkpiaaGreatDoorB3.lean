/- Part B3 of the proof: contracts of functions of the program, each walked once. -/
import Derived.Test.YtfobhlmjcnkpiaaGreatDoorD7
import Derived.Test.YtfobhlmjcnkpiaaGreatDoorB2
import Derived.Test.YtfobhlmjcnkpiaaGreatDoorD9
set_option linter.all false
namespace Go.Gv
open Go.Av Go.Proofs Go.Shelf Go.RowKit
set_option maxRecDepth 10000
set_option maxHeartbeats 8000000
theorem GR0 {k:Int} {s:ByteArray} {l:List Rx} {N:Nat} (hN:N=l.length) {x0:Rx} (hx0:1<=N->l[0]?=some x0) :
  Rx.here k s l↔(k=1/\s.size=1/\wE0 (vB0 s 0)=true/\N=0)\/(k=3/\setB (toL s)=true/\N=0)\/((k=2\/k=9\/k=10\/k=11)/\s=ofL []/\N=0)\/
   ((k=4\/k=5)/\s=ofL []/\2<=N/\N<=8/\¬∃x∈l,x.k=k)\/((k=6\/k=7\/k=8)/\s=ofL []/\N=1/\tP0 x0.k=false):=by
 by_cases hex:∃x∈l,x.k=k
 ·by_cases hk:tP0 k=true
  ·rw[bR0 hN hx0 fun _ _=>.inr hk]
   have:¬(k=4\/k=5):=by simp[tP0] at hk;omega
   simp only[this,false_and]
  ·obtain ⟨x,hx,hxk⟩:=hex
   have hne:¬Rx.here k s l:=fun h=>by
    rcases GQ0 h hx with h | h
    ·exact h hxk
    ·exact hk h
   have hn0:N≠0:=by rw[hN];intro h;rw[List.length_eq_zero_iff] at h;rw[h] at hx;simp at hx
   have hk':¬(k=6\/k=7\/k=8):=by simp[tP0] at hk;omega
   have hex:∃x∈l,x.k=k:=⟨x,hx,hxk⟩;simp only[hn0,hk',hex,not_true_eq_false,and_false,false_and,or_false,iff_false];exact hne
 ·rw[bR0 hN hx0 fun x hx=>.inl fun h=>hex ⟨x,hx,h⟩]
  simp only[hex,not_false_eq_true,and_true]
def hD0 (l:List Rx) (d i:Nat):Prop:=∀x∈l.take i,x.ok/\x.depth+(d+1)<=7
def Rx.goodAt (r:Rx) (d:Nat):Prop:=r.ok/\r.depth+d<=7/\r.parts<=60
abbrev PartsAt (r:Rx):Prop:=∀(d:Nat),d<=7->r.Wf->ACl Tryz.prog 181 [agT r.t,litI (Int.ofNat d)] []
  (fun res bx=>∃n:Nat,1<=n/\n<=61/\(n<=60↔r.goodAt d)/\(n<=60->n=r.parts)/\res=litI (Int.ofNat n)/\bx=[])
def nX1 (cs:List A) (xl:List (List T)) (l:List Rx) (d:Nat) (N:Nat) (σ:AS):Prop:=
 ∃(i n:Nat),σ=⟨vag 115 [(1,litI (Int.ofNat d)),(6,litI (Int.ofNat n)),(99,⟨.one,[.ro true xl]⟩),(100,litI (Int.ofNat l.length)),(101,litI (Int.ofNat i))],[some cs],1⟩/\i<=l.length/\
  n=1+Rx.partss (l.take i)/\n<=60/\hD0 l d i/\N=l.length - i
theorem hJ0 (k:Int) (s:ByteArray) (l:List Rx) (ih:∀x∈l,PartsAt x):PartsAt (.mk k s l):=by
 intro d hd hw;obtain ⟨hsz,hll,hwl⟩:=hw.inv;have hgood:d<=6->Rx.here k s l->((Rx.mk k s l).goodAt d↔hD0 l d l.length/\1+Rx.partss l<=60):=fun hd6 hh=>by
  have hlow:=XH0 (k:=k) (s:=s) (l:=l) hd6;unfold Rx.goodAt hD0;rw[ok_iff,List.take_length,Rx.parts];unfold jX0 at hlow;rw[List.take_length,Rx.parts] at hlow
  constructor
  ·rintro ⟨⟨_,h1⟩,h2,h3⟩;exact ⟨fun x hx=>⟨h1 x hx,(hlow.2 ⟨h2,h3⟩).1 x hx⟩,h3⟩
  ·rintro ⟨h1,h2⟩
   have:=hlow.1 ⟨fun x hx=>(h1 x hx).2,h2⟩;exact ⟨⟨hh,fun x hx=>(h1 x hx).1⟩,this⟩
 have hbad:(Rx.mk k s l).goodAt d->d<=6/\Rx.here k s l:=fun h=>⟨by have:=Rx.depth_pos (.mk k s l);have:=h.2.1;omega,(ok_iff.1 h.1).1⟩
 have hpar:(Rx.mk k s l).parts=1+Rx.partss l:=by rw[Rx.parts]
 generalize (Rx.mk k s l).goodAt d=GD at hgood hbad |-;generalize (Rx.mk k s l).parts=par at *;obtain ⟨xl,hxl⟩:=qX (l.map Rx.t);simp only[agT,Rx.t_mk,List.map,tA];rw[<-hxl];refine qF tyK Tryz.func181 115 [.tmp 4] ?_;unhygienic intros
 obtain ⟨N,hN⟩:=qX l.length;have hlen:len xl=N:=lnO hO (by simp[hxl,hN])
 have ha:all xl 3:=alO hO (by subst hxl;simp[Rx.t_len])
 have hnt:bnot true=false:=by cases hO;rfl
 have hnf:bnot false=true:=by cases hO;rfl
 have hcon:=TT0 k s l hll xl hxl;rw[<-hN] at hll;revert hK K;refine qW 0 ?_;intro K hK;refine nC rfl (fun h1=>?_) (fun h1=>?_)
 ·have h2:6 < d:=qw1
  revert hK K;refine qW 0 ?_;intro K hK;exact hR _ _ ⟨61,by omega,by omega,⟨fun h=>by omega,fun h=>by have:=(hbad h).1;omega⟩,by omega,rfl,rfl⟩
 have h2:d<=6:=qw1;clear h1;have hgood:=hgood h2;obtain ⟨x0,hx0⟩:∃x0:Rx,1<=N->l[0]?=some x0:=by
  clear hxl hgood hcon hll hbad;cases l with
  | nil=>exact ⟨default,fun h=>by rw[hN] at h;simp at h⟩
  | cons x l=>exact ⟨x,fun _=>rfl⟩
 have H:=GR0 (s:=s) (k:=k) hN hx0;obtain ⟨HH,hHH⟩:=qX (Rx.here k s l);rw[<-hHH] at H hgood hbad;have hb0:byte s (nat 0)=Int.ofNat (vB0 s 0).toNat:=by cases hO;rfl
 have hs1:size s=s.size:=by cases hO;rfl
 generalize vB0 s 0=c0 at hb0 H;obtain ⟨b0,hb0'⟩:=qX (Int.ofNat c0.toNat);rw[<-hb0'] at hb0;have hself:=hM0 c0 b0 hb0';have hset:=rM1 s hsz;generalize setB (toL s)=sb at hset H;generalize wE0 c0=cb at hself H;obtain ⟨Z,hZ⟩:=qX s.size;rw[<-hZ] at hs1 H;have hx0':1<=N->idx 0 (len xl)/\get xl (nat 0)=x0.t:=by
  intro h1;obtain ⟨x,_,q2,_,q4⟩:=mpA hO hxl (i:=0) (by omega)
  rw[hx0 h1] at q2;obtain rfl:=Option.some.inj q2;exact ⟨hlen ▸ ixN hO h1,q4⟩
 have hz0:Z=1->idx 0 Z:=fun h=>by rw[h];exact ixN hO (i:=0) (n:=1) (by omega)
 have hz1:cmp .eql (Int.ofNat (size s)) 1=true->Z=1:=fun h=>by rw[hs1] at h;cases hO;simp only[Ops.std,sCm,beq_iff_eq,Int.ofNat_eq_natCast] at h;omega
 generalize (∃x,x∈l/\x.k=k)=EX at hcon H;have hrep:=wD1 x0;obtain ⟨k0,s0,l0⟩:=x0;simp only[agT,Rx.t_mk,Rx.k,List.map,tA] at hx0' H hrep;generalize l0.map Rx.t=xl0 at hx0' hrep;generalize tP0 k0=lk at hrep H;have hem:ofL []=⟨⟨[]⟩⟩:=rfl;rw[hem] at H;have hx0'':cmp .eql (Int.ofNat (len xl)) 1=true->idx 0 N/\get xl (nat 0)=[T.lit (.int .i64 k0),T.lit (.string s0),T.sl xl0]:=fun h=>by
  have h1:1<=N:=by rw[hlen] at h;cases hO;simp only[Ops.std,sCm,beq_iff_eq,Int.ofNat_eq_natCast] at h;omega
  exact ⟨hlen ▸ (hx0' h1).1,(hx0' h1).2⟩
 conv=>whnf
 clear hK K;apply FP0 (S:=fun b:Bool=>⟨vag 115 [(1,litI (Int.ofNat d)),(2,⟨.one,[.ptr 0 0]⟩),(5,litB b)],[some [.lit (.int .i64 k),.lit (.string s),.ro true xl]],1⟩) (H:=fun b=>b=true↔HH)
 ·intro rest
  have K:=0;have hK:=True.intro;refine qO ?_
  repeat' first|(refine nWr (id:=21) (nb:=1) (keep:=fun t=>t == 1 || t == 2 || t == 5) (kk:=fun _ _=>none) (by simp at hC;simp[hC]) ?_;cbv;refine rest _ ?_)|(revert hK K;refine qS 0 ?_;intro K hK)|(refine qK (fun _=>?_) fun _=>?_)|(simp only[hb0,hlen,hs1];try cbv)|(have e0:=(hx0'' (by assumption)).2;simp only[e0];(try cbv))|(with_reducible refine ndC ?h ?_;case h=>first | exact (hx0'' (by assumption)).1 | exact ha | exact hz0 (hz1 (by assumption)))|(refine qG ?_;refine qD hP hself ?_;rintro res bx ⟨r,hr,rfl,rfl⟩;refine qC ?_)|(refine qG ?_;refine qD hP hset ?_;rintro res bx ⟨r,hr,rfl,rfl⟩;refine qC ?_)|(refine qG ?_;refine qD hP hrep ?_;rintro res bx ⟨r,hr,rfl,rfl⟩;refine qC ?_)|(refine qg (nN [0]) ?_;refine qC ?_;refine qD hP hcon ?_;rintro res bx ⟨r,hr,rfl,rfl⟩;refine qC ?_)|(refine qG ?_;refine qD hP (uN0 (Int.ofNat N) 2 8) ?_;rintro res bx ⟨r,hr,rfl,rfl⟩;refine qC ?_)|fail
  all_goals (clear rest hx0 ih hwl hgood hbad hpar hHH hM hP hR hseg hxl hsz hll hself hset hrep hcon hx0' hx0'' hb0 hb0' hz0 hz1 ha hnt hnf hC;cases hO;simp only[Ops.std,sCm,sqL,Int.ofNat_eq_natCast] at *;generalize ({ data:={ toList:=[] } }:ByteArray)=em at *;clear hN;(try clear e0);rw[H];clear H;grind)
 ·intro b hb
  have K:=0;have hK:=True.intro;obtain ⟨cs,hcs⟩:=qX ([.lit (.int .i64 k),.lit (.string s),.ro true xl]:List A);have ed:bin .add .i64 (Int.ofNat d) 1=_:=iSc hO (by omega)
  cases b
  ·revert hK K;refine qW 0 ?_;intro K hK
   simp only[hnf];revert hK K;refine qW 0 ?_;intro K hK;exact hR _ _ ⟨61,by omega,by omega,⟨fun h=>by omega,fun h=>absurd (hb.2 (hbad h).2) (by simp)⟩,by omega,rfl,rfl⟩
  ·have hHt:=hb.1 rfl
   have hgood:=hgood hHt;revert hK K;refine qW 0 ?_;intro K hK;simp only[hnt];revert hK K;refine qW 0 ?_;intro K hK;simp only[hlen];refine qL 1 [1,6,99,100,101] kk0 (nX1 cs xl l d) ?_ ?_
   ·cbv
    exact ⟨_,0,1,by (try rw[hcs]);rw[<-hN];cbv,by simp,by simp[Rx.partss],by omega,by simp[hD0],rfl⟩
   rintro m σ ⟨i,n,rfl,g1,g2,g3,g4,rfl⟩
   try rw[hcs]
   rw[<-hN];revert hK K;refine qW 0 ?_;intro K hK;refine nC rfl (fun h3=>?_) (fun h3=>?_)
   ·have hlt:i < N:=qv3
    obtain ⟨x,hx,hx',ht,e1⟩:=mpA hO hxl (hN ▸ hlt);have e:bin .add .i64 (Int.ofNat i) 1=_:=iSc hO (by omega)
    have hidx:idx (Int.ofNat i) (len xl):=hlen ▸ ixN hO hlt;have hpx:=partss_app (l.take i) [x];rw[<-ht,partss_one] at hpx;have hcall:=ih x hx (d+1) (by omega) (hwl x hx)
    have hpt:=partss_take l (i+1);have hlast:hD0 l d l.length->x.ok/\x.depth+(d+1)<=7:=fun h=>by
     unfold hD0 at h;rw[List.take_length] at h;exact h x hx
    have hnext:x.goodAt (d+1)->hD0 l d (i+1):=fun h y hy=>by
     rw[ht] at hy;rcases List.mem_append.1 hy with hy | hy
     ·exact g4 y hy
     ·obtain rfl:=List.mem_singleton.1 hy;exact ⟨h.1,h.2.1⟩
    have hga:x.ok->x.depth+(d+1)<=7->x.parts<=60->x.goodAt (d+1):=fun a b c=>⟨a,b,c⟩;generalize x.goodAt (d+1)=ga at *;generalize x.depth=xd at *;generalize x.parts=xp at *;generalize x.ok=xo at *;obtain ⟨k',s',l'⟩:=x;simp only[agT,Rx.t_mk,List.map,tA] at hcall e1;generalize l'.map Rx.t=xl' at hcall e1;revert hK K;refine qW 0 ?_;intro K hK
    repeat (simp only[e1];cbv)
    refine ndC hidx (ndC ha (ndN ?_));revert hK K;refine qW 0 ?_;intro K hK;simp only[ed];refine qG ?_;refine qD hP hcall ?_;rintro res bx ⟨q,q1,q2,q3,q4,rfl,rfl⟩;refine qC ?_;have e2:bin .add .i64 (Int.ofNat n) (Int.ofNat q)=_:=qG0 hO (by omega)
    generalize hm3:n+q=m3 at e2;simp only[e2];revert hK K;refine qW 0 ?_;intro K hK;refine nC rfl (fun h5=>?_) (fun h5=>?_)
    ·have h61:61<=m3:=qw5
     revert hK K;refine qW 0 ?_;intro K hK;refine hR _ _ ⟨61,by omega,by omega,⟨fun h=>by omega,fun h=>?_⟩,by omega,rfl,rfl⟩
     obtain ⟨h6,h7⟩:=hgood.1 h;obtain ⟨h8,h9⟩:=hlast h6;have h10:=q3.2 (hga h8 h9 (by omega))
     have:=q4 h10;omega
    ·have h61:m3 < 61:=qw5
     revert hK K;refine qW 0 ?_;intro K hK;rw[e];have h7:q<=60:=by omega
     have:=q4 h7;exact ⟨N - (i+1),by omega,i+1,m3,by (try rw[hcs]);rw[<-hN];cbv,by omega,by omega,by omega,hnext (q3.1 h7),by rw[hN]⟩
   ·have hge:i=N:=qw3
    have hil:i=l.length:=by omega
    rw[List.take_of_length_le (by omega)] at g2
    rw[hil] at g4;revert hK K;refine qW 0 ?_;intro K hK;exact hR _ _ ⟨n,by omega,by omega,⟨fun _=>hgood.2 ⟨g4,by omega⟩,fun _=>g3⟩,fun _=>by omega,rfl,rfl⟩
theorem dH0 (r:Rx):PartsAt r:=by
 obtain ⟨k,s,l⟩:=r;exact hJ0 k s l fun x hx=>dH0 x
termination_by SizeOf.sizeOf r
decreasing_by
 have:=List.sizeOf_lt_of_mem hx;simp;omega
end Go.Gv
