/- Part N4 of the proof: contracts of functions of the program, each walked once. -/
import Derived.Test.YtfobhlmjcnkpiaaGreatDoorD7
import Derived.Test.YtfobhlmjcnkpiaaGreatDoorN2
import Derived.Test.YtfobhlmjcnkpiaaGreatDoorN3
set_option linter.all false
namespace Go.Gv
open Go.Av Go.Proofs Go.Shelf Go.RowKit
set_option maxRecDepth 10000
set_option maxHeartbeats 8000000
def bT0 (l:List Sm) (d i:Nat):Prop:=∀x∈l.take i,x.ok/\x.dep+(d+1)<=6
def Sm.goodAt (r:Sm) (d:Nat):Prop:=r.ok/\r.dep+d<=6/\r.cnt<=60
def gT0 (a b:List Sm) (j:Nat):Nat:=if j=0 then 0 else if j=1 then a.length else a.length+b.length
abbrev YH0 (r:Sm):Prop:=∀(d:Nat),d<=6->r.sz<=1048576->ACl Tryz.prog 167 [agT r.t,litI (Int.ofNat d)] []
  (fun res bx=>∃n:Nat,1<=n/\n<=61/\(n<=60↔r.goodAt d)/\(n<=60->n=r.cnt)/\res=litI (Int.ofNat n)/\bx=[])
def invE1 (cs:List A) (els:List (List T)) (a b:List Sm) (d:Nat) (N:Nat) (σ:AS):Prop:=
 ∃(j n:Nat),σ=⟨vag 44 [(1,litI (Int.ofNat d)),(2,⟨.one,[.ptr 0 0]⟩),(5,litI (Int.ofNat n)),(21,⟨.one,[.ow (0,0) false 1 els]⟩),(22,litI 2),(23,litI (Int.ofNat j))],[some cs],1⟩/\j<=2/\
  n=1+Sm.cnts ((a++b).take (gT0 a b j))/\n<=60/\bT0 (a++b) d (gT0 a b j)/\N=2 - j
def nQ1 (cs:List A) (els LL:List (List T)) (L l:List Sm) (d off j:Nat) (N:Nat) (σ:AS):Prop:=
 ∃(i n:Nat),σ=⟨vag 44 [(1,litI (Int.ofNat d)),(2,⟨.one,[.ptr 0 0]⟩),(5,litI (Int.ofNat n)),(21,⟨.one,[.ow (0,0) false 1 els]⟩),(22,litI 2),(23,litI (Int.ofNat j)),(27,⟨.one,[.ro true LL]⟩),(28,litI (Int.ofNat L.length)),(29,litI (Int.ofNat i))],[some cs],1⟩/\i<=L.length/\
  n=1+Sm.cnts (l.take (off+i))/\n<=60/\bT0 l d (off+i)/\N=L.length - i
theorem mW0 (k:Int) (s t:ByteArray) (x:List Ex) (a b:List Sm) (ih:∀y∈a++b,YH0 y):YH0 (.mk k s t x a b):=by
 intro d hd hw;obtain ⟨hs,ht,hxs,hxz,hla,hlb,hwl⟩:=dY0 hw;have hhere:=WG0 k s t x a b hs ht hxs hxz;obtain ⟨HH,hHH⟩:=qX (((∀e∈x,e.good)/\uD0 k s t x.length a.length b.length (XR0 x)));rw[<-hHH] at hhere;have hgood:d<=5->HH->((Sm.mk k s t x a b).goodAt d↔bT0 (a++b) d (a.length+b.length)/\1+Sm.cnts (a++b)<=60):=fun hd6 hh=>by
  have hlow:=xB1 (k:=k) (s:=s) (t:=t) (x:=x) (a:=a) (b:=b) hd6;unfold Sm.goodAt bT0;rw[smok_iff,<-hHH,<-List.length_append,List.take_length,Sm.cnt,Nat.add_assoc,<-Sm.cnts_app];unfold lowS at hlow;rw[<-List.length_append,List.take_length,Sm.cnt,Nat.add_assoc,<-Sm.cnts_app] at hlow
  constructor
  ·rintro ⟨⟨_,h1⟩,h2,h3⟩;exact ⟨fun x hx=>⟨h1 x hx,(hlow.2 ⟨h2,h3⟩).1 x hx⟩,h3⟩
  ·rintro ⟨h1,h2⟩
   have:=hlow.1 ⟨fun x hx=>(h1 x hx).2,h2⟩;exact ⟨⟨hh,fun x hx=>(h1 x hx).1⟩,this⟩
 have hbad:(Sm.mk k s t x a b).goodAt d->d<=5/\HH:=fun h=>⟨by have:=Sm.dep_pos (.mk k s t x a b);have:=h.2.1;omega,by rw[hHH];exact (smok_iff.1 h.1).1⟩
 have hcnt:(Sm.mk k s t x a b).cnt=1+Sm.cnts (a++b):=by rw[Sm.cnt,Sm.cnts_app,Nat.add_assoc]
 have hlastA:∀x∈a++b,bT0 (a++b) d (a.length+b.length)->x.ok/\x.dep+(d+1)<=6:=fun x hx h=>by
  unfold bT0 at h;rw[<-List.length_append,List.take_length] at h;exact h x hx
 generalize (Sm.mk k s t x a b).goodAt d=GD at hgood hbad |-;generalize (Sm.mk k s t x a b).cnt=par at *;clear hHH hxz;obtain ⟨xl,hxl⟩:=qX (x.map Ex.t);obtain ⟨al,hal⟩:=qX (a.map Sm.t);obtain ⟨bl,hbl⟩:=qX (b.map Sm.t);rw[RG0,<-hxl,<-hal,<-hbl] at hhere |-;refine qF tyK Tryz.func167 44 [.tmp 4] ?_;unhygienic intros
 obtain ⟨NA,hNA⟩:=qX a.length;obtain ⟨NB,hNB⟩:=qX b.length;have la:len al=NA:=lnO hO (by simp[hal,hNA])
 have lb:len bl=NB:=lnO hO (by simp[hbl,hNB])
 have haa:all al 6:=alO hO (by subst hal;simp[Sm.t_len])
 have hab:all bl 6:=alO hO (by subst hbl;simp[Sm.t_len])
 have hnt:bnot true=false:=by cases hO;rfl
 have hnf:bnot false=true:=by cases hO;rfl
 rw[<-hNA] at hla;rw[<-hNB] at hlb;obtain ⟨cs,hcs⟩:=qX ([.lit (.int .i64 k),.lit (.string s),.lit (.string t),.ro true xl,.ro true al,.ro true bl]:List A);have ed:bin .add .i64 (Int.ofNat d) 1=_:=iSc hO (by omega)
 revert hK K;refine qW 0 ?_;intro K hK;refine GFork.mk (fun h1=>?_) (fun h1=>?_)<;>cbv
 ·have h2:5 < d:=qw1
  revert hK K;refine qW 0 ?_;intro K hK;exact hR _ _ ⟨61,by omega,by omega,⟨fun h=>by omega,fun h=>by have:=(hbad h).1;omega⟩,by omega,rfl,rfl⟩
 have h2:d<=5:=qw1;clear h1;have hgood:=hgood h2;revert hK K;refine qW 0 ?_;intro K hK;refine qG ?_;refine qD hP hhere ?_;rintro res bx ⟨r,hr,rfl,rfl⟩;refine qC ?_;cases r
 ·revert hK K;refine qW 0 ?_;intro K hK
  simp only[hnf];revert hK K;refine qW 0 ?_;intro K hK;exact hR _ _ ⟨61,by omega,by omega,⟨fun h=>by omega,fun h=>absurd (hr.2 (hbad h).2) (by simp)⟩,by omega,rfl,rfl⟩
 have hgoodA:=hgood (hr.1 rfl);clear hr hhere hbad;revert hK K;refine qW 0 ?_;intro K hK;simp only[hnt];revert hK K;refine qW 0 ?_;intro K hK;obtain ⟨els,hels⟩:=qX ([[T.sl al],[T.sl bl]]);have hln:len els=2:=by cases hO;rw[hels];rfl
 have hae:all els 1:=alO hO (by rw[hels];simp)
 rw[<-hels];simp only[hln];revert hK K;refine qW 0 ?_;intro K hK;refine qL 1 [1,2,5,21,22,23] kk0 (invE1 cs els a b d) ?_ ?_
 ·cbv
  exact ⟨_,0,1,by (try rw[hcs]);cbv,by omega,by simp[gT0,Sm.cnts],by omega,by simp[bT0,gT0],rfl⟩
 rintro m σ ⟨j,n,rfl,g1,g2,g3,g4,rfl⟩
 try rw[hcs]
 revert hK K;refine qW 0 ?_;intro K hK;refine nC rfl (fun h3=>?_) (fun h3=>?_)
 ·have hlt:j < 2:=qw3
  have hidx:idx (Int.ofNat j) (len els):=by rw[hln];exact ixN hO hlt
  have hidx':idx (Int.ofNat (nadd 0 (nat (Int.ofNat j)))) (len els):=by
   have h:=hidx;cases hO;simp only[Ops.std,Nat.zero_add] at h |-;exact h
  by_cases hj:j=0
  ·have hj2:gT0 a b j=0:=by rw[hj];rfl
   have hj3:gT0 a b (j+1)=0+a.length:=by rw[hj];simp[gT0]
   clear h3;have hlenL:len al=NA:=la;have haL:all al 6:=haa;have e1:get els (nat (Int.ofNat j))=[T.sl al]:=by cases hO;rw[hels,hj];rfl
   have e1':get els (nadd 0 (nat (Int.ofNat j)))=[T.sl al]:=by cases hO;rw[hels,hj];rfl
   rw[hj2] at g2 g4;clear hgood;revert hK K;refine qW 0 ?_;intro K hK
   repeat (simp only[e1,e1'];cbv)
   refine ndC hidx (ndC hidx' (ndN ?_));revert hK K;refine qW 0 ?_;intro K hK;simp only[hlenL];refine qL 1 [1,2,5,21,22,23,27,28,29] kk0 (nQ1 cs els al a (a++b) d 0 j) ?_ ?_
   ·cbv
    exact ⟨_,0,n,by (try rw[hcs]);rw[<-hNA];cbv,by simp,by rw[Nat.add_zero];exact g2,g3,by rw[Nat.add_zero];exact g4,rfl⟩
   clear g2 g3 g4 e1 e1';rintro m2 σ ⟨i,n,rfl,g1,g2,g3,g4,rfl⟩
   try rw[hcs]
   rw[<-hNA];revert hK K;refine qW 0 ?_;intro K hK;refine nC rfl (fun h3=>?_) (fun h3=>?_)
   ·have hlt:i < NA:=qv3
    obtain ⟨x,hx,hx',ht,e1⟩:=mpA hO hal (hNA ▸ hlt);have hxm:x∈a++b:=List.mem_append_left _ hx;have ht2:(a++b).take (0+(i+1))=(a++b).take (0+i)++[x]:=zZ1 (hNA ▸ hlt) ht;have e:bin .add .i64 (Int.ofNat i) 1=_:=iSc hO (by omega)
    have hidxL:idx (Int.ofNat i) (len al):=hlenL ▸ ixN hO hlt;have hpx:=Sm.cnts_app ((a++b).take (0+i)) [x];rw[<-ht2,Sm.cnts_one] at hpx;have hcall:=ih x hxm (d+1) (by omega) (hwl x hxm)
    have hpt:=Sm.cnts_take (a++b) (0+(i+1));have hlast:=hlastA x hxm;have hnext:x.goodAt (d+1)->bT0 (a++b) d (0+(i+1)):=fun h y hy=>by
     rw[ht2] at hy;rcases List.mem_append.1 hy with hy | hy
     ·exact g4 y hy
     ·obtain rfl:=List.mem_singleton.1 hy;exact ⟨h.1,h.2.1⟩
    have hga:x.ok->x.dep+(d+1)<=6->x.cnt<=60->x.goodAt (d+1):=fun a b c=>⟨a,b,c⟩;generalize x.goodAt (d+1)=ga at *;generalize x.dep=xd at *;generalize x.cnt=xp at *;generalize x.ok=xo at *;obtain ⟨k',s',t',x',a',b'⟩:=x;simp only[agT,Sm.t_mk,List.map,tA] at hcall e1;generalize x'.map Ex.t=xl' at hcall e1;generalize a'.map Sm.t=al' at hcall e1;generalize b'.map Sm.t=bl' at hcall e1;revert hK K;refine qW 0 ?_;intro K hK
    repeat (simp only[e1];cbv)
    refine ndC hidxL (ndC haL (ndN ?_));revert hK K;refine qW 0 ?_;intro K hK;simp only[ed];refine qG ?_;refine qD hP hcall ?_;rintro res bx ⟨q,q1,q2,q3,q4,rfl,rfl⟩;refine qC ?_;have e2:bin .add .i64 (Int.ofNat n) (Int.ofNat q)=_:=qG0 hO (by omega)
    generalize hm3:n+q=m3 at e2;simp only[e2];revert hK K;refine qW 0 ?_;intro K hK;refine nC rfl (fun h5=>?_) (fun h5=>?_)
    ·have h61:61<=m3:=qw5
     revert hK K;refine qW 0 ?_;intro K hK;refine hR _ _ ⟨61,by omega,by omega,⟨fun h=>by omega,fun h=>?_⟩,by omega,rfl,rfl⟩
     obtain ⟨h6,h7⟩:=hgoodA.1 h;obtain ⟨h8,h9⟩:=hlast h6;have h10:=q3.2 (hga h8 h9 (by omega))
     have:=q4 h10;omega
    ·have h61:m3 < 61:=qw5
     revert hK K;refine qW 0 ?_;intro K hK;rw[e];have h7:q<=60:=by omega
     have:=q4 h7;exact ⟨NA - (i+1),by omega,i+1,m3,by (try rw[hcs]);rw[<-hNA];cbv,by omega,by omega,by omega,hnext (q3.1 h7),by rw[hNA]⟩
   ·have hge:i=NA:=qw3
    have ej:bin .add .i64 (Int.ofNat j) 1=_:=iSc hO (by omega)
    revert hK K;refine qW 0 ?_;intro K hK;rw[ej];exact ⟨2 - (j+1),by omega,j+1,n,by (try rw[hcs]);cbv,by omega,by rw[hj3];rw[hge,hNA] at g2;exact g2,g3,by rw[hj3];rw[hge,hNA] at g4;exact g4,rfl⟩
  ·have hj1:j=1:=by omega
   have hj2:gT0 a b j=a.length:=by rw[hj1];rfl
   have hj3:gT0 a b (j+1)=a.length+b.length:=by rw[hj1];rfl
   clear h3;have hlenL:len bl=NB:=lb;have haL:all bl 6:=hab;have e1:get els (nat (Int.ofNat j))=[T.sl bl]:=by cases hO;rw[hels,hj1];rfl
   have e1':get els (nadd 0 (nat (Int.ofNat j)))=[T.sl bl]:=by cases hO;rw[hels,hj1];rfl
   rw[hj2] at g2 g4;clear hgood;revert hK K;refine qW 0 ?_;intro K hK
   repeat (simp only[e1,e1'];cbv)
   refine ndC hidx (ndC hidx' (ndN ?_));revert hK K;refine qW 0 ?_;intro K hK;simp only[hlenL];refine qL 1 [1,2,5,21,22,23,27,28,29] kk0 (nQ1 cs els bl b (a++b) d a.length j) ?_ ?_
   ·cbv
    exact ⟨_,0,n,by (try rw[hcs]);rw[<-hNB];cbv,by simp,by rw[Nat.add_zero];exact g2,g3,by rw[Nat.add_zero];exact g4,rfl⟩
   clear g2 g3 g4 e1 e1';rintro m2 σ ⟨i,n,rfl,g1,g2,g3,g4,rfl⟩
   try rw[hcs]
   rw[<-hNB];revert hK K;refine qW 0 ?_;intro K hK;refine nC rfl (fun h3=>?_) (fun h3=>?_)
   ·have hlt:i < NB:=qv3
    obtain ⟨x,hx,hx',ht,e1⟩:=mpA hO hbl (hNB ▸ hlt);have hxm:x∈a++b:=List.mem_append_right _ hx;have ht2:(a++b).take (a.length+(i+1))=(a++b).take (a.length+i)++[x]:=zY1 ht;have e:bin .add .i64 (Int.ofNat i) 1=_:=iSc hO (by omega)
    have hidxL:idx (Int.ofNat i) (len bl):=hlenL ▸ ixN hO hlt;have hpx:=Sm.cnts_app ((a++b).take (a.length+i)) [x];rw[<-ht2,Sm.cnts_one] at hpx;have hcall:=ih x hxm (d+1) (by omega) (hwl x hxm)
    have hpt:=Sm.cnts_take (a++b) (a.length+(i+1));have hlast:=hlastA x hxm;have hnext:x.goodAt (d+1)->bT0 (a++b) d (a.length+(i+1)):=fun h y hy=>by
     rw[ht2] at hy;rcases List.mem_append.1 hy with hy | hy
     ·exact g4 y hy
     ·obtain rfl:=List.mem_singleton.1 hy;exact ⟨h.1,h.2.1⟩
    have hga:x.ok->x.dep+(d+1)<=6->x.cnt<=60->x.goodAt (d+1):=fun a b c=>⟨a,b,c⟩;generalize x.goodAt (d+1)=ga at *;generalize x.dep=xd at *;generalize x.cnt=xp at *;generalize x.ok=xo at *;obtain ⟨k',s',t',x',a',b'⟩:=x;simp only[agT,Sm.t_mk,List.map,tA] at hcall e1;generalize x'.map Ex.t=xl' at hcall e1;generalize a'.map Sm.t=al' at hcall e1;generalize b'.map Sm.t=bl' at hcall e1;revert hK K;refine qW 0 ?_;intro K hK
    repeat (simp only[e1];cbv)
    refine ndC hidxL (ndC haL (ndN ?_));revert hK K;refine qW 0 ?_;intro K hK;simp only[ed];refine qG ?_;refine qD hP hcall ?_;rintro res bx ⟨q,q1,q2,q3,q4,rfl,rfl⟩;refine qC ?_;have e2:bin .add .i64 (Int.ofNat n) (Int.ofNat q)=_:=qG0 hO (by omega)
    generalize hm3:n+q=m3 at e2;simp only[e2];revert hK K;refine qW 0 ?_;intro K hK;refine nC rfl (fun h5=>?_) (fun h5=>?_)
    ·have h61:61<=m3:=qw5
     revert hK K;refine qW 0 ?_;intro K hK;refine hR _ _ ⟨61,by omega,by omega,⟨fun h=>by omega,fun h=>?_⟩,by omega,rfl,rfl⟩
     obtain ⟨h6,h7⟩:=hgoodA.1 h;obtain ⟨h8,h9⟩:=hlast h6;have h10:=q3.2 (hga h8 h9 (by omega))
     have:=q4 h10;omega
    ·have h61:m3 < 61:=qw5
     revert hK K;refine qW 0 ?_;intro K hK;rw[e];have h7:q<=60:=by omega
     have:=q4 h7;exact ⟨NB - (i+1),by omega,i+1,m3,by (try rw[hcs]);rw[<-hNB];cbv,by omega,by omega,by omega,hnext (q3.1 h7),by rw[hNB]⟩
   ·have hge:i=NB:=qw3
    have ej:bin .add .i64 (Int.ofNat j) 1=_:=iSc hO (by omega)
    revert hK K;refine qW 0 ?_;intro K hK;rw[ej];exact ⟨2 - (j+1),by omega,j+1,n,by (try rw[hcs]);cbv,by omega,by rw[hj3];rw[hge,hNB] at g2;exact g2,g3,by rw[hj3];rw[hge,hNB] at g4;exact g4,rfl⟩
 ·have hge:j=2:=qw3
  have hp:gT0 a b j=a.length+b.length:=by rw[hge];rfl
  rw[hp] at g2 g4;rw[<-List.length_append,List.take_length] at g2;revert hK K;refine qW 0 ?_;intro K hK;exact hR _ _ ⟨n,by omega,by omega,⟨fun _=>hgoodA.2 ⟨g4,by omega⟩,fun _=>g3⟩,fun _=>by omega,rfl,rfl⟩
theorem hH0 (r:Sm):YH0 r:=by
 obtain ⟨k,s,t,x,a,b⟩:=r;exact mW0 k s t x a b fun y hy=>hH0 y
termination_by SizeOf.sizeOf r
decreasing_by
 rcases List.mem_append.1 hy with hy | hy
 ·have:=List.sizeOf_lt_of_mem hy
  simp;omega
 ·have:=List.sizeOf_lt_of_mem hy
  simp;omega
theorem ZR0:mZ1 147:=by
 intro r hw;have h1:=hH0 r 1 (by omega) hw
 have hg:r.good↔r.goodAt 1:=by unfold Sm.good Sm.goodAt;constructor<;>(rintro ⟨a,b,c⟩;exact ⟨a,by omega,by omega⟩)
 rw[hg];clear hg;generalize r.goodAt 1=g at *;generalize r.cnt=pt at *;obtain ⟨k,s,t,x,a,b⟩:=r;rw[RG0] at h1 |-;generalize x.map Ex.t=xl at *;generalize a.map Sm.t=al at *;generalize b.map Sm.t=bl at *;refine qF tyK Tryz.func147 6 [.tmp 2] ?_;unhygienic intros
 revert hK K;refine qW 0 ?_;intro K hK;refine qG ?_;refine qD hP h1 ?_;rintro res bx ⟨n,n1,n2,n3,n4,rfl,rfl⟩;refine qC ?_;revert hK K;refine qW 0 ?_;intro K hK;refine hR _ _ ⟨_,?_,rfl,rfl⟩;rw[<-n3];clear hM hP hC hR;cases hO;simp only[Ops.std,sCm,decide_eq_true_eq,Int.ofNat_eq_natCast];omega
end Go.Gv
