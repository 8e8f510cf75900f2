/- Part PN6 of the proof: contracts of functions of the program, each walked once. -/
import Derived.Test.YtnmkmfancgcaeaaGreatDoorPD7
import Derived.Test.YtnmkmfancgcaeaaGreatDoorPN4
import Derived.Test.YtnmkmfancgcaeaaGreatDoorPN5
import Derived.Test.YtnmkmfancgcaeaaGreatDoorPD13
set_option linter.all false
namespace Go.Gv
open Go.Av Go.Proofs Go.Shelf Go.RowKit
set_option maxRecDepth 10000
set_option maxHeartbeats 8000000
def fV0 (l:List Sm) (d i:Nat):Prop:=∀x∈l.take i,x.ok/\x.dep+(d+1)<=6
def Sm.goodAt (r:Sm) (d:Nat):Prop:=r.ok/\r.dep+d<=6/\r.cnt<=60
def hC0 (a b:List Sm) (j:Nat):Nat:=if j=0 then 0 else if j=1 then a.length else a.length+b.length
abbrev bA0 (r:Sm):Prop:=∀(d:Nat),d<=6->r.sz<=1048576->ACl Tryz.prog 154 [agT r.t,litI (Int.ofNat d)] []
  (fun res bx=>∃n:Nat,1<=n/\n<=61/\(n<=60↔r.goodAt d)/\(n<=60->n=r.cnt)/\res=litI (Int.ofNat n)/\bx=[])
def invE1 (cs:List A) (els:List (List T)) (a b:List Sm) (d:Nat) (N:Nat) (σ:AS):Prop:=
 ∃(j n:Nat),σ=⟨vag 44 [(1,litI (Int.ofNat d)),(2,⟨.one,[.ptr 0 0]⟩),(5,litI (Int.ofNat n)),(21,⟨.one,[.ow (0,0) false 1 els]⟩),(22,litI 2),(23,litI (Int.ofNat j))],[some cs],1⟩/\j<=2/\
  n=1+Sm.cnts ((a++b).take (hC0 a b j))/\n<=60/\fV0 (a++b) d (hC0 a b j)/\N=2 - j
def vE1 (cs:List A) (els LL:List (List T)) (L l:List Sm) (d off j:Nat) (N:Nat) (σ:AS):Prop:=
 ∃(i n:Nat),σ=⟨vag 44 [(1,litI (Int.ofNat d)),(2,⟨.one,[.ptr 0 0]⟩),(5,litI (Int.ofNat n)),(21,⟨.one,[.ow (0,0) false 1 els]⟩),(22,litI 2),(23,litI (Int.ofNat j)),(27,⟨.one,[.ro true LL]⟩),(28,litI (Int.ofNat L.length)),(29,litI (Int.ofNat i))],[some cs],1⟩/\i<=L.length/\
  n=1+Sm.cnts (l.take (off+i))/\n<=60/\fV0 l d (off+i)/\N=L.length - i
theorem nF0 (k:Int) (s t:ByteArray) (x:List Ex) (a b:List Sm) (ih:∀y∈a++b,bA0 y):bA0 (.mk k s t x a b):=by
 intro d hd hw;obtain ⟨hs,ht,hxs,hxz,hla,hlb,hwl⟩:=fD0 hw;have hhere:=YC0 k s t x a b hs ht hxs hxz;obtain ⟨HH,hHH⟩:=qX (((∀e∈x,e.good)/\vK0 k s t x.length a.length b.length (ZG0 x)));rw[<-hHH] at hhere;have hgood:d<=5->HH->((Sm.mk k s t x a b).goodAt d↔fV0 (a++b) d (a.length+b.length)/\1+Sm.cnts (a++b)<=60):=fun hd6 hh=>by
  have hlow:=GP0 (k:=k) (s:=s) (t:=t) (x:=x) (a:=a) (b:=b) hd6;unfold Sm.goodAt fV0;rw[smok_iff,<-hHH,<-List.length_append,List.take_length,Sm.cnt,Nat.add_assoc,<-Sm.cnts_app];unfold lowS at hlow;rw[<-List.length_append,List.take_length,Sm.cnt,Nat.add_assoc,<-Sm.cnts_app] at hlow
  constructor
  ·rintro ⟨⟨_,h1⟩,h2,h3⟩;exact ⟨fun x hx=>⟨h1 x hx,(hlow.2 ⟨h2,h3⟩).1 x hx⟩,h3⟩
  ·rintro ⟨h1,h2⟩
   have:=hlow.1 ⟨fun x hx=>(h1 x hx).2,h2⟩;exact ⟨⟨hh,fun x hx=>(h1 x hx).1⟩,this⟩
 have hbad:(Sm.mk k s t x a b).goodAt d->d<=5/\HH:=fun h=>⟨by have:=Sm.dep_pos (.mk k s t x a b);have:=h.2.1;omega,by rw[hHH];exact (smok_iff.1 h.1).1⟩
 have hcnt:(Sm.mk k s t x a b).cnt=1+Sm.cnts (a++b):=by rw[Sm.cnt,Sm.cnts_app,Nat.add_assoc]
 have hlastA:∀x∈a++b,fV0 (a++b) d (a.length+b.length)->x.ok/\x.dep+(d+1)<=6:=fun x hx h=>by
  unfold fV0 at h;rw[<-List.length_append,List.take_length] at h;exact h x hx
 generalize (Sm.mk k s t x a b).goodAt d=GD at hgood hbad |-;generalize (Sm.mk k s t x a b).cnt=par at *;clear hHH hxz;obtain ⟨xl,hxl⟩:=qX (x.map Ex.t);obtain ⟨al,hal⟩:=qX (a.map Sm.t);obtain ⟨bl,hbl⟩:=qX (b.map Sm.t);rw[UD0,<-hxl,<-hal,<-hbl] at hhere |-;refine qF tyK Tryz.func154 44 [.tmp 4] ?_;unhygienic intros
 obtain ⟨NA,hNA⟩:=qX a.length;obtain ⟨NB,hNB⟩:=qX b.length;have la:len al=NA:=lnO hO (by simp[hal,hNA])
 have lb:len bl=NB:=lnO hO (by simp[hbl,hNB])
 have haa:all al 6:=alO hO (by subst hal;simp[Sm.t_len])
 have hab:all bl 6:=alO hO (by subst hbl;simp[Sm.t_len])
 have hnt:bnot true=false:=by cases hO;rfl
 have hnf:bnot false=true:=by cases hO;rfl
 rw[<-hNA] at hla;rw[<-hNB] at hlb;obtain ⟨cs,hcs⟩:=qX ([.lit (.int .i64 k),.lit (.string s),.lit (.string t),.ro true xl,.ro true al,.ro true bl]:List A);have ed:bin .add .i64 (Int.ofNat d) 1=_:=iSc hO (by omega)
 revert hK K;refine qW 0 ?_;intro K hK;refine GFork.mk (fun h1=>?_) (fun h1=>?_)<;>cbv
 ·have h2:5 < d:=qw1
  revert hK K;refine qW 0 ?_;intro K hK;exact hR _ _ ⟨61,by omega,by omega,⟨fun h=>by omega,fun h=>by have:=(hbad h).1;omega⟩,by omega,rfl,rfl⟩
 have h2:d<=5:=qw1;clear h1;have hgood:=hgood h2;revert hK K;refine qW 0 ?_;intro K hK;refine qG ?_;refine qD hP hhere ?_;rintro res bx ⟨r,hr,rfl,rfl⟩;refine qC ?_;cases r
 ·revert hK K;refine qW 0 ?_;intro K hK
  simp only[hnf];revert hK K;refine qW 0 ?_;intro K hK;exact hR _ _ ⟨61,by omega,by omega,⟨fun h=>by omega,fun h=>absurd (hr.2 (hbad h).2) (by simp)⟩,by omega,rfl,rfl⟩
 have hgoodA:=hgood (hr.1 rfl);clear hr hhere hbad;revert hK K;refine qW 0 ?_;intro K hK;simp only[hnt];revert hK K;refine qW 0 ?_;intro K hK;obtain ⟨els,hels⟩:=qX ([[T.sl al],[T.sl bl]]);have hln:len els=2:=by cases hO;rw[hels];rfl
 have hae:all els 1:=alO hO (by rw[hels];simp)
 rw[<-hels];simp only[hln];revert hK K;refine qW 0 ?_;intro K hK;refine qL 1 [1,2,5,21,22,23] kk0 (invE1 cs els a b d) ?_ ?_
 ·cbv
  exact ⟨_,0,1,by (try rw[hcs]);cbv,by omega,by simp[hC0,Sm.cnts],by omega,by simp[fV0,hC0],rfl⟩
 rintro m σ ⟨j,n,rfl,g1,g2,g3,g4,rfl⟩
 try rw[hcs]
 revert hK K;refine qW 0 ?_;intro K hK;refine nC rfl (fun h3=>?_) (fun h3=>?_)
 ·have hlt:j < 2:=qw3
  have hidx:idx (Int.ofNat j) (len els):=by rw[hln];exact ixN hO hlt
  have hidx':idx (Int.ofNat (nadd 0 (nat (Int.ofNat j)))) (len els):=by
   have h:=hidx;cases hO;simp only[Ops.std,Nat.zero_add] at h |-;exact h
  by_cases hj:j=0
  ·have hj2:hC0 a b j=0:=by rw[hj];rfl
   have hj3:hC0 a b (j+1)=0+a.length:=by rw[hj];simp[hC0]
   clear h3;have hlenL:len al=NA:=la;have haL:all al 6:=haa;have e1:get els (nat (Int.ofNat j))=[T.sl al]:=by cases hO;rw[hels,hj];rfl
   have e1':get els (nadd 0 (nat (Int.ofNat j)))=[T.sl al]:=by cases hO;rw[hels,hj];rfl
   rw[hj2] at g2 g4;clear hgood;revert hK K;refine qW 0 ?_;intro K hK
   repeat (simp only[e1,e1'];cbv)
   refine ndC hidx (ndC hidx' (ndN ?_));revert hK K;refine qW 0 ?_;intro K hK;simp only[hlenL];refine qL 1 [1,2,5,21,22,23,27,28,29] kk0 (vE1 cs els al a (a++b) d 0 j) ?_ ?_
   ·cbv
    exact ⟨_,0,n,by (try rw[hcs]);rw[<-hNA];cbv,by simp,by rw[Nat.add_zero];exact g2,g3,by rw[Nat.add_zero];exact g4,rfl⟩
   clear g2 g3 g4 e1 e1';rintro m2 σ ⟨i,n,rfl,g1,g2,g3,g4,rfl⟩
   try rw[hcs]
   rw[<-hNA];revert hK K;refine qW 0 ?_;intro K hK;refine nC rfl (fun h3=>?_) (fun h3=>?_)
   ·have hlt:i < NA:=qv3
    obtain ⟨x,hx,hx',ht,e1⟩:=mpA hO hal (hNA ▸ hlt);have hxm:x∈a++b:=List.mem_append_left _ hx;have ht2:(a++b).take (0+(i+1))=(a++b).take (0+i)++[x]:=HP0 (hNA ▸ hlt) ht;have e:bin .add .i64 (Int.ofNat i) 1=_:=iSc hO (by omega)
    have hidxL:idx (Int.ofNat i) (len al):=hlenL ▸ ixN hO hlt;have hpx:=Sm.cnts_app ((a++b).take (0+i)) [x];rw[<-ht2,Sm.cnts_one] at hpx;have hcall:=ih x hxm (d+1) (by omega) (hwl x hxm)
    have hpt:=Sm.cnts_take (a++b) (0+(i+1));have hlast:=hlastA x hxm;have hnext:x.goodAt (d+1)->fV0 (a++b) d (0+(i+1)):=fun h y hy=>by
     rw[ht2] at hy;rcases List.mem_append.1 hy with hy | hy
     ·exact g4 y hy
     ·obtain rfl:=List.mem_singleton.1 hy;exact ⟨h.1,h.2.1⟩
    have hga:x.ok->x.dep+(d+1)<=6->x.cnt<=60->x.goodAt (d+1):=fun a b c=>⟨a,b,c⟩;generalize x.goodAt (d+1)=ga at *;generalize x.dep=xd at *;generalize x.cnt=xp at *;generalize x.ok=xo at *;obtain ⟨k',s',t',x',a',b'⟩:=x;simp only[agT,Sm.t_mk,List.map,tA] at hcall e1;generalize x'.map Ex.t=xl' at hcall e1;generalize a'.map Sm.t=al' at hcall e1;generalize b'.map Sm.t=bl' at hcall e1;revert hK K;refine qW 0 ?_;intro K hK
    repeat (simp only[e1];cbv)
    refine ndC hidxL (ndC haL (ndN ?_));revert hK K;refine qW 0 ?_;intro K hK;simp only[ed];refine qG ?_;refine qD hP hcall ?_;rintro res bx ⟨q,q1,q2,q3,q4,rfl,rfl⟩;refine qC ?_;have e2:bin .add .i64 (Int.ofNat n) (Int.ofNat q)=_:=rF0 hO (by omega)
    generalize hm3:n+q=m3 at e2;simp only[e2];revert hK K;refine qW 0 ?_;intro K hK;refine nC rfl (fun h5=>?_) (fun h5=>?_)
    ·have h61:61<=m3:=qw5
     revert hK K;refine qW 0 ?_;intro K hK;refine hR _ _ ⟨61,by omega,by omega,⟨fun h=>by omega,fun h=>?_⟩,by omega,rfl,rfl⟩
     obtain ⟨h6,h7⟩:=hgoodA.1 h;obtain ⟨h8,h9⟩:=hlast h6;have h10:=q3.2 (hga h8 h9 (by omega))
     have:=q4 h10;omega
    ·have h61:m3 < 61:=qw5
     revert hK K;refine qW 0 ?_;intro K hK;rw[e];have h7:q<=60:=by omega
     have:=q4 h7;exact ⟨NA - (i+1),by omega,i+1,m3,by (try rw[hcs]);rw[<-hNA];cbv,by omega,by omega,by omega,hnext (q3.1 h7),by rw[hNA]⟩
   ·have hge:i=NA:=qw3
    have ej:bin .add .i64 (Int.ofNat j) 1=_:=iSc hO (by omega)
    revert hK K;refine qW 0 ?_;intro K hK;rw[ej];exact ⟨2 - (j+1),by omega,j+1,n,by (try rw[hcs]);cbv,by omega,by rw[hj3];rw[hge,hNA] at g2;exact g2,g3,by rw[hj3];rw[hge,hNA] at g4;exact g4,rfl⟩
  ·have hj1:j=1:=by omega
   have hj2:hC0 a b j=a.length:=by rw[hj1];rfl
   have hj3:hC0 a b (j+1)=a.length+b.length:=by rw[hj1];rfl
   clear h3;have hlenL:len bl=NB:=lb;have haL:all bl 6:=hab;have e1:get els (nat (Int.ofNat j))=[T.sl bl]:=by cases hO;rw[hels,hj1];rfl
   have e1':get els (nadd 0 (nat (Int.ofNat j)))=[T.sl bl]:=by cases hO;rw[hels,hj1];rfl
   rw[hj2] at g2 g4;clear hgood;revert hK K;refine qW 0 ?_;intro K hK
   repeat (simp only[e1,e1'];cbv)
   refine ndC hidx (ndC hidx' (ndN ?_));revert hK K;refine qW 0 ?_;intro K hK;simp only[hlenL];refine qL 1 [1,2,5,21,22,23,27,28,29] kk0 (vE1 cs els bl b (a++b) d a.length j) ?_ ?_
   ·cbv
    exact ⟨_,0,n,by (try rw[hcs]);rw[<-hNB];cbv,by simp,by rw[Nat.add_zero];exact g2,g3,by rw[Nat.add_zero];exact g4,rfl⟩
   clear g2 g3 g4 e1 e1';rintro m2 σ ⟨i,n,rfl,g1,g2,g3,g4,rfl⟩
   try rw[hcs]
   rw[<-hNB];revert hK K;refine qW 0 ?_;intro K hK;refine nC rfl (fun h3=>?_) (fun h3=>?_)
   ·have hlt:i < NB:=qv3
    obtain ⟨x,hx,hx',ht,e1⟩:=mpA hO hbl (hNB ▸ hlt);have hxm:x∈a++b:=List.mem_append_right _ hx;have ht2:(a++b).take (a.length+(i+1))=(a++b).take (a.length+i)++[x]:=HN0 ht;have e:bin .add .i64 (Int.ofNat i) 1=_:=iSc hO (by omega)
    have hidxL:idx (Int.ofNat i) (len bl):=hlenL ▸ ixN hO hlt;have hpx:=Sm.cnts_app ((a++b).take (a.length+i)) [x];rw[<-ht2,Sm.cnts_one] at hpx;have hcall:=ih x hxm (d+1) (by omega) (hwl x hxm)
    have hpt:=Sm.cnts_take (a++b) (a.length+(i+1));have hlast:=hlastA x hxm;have hnext:x.goodAt (d+1)->fV0 (a++b) d (a.length+(i+1)):=fun h y hy=>by
     rw[ht2] at hy;rcases List.mem_append.1 hy with hy | hy
     ·exact g4 y hy
     ·obtain rfl:=List.mem_singleton.1 hy;exact ⟨h.1,h.2.1⟩
    have hga:x.ok->x.dep+(d+1)<=6->x.cnt<=60->x.goodAt (d+1):=fun a b c=>⟨a,b,c⟩;generalize x.goodAt (d+1)=ga at *;generalize x.dep=xd at *;generalize x.cnt=xp at *;generalize x.ok=xo at *;obtain ⟨k',s',t',x',a',b'⟩:=x;simp only[agT,Sm.t_mk,List.map,tA] at hcall e1;generalize x'.map Ex.t=xl' at hcall e1;generalize a'.map Sm.t=al' at hcall e1;generalize b'.map Sm.t=bl' at hcall e1;revert hK K;refine qW 0 ?_;intro K hK
    repeat (simp only[e1];cbv)
    refine ndC hidxL (ndC haL (ndN ?_));revert hK K;refine qW 0 ?_;intro K hK;simp only[ed];refine qG ?_;refine qD hP hcall ?_;rintro res bx ⟨q,q1,q2,q3,q4,rfl,rfl⟩;refine qC ?_;have e2:bin .add .i64 (Int.ofNat n) (Int.ofNat q)=_:=rF0 hO (by omega)
    generalize hm3:n+q=m3 at e2;simp only[e2];revert hK K;refine qW 0 ?_;intro K hK;refine nC rfl (fun h5=>?_) (fun h5=>?_)
    ·have h61:61<=m3:=qw5
     revert hK K;refine qW 0 ?_;intro K hK;refine hR _ _ ⟨61,by omega,by omega,⟨fun h=>by omega,fun h=>?_⟩,by omega,rfl,rfl⟩
     obtain ⟨h6,h7⟩:=hgoodA.1 h;obtain ⟨h8,h9⟩:=hlast h6;have h10:=q3.2 (hga h8 h9 (by omega))
     have:=q4 h10;omega
    ·have h61:m3 < 61:=qw5
     revert hK K;refine qW 0 ?_;intro K hK;rw[e];have h7:q<=60:=by omega
     have:=q4 h7;exact ⟨NB - (i+1),by omega,i+1,m3,by (try rw[hcs]);rw[<-hNB];cbv,by omega,by omega,by omega,hnext (q3.1 h7),by rw[hNB]⟩
   ·have hge:i=NB:=qw3
    have ej:bin .add .i64 (Int.ofNat j) 1=_:=iSc hO (by omega)
    revert hK K;refine qW 0 ?_;intro K hK;rw[ej];exact ⟨2 - (j+1),by omega,j+1,n,by (try rw[hcs]);cbv,by omega,by rw[hj3];rw[hge,hNB] at g2;exact g2,g3,by rw[hj3];rw[hge,hNB] at g4;exact g4,rfl⟩
 ·have hge:j=2:=qw3
  have hp:hC0 a b j=a.length+b.length:=by rw[hge];rfl
  rw[hp] at g2 g4;rw[<-List.length_append,List.take_length] at g2;revert hK K;refine qW 0 ?_;intro K hK;exact hR _ _ ⟨n,by omega,by omega,⟨fun _=>hgoodA.2 ⟨g4,by omega⟩,fun _=>g3⟩,fun _=>by omega,rfl,rfl⟩
theorem kY0 (r:Sm):bA0 r:=by
 obtain ⟨k,s,t,x,a,b⟩:=r;exact nF0 k s t x a b fun y hy=>kY0 y
termination_by SizeOf.sizeOf r
decreasing_by
 rcases List.mem_append.1 hy with hy | hy
 ·have:=List.sizeOf_lt_of_mem hy
  simp;omega
 ·have:=List.sizeOf_lt_of_mem hy
  simp;omega
theorem dM0:uL1 141:=by
 intro r hw;have h1:=kY0 r 1 (by omega) hw
 have hg:r.good↔r.goodAt 1:=by unfold Sm.good Sm.goodAt;constructor<;>(rintro ⟨a,b,c⟩;exact ⟨a,by omega,by omega⟩)
 rw[hg];clear hg;generalize r.goodAt 1=g at *;generalize r.cnt=pt at *;obtain ⟨k,s,t,x,a,b⟩:=r;rw[UD0] at h1 |-;generalize x.map Ex.t=xl at *;generalize a.map Sm.t=al at *;generalize b.map Sm.t=bl at *;refine qF tyK Tryz.func141 6 [.tmp 2] ?_;unhygienic intros
 revert hK K;refine qW 0 ?_;intro K hK;refine qG ?_;refine qD hP h1 ?_;rintro res bx ⟨n,n1,n2,n3,n4,rfl,rfl⟩;refine qC ?_;revert hK K;refine qW 0 ?_;intro K hK;refine hR _ _ ⟨_,?_,rfl,rfl⟩;rw[<-n3];clear hM hP hC hR;cases hO;simp only[Ops.std,sCm,decide_eq_true_eq,Int.ofNat_eq_natCast];omega
theorem QX0 (x:Sm) (hz:x.sz<=1048576):ACl Tryz.prog 140 [agT x.t] [] (fun res bx=>∃b:Bool,(b=true↔¬x.good)/\res=litB b/\bx=[]):=by
 have h1:=dM0 x hz;generalize x.good=g at *;obtain ⟨k,s,t,xx,a,b⟩:=x;rw[UD0] at h1 |-;generalize xx.map Ex.t=xl at *;generalize a.map Sm.t=al at *;generalize b.map Sm.t=bl at *;refine qF tyK Tryz.func140 6 [.tmp 2] ?_;unhygienic intros
 have hnt:bnot true=false:=by cases hO;rfl
 have hnf:bnot false=true:=by cases hO;rfl
 revert hK K;refine qW 0 ?_;intro K hK;refine qG ?_;refine qD hP h1 ?_;rintro res bx ⟨r,hr,rfl,rfl⟩;refine qC ?_;cases r
 ·revert hK K;refine qW 0 ?_;intro K hK
  simp only[hnf];revert hK K;refine qW 0 ?_;intro K hK;exact hR _ _ ⟨_,⟨fun _ h=>by simpa using hr.2 h,fun _=>rfl⟩,rfl,rfl⟩
 ·revert hK K;refine qW 0 ?_;intro K hK
  simp only[hnt];revert hK K;refine qW 0 ?_;intro K hK;exact hR _ _ ⟨_,⟨fun h=>by simp at h,fun h=>absurd (hr.1 rfl) h⟩,rfl,rfl⟩
def invH1 (xl:List (List T)) (l:List Sm) (N:Nat) (σ:AS):Prop:=
 ∃(i:Nat),σ=⟨vag 19 [(0,⟨.one,[.ro true xl]⟩),(1,⟨.one,[.fn 140 []]⟩),(7,litI (Int.ofNat l.length)),(8,litI (Int.ofNat i))],[],1⟩/\i<=l.length/\(∀x∈l.take i,x.good)/\N=l.length - i
theorem VL0 (l:List Sm) (xl:List (List T)) (hxl:xl=l.map Sm.t) (hl:l.length<=1048576) (ih:∀x∈l,ACl Tryz.prog 140 [agT x.t] [] (fun res bx=>∃b:Bool,(b=true↔¬x.good)/\res=litB b/\bx=[])) :
  ACl Tryz.prog 153 [⟨.one,[.ro true xl]⟩,⟨.one,[.fn 140 []]⟩] [] (fun res bx=>∃r:Int,(0<=r↔∃x∈l,¬x.good)/\res=litI r/\bx=[]):=by
 refine qF tyK Tryz.func153 19 [.tmp 4] ?_;unhygienic intros
 obtain ⟨N,hN⟩:=qX l.length;have hlen:len xl=N:=lnO hO (by simp[hxl,hN])
 have ha:all xl 6:=alO hO (by subst hxl;simp[Sm.t_len])
 rw[<-hN] at hl;revert hK K;refine qW 0 ?_;intro K hK;simp only[hlen];refine qL 0 [0,1,7,8] kk0 (invH1 xl l) ?_ ?_
 ·cbv
  exact ⟨_,0,by rw[<-hN];cbv,by simp,by simp,rfl⟩
 rintro m σ ⟨i,rfl,g1,g2,rfl⟩;rw[<-hN];revert hK K;refine qW 0 ?_;intro K hK;refine nC rfl (fun h3=>?_) (fun h3=>?_)
 ·have hlt:i < N:=qv3
  obtain ⟨x,hx,hx',ht,e1⟩:=mpA hO hxl (hN ▸ hlt);have e:bin .add .i64 (Int.ofNat i) 1=_:=iSc hO (by omega)
  have hidx:idx (Int.ofNat i) (len xl):=hlen ▸ ixN hO hlt;have hcall:=ih x hx;have hxk:x.good->∀y∈List.take (i+1) l,y.good:=fun h y hy=>by
   rw[ht] at hy;rcases List.mem_append.1 hy with hy | hy
   ·exact g2 y hy
   ·obtain rfl:=List.mem_singleton.1 hy;exact h
  have hex:¬x.good->∃x∈l,¬x.good:=fun h=>⟨x,hx,h⟩;generalize hgx:x.good=gx at *;clear hgx;obtain ⟨k',s',t',x',a',b'⟩:=x;simp only[agT,Sm.t_mk,List.map,tA] at hcall e1;generalize x'.map Ex.t=xl' at hcall e1;generalize a'.map Sm.t=al' at hcall e1;generalize b'.map Sm.t=bl' at hcall e1;revert hK K;refine qW 0 ?_;intro K hK
  repeat (simp only[e1];cbv)
  refine ndC hidx (ndC ha (ndN ?_));refine qG ?_;refine qD hP hcall ?_;rintro res bx ⟨b,hb,rfl,rfl⟩;refine qC ?_;cases b
  ·revert hK K;refine qW 0 ?_;intro K hK
   rw[e];exact ⟨N - (i+1),by omega,i+1,by rw[<-hN];cbv,by omega,hxk (Classical.not_not.1 fun h=>by simpa using hb.2 h),by rw[hN]⟩
  ·revert hK K;refine qW 0 ?_;intro K hK
   refine hR _ _ ⟨_,⟨fun _=>hex (hb.1 rfl),fun _=>?_⟩,rfl,rfl⟩;simp
 ·have hge:i=N:=qw3
  rw[List.take_of_length_le (by omega)] at g2
  revert hK K;refine qW 0 ?_;intro K hK;exact hR _ _ ⟨_,⟨fun h=>by simp at h,fun ⟨x,hx,hk⟩=>absurd (g2 x hx) hk⟩,rfl,rfl⟩
theorem hP0 (l:List Sm) (xl:List (List T)) (hxl:xl=l.map Sm.t) (hl:l.length<=1048576) (hz:∀x∈l,x.sz<=1048576) :
  ACl Tryz.prog 139 [⟨.one,[.ro true xl]⟩,⟨.one,[.fn 140 []]⟩] [] (fun res bx=>∃b:Bool,(b=true↔∃x∈l,¬x.good)/\res=litB b/\bx=[]):=by
 have hc:=VL0 l xl hxl hl fun x hx=>QX0 x (hz x hx);refine qF tyK Tryz.func139 9 [.tmp 4] ?_;unhygienic intros
 revert hK K;refine qW 0 ?_;intro K hK;refine qG ?_;refine qD hP hc ?_;rintro res bx ⟨r,hr,rfl,rfl⟩;refine qC ?_;revert hK K;refine qW 0 ?_;intro K hK;refine hR _ _ ⟨_,?_,rfl,rfl⟩;rw[<-hr];cases hO;simp[Ops.std,sCm]
theorem YW0:uX1 105:=by
 intro l xl hxl hz;have hc:=hP0 l xl hxl (by omega) fun x hx=>by have:=Sm.szs_mem hx;omega
 have hq:vM0 l↔(¬∃x∈l,¬x.good)/\l.length<=20:=by
  unfold vM0;refine and_congr_left fun _=>?_;exact ⟨fun h ⟨x,hx,hn⟩=>hn (h x hx),fun h x hx=>Classical.not_not.1 fun hn=>h ⟨x,hx,hn⟩⟩
 generalize vM0 l=bp at *;generalize (∃x∈l,¬x.good)=ex at *;refine qF tyK Tryz.func105 11 [.tmp 2] ?_;unhygienic intros
 obtain ⟨N,hN⟩:=qX l.length;have hlen:len xl=N:=lnO hO (by simp[hxl,hN])
 have hnt:bnot true=false:=by cases hO;rfl
 have hnf:bnot false=true:=by cases hO;rfl
 rw[<-hN] at hq;revert hK K;refine qW 0 ?_;intro K hK;simp only[hlen];refine GFork.mk (fun h1=>?_) (fun h1=>?_)<;>cbv
 ·have h2:N<=20:=qw1
  revert hK K;refine qW 0 ?_;intro K hK;refine qG ?_;refine qD hP hc ?_;rintro res bx ⟨r,hr,rfl,rfl⟩;refine qC ?_;cases r
  ·revert hK K;refine qW 0 ?_;intro K hK
   try simp only[hnf]
   revert hK K;refine qW 0 ?_;intro K hK;exact hR _ _ ⟨_,⟨fun _=>hq.2 ⟨fun h=>by simpa using hr.2 h,h2⟩,fun _=>rfl⟩,rfl,rfl⟩
  ·revert hK K;refine qW 0 ?_;intro K hK
   try simp only[hnt]
   revert hK K;refine qW 0 ?_;intro K hK;exact hR _ _ ⟨_,⟨fun h=>by simp at h,fun h=>absurd (hr.1 rfl) (hq.1 h).1⟩,rfl,rfl⟩
 ·have h2:20 < N:=qw1
  revert hK K;refine qW 0 ?_;intro K hK;exact hR _ _ ⟨_,⟨fun h=>by simp at h,fun h=>by have:=(hq.1 h).2;omega⟩,rfl,rfl⟩
theorem PB0 (xl:List (List T)):ACl Tryz.prog 142 [⟨.one,[.ro true xl]⟩,⟨.one,[.nil]⟩,⟨.one,[.fn 106 []]⟩] [] (fun res bx=>∃b:Bool,(b=true↔xl.length=0)/\res=litB b/\bx=[]):=by
 refine qF tyK Tryz.func142 32 [.tmp 6] ?_;unhygienic intros
 have hlen:len xl=xl.length:=by cases hO;rfl
 obtain ⟨N,hN⟩:=qX xl.length;rw[<-hN] at hlen;rw[<-hN] at hR;revert hK K;refine qW 0 ?_;intro K hK;simp only[hlen];refine nC rfl (fun h1=>?_) (fun h1=>?_)
 ·have h2:N≠0:=qv1
  revert hK K;refine qW 0 ?_;intro K hK;exact hR _ _ ⟨_,⟨fun h=>by simp at h,fun h=>absurd h h2⟩,rfl,rfl⟩
 ·have h2:N=0:=qv1
  revert hK K;refine qW 0 ?_;intro K hK;simp only[hlen,h2];refine nL (nb:=0) (keep:=fun t=>t == 16 || t == 17) (kk:=fun _ _=>none) (fun N σ=>N=0/\σ=⟨vag 32 [(16,litI 0),(17,litI 0)],[],1⟩) (by simp at hC;simp[hC]) ?_ ?_
  ·cbv
   exact ⟨_,rfl,by cbv⟩
  rintro m σ ⟨rfl,rfl⟩;revert hK K;refine qW 0 ?_;intro K hK;refine nC rfl (fun h5=>?_) (fun h5=>?_)
  ·have hF:False:=by
    clear hM hP hC hR;try clear hK K
    cases hO;simp only[Ops.std,sCm,wF0,sqL,yZ0,rK0,Int.ofNat_eq_natCast] at *;simp at h5
   exact hF.elim
  ·revert hK K;refine qW 0 ?_;intro K hK
   exact hR _ _ ⟨_,⟨fun _=>h2,fun _=>rfl⟩,rfl,rfl⟩
theorem JK0 (k n:Int) (s:ByteArray) (l:List Ex) (xl:List (List T)) (hxl:xl=l.map Ex.t):ACl Tryz.prog 106 [⟨.agg,[.lit (.int .i64 k),.lit (.int .i64 n),.lit (.string s),.ro true xl]⟩,⟨.agg,[.lit (.int .i64 0),.lit (.int .i64 0),.lit (.string ⟨⟨[]⟩⟩),.nil]⟩] [] (fun res bx=>∃b:Bool,(b=true↔rG0 (.mk k n s l))/\res=litB b/\bx=[]):=by
 have hq:rG0 (.mk k n s l)↔k=0/\n=0/\s=⟨⟨[]⟩⟩/\xl.length=0:=by
  unfold rG0;rw[hxl,List.length_map,List.length_eq_zero_iff];simp
 have he:=PB0 xl;rw[hq];clear hq;generalize xl.length=z at *;refine qF tyK Tryz.func106 31 [.tmp 4] ?_;unhygienic intros
 refine qO ?_
 repeat' first|(revert hK K;refine qV 0 ?_;intro K hK)|(refine qK (fun _=>?_) fun _=>?_)|(refine qG ?_;refine qD hP he ?_;rintro res bx ⟨r,hr,rfl,rfl⟩;refine qC ?_)|fail
 all_goals (refine hR _ _ ⟨_,?_,rfl,rfl⟩;clear hR hM hP hC hseg hxl he;cases hO;simp only[Ops.std,sCm,sqL,beq_iff_eq] at *;first | omega|(simp_all;done)|(simp_all;omega) | grind)
theorem FD0 (r:Ru) (hz:r.sz<=1048576):ACl Tryz.prog 71 [agT r.t] [] (fun res bx=>∃b:Bool,(b=true↔r.good)/\res=litB b/\bx=[]):=by
 obtain ⟨k,⟨ek,en,es,el⟩,a⟩:=r;simp only[Ru.sz] at hz;rw[bK0 _ ek en es el rfl];obtain ⟨xl,hxl⟩:=qX (el.map Ex.t);obtain ⟨al,hal⟩:=qX (a.map Sm.t);have h1:=JK0 ek en es el xl hxl;have h2:=qH0 (.mk ek en es el) (by omega)
 have h3:=YW0 a al hal (by omega)
 rw[agT,Ex.t_mk] at h2;simp only[List.map,tA] at h2;have hq:Ru.good ⟨k,.mk ek en es el,a⟩↔((k=1\/k=2\/k=3)/\rG0 (.mk ek en es el)/\vM0 a)\/(k=4/\(Ex.mk ek en es el).good/\vM0 a):=Iff.rfl;rw[hq];generalize rG0 (.mk ek en es el)=pz at *;generalize (Ex.mk ek en es el).good=pe at *;generalize vM0 a=pb at *;rw[<-hxl,<-hal];rw[<-hxl] at h2;clear hq hz hxl hal;refine qF tyK Tryz.func71 23 [.tmp 2] ?_;unhygienic intros
 have hnt:bnot true=false:=by cases hO;rfl
 have hnf:bnot false=true:=by cases hO;rfl
 refine qO ?_
 repeat' first|(revert hK K;refine qV 0 ?_;intro K hK)|(refine qK (fun _=>?_) fun _=>?_)|(simp only[hnt,hnf];try cbv)|(refine qG ?_;refine qD hP (vZ0 k 1 4) ?_;rintro res bx ⟨r,hr0,rfl,rfl⟩;refine qC ?_)|(refine qG ?_;refine qD hP h1 ?_;rintro res bx ⟨r,hr1,rfl,rfl⟩;refine qC ?_)|(refine qG ?_;refine qD hP h2 ?_;rintro res bx ⟨r,hr2,rfl,rfl⟩;refine qC ?_)|(refine qG ?_;refine qD hP h3 ?_;rintro res bx ⟨r,hr3,rfl,rfl⟩;refine qC ?_)|fail
 all_goals (refine hR _ _ ⟨_,?_,rfl,rfl⟩;clear hR hM hP hC hseg h1 h2 h3;cases hO;simp only[Ops.std,sCm,beq_iff_eq] at *;first | omega|(simp_all;done)|(simp_all;omega) | grind)
theorem KU0 (x:Ru) (hz:x.sz<=1048576):ACl Tryz.prog 70 [agT x.t] [] (fun res bx=>∃b:Bool,(b=true↔¬x.good)/\res=litB b/\bx=[]):=by
 have h1:=FD0 x hz;obtain ⟨⟨ek,en,es,el⟩,hpp⟩:∃e,x.p=e:=⟨_,rfl⟩;rw[bK0 x ek en es el hpp] at h1 |-;generalize x.good=g at *;generalize x.k=k at *;generalize el.map Ex.t=xl at *;generalize x.a.map Sm.t=al at *;refine qF tyK Tryz.func70 6 [.tmp 2] ?_;unhygienic intros
 have hnt:bnot true=false:=by cases hO;rfl
 have hnf:bnot false=true:=by cases hO;rfl
 revert hK K;refine qW 0 ?_;intro K hK;refine qG ?_;refine qD hP h1 ?_;rintro res bx ⟨r,hr,rfl,rfl⟩;refine qC ?_;cases r
 ·revert hK K;refine qW 0 ?_;intro K hK
  simp only[hnf];revert hK K;refine qW 0 ?_;intro K hK;exact hR _ _ ⟨_,⟨fun _ h=>by simpa using hr.2 h,fun _=>rfl⟩,rfl,rfl⟩
 ·revert hK K;refine qW 0 ?_;intro K hK
  simp only[hnt];revert hK K;refine qW 0 ?_;intro K hK;exact hR _ _ ⟨_,⟨fun h=>by simp at h,fun h=>absurd (hr.1 rfl) h⟩,rfl,rfl⟩
def invH2 (xl:List (List T)) (l:List Ru) (N:Nat) (σ:AS):Prop:=
 ∃(i:Nat),σ=⟨vag 19 [(0,⟨.one,[.ro true xl]⟩),(1,⟨.one,[.fn 70 []]⟩),(7,litI (Int.ofNat l.length)),(8,litI (Int.ofNat i))],[],1⟩/\i<=l.length/\(∀x∈l.take i,x.good)/\N=l.length - i
theorem VM0 (l:List Ru) (xl:List (List T)) (hxl:xl=l.map Ru.t) (hl:l.length<=1048576) (ih:∀x∈l,ACl Tryz.prog 70 [agT x.t] [] (fun res bx=>∃b:Bool,(b=true↔¬x.good)/\res=litB b/\bx=[])) :
  ACl Tryz.prog 103 [⟨.one,[.ro true xl]⟩,⟨.one,[.fn 70 []]⟩] [] (fun res bx=>∃r:Int,(0<=r↔∃x∈l,¬x.good)/\res=litI r/\bx=[]):=by
 refine qF tyK Tryz.func103 19 [.tmp 4] ?_;unhygienic intros
 obtain ⟨N,hN⟩:=qX l.length;have hlen:len xl=N:=lnO hO (by simp[hxl,hN])
 have ha:all xl 6:=alO hO (by subst hxl;simp[Ru.t_len])
 rw[<-hN] at hl;revert hK K;refine qW 0 ?_;intro K hK;simp only[hlen];refine qL 0 [0,1,7,8] kk0 (invH2 xl l) ?_ ?_
 ·cbv
  exact ⟨_,0,by rw[<-hN];cbv,by simp,by simp,rfl⟩
 rintro m σ ⟨i,rfl,g1,g2,rfl⟩;rw[<-hN];revert hK K;refine qW 0 ?_;intro K hK;refine nC rfl (fun h3=>?_) (fun h3=>?_)
 ·have hlt:i < N:=qv3
  obtain ⟨x,hx,hx',ht,e1⟩:=mpA hO hxl (hN ▸ hlt);have e:bin .add .i64 (Int.ofNat i) 1=_:=iSc hO (by omega)
  have hidx:idx (Int.ofNat i) (len xl):=hlen ▸ ixN hO hlt;have hcall:=ih x hx;have hxk:x.good->∀y∈List.take (i+1) l,y.good:=fun h y hy=>by
   rw[ht] at hy;rcases List.mem_append.1 hy with hy | hy
   ·exact g2 y hy
   ·obtain rfl:=List.mem_singleton.1 hy;exact h
  have hex:¬x.good->∃x∈l,¬x.good:=fun h=>⟨x,hx,h⟩;generalize hgx:x.good=gx at *;clear hgx;obtain ⟨⟨ek,en,es,el⟩,hpp⟩:∃e,x.p=e:=⟨_,rfl⟩;have hagt:=bK0 x ek en es el hpp;simp only[agT] at hagt hcall;rw[hagt] at hcall;rw[Ru.t,hpp,Ex.t_mk] at e1;simp only[List.cons_append,List.nil_append] at e1;generalize x.k=k' at hcall e1;generalize el.map Ex.t=el' at hcall e1;generalize x.a.map Sm.t=al' at hcall e1
  revert hK K;refine qW 0 ?_;intro K hK
  repeat (simp only[e1];cbv)
  refine ndC hidx (ndC ha (ndN ?_));refine qG ?_;refine qD hP hcall ?_;rintro res bx ⟨b,hb,rfl,rfl⟩;refine qC ?_;cases b
  ·revert hK K;refine qW 0 ?_;intro K hK
   rw[e];exact ⟨N - (i+1),by omega,i+1,by rw[<-hN];cbv,by omega,hxk (Classical.not_not.1 fun h=>by simpa using hb.2 h),by rw[hN]⟩
  ·revert hK K;refine qW 0 ?_;intro K hK
   refine hR _ _ ⟨_,⟨fun _=>hex (hb.1 rfl),fun _=>?_⟩,rfl,rfl⟩;simp
 ·have hge:i=N:=qw3
  rw[List.take_of_length_le (by omega)] at g2
  revert hK K;refine qW 0 ?_;intro K hK;exact hR _ _ ⟨_,⟨fun h=>by simp at h,fun ⟨x,hx,hk⟩=>absurd (g2 x hx) hk⟩,rfl,rfl⟩
theorem hQ0 (l:List Ru) (xl:List (List T)) (hxl:xl=l.map Ru.t) (hl:l.length<=1048576) (hz:∀x∈l,x.sz<=1048576) :
  ACl Tryz.prog 69 [⟨.one,[.ro true xl]⟩,⟨.one,[.fn 70 []]⟩] [] (fun res bx=>∃b:Bool,(b=true↔∃x∈l,¬x.good)/\res=litB b/\bx=[]):=by
 have hc:=VM0 l xl hxl hl fun x hx=>KU0 x (hz x hx);refine qF tyK Tryz.func69 9 [.tmp 4] ?_;unhygienic intros
 revert hK K;refine qW 0 ?_;intro K hK;refine qG ?_;refine qD hP hc ?_;rintro res bx ⟨r,hr,rfl,rfl⟩;refine qC ?_;revert hK K;refine qW 0 ?_;intro K hK;refine hR _ _ ⟨_,?_,rfl,rfl⟩;rw[<-hr];cases hO;simp[Ops.std,sCm]
theorem xF1 (x:Fu) (s:ByteArray):ACl Tryz.prog 110 [agT x.t,⟨.one,[.ptr 0 0]⟩] [some [.lit (.string s)]] (fun res bx=>∃b:Bool,(b=true↔x.name=s)/\res=litB b/\bx=[some [.lit (.string s)]]):=by
 rw[TF0];generalize x.name=nm;generalize strs x.params=pt;generalize x.a.map Sm.t=al;refine qF tyK Tryz.func110 8 [.tmp 3] ?_;unhygienic intros
 revert hK K;refine qW 1 ?_;intro K hK;refine hR _ _ ⟨_,?_,rfl,rfl⟩;cases hO;simp only[Ops.std,sqL,beq_iff_eq,decide_eq_true_eq]
def invH3 (s:ByteArray) (xl:List (List T)) (l:List Fu) (N:Nat) (σ:AS):Prop:=
 ∃(i:Nat),σ=⟨vag 19 [(0,⟨.one,[.ro true xl]⟩),(1,⟨.one,[.fn 110 [(0,0)]]⟩),(7,litI (Int.ofNat l.length)),(8,litI (Int.ofNat i))],[some [.lit (.string s)]],1⟩/\i<=l.length/\(∀p g,p < i->l[p]?=some g->g.name≠s)/\N=l.length - i
theorem JL0 (s:ByteArray) (l:List Fu) (hl:l.length<=1048576) (xl:List (List T)) (hxl:xl=l.map Fu.t) :
  ACl Tryz.prog 109 [⟨.one,[.ro true xl]⟩,⟨.one,[.fn 110 [(0,0)]]⟩] [some [.lit (.string s)]]
  (fun res bx=>∃r:Int,FnAtP l s r/\res=litI r/\bx=[some [.lit (.string s)]]):=by
 refine qF tyK Tryz.func109 19 [.tmp 4] ?_;unhygienic intros
 obtain ⟨N,hN⟩:=qX l.length;have hlen:len xl=N:=lnO hO (by simp[hxl,hN])
 have ha:all xl 3:=alO hO (by subst hxl;simp[Fu.t_len])
 rw[<-hN] at hl;revert hK K;refine qW 1 ?_;intro K hK;simp only[hlen];refine qL 1 [0,1,7,8] kk0 (invH3 s xl l) ?_ ?_
 ·cbv
  exact ⟨_,0,by rw[<-hN];cbv,by simp,fun p g h=>by omega,rfl⟩
 rintro m σ ⟨i,rfl,g1,g2,rfl⟩;rw[<-hN];revert hK K;refine qW 1 ?_;intro K hK;refine nC rfl (fun h3=>?_) (fun h3=>?_)
 ·have hlt:i < N:=qv3
  obtain ⟨x,hx,hx',ht,e1⟩:=mpA hO hxl (hN ▸ hlt);have e:bin .add .i64 (Int.ofNat i) 1=_:=iSc hO (by omega)
  have hidx:idx (Int.ofNat i) (len xl):=hlen ▸ ixN hO hlt;have hcall:=xF1 x s;have hok:x.name=s->FnAtP l s (Int.ofNat i):=fun h=>.inl ⟨i,x,rfl,hx',h,g2⟩;have hnx:x.name≠s->∀p g,p < i+1->l[p]?=some g->g.name≠s:=fun h p z hp hz=>by
   by_cases hpi:p=i
   ·rw[hpi,hx'] at hz;rw[<-Option.some.inj hz];exact h
   ·exact g2 p z (by omega) hz
  rw[TF0] at hcall
  change get xl (nat (Int.ofNat i))=[T.lit (.string x.name),.sl (strs x.params),.sl (x.a.map Sm.t)] at e1
  generalize x.name=nm at *;generalize strs x.params=pt at *;generalize x.a.map Sm.t=al' at *;revert hK K;refine qW 1 ?_;intro K hK
  repeat (simp only[e1];cbv)
  refine ndC hidx (ndC ha (ndN ?_));refine qg (nN [0]) ?_;refine qC ?_;refine qD hP hcall ?_;rintro res bx ⟨b,hb,rfl,rfl⟩;refine qC ?_;cases b
  ·revert hK K;refine qW 1 ?_;intro K hK
   rw[e];exact ⟨N - (i+1),by omega,i+1,by rw[<-hN];cbv,by omega,hnx fun h=>by simpa using hb.2 h,by rw[hN]⟩
  ·revert hK K;refine qW 1 ?_;intro K hK
   exact hR _ _ ⟨_,hok (hb.1 rfl),rfl,rfl⟩
 ·have hge:i=N:=qw3
  revert hK K;refine qW 1 ?_;intro K hK;refine hR _ _ ⟨_,.inr ⟨rfl,fun f hf=>?_⟩,rfl,rfl⟩;obtain ⟨p,hp⟩:=List.mem_iff_getElem?.1 hf;exact g2 p f (by have:=(List.getElem?_eq_some_iff.1 hp).1;omega) hp
theorem uB1 (rt ft:List (List T)) (l:List Fu) (hft:ft=l.map Fu.t) (s:ByteArray) (hl:l.length<=1048576) :
  ACl Tryz.prog 73 [⟨.agg,[.ro true rt,.ro true ft]⟩,litS s] [] (fun res bx=>∃r:Int,FnAtP l s r/\res=litI r/\bx=[]):=by
 have hc:=JL0 s l hl ft hft;refine qF tyK Tryz.func73 9 [.tmp 4] ?_;unhygienic intros
 revert hK K;refine qW 0 ?_;intro K hK;refine qg (nN [1]) ?_;refine qC ?_;refine qD hP hc ?_;rintro res bx ⟨r,hr,rfl,rfl⟩;refine qC ?_;revert hK K;refine qW 0 ?_;intro K hK;exact hR _ _ ⟨r,hr,rfl,rfl⟩
def invH4 (nm:ByteArray) (pt al:List (List T)) (l:List ByteArray) (N:Nat) (σ:AS):Prop:=
 ∃(i:Nat),σ=⟨vag 41 [(1,⟨.one,[.ptr 0 0]⟩),(22,⟨.one,[.ro true pt]⟩),(23,litI (Int.ofNat l.length)),(24,litI (Int.ofNat i))],[some [.lit (.string nm),.ro true pt,.ro true al]],1⟩/\i<=l.length/\ParP l i/\N=l.length - i
theorem uA1 (f:Fu) (hz:f.sz<=1048576):ACl Tryz.prog 72 [agT f.t] [] (fun res bx=>∃b:Bool,(b=true↔xE0 f.name/\(ParP f.params f.params.length/\f.params.length<=4)/\vM0 f.a)/\res=litB b/\bx=[]):=by
 unfold Fu.sz at hz;rw[TF0];have hc1:=xP0 f.name (by omega)
 have hnm:=fun (s:ByteArray) (hs:s∈f.params)=>xP0 s (by have:=bE0 hs;omega)
 have hc4:=YW0 f.a (f.a.map Sm.t) rfl (by omega)
 generalize xE0 f.name=np at *;generalize vM0 f.a=bp at *;obtain ⟨l,hlf⟩:=qX f.params;rw[<-hlf] at hnm hz |-;obtain ⟨pt,hpt⟩:=qX (strs l);rw[<-hpt];generalize f.name=nm at *;generalize f.a.map Sm.t=al at *;clear hlf;refine qF tyK Tryz.func72 41 [.tmp 2] ?_;unhygienic intros
 obtain ⟨N,hN⟩:=qX l.length;have hl:N<=1048576:=by rw[hN];omega
 clear hz;have hln:len pt=N:=lnO hO (by simp[hpt,hN])
 have ha:all pt 1:=alO hO (by rw[hpt];exact nP0 l)
 have hnt:bnot true=false:=by cases hO;rfl
 have hnf:bnot false=true:=by cases hO;rfl
 revert hK K;refine qW 0 ?_;intro K hK;refine qG ?_;refine qD hP hc1 ?_;rintro res bx ⟨b,hb1,rfl,rfl⟩;refine qC ?_;cases b
 ·revert hK K;refine qW 0 ?_;intro K hK
  try simp only[hnf]
  revert hK K;refine qW 0 ?_;intro K hK;exact hR _ _ ⟨_,⟨fun h=>by simp at h,fun h=>absurd (hb1.2 h.1) (by simp)⟩,rfl,rfl⟩
 revert hK K;refine qW 0 ?_;intro K hK
 try simp only[hnt]
 revert hK K;refine qW 0 ?_;intro K hK
 try simp only[hln]
 refine GFork.mk (fun h5=>?_) (fun h5=>?_)<;>cbv
 ·have h4:4 < N:=qw5
  revert hK K;refine qW 0 ?_;intro K hK;exact hR _ _ ⟨_,⟨fun h=>by simp at h,fun h=>by have:=h.2.1.2;omega⟩,rfl,rfl⟩
 have h4:N<=4:=qw5;clear h5;revert hK K;refine qW 0 ?_;intro K hK;refine qG ?_;refine qD hP hc4 ?_;rintro res bx ⟨b,hb4,rfl,rfl⟩;refine qC ?_;cases b
 ·revert hK K;refine qW 0 ?_;intro K hK
  try simp only[hnf]
  revert hK K;refine qW 0 ?_;intro K hK;exact hR _ _ ⟨_,⟨fun h=>by simp at h,fun h=>absurd (hb4.2 h.2.2) (by simp)⟩,rfl,rfl⟩
 have hnp:=hb1.1 rfl;have hbp:=hb4.1 rfl;clear hb1 hb4 hc1 hc4;revert hK K;refine qW 0 ?_;intro K hK
 try simp only[hnt]
 revert hK K;refine qW 0 ?_;intro K hK;simp only[hln];refine qL 1 [1,22,23,24] kk0 (invH4 nm pt al l) ?_ ?_
 ·cbv
  exact ⟨_,0,by rw[<-hN];cbv,by simp,fun p s h=>by omega,rfl⟩
 rintro m σ ⟨i,rfl,g1,g2,rfl⟩;rw[<-hN];rw[<-hN] at g1;revert hK K;refine qW 0 ?_;intro K hK;refine nC rfl (fun h3=>?_) (fun h3=>?_)
 ·have hlt:i < N:=qv3
  obtain ⟨y,hy⟩:∃y,l[i]?=some y:=⟨_,List.getElem?_eq_getElem (hN ▸ hlt)⟩;have e:bin .add .i64 (Int.ofNat i) 1=_:=iSc hO (by omega)
  have hidx:idx (Int.ofNat i) (len pt):=hln ▸ ixN hO hlt;have e1:get pt (nat (Int.ofNat i))=[T.lit (.string y)]:=by cases hO;rw[hpt];simp[Ops.std,strs,hy]
  obtain ⟨pre,hpre⟩:=qX (strs (l.take i));have eseg:seg 0 (nsub (nat (Int.ofNat i)) 0) pt=pre:=by cases hO;rw[hpre,hpt];simp[Ops.std,strs,List.map_take]
  have nb:bnd (Int.ofNat i) (len pt):=by rw[hln];cases hO;exact ⟨Int.natCast_nonneg _,Int.ofNat_le.2 g1⟩
  have nl:le 0 (nat (Int.ofNat i)):=by cases hO;exact Nat.zero_le _
  have hcall:=hnm y (List.mem_of_getElem? hy);have hhas:=uC0 (l.take i) pre y hpre (by rw[List.length_take];omega)
  have hgood:xE0 y->y∉l.take i->ParP l (i+1):=fun h1 h2 p s hp hs=>by
   by_cases hpi:p=i
   ·rw[hpi,hy] at hs;rw[<-Option.some.inj hs,hpi];exact ⟨h1,h2⟩
   ·exact g2 p s (by omega) hs
  have hbad:ParP l l.length->xE0 y/\y∉l.take i:=fun h=>h i y (hN ▸ hlt) hy;generalize xE0 y=py at *;generalize hin:(y∈l.take i)=pin at *;clear hin;revert hK K;refine qW 0 ?_;intro K hK
  repeat (simp only[e1];cbv)
  refine ndC hidx (ndC ha (ndN ?_));revert hK K;refine qW 0 ?_;intro K hK;refine qG ?_;refine qD hP hcall ?_;rintro res bx ⟨r,hr,rfl,rfl⟩;refine qC ?_;cases r
  ·revert hK K;refine qW 0 ?_;intro K hK
   try simp only[hnf]
   revert hK K;refine qW 0 ?_;intro K hK;exact hR _ _ ⟨_,⟨fun h=>by simp at h,fun h=>absurd (hr.2 (hbad h.2.1.1).1) (by simp)⟩,rfl,rfl⟩
  ·revert hK K;refine qW 0 ?_;intro K hK
   try simp only[hnt]
   revert hK K;refine qW 0 ?_;intro K hK
   repeat (simp only[eseg];cbv)
   refine ndC nb (ndC nl (ndC ha (ndN ?_)));refine qG ?_;refine qD hP hhas ?_;rintro res bx ⟨r,hr2,rfl,rfl⟩;refine qC ?_;cases r
   ·revert hK K;refine qW 0 ?_;intro K hK
    rw[e];exact ⟨N - (i+1),by omega,i+1,by rw[<-hN];cbv,by omega,hgood (hr.1 rfl) (fun h=>by have:=hr2.2 h;simp at this),by rw[hN]⟩
   ·revert hK K;refine qW 0 ?_;intro K hK
    exact hR _ _ ⟨_,⟨fun h=>by simp at h,fun h=>absurd (hr2.1 rfl) (hbad h.2.1.1).2⟩,rfl,rfl⟩
 ·have hge:i=N:=qw3
  revert hK K;refine qW 0 ?_;intro K hK;exact hR _ _ ⟨_,⟨fun _=>⟨hnp,⟨by rw[hge,hN] at g2;exact g2,by omega⟩,hbp⟩,fun _=>rfl⟩,rfl,rfl⟩
def invJ1 (rt ft:List (List T)) (l:List Fu) (N:Nat) (σ:AS):Prop:=
 ∃(i:Nat),σ=⟨vag 40 [(1,⟨.one,[.ptr 0 0]⟩),(21,⟨.one,[.ro true ft]⟩),(22,litI (Int.ofNat l.length)),(23,litI (Int.ofNat i))],[some [.ro true rt,.ro true ft]],1⟩/\i<=l.length/\(∀q f,q < i->l[q]?=some f->FuP l q f)/\N=l.length - i
theorem dP0:uN1 38:=by
 rintro ⟨rs,fs⟩ hz;simp only[Pg.sz] at hz;rw[NR0];obtain ⟨rt,hrt⟩:=qX (rs.map Ru.t);obtain ⟨ft,hft⟩:=qX (fs.map Fu.t);have hcr:=hQ0 rs rt hrt (by omega) fun r h=>by have:=Ru.szs_mem h;omega
 have hfz:=fun (f:Fu) (h:f∈fs)=>(by have:=Fu.szs_mem h;omega:f.sz<=1048576)
 have hfn:=fun s=>uB1 rt ft fs hft s (by omega)
 have hq:Pg.good ⟨rs,fs⟩↔(¬∃r∈rs,¬r.good)/\(∀i f,fs[i]?=some f->FuP fs i f)/\rs.length<=10/\fs.length<=6:=by
  unfold Pg.good;refine and_congr_left fun _=>?_;exact ⟨fun h ⟨x,hx,hn⟩=>hn (h x hx),fun h x hx=>Classical.not_not.1 fun hn=>h ⟨x,hx,hn⟩⟩
 simp only[<-hrt,<-hft];generalize Pg.good ⟨rs,fs⟩=pg at *;generalize (∃r∈rs,¬r.good)=ex at *;obtain ⟨NR,hNR⟩:=qX rs.length;obtain ⟨NF,hNF⟩:=qX fs.length;have hR1:NR<=1048576:=by omega
 have hF1:NF<=1048576:=by omega
 clear hz;rw[<-hNR,<-hNF] at hq;refine qF tyK Tryz.func38 40 [.tmp 2] ?_;unhygienic intros
 have lr:len rt=NR:=lnO hO (by simp[hrt,hNR])
 have lf:len ft=NF:=lnO hO (by simp[hft,hNF])
 have haf:all ft 3:=alO hO (by subst hft;simp[Fu.t_len])
 have hnt:bnot true=false:=by cases hO;rfl
 have hnf:bnot false=true:=by cases hO;rfl
 revert hK K;refine qW 0 ?_;intro K hK;simp only[lr];refine GFork.mk (fun h5=>?_) (fun h5=>?_)<;>cbv
 ·have h4:10 < NR:=qw5
  revert hK K;refine qW 0 ?_;intro K hK;exact hR _ _ ⟨_,⟨fun h=>by simp at h,fun h=>by have:=(hq.1 h).2.2.1;omega⟩,rfl,rfl⟩
 have hr10:NR<=10:=qw5;clear h5;revert hK K;refine qW 0 ?_;intro K hK;simp only[lf];refine GFork.mk (fun h5=>?_) (fun h5=>?_)<;>cbv
 ·have h4:6 < NF:=qw5
  revert hK K;refine qW 0 ?_;intro K hK;exact hR _ _ ⟨_,⟨fun h=>by simp at h,fun h=>by have:=(hq.1 h).2.2.2;omega⟩,rfl,rfl⟩
 have hf6:NF<=6:=qw5;clear h5;revert hK K;refine qW 0 ?_;intro K hK;refine qG ?_;refine qD hP hcr ?_;rintro res bx ⟨b,hb0,rfl,rfl⟩;refine qC ?_;obtain rfl | rfl:b=true\/b=false:=by cases b<;>simp
 ·revert hK K;refine qW 0 ?_;intro K hK
  exact hR _ _ ⟨_,⟨fun h=>by simp at h,fun h=>absurd (hb0.1 rfl) (hq.1 h).1⟩,rfl,rfl⟩
 have hnex:¬ex:=fun h=>by simpa using hb0.2 h
 have hq2:pg↔∀i f,fs[i]?=some f->FuP fs i f:=⟨fun h=>(hq.1 h).2.1,fun h=>hq.2 ⟨hnex,h,hr10,hf6⟩⟩;clear hq hnex hb0 hcr;revert hK K;refine qW 0 ?_;intro K hK;simp only[lf];refine qL 1 [1,21,22,23] kk0 (invJ1 rt ft fs) ?_ ?_
 ·cbv
  exact ⟨_,0,by rw[<-hNF];cbv,by simp,fun q f h=>by omega,rfl⟩
 rintro m2 σ ⟨i,rfl,g1,g2,rfl⟩;rw[<-hNF] at g1;rw[<-hNF];revert hK K;refine qW 0 ?_;intro K hK;refine nC rfl (fun h3=>?_) (fun h3=>?_)
 ·have hlt:i < NF:=qv3
  obtain ⟨x,hx,hx',ht,e1⟩:=mpA hO hft (hNF ▸ hlt);have e:bin .add .i64 (Int.ofNat i) 1=_:=iSc hO (by omega)
  have hidx:idx (Int.ofNat i) (len ft):=lf ▸ ixN hO hlt;have hc1:=uA1 x (hfz x hx);have hc2:=hfn x.name;have hq:FuP fs i x↔(xE0 x.name/\(ParP x.params x.params.length/\x.params.length<=4)/\vM0 x.a)/\FnAtP fs x.name (Int.ofNat i):=⟨fun h=>⟨⟨h.1,h.2.2.1,h.2.2.2⟩,h.2.1⟩,fun h=>⟨h.1.1,h.2,h.1.2.1,h.1.2.2⟩⟩;have hgood:FuP fs i x->∀q f,q < i+1->fs[q]?=some f->FuP fs q f:=fun h q f hq hf=>by
   by_cases hqi:q=i
   ·rw[hqi,hx'] at hf;rw[<-Option.some.inj hf,hqi];exact h
   ·exact g2 q f (by omega) hf
  have hbad:(∀i f,fs[i]?=some f->FuP fs i f)->FuP fs i x:=fun h=>h i x hx';have huq:∀r,FnAtP fs x.name r->(FnAtP fs x.name (Int.ofNat i)↔r=Int.ofNat i):=fun r h=>⟨fun h'=>h.unique h',fun h'=>h' ▸ h⟩;generalize FuP fs i x=fp at *;generalize (xE0 x.name/\(ParP x.params x.params.length/\x.params.length<=4)/\vM0 x.a)=np at *;rw[TF0] at hc1
  change get ft (nat (Int.ofNat i))=[T.lit (.string x.name),.sl (strs x.params),.sl (x.a.map Sm.t)] at e1
  generalize strs x.params=pt at *;generalize x.a.map Sm.t=at' at *;obtain ⟨nm,hnm⟩:=qX x.name;rw[<-hnm] at e1 hc1 hc2 huq hq;revert hK K;refine qW 0 ?_;intro K hK
  repeat (simp only[e1];cbv)
  refine ndC hidx (ndC haf (ndN ?_));revert hK K;refine qW 0 ?_;intro K hK;refine qG ?_;refine qD hP hc1 ?_;rintro res bx ⟨b,hb1,rfl,rfl⟩;refine qC ?_;cases b
  ·revert hK K;refine qW 0 ?_;intro K hK
   try simp only[hnf]
   revert hK K;refine qW 0 ?_;intro K hK;exact hR _ _ ⟨_,⟨fun h=>by simp at h,fun h=>absurd (hb1.2 (hq.1 (hbad (hq2.1 h))).1) (by simp)⟩,rfl,rfl⟩
  revert hK K;refine qW 0 ?_;intro K hK
  try simp only[hnt]
  revert hK K;refine qW 0 ?_;intro K hK;refine qG ?_;refine qD hP hc2 ?_;rintro res bx ⟨r,hb2,rfl,rfl⟩;refine qC ?_;have hu:=huq r hb2;clear huq hb2 hc2;revert hK K;refine qW 0 ?_;intro K hK;refine nC rfl (fun h5=>?_) (fun h5=>?_)
  ·have hne:r≠Int.ofNat i:=qv5
   revert hK K;refine qW 0 ?_;intro K hK;exact hR _ _ ⟨_,⟨fun h=>by simp at h,fun h=>absurd (hu.1 (hq.1 (hbad (hq2.1 h))).2) hne⟩,rfl,rfl⟩
  ·have hne:r=Int.ofNat i:=qv5
   have hok:=hq.2 ⟨hb1.1 rfl,hu.2 hne⟩;revert hK K;refine qW 0 ?_;intro K hK;rw[e];exact ⟨fs.length - (i+1),by omega,i+1,by rw[<-hNF];cbv,by omega,hgood hok,rfl⟩
 ·have hge:i=NF:=qw3
  have hfok:∀i f,fs[i]?=some f->FuP fs i f:=fun q f hf=>g2 q f (by have:=(List.getElem?_eq_some_iff.1 hf).1;omega) hf
  revert hK K;refine qW 0 ?_;intro K hK;exact hR _ _ ⟨_,⟨fun _=>hq2.2 hfok,fun _=>rfl⟩,rfl,rfl⟩
end Go.Gv
