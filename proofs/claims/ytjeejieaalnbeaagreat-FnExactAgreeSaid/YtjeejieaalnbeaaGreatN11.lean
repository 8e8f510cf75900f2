/- Part N11 of the proof: contracts of functions of the program, each walked once. -/
import Derived.Test.YtjeejieaalnbeaaGreatN8
import Derived.Test.YtjeejieaalnbeaaGreatN9
import Derived.Test.YtjeejieaalnbeaaGreatQ1
set_option linter.all false
namespace Go.Gv
open Go.Av Go.Proofs Go.Shelf Go.RowKit
set_option maxRecDepth 10000
set_option maxHeartbeats 8000000
def goodS (l:List Sm) (d i:Nat):Prop:=∀x∈l.take i,x.ok/\x.dep+(d+1)<=6
def Sm.goodAt (r:Sm) (d:Nat):Prop:=r.ok/\r.dep+d<=6/\r.cnt<=60
def posAt (a b:List Sm) (j:Nat):Nat:=if j=0 then 0 else if j=1 then a.length else a.length+b.length
abbrev SPartsAt (r:Sm):Prop:=∀(d:Nat),d<=6->r.sz<=1048576->ACl Tryz.prog 218 [agT r.t,litI (Int.ofNat d)] []
  (fun res bx=>∃n:Nat,1<=n/\n<=61/\(n<=60↔r.goodAt d)/\(n<=60->n=r.cnt)/\res=litI (Int.ofNat n)/\bx=[])
def invE1 (cs:List A) (els:List (List T)) (a b:List Sm) (d:Nat) (N:Nat) (σ:AS):Prop:=
 ∃(j n:Nat),σ=⟨vag 44 [(1,litI (Int.ofNat d)),(2,⟨.one,[.ptr 0 0]⟩),(5,litI (Int.ofNat n)),(21,⟨.one,[.ow (0,0) 1 els]⟩),(22,litI 2),(23,litI (Int.ofNat j))],[some cs],1⟩/\j<=2/\
  n=1+Sm.cnts ((a++b).take (posAt a b j))/\n<=60/\goodS (a++b) d (posAt a b j)/\N=2 - j
def invE2 (cs:List A) (els LL:List (List T)) (L l:List Sm) (d off j:Nat) (N:Nat) (σ:AS):Prop:=
 ∃(i n:Nat),σ=⟨vag 44 [(1,litI (Int.ofNat d)),(2,⟨.one,[.ptr 0 0]⟩),(5,litI (Int.ofNat n)),(21,⟨.one,[.ow (0,0) 1 els]⟩),(22,litI 2),(23,litI (Int.ofNat j)),(27,⟨.one,[.ro true LL]⟩),(28,litI (Int.ofNat L.length)),(29,litI (Int.ofNat i))],[some cs],1⟩/\i<=L.length/\
  n=1+Sm.cnts (l.take (off+i))/\n<=60/\goodS l d (off+i)/\N=L.length - i
theorem c_stmtParts_step (k:Int) (s t:ByteArray) (x:List Ex) (a b:List Sm) (ih:∀y∈a++b,SPartsAt y):SPartsAt (.mk k s t x a b):=by
 intro d hd hw;obtain ⟨hs,ht,hxs,hxz,hla,hlb,hwl⟩:=ssz_inv hw;have hhere:=c_stmtHeadOk k s t x a b hs ht hxs hxz;obtain ⟨HH,hHH⟩:=qX (((∀e∈x,e.good)/\SmHere k s t x.length a.length b.length (headK x)));rw[<-hHH] at hhere;have hgood:d<=5->HH->((Sm.mk k s t x a b).goodAt d↔goodS (a++b) d (a.length+b.length)/\1+Sm.cnts (a++b)<=60):=fun hd6 hh=>by
  have hlow:=lowS_all (k:=k) (s:=s) (t:=t) (x:=x) (a:=a) (b:=b) hd6;unfold Sm.goodAt goodS;rw[smok_iff,<-hHH,<-List.length_append,List.take_length,Sm.cnt,Nat.add_assoc,<-Sm.cnts_app];unfold lowS at hlow;rw[<-List.length_append,List.take_length,Sm.cnt,Nat.add_assoc,<-Sm.cnts_app] at hlow
  constructor
  ·rintro ⟨⟨_,h1⟩,h2,h3⟩;exact ⟨fun x hx=>⟨h1 x hx,(hlow.2 ⟨h2,h3⟩).1 x hx⟩,h3⟩
  ·rintro ⟨h1,h2⟩
   have:=hlow.1 ⟨fun x hx=>(h1 x hx).2,h2⟩;exact ⟨⟨hh,fun x hx=>(h1 x hx).1⟩,this⟩
 have hbad:(Sm.mk k s t x a b).goodAt d->d<=5/\HH:=fun h=>⟨by have:=Sm.dep_pos (.mk k s t x a b);have:=h.2.1;omega,by rw[hHH];exact (smok_iff.1 h.1).1⟩
 have hcnt:(Sm.mk k s t x a b).cnt=1+Sm.cnts (a++b):=by rw[Sm.cnt,Sm.cnts_app,Nat.add_assoc]
 have hlastA:∀x∈a++b,goodS (a++b) d (a.length+b.length)->x.ok/\x.dep+(d+1)<=6:=fun x hx h=>by
  unfold goodS at h;rw[<-List.length_append,List.take_length] at h;exact h x hx
 generalize (Sm.mk k s t x a b).goodAt d=GD at hgood hbad |-;generalize (Sm.mk k s t x a b).cnt=par at *;clear hHH hxz;obtain ⟨xl,hxl⟩:=qX (x.map Ex.t);obtain ⟨al,hal⟩:=qX (a.map Sm.t);obtain ⟨bl,hbl⟩:=qX (b.map Sm.t);rw[sm_agT,<-hxl,<-hal,<-hbl] at hhere |-;refine qF tyK Tryz.func218 44 [.tmp 4] ?_;unhygienic intros;obtain ⟨NA,hNA⟩:=qX a.length;obtain ⟨NB,hNB⟩:=qX b.length;have la:len al=NA:=lnO hO (by simp[hal,hNA])
 have lb:len bl=NB:=lnO hO (by simp[hbl,hNB])
 have haa:all al 6:=alO hO (by subst hal;simp[Sm.t_len])
 have hab:all bl 6:=alO hO (by subst hbl;simp[Sm.t_len])
 have hnt:bnot true=false:=by cases hO;rfl
 have hnf:bnot false=true:=by cases hO;rfl
 rw[<-hNA] at hla;rw[<-hNB] at hlb;obtain ⟨cs,hcs⟩:=qX ([.lit (.int .i64 k),.lit (.string s),.lit (.string t),.ro true xl,.ro true al,.ro true bl]:List A);have ed:bin .add .i64 (Int.ofNat d) 1=_:=iSc hO (by omega)
 revert hK K;refine qW0 ?_;intro K hK;refine GFork.mk (fun h1=>?_) (fun h1=>?_)<;>cbv
 ·have h2:5 < d:=qw1
  revert hK K;refine qW0 ?_;intro K hK;exact hR _ _ ⟨61,by omega,by omega,⟨fun h=>by omega,fun h=>by have:=(hbad h).1;omega⟩,by omega,rfl,rfl⟩
 have h2:d<=5:=qw1;clear h1;have hgood:=hgood h2;revert hK K;refine qW0 ?_;intro K hK;refine qG ?_;refine qD hP hhere ?_;rintro res bx ⟨r,hr,rfl,rfl⟩;refine qC ?_;cases r
 ·revert hK K;refine qW0 ?_;intro K hK
  simp only[hnf];revert hK K;refine qW0 ?_;intro K hK;exact hR _ _ ⟨61,by omega,by omega,⟨fun h=>by omega,fun h=>absurd (hr.2 (hbad h).2) (by simp)⟩,by omega,rfl,rfl⟩
 have hgoodA:=hgood (hr.1 rfl);clear hr hhere hbad;revert hK K;refine qW0 ?_;intro K hK;simp only[hnt];revert hK K;refine qW0 ?_;intro K hK;obtain ⟨els,hels⟩:=qX ([[T.sl al],[T.sl bl]]);have hln:len els=2:=by cases hO;rw[hels];rfl
 have hae:all els 1:=alO hO (by rw[hels];simp)
 rw[<-hels];simp only[hln];revert hK K;refine qW0 ?_;intro K hK;refine qL 1 [1,2,5,21,22,23] kk0 (invE1 cs els a b d) ?_ ?_
 ·cbv
  exact ⟨_,0,1,by (try rw[hcs]);cbv,by omega,by simp[posAt,Sm.cnts],by omega,by simp[goodS,posAt],rfl⟩
 rintro m σ ⟨j,n,rfl,g1,g2,g3,g4,rfl⟩
 try rw[hcs]
 revert hK K;refine qW0 ?_;intro K hK;refine nC rfl (fun h3=>?_) (fun h3=>?_)
 ·have hlt:j < 2:=qw3
  have hidx:idx (Int.ofNat j) (len els):=by rw[hln];exact ixN hO hlt
  have hidx':idx (Int.ofNat (nadd 0 (nat (Int.ofNat j)))) (len els):=by
   have h:=hidx;cases hO;simp only[Ops.std,Nat.zero_add] at h |-;exact h
  by_cases hj:j=0
  ·have hj2:posAt a b j=0:=by rw[hj];rfl
   have hj3:posAt a b (j+1)=0+a.length:=by rw[hj];simp[posAt]
   clear h3;have hlenL:len al=NA:=la;have haL:all al 6:=haa;have e1:get els (nat (Int.ofNat j))=[T.sl al]:=by cases hO;rw[hels,hj];rfl
   have e1':get els (nadd 0 (nat (Int.ofNat j)))=[T.sl al]:=by cases hO;rw[hels,hj];rfl
   rw[hj2] at g2 g4;clear hgood;revert hK K;refine qW0 ?_;intro K hK
   repeat (simp only[e1,e1'];cbv)
   refine ndC hidx (ndC hidx' (ndN ?_));revert hK K;refine qW0 ?_;intro K hK;simp only[hlenL];refine qL 1 [1,2,5,21,22,23,27,28,29] kk0 (invE2 cs els al a (a++b) d 0 j) ?_ ?_
   ·cbv
    exact ⟨_,0,n,by (try rw[hcs]);rw[<-hNA];cbv,by simp,by rw[Nat.add_zero];exact g2,g3,by rw[Nat.add_zero];exact g4,rfl⟩
   clear g2 g3 g4 e1 e1';rintro m2 σ ⟨i,n,rfl,g1,g2,g3,g4,rfl⟩
   try rw[hcs]
   rw[<-hNA];revert hK K;refine qW0 ?_;intro K hK;refine nC rfl (fun h3=>?_) (fun h3=>?_)
   ·have hlt:i < NA:=qv3
    obtain ⟨x,hx,hx',ht,e1⟩:=mpA hO hal (hNA ▸ hlt);have hxm:x∈a++b:=List.mem_append_left _ hx;have ht2:(a++b).take (0+(i+1))=(a++b).take (0+i)++[x]:=take_fst (hNA ▸ hlt) ht;have e:bin .add .i64 (Int.ofNat i) 1=_:=iSc hO (by omega)
    have hidxL:idx (Int.ofNat i) (len al):=hlenL ▸ ixN hO hlt;have hpx:=Sm.cnts_app ((a++b).take (0+i)) [x];rw[<-ht2,Sm.cnts_one] at hpx;have hcall:=ih x hxm (d+1) (by omega) (hwl x hxm)
    have hpt:=Sm.cnts_take (a++b) (0+(i+1));have hlast:=hlastA x hxm;have hnext:x.goodAt (d+1)->goodS (a++b) d (0+(i+1)):=fun h y hy=>by
     rw[ht2] at hy;rcases List.mem_append.1 hy with hy | hy
     ·exact g4 y hy
     ·obtain rfl:=List.mem_singleton.1 hy;exact ⟨h.1,h.2.1⟩
    have hga:x.ok->x.dep+(d+1)<=6->x.cnt<=60->x.goodAt (d+1):=fun a b c=>⟨a,b,c⟩;generalize x.goodAt (d+1)=ga at *;generalize x.dep=xd at *;generalize x.cnt=xp at *;generalize x.ok=xo at *;obtain ⟨k',s',t',x',a',b'⟩:=x;simp only[agT,Sm.t_mk,List.map,tA] at hcall e1;generalize x'.map Ex.t=xl' at hcall e1;generalize a'.map Sm.t=al' at hcall e1;generalize b'.map Sm.t=bl' at hcall e1;revert hK K;refine qW0 ?_;intro K hK
    repeat (simp only[e1];cbv)
    refine ndC hidxL (ndC haL (ndN ?_));revert hK K;refine qW0 ?_;intro K hK;simp only[ed];refine qG ?_;refine qD hP hcall ?_;rintro res bx ⟨q,q1,q2,q3,q4,rfl,rfl⟩;refine qC ?_;have e2:bin .add .i64 (Int.ofNat n) (Int.ofNat q)=_:=add_nat hO (by omega)
    generalize hm3:n+q=m3 at e2;simp only[e2];revert hK K;refine qW0 ?_;intro K hK;refine nC rfl (fun h5=>?_) (fun h5=>?_)
    ·have h61:61<=m3:=qw5
     revert hK K;refine qW0 ?_;intro K hK;refine hR _ _ ⟨61,by omega,by omega,⟨fun h=>by omega,fun h=>?_⟩,by omega,rfl,rfl⟩
     obtain ⟨h6,h7⟩:=hgoodA.1 h;obtain ⟨h8,h9⟩:=hlast h6;have h10:=q3.2 (hga h8 h9 (by omega))
     have:=q4 h10;omega
    ·have h61:m3 < 61:=qw5
     revert hK K;refine qW0 ?_;intro K hK;rw[e];have h7:q<=60:=by omega
     have:=q4 h7;exact ⟨NA - (i+1),by omega,i+1,m3,by (try rw[hcs]);rw[<-hNA];cbv,by omega,by omega,by omega,hnext (q3.1 h7),by rw[hNA]⟩
   ·have hge:i=NA:=qw3
    have ej:bin .add .i64 (Int.ofNat j) 1=_:=iSc hO (by omega)
    revert hK K;refine qW0 ?_;intro K hK;rw[ej];exact ⟨2 - (j+1),by omega,j+1,n,by (try rw[hcs]);cbv,by omega,by rw[hj3];rw[hge,hNA] at g2;exact g2,g3,by rw[hj3];rw[hge,hNA] at g4;exact g4,rfl⟩
  ·have hj1:j=1:=by omega
   have hj2:posAt a b j=a.length:=by rw[hj1];rfl
   have hj3:posAt a b (j+1)=a.length+b.length:=by rw[hj1];rfl
   clear h3;have hlenL:len bl=NB:=lb;have haL:all bl 6:=hab;have e1:get els (nat (Int.ofNat j))=[T.sl bl]:=by cases hO;rw[hels,hj1];rfl
   have e1':get els (nadd 0 (nat (Int.ofNat j)))=[T.sl bl]:=by cases hO;rw[hels,hj1];rfl
   rw[hj2] at g2 g4;clear hgood;revert hK K;refine qW0 ?_;intro K hK
   repeat (simp only[e1,e1'];cbv)
   refine ndC hidx (ndC hidx' (ndN ?_));revert hK K;refine qW0 ?_;intro K hK;simp only[hlenL];refine qL 1 [1,2,5,21,22,23,27,28,29] kk0 (invE2 cs els bl b (a++b) d a.length j) ?_ ?_
   ·cbv
    exact ⟨_,0,n,by (try rw[hcs]);rw[<-hNB];cbv,by simp,by rw[Nat.add_zero];exact g2,g3,by rw[Nat.add_zero];exact g4,rfl⟩
   clear g2 g3 g4 e1 e1';rintro m2 σ ⟨i,n,rfl,g1,g2,g3,g4,rfl⟩
   try rw[hcs]
   rw[<-hNB];revert hK K;refine qW0 ?_;intro K hK;refine nC rfl (fun h3=>?_) (fun h3=>?_)
   ·have hlt:i < NB:=qv3
    obtain ⟨x,hx,hx',ht,e1⟩:=mpA hO hbl (hNB ▸ hlt);have hxm:x∈a++b:=List.mem_append_right _ hx;have ht2:(a++b).take (a.length+(i+1))=(a++b).take (a.length+i)++[x]:=take_snd ht;have e:bin .add .i64 (Int.ofNat i) 1=_:=iSc hO (by omega)
    have hidxL:idx (Int.ofNat i) (len bl):=hlenL ▸ ixN hO hlt;have hpx:=Sm.cnts_app ((a++b).take (a.length+i)) [x];rw[<-ht2,Sm.cnts_one] at hpx;have hcall:=ih x hxm (d+1) (by omega) (hwl x hxm)
    have hpt:=Sm.cnts_take (a++b) (a.length+(i+1));have hlast:=hlastA x hxm;have hnext:x.goodAt (d+1)->goodS (a++b) d (a.length+(i+1)):=fun h y hy=>by
     rw[ht2] at hy;rcases List.mem_append.1 hy with hy | hy
     ·exact g4 y hy
     ·obtain rfl:=List.mem_singleton.1 hy;exact ⟨h.1,h.2.1⟩
    have hga:x.ok->x.dep+(d+1)<=6->x.cnt<=60->x.goodAt (d+1):=fun a b c=>⟨a,b,c⟩;generalize x.goodAt (d+1)=ga at *;generalize x.dep=xd at *;generalize x.cnt=xp at *;generalize x.ok=xo at *;obtain ⟨k',s',t',x',a',b'⟩:=x;simp only[agT,Sm.t_mk,List.map,tA] at hcall e1;generalize x'.map Ex.t=xl' at hcall e1;generalize a'.map Sm.t=al' at hcall e1;generalize b'.map Sm.t=bl' at hcall e1;revert hK K;refine qW0 ?_;intro K hK
    repeat (simp only[e1];cbv)
    refine ndC hidxL (ndC haL (ndN ?_));revert hK K;refine qW0 ?_;intro K hK;simp only[ed];refine qG ?_;refine qD hP hcall ?_;rintro res bx ⟨q,q1,q2,q3,q4,rfl,rfl⟩;refine qC ?_;have e2:bin .add .i64 (Int.ofNat n) (Int.ofNat q)=_:=add_nat hO (by omega)
    generalize hm3:n+q=m3 at e2;simp only[e2];revert hK K;refine qW0 ?_;intro K hK;refine nC rfl (fun h5=>?_) (fun h5=>?_)
    ·have h61:61<=m3:=qw5
     revert hK K;refine qW0 ?_;intro K hK;refine hR _ _ ⟨61,by omega,by omega,⟨fun h=>by omega,fun h=>?_⟩,by omega,rfl,rfl⟩
     obtain ⟨h6,h7⟩:=hgoodA.1 h;obtain ⟨h8,h9⟩:=hlast h6;have h10:=q3.2 (hga h8 h9 (by omega))
     have:=q4 h10;omega
    ·have h61:m3 < 61:=qw5
     revert hK K;refine qW0 ?_;intro K hK;rw[e];have h7:q<=60:=by omega
     have:=q4 h7;exact ⟨NB - (i+1),by omega,i+1,m3,by (try rw[hcs]);rw[<-hNB];cbv,by omega,by omega,by omega,hnext (q3.1 h7),by rw[hNB]⟩
   ·have hge:i=NB:=qw3
    have ej:bin .add .i64 (Int.ofNat j) 1=_:=iSc hO (by omega)
    revert hK K;refine qW0 ?_;intro K hK;rw[ej];exact ⟨2 - (j+1),by omega,j+1,n,by (try rw[hcs]);cbv,by omega,by rw[hj3];rw[hge,hNB] at g2;exact g2,g3,by rw[hj3];rw[hge,hNB] at g4;exact g4,rfl⟩
 ·have hge:j=2:=qw3
  have hp:posAt a b j=a.length+b.length:=by rw[hge];rfl
  rw[hp] at g2 g4;rw[<-List.length_append,List.take_length] at g2;revert hK K;refine qW0 ?_;intro K hK;exact hR _ _ ⟨n,by omega,by omega,⟨fun _=>hgoodA.2 ⟨g4,by omega⟩,fun _=>g3⟩,fun _=>by omega,rfl,rfl⟩
theorem c_stmtParts (r:Sm):SPartsAt r:=by
 obtain ⟨k,s,t,x,a,b⟩:=r;exact c_stmtParts_step k s t x a b fun y hy=>c_stmtParts y
termination_by SizeOf.sizeOf r
decreasing_by
 rcases List.mem_append.1 hy with hy | hy
 ·have:=List.sizeOf_lt_of_mem hy
  simp;omega
 ·have:=List.sizeOf_lt_of_mem hy
  simp;omega
theorem c_StmtOk_impl:StmtQ 198:=by
 intro r hw;have h1:=c_stmtParts r 1 (by omega) hw
 have hg:r.good↔r.goodAt 1:=by unfold Sm.good Sm.goodAt;constructor<;>(rintro ⟨a,b,c⟩;exact ⟨a,by omega,by omega⟩)
 rw[hg];clear hg;generalize r.goodAt 1=g at *;generalize r.cnt=pt at *;obtain ⟨k,s,t,x,a,b⟩:=r;rw[sm_agT] at h1 |-;generalize x.map Ex.t=xl at *;generalize a.map Sm.t=al at *;generalize b.map Sm.t=bl at *;refine qF tyK Tryz.func198 6 [.tmp 2] ?_;unhygienic intros;revert hK K;refine qW0 ?_;intro K hK;refine qG ?_;refine qD hP h1 ?_;rintro res bx ⟨n,n1,n2,n3,n4,rfl,rfl⟩;refine qC ?_;revert hK K;refine qW0 ?_;intro K hK
 refine hR _ _ ⟨_,?_,rfl,rfl⟩;rw[<-n3];clear hM hP hC hR;cases hO;simp only[Ops.std,sCm,decide_eq_true_eq,Int.ofNat_eq_natCast];omega
def BodyP (l:List Sm):Prop:=(∀x∈l,x.good)/\l.length<=20
def ZeroP (e:Ex):Prop:=e=.mk 0 0 ⟨⟨[]⟩⟩ []
def Ru.good (r:Ru):Prop:=((r.k=1\/r.k=2\/r.k=3)/\ZeroP r.p/\BodyP r.a)\/(r.k=4/\r.p.good/\BodyP r.a)
def ParP (l:List ByteArray) (i:Nat):Prop:=∀p s,p < i->l[p]?=some s->NameP s/\s∉l.take p
def FnAtP (l:List Fu) (s:ByteArray) (r:Int):Prop:=(∃(i:Nat) (f:Fu),r=Int.ofNat i/\l[i]?=some f/\f.name=s/\∀p g,p < i->l[p]?=some g->g.name≠s)\/(r=-1/\∀f∈l,f.name≠s)
theorem FnAtP.unique {l:List Fu} {s:ByteArray} {r r':Int} (h:FnAtP l s r) (h':FnAtP l s r'):r=r':=by
 rcases h with ⟨i,f,rfl,h1,h2,h3⟩ | ⟨rfl,h1⟩<;>rcases h' with ⟨j,g,rfl,k1,k2,k3⟩ | ⟨rfl,k1⟩
 ·rcases Nat.lt_trichotomy i j with h | h | h
  ·exact absurd h2 (k3 i f h h1)
  ·rw[h]
  ·exact absurd k2 (h3 j g h k1)
 ·exact absurd h2 (k1 f (List.mem_of_getElem? h1))
 ·exact absurd k2 (h1 g (List.mem_of_getElem? k1))
 ·rfl
def FuP (l:List Fu) (i:Nat) (f:Fu):Prop:=NameP f.name/\FnAtP l f.name (Int.ofNat i)/\(ParP f.params f.params.length/\f.params.length<=4)/\BodyP f.a
def Pg.good (p:Pg):Prop:=(∀r∈p.rules,r.good)/\(∀i f,p.fns[i]?=some f->FuP p.fns i f)/\p.rules.length<=10/\p.fns.length<=6
theorem strsz_mem {l:List ByteArray} {s:ByteArray} (h:s∈l):s.size<=strsz l:=by
 induction l with
 | nil=>simp at h
 | cons a l ih=>
  rcases List.mem_cons.1 h with rfl | h
  ·simp[strsz]
  ·have:=ih h;simp[strsz] at this |-;omega
theorem Ru.szs_mem {l:List Ru} {s:Ru} (h:s∈l):s.sz<=Ru.szs l:=by
 induction l with
 | nil=>simp at h
 | cons a l ih=>
  rcases List.mem_cons.1 h with rfl | h
  ·simp[Ru.szs]
  ·have:=ih h;simp[Ru.szs] at this |-;omega
theorem Fu.szs_mem {l:List Fu} {s:Fu} (h:s∈l):s.sz<=Fu.szs l:=by
 induction l with
 | nil=>simp at h
 | cons a l ih=>
  rcases List.mem_cons.1 h with rfl | h
  ·simp[Fu.szs]
  ·have:=ih h;simp[Fu.szs] at this |-;omega
theorem ru_agT (r:Ru) (ek en:Int) (es:ByteArray) (el:List Ex) (h:r.p=.mk ek en es el):agT r.t=⟨.agg,[.lit (.int .i64 r.k),.lit (.int .i64 ek),.lit (.int .i64 en),.lit (.string es),.ro true (el.map Ex.t),.ro true (r.a.map Sm.t)]⟩:=by
 rw[Ru.t,h,Ex.t_mk];rfl
theorem fu_agT (f:Fu):agT f.t=⟨.agg,[.lit (.string f.name),.ro true (strs f.params),.ro true (f.a.map Sm.t)]⟩:=rfl
theorem pg_agT (p:Pg):agT p.t=⟨.agg,[.ro true (p.rules.map Ru.t),.ro true (p.fns.map Fu.t)]⟩:=rfl
def invG1 (xl:List (List T)) (l:List Sm) (N:Nat) (σ:AS):Prop:=
 ∃(i:Nat),σ=⟨vag 19 [(0,⟨.one,[.ro true xl]⟩),(3,litI (Int.ofNat i))],[],1⟩/\i<=l.length/\(∀x∈l.take i,x.good)/\N=l.length - i
abbrev BodyQ (f:FuncId):Prop:=∀(l:List Sm) (xl:List (List T)),xl=l.map Sm.t->l.length+Sm.szs l<=1048576->ACl Tryz.prog f [⟨.one,[.ro true xl]⟩] [] (fun res bx=>∃b:Bool,(b=true↔BodyP l)/\res=litB b/\bx=[])
theorem c_l10Body:BodyQ 111:=by
 intro l xl hxl hz;have hl:l.length<=1048576:=by omega
 have ih:=fun (x:Sm) (hx:x∈l)=>c_StmtOk_spec x (by have:=Sm.szs_mem hx;omega)
 clear hz;refine qF tyK Tryz.func111 19 [.tmp 2] ?_;unhygienic intros;obtain ⟨N,hN⟩:=qX l.length;have hlen:len xl=N:=lnO hO (by simp[hxl,hN])
 have ha:all xl 6:=alO hO (by subst hxl;simp[Sm.t_len])
 have hnt:bnot true=false:=by cases hO;rfl
 have hnf:bnot false=true:=by cases hO;rfl
 rw[<-hN] at hl;revert hK K;refine qW0 ?_;intro K hK;refine qL 0 [0,3] kk0 (invG1 xl l) ?_ ?_
 ·cbv
  exact ⟨_,0,by cbv,by simp,by simp,rfl⟩
 rintro m σ ⟨i,rfl,g1,g2,rfl⟩;rw[<-hN] at g1 |-;revert hK K;refine qW0 ?_;intro K hK;simp only[hlen];refine nC rfl (fun h3=>?_) (fun h3=>?_)
 ·have hlt:i < N:=qv3
  obtain ⟨x,hx,hx',ht,e1⟩:=mpA hO hxl (hN ▸ hlt);have e:bin .add .i64 (Int.ofNat i) 1=_:=iSc hO (by omega)
  have hidx:idx (Int.ofNat i) (len xl):=hlen ▸ ixN hO hlt;have hcall:=ih x hx;obtain ⟨o,ho⟩:=qX x.good;rw[<-ho] at hcall;obtain ⟨k',s',t',x',a',b'⟩:=x;simp only[agT,Sm.t_mk,List.map,tA] at hcall e1;generalize x'.map Ex.t=xl' at hcall e1;generalize a'.map Sm.t=al' at hcall e1;generalize b'.map Sm.t=bl' at hcall e1;revert hK K;refine qW0 ?_;intro K hK
  repeat (simp only[e1];cbv)
  refine ndC hidx (ndC ha (ndN ?_));revert hK K;refine qW0 ?_;intro K hK;refine qG ?_;refine qD hP hcall ?_;rintro res bx ⟨b,hb,rfl,rfl⟩;refine qC ?_;cases b
  ·revert hK K;refine qW0 ?_;intro K hK
   simp only[hnf];revert hK K;refine qW0 ?_;intro K hK;exact hR _ _ ⟨_,⟨fun h=>by simp at h,fun h=>absurd (hb.2 (ho ▸ h.1 _ hx)) (by simp)⟩,rfl,rfl⟩
  ·have hok:=hb.1 rfl
   rw[ho] at hok;revert hK K;refine qW0 ?_;intro K hK;simp only[hnt];revert hK K;refine qW0 ?_;intro K hK;rw[e];refine ⟨N - (i+1),by omega,i+1,by cbv,by omega,?_,by rw[hN]⟩
   rw[ht];intro y hy;rcases List.mem_append.1 hy with hy | hy
   ·exact g2 y hy
   obtain rfl:=List.mem_singleton.1 hy;exact hok
 ·have hge:i=N:=qw3
  rw[List.take_of_length_le (by omega)] at g2
  have hq:BodyP l↔N<=20:=by rw[hN];exact ⟨fun h=>h.2,fun h=>⟨g2,h⟩⟩
  revert hK K;refine qW0 ?_;intro K hK
  try simp only[hlen]
  refine hR _ _ ⟨_,?_,rfl,rfl⟩;rw[hq];clear hM hP hC hR;cases hO;simp only[Ops.std,sCm,decide_eq_true_eq,Int.ofNat_eq_natCast];omega
theorem c_l10Zero (k n:Int) (s:ByteArray) (l:List Ex) (xl:List (List T)) (hxl:xl=l.map Ex.t):ACl Tryz.prog 153 [⟨.agg,[.lit (.int .i64 k),.lit (.int .i64 n),.lit (.string s),.ro true xl]⟩] [] (fun res bx=>∃b:Bool,(b=true↔ZeroP (.mk k n s l))/\res=litB b/\bx=[]):=by
 have hq:ZeroP (.mk k n s l)↔k=0/\n=0/\s=⟨⟨[]⟩⟩/\xl.length=0:=by
  unfold ZeroP;rw[hxl,List.length_map,List.length_eq_zero_iff];simp
 rw[hq];clear hq;refine qF tyK Tryz.func153 22 [.tmp 2] ?_;unhygienic intros;refine qU ?_
 repeat' first|(revert hK K;refine qV0 ?_;intro K hK)|(refine GFork.mk (fun _=>qQ ?_) fun _=>qQ ?_)
 all_goals (refine hR _ _ ⟨_,?_,rfl,rfl⟩;clear hR hM hP hC hseg hxl;cases hO;simp only[Ops.std,sCm,sqL,beq_iff_eq,Int.ofNat_eq_natCast] at *;first | omega|(simp_all;done)|(simp_all;omega) | grind)
theorem c_l10Rule (r:Ru) (hz:r.sz<=1048576):ACl Tryz.prog 108 [agT r.t] [] (fun res bx=>∃b:Bool,(b=true↔r.good)/\res=litB b/\bx=[]):=by
 obtain ⟨k,⟨ek,en,es,el⟩,a⟩:=r;simp only[Ru.sz] at hz;rw[ru_agT _ ek en es el rfl];obtain ⟨xl,hxl⟩:=qX (el.map Ex.t);obtain ⟨al,hal⟩:=qX (a.map Sm.t);have h1:=c_l10Zero ek en es el xl hxl;have h2:=c_ExprOk_spec (.mk ek en es el) (by omega)
 have h3:=c_l10Body a al hal (by omega)
 rw[agT,Ex.t_mk] at h2;simp only[List.map,tA] at h2;have hq:Ru.good ⟨k,.mk ek en es el,a⟩↔((k=1\/k=2\/k=3)/\ZeroP (.mk ek en es el)/\BodyP a)\/(k=4/\(Ex.mk ek en es el).good/\BodyP a):=Iff.rfl;rw[hq];generalize ZeroP (.mk ek en es el)=pz at *;generalize (Ex.mk ek en es el).good=pe at *;generalize BodyP a=pb at *;rw[<-hxl,<-hal];rw[<-hxl] at h2;clear hq hz hxl hal;refine qF tyK Tryz.func108 27 [.tmp 2] ?_;unhygienic intros
 refine qU ?_
 repeat' first|(revert hK K;refine qV0 ?_;intro K hK)|(refine GFork.mk (fun _=>qQ ?_) fun _=>qQ ?_)|(refine qG ?_;refine qD hP h1 ?_;rintro res bx ⟨r,hr,rfl,rfl⟩;refine qC ?_)|(refine qG ?_;refine qD hP h2 ?_;rintro res bx ⟨r,hr,rfl,rfl⟩;refine qC ?_)|(refine qG ?_;refine qD hP h3 ?_;rintro res bx ⟨r,hr',rfl,rfl⟩;refine qC ?_)
 all_goals (refine hR _ _ ⟨_,?_,rfl,rfl⟩;clear hR hM hP hC hseg h1 h2 h3;cases hO;simp only[Ops.std,sCm,beq_iff_eq] at *;first | omega|(simp_all;done)|(simp_all;omega) | grind)
def invG2 (els:List (List T)) (l:List ByteArray) (N:Nat) (σ:AS):Prop:=
 ∃(i:Nat),σ=⟨vag 29 [(0,⟨.one,[.ro true els]⟩),(3,litI (Int.ofNat i))],[],1⟩/\i<=l.length/\ParP l i/\N=l.length - i
theorem c_l10Params (l:List ByteArray) (els:List (List T)) (he:els=strs l) (hz:l.length+strsz l<=1048576) :
  ACl Tryz.prog 110 [⟨.one,[.ro true els]⟩] [] (fun res bx=>∃b:Bool,(b=true↔ParP l l.length/\l.length<=4)/\res=litB b/\bx=[]):=by
 have hl:l.length<=1048576:=by omega
 have hnm:=fun (s:ByteArray) (hs:s∈l)=>c_NameOk_spec s (by have:=strsz_mem hs;omega)
 clear hz;refine qF tyK Tryz.func110 29 [.tmp 2] ?_;unhygienic intros;obtain ⟨N,hN⟩:=qX l.length;have hln:len els=N:=lnO hO (by simp[he,hN])
 have ha:all els 1:=alO hO (by rw[he];exact strs_all l)
 have hnt:bnot true=false:=by cases hO;rfl
 have hnf:bnot false=true:=by cases hO;rfl
 rw[<-hN] at hl;revert hK K;refine qW0 ?_;intro K hK;refine qL 0 [0,3] kk0 (invG2 els l) ?_ ?_
 ·cbv
  exact ⟨_,0,by cbv,by simp,fun p s h=>by omega,rfl⟩
 rintro m σ ⟨i,rfl,g1,g2,rfl⟩;rw[<-hN] at g1 |-;revert hK K;refine qW0 ?_;intro K hK;simp only[hln];refine nC rfl (fun h3=>?_) (fun h3=>?_)
 ·have hlt:i < N:=qv3
  obtain ⟨y,hy⟩:∃y,l[i]?=some y:=⟨_,List.getElem?_eq_getElem (hN ▸ hlt)⟩;have e:bin .add .i64 (Int.ofNat i) 1=_:=iSc hO (by omega)
  have hidx:idx (Int.ofNat i) (len els):=hln ▸ ixN hO hlt;have e1:get els (nat (Int.ofNat i))=[T.lit (.string y)]:=by cases hO;rw[he];simp[Ops.std,strs,hy]
  obtain ⟨pre,hpre⟩:=qX (strs (l.take i));have eseg:seg 0 (nsub (nat (Int.ofNat i)) 0) els=pre:=by cases hO;rw[hpre,he];simp[Ops.std,strs,List.map_take]
  have nb:bnd (Int.ofNat i) (len els):=by rw[hln];cases hO;exact ⟨Int.natCast_nonneg _,Int.ofNat_le.2 g1⟩
  have nl:le 0 (nat (Int.ofNat i)):=by cases hO;exact Nat.zero_le _
  have hcall:=hnm y (List.mem_of_getElem? hy);have hhas:=c_l8Has (l.take i) pre y hpre (by rw[List.length_take];omega)
  have hgood:NameP y->y∉l.take i->ParP l (i+1):=fun h1 h2 p s hp hs=>by
   by_cases hpi:p=i
   ·rw[hpi,hy] at hs;rw[<-Option.some.inj hs,hpi];exact ⟨h1,h2⟩
   ·exact g2 p s (by omega) hs
  have hbad:ParP l l.length->NameP y/\y∉l.take i:=fun h=>h i y (hN ▸ hlt) hy;generalize NameP y=py at *;generalize hin:(y∈l.take i)=pin at *;clear hin;revert hK K;refine qW0 ?_;intro K hK
  repeat (simp only[e1];cbv)
  refine ndC hidx (ndC ha (ndN ?_));refine qG ?_;refine qD hP hcall ?_;rintro res bx ⟨r,hr,rfl,rfl⟩;refine qC ?_;cases r
  ·revert hK K;refine qW0 ?_;intro K hK
   try simp only[hnf]
   revert hK K;refine qW0 ?_;intro K hK;exact hR _ _ ⟨_,⟨fun h=>by simp at h,fun h=>absurd (hr.2 (hbad h.1).1) (by simp)⟩,rfl,rfl⟩
  ·revert hK K;refine qW0 ?_;intro K hK
   try simp only[hnt]
   revert hK K;refine qW0 ?_;intro K hK
   repeat (simp only[e1,eseg];cbv)
   refine ndC nb (ndC nl (ndC ha (ndC hidx (ndC ha (ndN ?_)))));refine qG ?_;refine qD hP hhas ?_;rintro res bx ⟨r,hr2,rfl,rfl⟩;refine qC ?_;cases r
   ·revert hK K;refine qW0 ?_;intro K hK
    rw[e];exact ⟨N - (i+1),by omega,i+1,by cbv,by omega,hgood (hr.1 rfl) (fun h=>by have:=hr2.2 h;simp at this),by rw[hN]⟩
   ·revert hK K;refine qW0 ?_;intro K hK
    exact hR _ _ ⟨_,⟨fun h=>by simp at h,fun h=>absurd (hr2.1 rfl) (hbad h.1).2⟩,rfl,rfl⟩
 ·have hge:i=N:=qw3
  have hq:(ParP l l.length/\l.length<=4)↔N<=4:=by rw[hge,hN] at g2;rw[hN];exact ⟨fun h=>h.2,fun h=>⟨g2,h⟩⟩
  revert hK K;refine qW0 ?_;intro K hK
  try simp only[hln]
  refine hR _ _ ⟨_,?_,rfl,rfl⟩;rw[hq];clear hM hP hC hR;cases hO;simp only[Ops.std,sCm,decide_eq_true_eq,Int.ofNat_eq_natCast];omega
def invG3 (rt ft:List (List T)) (s:ByteArray) (l:List Fu) (N:Nat) (σ:AS):Prop:=
 ∃(i:Nat),σ=⟨vag 22 [(1,litS s),(2,⟨.one,[.ptr 0 0]⟩),(5,litI (Int.ofNat i))],[some [.ro true rt,.ro true ft]],1⟩/\i<=l.length/\(∀p g,p < i->l[p]?=some g->g.name≠s)/\N=l.length - i
theorem c_l10Fn (rt ft:List (List T)) (l:List Fu) (hft:ft=l.map Fu.t) (s:ByteArray) (hl:l.length<=1048576) :
  ACl Tryz.prog 62 [⟨.agg,[.ro true rt,.ro true ft]⟩,litS s] [] (fun res bx=>∃r:Int,FnAtP l s r/\res=litI r/\bx=[]):=by
 refine qF tyK Tryz.func62 22 [.tmp 4] ?_;unhygienic intros;obtain ⟨N,hN⟩:=qX l.length;have hlen:len ft=N:=lnO hO (by simp[hft,hN])
 have ha:all ft 3:=alO hO (by subst hft;simp[Fu.t_len])
 rw[<-hN] at hl;revert hK K;refine qW0 ?_;intro K hK;refine qL 1 [1,2,5] kk0 (invG3 rt ft s l) ?_ ?_
 ·cbv
  exact ⟨_,0,by cbv,by simp,fun p g h=>by omega,rfl⟩
 rintro m σ ⟨i,rfl,g1,g2,rfl⟩;rw[<-hN] at g1 |-;revert hK K;refine qW0 ?_;intro K hK;simp only[hlen];refine nC rfl (fun h3=>?_) (fun h3=>?_)
 ·have hlt:i < N:=qv3
  obtain ⟨x,hx,hx',ht,e1⟩:=mpA hO hft (hN ▸ hlt);have e:bin .add .i64 (Int.ofNat i) 1=_:=iSc hO (by omega)
  have hidx:idx (Int.ofNat i) (len ft):=hlen ▸ ixN hO hlt;obtain ⟨nm,hnm⟩:=qX x.name;rw[Fu.t,<-hnm] at e1
  dsimp only at e1
  generalize x.params.map strT=pt at e1;generalize x.a.map Sm.t=at' at e1;revert hK K;refine qW0 ?_;intro K hK
  repeat (simp only[e1];cbv)
  refine ndC hidx (ndC ha (ndN ?_));revert hK K;refine qW0 ?_;intro K hK;refine nC rfl (fun h5=>?_) (fun h5=>?_)
  ·have hyk:nm=s:=qv5
   revert hK K;refine qW0 ?_;intro K hK;exact hR _ _ ⟨_,.inl ⟨i,x,rfl,hx',hnm.symm.trans hyk,g2⟩,rfl,rfl⟩
  ·have hyk:nm≠s:=qv5
   revert hK K;refine qW0 ?_;intro K hK;rw[e];exact ⟨N - (i+1),by omega,i+1,by cbv,by omega,fun p z hp hz=>by
    by_cases hpi:p=i
    ·rw[hpi,hx'] at hz;rw[<-Option.some.inj hz,<-hnm];exact hyk
    ·exact g2 p z (by omega) hz,by rw[hN]⟩
 ·have hge:i=N:=qw3
  revert hK K;refine qW0 ?_;intro K hK;refine hR _ _ ⟨_,.inr ⟨rfl,fun f hf=>?_⟩,rfl,rfl⟩;obtain ⟨p,hp⟩:=List.mem_iff_getElem?.1 hf;exact g2 p f (by have:=(List.getElem?_eq_some_iff.1 hp).1;omega) hp
abbrev ProgQ (f:FuncId):Prop:=∀p:Pg,p.sz<=1048576->ACl Tryz.prog f [agT p.t] [] (fun res bx=>∃b:Bool,(b=true↔p.good)/\res=litB b/\bx=[])
def invG4 (rt ft:List (List T)) (l:List Ru) (N:Nat) (σ:AS):Prop:=
 ∃(i:Nat),σ=⟨vag 66 [(1,⟨.one,[.ptr 0 0]⟩),(3,litI (Int.ofNat i))],[some [.ro true rt,.ro true ft]],1⟩/\i<=l.length/\(∀x∈l.take i,x.good)/\N=l.length - i
def invG5 (rt ft:List (List T)) (l:List Fu) (N:Nat) (σ:AS):Prop:=
 ∃(i:Nat),σ=⟨vag 66 [(1,⟨.one,[.ptr 0 0]⟩),(4,litI (Int.ofNat i))],[some [.ro true rt,.ro true ft]],1⟩/\i<=l.length/\(∀q f,q < i->l[q]?=some f->FuP l q f)/\N=l.length - i
theorem c_ProgOk_spec:ProgQ 59:=by
 rintro ⟨rs,fs⟩ hz;simp only[Pg.sz] at hz;rw[pg_agT];have hr1:=fun (r:Ru) (h:r∈rs)=>c_l10Rule r (by have:=Ru.szs_mem h;omega)
 have hfz:=fun (f:Fu) (h:f∈fs)=>(by have:=Fu.szs_mem h;omega:f.sz<=1048576)
 obtain ⟨rt,hrt⟩:=qX (rs.map Ru.t);obtain ⟨ft,hft⟩:=qX (fs.map Fu.t);have hfn:=fun s=>c_l10Fn rt ft fs hft s (by omega)
 have hq:Pg.good ⟨rs,fs⟩↔(∀r∈rs,r.good)/\(∀i f,fs[i]?=some f->FuP fs i f)/\rs.length<=10/\fs.length<=6:=Iff.rfl;simp only[<-hrt,<-hft];rw[hq];clear hq;obtain ⟨NR,hNR⟩:=qX rs.length;obtain ⟨NF,hNF⟩:=qX fs.length;have hR1:NR<=1048576:=by omega
 have hF1:NF<=1048576:=by omega
 clear hz;refine qF tyK Tryz.func59 66 [.tmp 2] ?_;unhygienic intros;have lr:len rt=NR:=lnO hO (by simp[hrt,hNR])
 have lf:len ft=NF:=lnO hO (by simp[hft,hNF])
 have har:all rt 6:=alO hO (by subst hrt;simp[Ru.t_len])
 have haf:all ft 3:=alO hO (by subst hft;simp[Fu.t_len])
 have hnt:bnot true=false:=by cases hO;rfl
 have hnf:bnot false=true:=by cases hO;rfl
 revert hK K;refine qW0 ?_;intro K hK;refine qL 1 [1,3] kk0 (invG4 rt ft rs) ?_ ?_
 ·cbv
  exact ⟨_,0,by cbv,by simp,by simp,rfl⟩
 rintro m σ ⟨i,rfl,g1,g2,rfl⟩;rw[<-hNR] at g1;revert hK K;refine qW0 ?_;intro K hK;simp only[lr];refine nC rfl (fun h3=>?_) (fun h3=>?_)
 ·have hlt:i < NR:=qv3
  obtain ⟨x,hx,hx',ht,e1⟩:=mpA hO hrt (hNR ▸ hlt);have e:bin .add .i64 (Int.ofNat i) 1=_:=iSc hO (by omega)
  have hidx:idx (Int.ofNat i) (len rt):=lr ▸ ixN hO hlt;have hcall:=hr1 x hx;obtain ⟨o,ho⟩:=qX x.good;rw[<-ho] at hcall;obtain ⟨⟨ek,en,es,el⟩,hp⟩:∃e,x.p=e:=⟨_,rfl⟩;have hagt:=ru_agT x ek en es el hp;simp only[agT] at hagt hcall;rw[hagt] at hcall;rw[Ru.t,hp,Ex.t_mk] at e1;simp only[List.cons_append,List.nil_append] at e1;generalize x.k=k' at hcall e1;generalize el.map Ex.t=el' at hcall e1;generalize x.a.map Sm.t=al' at hcall e1
  revert hK K;refine qW0 ?_;intro K hK
  repeat (simp only[e1];cbv)
  refine ndC hidx (ndC har (ndN ?_));revert hK K;refine qW0 ?_;intro K hK;refine qG ?_;refine qD hP hcall ?_;rintro res bx ⟨b,hb,rfl,rfl⟩;refine qC ?_;cases b
  ·revert hK K;refine qW0 ?_;intro K hK
   simp only[hnf];revert hK K;refine qW0 ?_;intro K hK;exact hR _ _ ⟨_,⟨fun h=>by simp at h,fun h=>absurd (hb.2 (ho ▸ h.1 _ hx)) (by simp)⟩,rfl,rfl⟩
  ·have hok:=hb.1 rfl
   rw[ho] at hok;revert hK K;refine qW0 ?_;intro K hK;simp only[hnt];revert hK K;refine qW0 ?_;intro K hK;rw[e];refine ⟨rs.length - (i+1),by omega,i+1,by cbv,by omega,?_,rfl⟩
   rw[ht];intro y hy;rcases List.mem_append.1 hy with hy | hy
   ·exact g2 y hy
   obtain rfl:=List.mem_singleton.1 hy;exact hok
 have hge:i=NR:=qw3;have hrok:∀r∈rs,r.good:=by rw[List.take_of_length_le (by omega)] at g2;exact g2
 clear g2 g1 h3 hge hr1;revert hK K;refine qW0 ?_;intro K hK;refine qL 1 [1,4] kk0 (invG5 rt ft fs) ?_ ?_
 ·cbv
  exact ⟨_,0,by cbv,by simp,fun q f h=>by omega,rfl⟩
 rintro m2 σ ⟨i,rfl,g1,g2,rfl⟩;rw[<-hNF] at g1;revert hK K;refine qW0 ?_;intro K hK;simp only[lf];refine nC rfl (fun h3=>?_) (fun h3=>?_)
 ·have hlt:i < NF:=qv3
  obtain ⟨x,hx,hx',ht,e1⟩:=mpA hO hft (hNF ▸ hlt);have e:bin .add .i64 (Int.ofNat i) 1=_:=iSc hO (by omega)
  have hidx:idx (Int.ofNat i) (len ft):=lf ▸ ixN hO hlt;have hxz:=hfz x hx;unfold Fu.sz at hxz;have hc1:=c_NameOk_spec x.name (by omega)
  have hc2:=hfn x.name;have hc3:=c_l10Params x.params (strs x.params) rfl (by omega)
  have hc4:=c_l10Body x.a (x.a.map Sm.t) rfl (by omega)
  have hq:FuP fs i x↔NameP x.name/\FnAtP fs x.name (Int.ofNat i)/\(ParP x.params x.params.length/\x.params.length<=4)/\BodyP x.a:=Iff.rfl;have hgood:FuP fs i x->∀q f,q < i+1->fs[q]?=some f->FuP fs q f:=fun h q f hq hf=>by
   by_cases hqi:q=i
   ·rw[hqi,hx'] at hf;rw[<-Option.some.inj hf,hqi];exact h
   ·exact g2 q f (by omega) hf
  have hbad:(∀i f,fs[i]?=some f->FuP fs i f)->FuP fs i x:=fun h=>h i x hx';have huq:∀r,FnAtP fs x.name r->(FnAtP fs x.name (Int.ofNat i)↔r=Int.ofNat i):=fun r h=>⟨fun h'=>h.unique h',fun h'=>h' ▸ h⟩;generalize FuP fs i x=fp at *;generalize (ParP x.params x.params.length/\x.params.length<=4)=pp at *;generalize NameP x.name=np at *;generalize BodyP x.a=bp at *;rw[Fu.t] at e1
  change get ft (nat (Int.ofNat i))=[T.lit (.string x.name),.sl (strs x.params),.sl (x.a.map Sm.t)] at e1
  generalize strs x.params=pt at *;generalize x.a.map Sm.t=at' at *;obtain ⟨nm,hnm⟩:=qX x.name;rw[<-hnm] at e1 hc1 hc2 huq hq;revert hK K;refine qW0 ?_;intro K hK
  repeat (simp only[e1];cbv)
  refine ndC hidx (ndC haf (ndN ?_));revert hK K;refine qW0 ?_;intro K hK;refine qG ?_;refine qD hP hc1 ?_;rintro res bx ⟨b,hb1,rfl,rfl⟩;refine qC ?_;cases b
  ·revert hK K;refine qW0 ?_;intro K hK
   try simp only[hnf]
   revert hK K;refine qW0 ?_;intro K hK;exact hR _ _ ⟨_,⟨fun h=>by simp at h,fun h=>absurd (hb1.2 (hq.1 (hbad h.2.1)).1) (by simp)⟩,rfl,rfl⟩
  revert hK K;refine qW0 ?_;intro K hK
  try simp only[hnt]
  revert hK K;refine qW0 ?_;intro K hK;refine qG ?_;refine qD hP hc2 ?_;rintro res bx ⟨r,hb2,rfl,rfl⟩;refine qC ?_;have hu:=huq r hb2;clear huq hb2 hc2;refine GFork.mk (fun h5=>?_) (fun h5=>?_)<;>cbv
  ·have hne:r≠Int.ofNat i:=qv5
   revert hK K;refine qW0 ?_;intro K hK;exact hR _ _ ⟨_,⟨fun h=>by simp at h,fun h=>absurd (hu.1 (hq.1 (hbad h.2.1)).2.1) hne⟩,rfl,rfl⟩
  ·have hne:r=Int.ofNat i:=qv5
   revert hK K;refine qW0 ?_;intro K hK;refine qG ?_;refine qD hP hc3 ?_;rintro res bx ⟨b,hb3,rfl,rfl⟩;refine qC ?_;cases b
   ·revert hK K;refine qW0 ?_;intro K hK
    try simp only[hnf]
    revert hK K;refine qW0 ?_;intro K hK;exact hR _ _ ⟨_,⟨fun h=>by simp at h,fun h=>absurd (hb3.2 (hq.1 (hbad h.2.1)).2.2.1) (by simp)⟩,rfl,rfl⟩
   revert hK K;refine qW0 ?_;intro K hK
   try simp only[hnt]
   revert hK K;refine qW0 ?_;intro K hK;refine qG ?_;refine qD hP hc4 ?_;rintro res bx ⟨b,hb4,rfl,rfl⟩;refine qC ?_;cases b
   ·revert hK K;refine qW0 ?_;intro K hK
    try simp only[hnf]
    revert hK K;refine qW0 ?_;intro K hK;exact hR _ _ ⟨_,⟨fun h=>by simp at h,fun h=>absurd (hb4.2 (hq.1 (hbad h.2.1)).2.2.2) (by simp)⟩,rfl,rfl⟩
   have hok:=hq.2 ⟨hb1.1 rfl,hu.2 hne,hb3.1 rfl,hb4.1 rfl⟩;revert hK K;refine qW0 ?_;intro K hK
   try simp only[hnt]
   revert hK K;refine qW0 ?_;intro K hK;rw[e];exact ⟨fs.length - (i+1),by omega,i+1,by cbv,by omega,hgood hok,rfl⟩
 ·have hge:i=NF:=qw3
  have hfok:∀i f,fs[i]?=some f->FuP fs i f:=fun q f hf=>g2 q f (by have:=(List.getElem?_eq_some_iff.1 hf).1;omega) hf
  have hq:((∀r∈rs,r.good)/\(∀i f,fs[i]?=some f->FuP fs i f)/\rs.length<=10/\fs.length<=6)↔NR<=10/\NF<=6:=by rw[hNR,hNF];exact ⟨fun h=>h.2.2,fun h=>⟨hrok,hfok,h⟩⟩
  rw[hq] at hR;clear hq hrok hfok g2;refine qU ?_
  repeat' first|(revert hK K;refine qV0 ?_;intro K hK)|(refine GFork.mk (fun _=>qQ ?_) fun _=>qQ ?_)|(simp only[lr,lf];try cbv)
  all_goals (refine hR _ _ ⟨_,?_,rfl,rfl⟩;clear hR hM hP hC hseg hfn hfz har haf hrt hft hNR hNF;cases hO;simp only[Ops.std,sCm,beq_iff_eq,decide_eq_true_eq,decide_eq_false_iff_not,Int.ofNat_eq_natCast] at *;first | omega|(simp_all;done)|(simp_all;omega) | grind)
end Go.Gv
