/- Part N1 of the proof: contracts of functions of the program, each walked once. -/
import Derived.Test.YtfobhlmjcnkpiaaGreatDoorD7
import Derived.Test.YtfobhlmjcnkpiaaGreatDoorB1
import Derived.Test.YtfobhlmjcnkpiaaGreatDoorD9
import Derived.Test.YtfobhlmjcnkpiaaGreatDoorB4
import Derived.Test.YtfobhlmjcnkpiaaGreatDoorD8
set_option linter.all false
namespace Go.Gv
open Go.Av Go.Proofs Go.Shelf Go.RowKit
set_option maxRecDepth 10000
set_option maxHeartbeats 4000000
def tG0 (c:UInt8):Bool:=97<=c && c<=122
theorem fJ0 {c:UInt8} {b:Int} (hb:b=Int.ofNat c.toNat):tG0 c=true↔97<=b/\b<=122:=by
 simp only[tG0,Bool.and_eq_true,decide_eq_true_eq,KY0,Int.ofNat_eq_natCast] at *;simp only[show (97:UInt8).toNat=97 from rfl,show (122:UInt8).toNat=122 from rfl]
 omega
theorem DB0:dU0 148 tG0:=by
 intro c b hb;have hs:=fJ0 hb;refine qF tyK Tryz.func148 6 [.tmp 2] ?_;unhygienic intros
 have e0:wrap .i64 b=b:=by have:=c.toNat_lt;cases hO;exact zW0 (by simp only[Int.ofNat_eq_natCast] at hb;omega)
 revert hK K;refine qW 0 ?_;intro K hK;simp only[e0];refine qG ?_;refine qD hP (uZ0 b 97 122) ?_;rintro res bx ⟨r,hr,rfl,rfl⟩;refine qC ?_;revert hK K;refine qW 0 ?_;intro K hK;refine hR _ _ ⟨_,?_,rfl,rfl⟩;rw[Bool.eq_iff_iff,hr,hs]
theorem dL0:dU0 161 tG0:=by
 intro c b hb;have hs:=fJ0 hb;refine qF tyK Tryz.func161 9 [.tmp 2] ?_;unhygienic intros
 refine qO ?_
 repeat' first|(revert hK K;refine qV 0 ?_;intro K hK)|(refine qK (fun _=>?_) fun _=>?_)|fail
 all_goals (refine hR _ _ ⟨_,?_,rfl,rfl⟩;clear hM hP hC hR hb;cases hO;simp only[Ops.std,sCm] at *;rw[Bool.eq_iff_iff,hs];clear hs;simp_all;try omega)
def kQ0 (l:Bs) (i:Nat):Prop:=∀p c,p < i->l[p]?=some c->tG0 c=true\/(0 < p/\tR0 c=true)
def kB0 (s:ByteArray):Prop:=kQ0 (toL s) s.size/\1<=s.size/\s.size<=8
def invW7 (s:ByteArray) (N:Nat) (σ:AS):Prop:=∃(i:Nat),σ=⟨vag 29 [(0,litS s),(3,litI (Int.ofNat i))],[],1⟩/\i<=s.size/\kQ0 (toL s) i/\N=s.size - i
abbrev zK1 (f:FuncId) (p:ByteArray->Prop):Prop:=∀s:ByteArray,s.size<=4611686018427387904->ACl Tryz.prog f [litS s] [] (fun res bx=>∃b:Bool,(b=true↔p s)/\res=litB b/\bx=[])
theorem PF0:zK1 114 kB0:=by
 intro s hs;refine qF tyK Tryz.func114 29 [.tmp 2] ?_;unhygienic intros
 obtain ⟨N,hN⟩:=qX s.size;have hsz:size s=N:=by cases hO;exact hN.symm
 rw[<-hN] at hs;have hnt:bnot true=false:=by cases hO;rfl
 have hnf:bnot false=true:=by cases hO;rfl
 revert hK K;refine qW 0 ?_;intro K hK;refine qL 0 [0,3] kk0 (invW7 s) ?_ ?_
 ·cbv
  exact ⟨_,0,by cbv,by simp,fun p c h=>by omega,rfl⟩
 rintro n σ ⟨i,rfl,g1,g2,rfl⟩;rw[<-hN] at g1 |-;revert hK K;refine qW 0 ?_;intro K hK;simp only[hsz];refine nC rfl (fun h4=>?_) (fun h4=>?_)
 ·have hlt:i < N:=qv4
  obtain ⟨c,hc,e1⟩:∃c,(toL s)[i]?=some c/\byte s (nat (Int.ofNat i))=Int.ofNat c.toNat:=byte_at hO (hN ▸ hlt);have e:bin .add .i64 (Int.ofNat i) 1=_:=iSc hO (by omega)
  have hidx:idx (Int.ofNat i) (size s):=hsz ▸ ixN hO hlt;obtain ⟨b,hb⟩:=qX (Int.ofNat c.toNat);rw[<-hb] at e1;have hc1:=DB0 c b hb;have hc2:=WQ0 c b hb;have hgood:(tG0 c=true\/(0 < i/\tR0 c=true))->kQ0 (toL s) (i+1):=fun h p d hp hd=>by
   by_cases hpi:p=i
   ·rw[hpi,hc] at hd;rw[<-Option.some.inj hd,hpi];exact h
   ·exact g2 p d (by omega) hd
  have hbad:kB0 s->tG0 c=true\/(0 < i/\tR0 c=true):=fun h=>h.1 i c (hN ▸ hlt) hc;have hstep:kQ0 (toL s) (i+1)->∃m,m < N - i/\∃i',(vag 29 [(0,litS s),(3,litI (Int.ofNat (i+1)))]:List AV)=vag 29 [(0,litS s),(3,litI (Int.ofNat i'))]/\i'<=s.size/\kQ0 (toL s) i'/\m=s.size - i':=fun h=>⟨N - (i+1),by omega,i+1,rfl,by omega,h,by rw[hN]⟩
  clear hb;revert hK K;refine qW 0 ?_;intro K hK
  try simp only[e1]
  refine ndC hidx (ndN ?_);revert hK K;refine qW 0 ?_;intro K hK;refine qG ?_;refine qD hP hc1 ?_;rintro res bx ⟨r,hr,rfl,rfl⟩;refine qC ?_;cases r
  ·revert hK K;refine qW 0 ?_;intro K hK
   simp only[hnf];revert hK K;refine qW 0 ?_;intro K hK;refine GFork.mk (fun h5=>?_) (fun h5=>?_)<;>cbv
   ·have h0:i=0:=qw5
    revert hK K;refine qW 0 ?_;intro K hK;refine hR _ _ ⟨_,⟨fun h=>by simp at h,fun h=>?_⟩,rfl,rfl⟩
    rcases hbad h with h | h
    ·rw[h] at hr;simp at hr
    ·omega
   ·have h0:0 < i:=qw5
    revert hK K;refine qW 0 ?_;intro K hK
    try simp only[e1]
    refine ndC hidx (ndN ?_);revert hK K;refine qW 0 ?_;intro K hK;refine qG ?_;refine qD hP hc2 ?_;rintro res bx ⟨r,hr2,rfl,rfl⟩;refine qC ?_;cases r
    ·revert hK K;refine qW 0 ?_;intro K hK
     simp only[hnf];revert hK K;refine qW 0 ?_;intro K hK;refine hR _ _ ⟨_,⟨fun h=>by simp at h,fun h=>?_⟩,rfl,rfl⟩
     rcases hbad h with h | h
     ·rw[h] at hr;simp at hr
     ·rw[h.2] at hr2;simp at hr2
    ·revert hK K;refine qW 0 ?_;intro K hK
     simp only[hnt];revert hK K;refine qW 0 ?_;intro K hK;rw[e];exact ⟨N - (i+1),by omega,i+1,by cbv,by omega,hgood (.inr ⟨h0,hr2.symm⟩),by rw[hN]⟩
  ·revert hK K;refine qW 0 ?_;intro K hK
   simp only[hnt];revert hK K;refine qW 0 ?_;intro K hK;rw[e];exact ⟨N - (i+1),by omega,i+1,by cbv,by omega,hgood (.inl hr.symm),by rw[hN]⟩
 ·have hge:i=N:=qw4
  have hw:kQ0 (toL s) s.size:=by rw[hge,hN] at g2;exact g2
  have hq:kB0 s↔1<=Int.ofNat N/\Int.ofNat N<=8:=by
   unfold kB0;rw[hN];simp only[Int.ofNat_eq_natCast]
   constructor
   ·rintro ⟨_,h1,h2⟩;omega
   ·rintro ⟨h1,h2⟩;exact ⟨hw,by omega,by omega⟩
  revert hK K;refine qW 0 ?_;intro K hK;simp only[hsz];refine qG ?_;refine qD hP (uZ0 (Int.ofNat N) 1 8) ?_;rintro res bx ⟨r,hr,rfl,rfl⟩;refine qC ?_;revert hK K;refine qW 0 ?_;intro K hK;exact hR _ _ ⟨r,hr.trans hq.symm,rfl,rfl⟩
def DV0 (l:Bs) (i:Nat):Prop:=∀p c,p < i->l[p]?=some c->tG0 c=true\/tR0 c=true
def invW8 (s:ByteArray) (N:Nat) (σ:AS):Prop:=∃(i:Nat),σ=⟨vag 23 [(0,litS s),(3,litI (Int.ofNat i))],[],1⟩/\i<=s.size/\DV0 (toL s) i/\N=s.size - i
theorem WF0 (s:ByteArray) (hs:s.size<=4611686018427387904):ACl Tryz.prog 162 [litS s] [] (fun res bx=>∃n:Nat,(n=s.size↔DV0 (toL s) s.size)/\res=litI (Int.ofNat n)/\bx=[]):=by
 refine qF tyK Tryz.func162 23 [.tmp 2] ?_;unhygienic intros
 obtain ⟨N,hN⟩:=qX s.size;have hsz:size s=N:=by cases hO;exact hN.symm
 rw[<-hN] at hs;revert hK K;refine qW 0 ?_;intro K hK;refine qL 0 [0,3] kk0 (invW8 s) ?_ ?_
 ·cbv
  exact ⟨_,0,by cbv,by simp,fun p c h=>by omega,rfl⟩
 rintro n σ ⟨i,rfl,g1,g2,rfl⟩;rw[<-hN] at g1 |-;revert hK K;refine qW 0 ?_;intro K hK;simp only[hsz];refine GFork.mk (fun h4=>?_) (fun h4=>?_)<;>cbv
 ·have hlt:i < N:=qv4
  obtain ⟨c,hc,e1⟩:∃c,(toL s)[i]?=some c/\byte s (nat (Int.ofNat i))=Int.ofNat c.toNat:=byte_at hO (hN ▸ hlt);have e:bin .add .i64 (Int.ofNat i) 1=_:=iSc hO (by omega)
  have hidx:idx (Int.ofNat i) (size s):=hsz ▸ ixN hO hlt;obtain ⟨b,hb⟩:=qX (Int.ofNat c.toNat);rw[<-hb] at e1;have hc1:=dL0 c b hb;have hc2:=WW0 c b hb;have hgood:(tG0 c=true\/tR0 c=true)->DV0 (toL s) (i+1):=fun h p d hp hd=>by
   by_cases hpi:p=i
   ·rw[hpi,hc] at hd;rw[<-Option.some.inj hd];exact h
   ·exact g2 p d (by omega) hd
  clear hb;revert hK K;refine qW 0 ?_;intro K hK
  try simp only[e1]
  refine ndC hidx (ndN ?_);revert hK K;refine qW 0 ?_;intro K hK;refine qG ?_;refine qD hP hc1 ?_;rintro res bx ⟨r,hr,rfl,rfl⟩;refine qC ?_;cases r
  ·revert hK K;refine qW 0 ?_;intro K hK
   try simp only[e1]
   refine ndC hidx (ndN ?_);revert hK K;refine qW 0 ?_;intro K hK;refine qG ?_;refine qD hP hc2 ?_;rintro res bx ⟨r,hr2,rfl,rfl⟩;refine qC ?_;cases r
   ·revert hK K;refine qW 0 ?_;intro K hK
    refine hR _ _ ⟨i,⟨fun h=>by omega,fun h=>?_⟩,rfl,rfl⟩
    rcases h i c (hN ▸ hlt) hc with h | h
    ·rw[h] at hr;simp at hr
    ·rw[h] at hr2;simp at hr2
   ·revert hK K;refine qW 0 ?_;intro K hK
    rw[e];exact ⟨N - (i+1),by omega,i+1,by cbv,by omega,hgood (.inr hr2.symm),by rw[hN]⟩
  ·revert hK K;refine qW 0 ?_;intro K hK
   rw[e];exact ⟨N - (i+1),by omega,i+1,by cbv,by omega,hgood (.inl hr.symm),by rw[hN]⟩
 ·have hge:i=N:=qw4
  revert hK K;refine qW 0 ?_;intro K hK;exact hR _ _ ⟨i,⟨fun _=>by rw[hge,hN] at g2;exact g2,fun _=>by omega⟩,rfl,rfl⟩
theorem zV1 {s:ByteArray} (h1:1<=s.size) {c:UInt8} (hc:(toL s)[0]?=some c):kQ0 (toL s) s.size↔tG0 c=true/\DV0 (toL s) s.size:=by
 constructor
 ·intro h
  refine ⟨?_,fun p d hp hd=>(h p d hp hd).imp id And.right⟩;rcases h 0 c h1 hc with h | h
  ·exact h
  ·omega
 ·rintro ⟨h0,h⟩ p d hp hd
  by_cases hp0:p=0
  ·subst hp0;rw[hc] at hd;rw[<-Option.some.inj hd];exact .inl h0
  ·exact (h p d hp hd).imp id fun h=>⟨by omega,h⟩
theorem wC1:zK1 142 kB0:=by
 intro s hs;have hwl:=WF0 s hs;refine qF tyK Tryz.func142 18 [.tmp 2] ?_;unhygienic intros
 obtain ⟨N,hN⟩:=qX s.size;have hsz:size s=N:=by cases hO;exact hN.symm
 rw[<-hN] at hwl;revert hK K;refine qW 0 ?_;intro K hK;simp only[hsz];refine qG ?_;refine qD hP (uN0 (Int.ofNat N) 1 8) ?_;rintro res bx ⟨r,hr,rfl,rfl⟩;refine qC ?_;cases r
 ·revert hK K;refine qW 0 ?_;intro K hK
  refine hR _ _ ⟨_,⟨fun h=>by simp at h,fun h=>?_⟩,rfl,rfl⟩
  have:=hr.2 (by have:=h.2;simp only[Int.ofNat_eq_natCast];omega)
  simp at this
 ·have hr:=hr.1 rfl
  have h18:1<=N/\N<=8:=by simp only[Int.ofNat_eq_natCast] at hr;omega
  obtain ⟨c,hc,e1⟩:∃c,(toL s)[0]?=some c/\byte s (nat 0)=Int.ofNat c.toNat:=byte_at hO (s:=s) (i:=0) (by omega)
  have hidx:idx 0 (size s):=hsz ▸ ixN hO (i:=0) (by omega)
  have hw:=zV1 (by omega) hc
  have hq:kB0 s↔tG0 c=true/\DV0 (toL s) s.size:=by
   unfold kB0;rw[hw];exact ⟨fun h=>h.1,fun h=>⟨h,by omega,by omega⟩⟩
  obtain ⟨b,hb⟩:=qX (Int.ofNat c.toNat);rw[<-hb] at e1;have hc1:=dL0 c b hb;clear hb hr hw;rw[<-hN] at hq;revert hK K;refine qW 0 ?_;intro K hK
  try simp only[e1]
  refine ndC hidx (ndN ?_);revert hK K;refine qW 0 ?_;intro K hK;refine qG ?_;refine qD hP hc1 ?_;rintro res bx ⟨r,hr,rfl,rfl⟩;refine qC ?_;cases r
  ·revert hK K;refine qW 0 ?_;intro K hK
   refine hR _ _ ⟨_,⟨fun h=>by simp at h,fun h=>?_⟩,rfl,rfl⟩
   rw[(hq.1 h).1] at hr;simp at hr
  ·revert hK K;refine qW 0 ?_;intro K hK
   try simp only[hsz]
   refine qG ?_;refine qD hP hwl ?_;rintro res bx ⟨n,hn,rfl,rfl⟩;refine qC ?_;revert hK K;refine qW 0 ?_;intro K hK
   try simp only[hsz]
   refine hR _ _ ⟨_,?_,rfl,rfl⟩;rw[hq];clear hM hP hC hR;cases hO;simp only[Ops.std,sCm,beq_iff_eq,Int.ofNat_eq_natCast];rw[<-hn];exact ⟨fun h=>⟨hr.symm,by omega⟩,fun h=>by have:=h.2;omega⟩
def kR0:List ByteArray:=[⟨#[98,101,103,105,110]⟩,⟨#[101,110,100]⟩,⟨#[102,117,110,99]⟩,⟨#[112,114,105,110,116]⟩,⟨#[105,102]⟩,⟨#[101,108,115,101]⟩,⟨#[119,104,105,108,101]⟩,⟨#[102,111,114]⟩,⟨#[105,110]⟩,⟨#[110,101,120,116]⟩,⟨#[101,120,105,116]⟩,⟨#[114,101,116,117,114,110]⟩,⟨#[100,101,108,101,116,101]⟩,⟨#[108,101,110,103,116,104]⟩,⟨#[115,117,98,115,116,114]⟩,⟨#[105,110,100,101,120]⟩,⟨#[117,112,112,101,114]⟩,⟨#[103,115,117,98]⟩,⟨#[110,114]⟩,⟨#[110,102]⟩]
def operS:List ByteArray:=[⟨#[43]⟩,⟨#[45]⟩,⟨#[42]⟩,⟨#[47]⟩,⟨#[37]⟩,⟨#[46]⟩,⟨#[60]⟩,⟨#[60,61]⟩,⟨#[61,61]⟩,⟨#[33,61]⟩,⟨#[62]⟩,⟨#[62,61]⟩,⟨#[38,38]⟩,⟨#[124,124]⟩]
abbrev WordsOk (f:FuncId) (l:List ByteArray):Prop:=ACl Tryz.prog f [] [] (fun res bx=>∃els,els=strs l/\res=⟨.one,[.ro true els]⟩/\bx=[])
theorem WordsOk.of {f:FuncId} {l:List ByteArray} (h:ACl Tryz.prog f [] [] (fun res bx=>res=⟨.one,[.ow (0,0) false 1 (strs l)]⟩/\bx=[])):WordsOk f l:=by
 refine acI (ACl.ro h) ?_;rintro res bx ⟨r0,⟨rfl,h⟩,rfl⟩;exact ⟨_,rfl,rfl,h⟩
theorem FZ0:WordsOk 116 kR0:=by
 refine WordsOk.of ?_;refine qF tyK Tryz.func116 2 [.tmp 0] ?_;unhygienic intros
 revert hK K;refine qW 0 ?_;intro K hK;exact hR _ _ ⟨rfl,rfl⟩
theorem UZ0:WordsOk 50 operS:=by
 refine WordsOk.of ?_;refine qF tyK Tryz.func50 2 [.tmp 0] ?_;unhygienic intros
 revert hK K;refine qW 0 ?_;intro K hK;exact hR _ _ ⟨rfl,rfl⟩
theorem wH1:WordsOk 107 operS:=by
 refine WordsOk.of ?_;refine qF tyK Tryz.func107 2 [.tmp 0] ?_;unhygienic intros
 revert hK K;refine qW 0 ?_;intro K hK;exact hR _ _ ⟨rfl,rfl⟩
abbrev kE1 (f:FuncId):Prop:=∀(l:List ByteArray) (els:List (List T)) (s:ByteArray),els=strs l->l.length<=1099511627776->ACl Tryz.prog f [⟨.one,[.ro true els]⟩,litS s] [] (fun res bx=>∃b:Bool,(b=true↔s∈l)/\res=litB b/\bx=[])
def invN2 (els:List (List T)) (s:ByteArray) (l:List ByteArray) (N:Nat) (σ:AS):Prop:=
 ∃(i:Nat),σ=⟨vag 18 [(0,⟨.one,[.ro true els]⟩),(1,litS s),(5,litI (Int.ofNat i))],[],1⟩/\i<=l.length/\(∀p x,p < i->l[p]?=some x->x≠s)/\N=l.length - i
theorem TA0:kE1 115:=by
 intro l els s he hl;refine qF tyK Tryz.func115 18 [.tmp 4] ?_;unhygienic intros
 obtain ⟨N,hN⟩:=qX l.length;have hln:len els=N:=lnO hO (by simp[he,hN])
 have ha:all els 1:=alO hO (by rw[he];exact kE0 l)
 rw[<-hN] at hl;revert hK K;refine qW 0 ?_;intro K hK;refine qL 0 [0,1,5] kk0 (invN2 els s l) ?_ ?_
 ·cbv
  exact ⟨_,0,by cbv,by simp,fun p x h=>by omega,rfl⟩
 rintro m σ ⟨i,rfl,g1,g2,rfl⟩;rw[<-hN] at g1 |-;revert hK K;refine qW 0 ?_;intro K hK;simp only[hln];refine nC rfl (fun h3=>?_) (fun h3=>?_)
 ·have hlt:i < N:=qv3
  have e:bin .add .i64 (Int.ofNat i) 1=_:=iSc hO (by omega)
  have hidx:idx (Int.ofNat i) (len els):=hln ▸ ixN hO hlt;obtain ⟨y,hy⟩:∃y,l[i]?=some y:=⟨_,List.getElem?_eq_getElem (hN ▸ hlt)⟩;have e1:get els (nat (Int.ofNat i))=[T.lit (.string y)]:=by cases hO;rw[he];simp[Ops.std,strs,hy]
  revert hK K;refine qW 0 ?_;intro K hK
  repeat (simp only[e1];cbv)
  refine ndC hidx (ndC ha (ndN ?_));revert hK K;refine qW 0 ?_;intro K hK;refine nC rfl (fun h5=>?_) (fun h5=>?_)
  ·have hyk:y=s:=qv5
   revert hK K;refine qW 0 ?_;intro K hK;exact hR _ _ ⟨_,⟨fun _=>hyk ▸ List.mem_of_getElem? hy,fun _=>rfl⟩,rfl,rfl⟩
  ·have hyk:y≠s:=qv5
   revert hK K;refine qW 0 ?_;intro K hK;rw[e];exact ⟨N - (i+1),by omega,i+1,by cbv,by omega,fun p z hp hz=>by
    by_cases hpi:p=i
    ·rw[hpi,hy] at hz;rw[<-Option.some.inj hz];exact hyk
    ·exact g2 p z (by omega) hz,by rw[hN]⟩
 ·have hge:i=N:=qw3
  revert hK K;refine qW 0 ?_;intro K hK;refine hR _ _ ⟨_,⟨fun h=>by simp at h,fun h=>?_⟩,rfl,rfl⟩
  obtain ⟨p,hp⟩:=List.mem_iff_getElem?.1 h;exact absurd rfl (g2 p s (by have:=(List.getElem?_eq_some_iff.1 hp).1;omega) hp)
def invN3 (els:List (List T)) (s:ByteArray) (l:List ByteArray) (N:Nat) (σ:AS):Prop:=
 ∃(i:Nat),σ=⟨vag 19 [(0,⟨.one,[.ro true els]⟩),(1,litS s),(7,litI (Int.ofNat l.length)),(8,litI (Int.ofNat i))],[],1⟩/\i<=l.length/\(∀p x,p < i->l[p]?=some x->x≠s)/\N=l.length - i
theorem MY0 (l:List ByteArray) (els:List (List T)) (s:ByteArray) (he:els=strs l) (hl:l.length<=1099511627776) :
  ACl Tryz.prog 143 [⟨.one,[.ro true els]⟩,litS s] [] (fun res bx=>∃r:Int,(0<=r↔s∈l)/\res=litI r/\bx=[]):=by
 refine qF tyK Tryz.func143 19 [.tmp 4] ?_;unhygienic intros
 obtain ⟨N,hN⟩:=qX l.length;have hln:len els=N:=lnO hO (by simp[he,hN])
 have ha:all els 1:=alO hO (by rw[he];exact kE0 l)
 rw[<-hN] at hl;revert hK K;refine qW 0 ?_;intro K hK;simp only[hln];refine qL 0 [0,1,7,8] kk0 (invN3 els s l) ?_ ?_
 ·cbv
  exact ⟨_,0,by rw[<-hN];cbv,by omega,by omega,rfl⟩
 rintro m σ ⟨i,rfl,g1,g2,rfl⟩;rw[<-hN];revert hK K;refine qW 0 ?_;intro K hK;refine nC rfl (fun h3=>?_) (fun h3=>?_)
 ·have hlt:i < N:=qv3
  have e:bin .add .i64 (Int.ofNat i) 1=_:=iSc hO (by omega)
  have hidx:idx (Int.ofNat i) (len els):=hln ▸ ixN hO hlt;obtain ⟨y,hy⟩:∃y,l[i]?=some y:=⟨_,List.getElem?_eq_getElem (hN ▸ hlt)⟩;have e1:get els (nat (Int.ofNat i))=[T.lit (.string y)]:=by cases hO;rw[he];simp[Ops.std,strs,hy]
  revert hK K;refine qW 0 ?_;intro K hK
  repeat (simp only[e1];cbv)
  refine ndC hidx (ndC ha (ndN ?_));revert hK K;refine qW 0 ?_;intro K hK;refine nC rfl (fun h5=>?_) (fun h5=>?_)
  ·have hyk:s=y:=qv5
   revert hK K;refine qW 0 ?_;intro K hK;exact hR _ _ ⟨_,⟨fun _=>hyk ▸ List.mem_of_getElem? hy,fun _=>Int.natCast_nonneg _⟩,rfl,rfl⟩
  ·have hyk:s≠y:=qv5
   revert hK K;refine qW 0 ?_;intro K hK;rw[e];exact ⟨N - (i+1),by omega,i+1,by rw[<-hN];cbv,by omega,fun p z hp hz=>by
    by_cases hpi:p=i
    ·rw[hpi,hy] at hz;rw[<-Option.some.inj hz];exact fun h=>hyk h.symm
    ·exact g2 p z (by omega) hz,by rw[hN]⟩
 ·have hge:i=N:=qw3
  revert hK K;refine qW 0 ?_;intro K hK;refine hR _ _ ⟨_,⟨fun h=>absurd h (by decide),fun h=>?_⟩,rfl,rfl⟩
  obtain ⟨p,hp⟩:=List.mem_iff_getElem?.1 h;exact absurd rfl (g2 p s (by have:=(List.getElem?_eq_some_iff.1 hp).1;omega) hp)
theorem uR0:kE1 106:=by
 intro l els s he hl;have hi:=MY0 l els s he hl;refine qF tyK Tryz.func106 9 [.tmp 4] ?_;unhygienic intros
 revert hK K;refine qW 0 ?_;intro K hK;refine qG ?_;refine qD hP hi ?_;rintro res bx ⟨r,hr,rfl,rfl⟩;refine qC ?_;revert hK K;refine qW 0 ?_;intro K hK;refine hR _ _ ⟨_,?_,rfl,rfl⟩;rw[<-hr];clear hM hP hC hR;cases hO;simp[Ops.std,sCm]
def xU0 (s:ByteArray):Prop:=kB0 s/\s∉kR0
theorem xR0:zK1 74 xU0:=by
 intro s hs;have h1:=PF0 s hs;have h2:=fun els he=>TA0 kR0 els s he (by decide)
 have hq:xU0 s↔kB0 s/\¬s∈kR0:=Iff.rfl;generalize xU0 s=np at *;generalize kB0 s=wp at *;generalize hW:(s∈kR0)=ws at *;have hT:=FZ0;unfold WordsOk at hT;refine qF tyK Tryz.func74 11 [.tmp 2] ?_;unhygienic intros
 have hnt:bnot true=false:=by cases hO;rfl
 have hnf:bnot false=true:=by cases hO;rfl
 clear hW;revert hK K;refine qW 0 ?_;intro K hK;refine qG ?_;refine qD hP h1 ?_;rintro res bx ⟨b,hb,rfl,rfl⟩;refine qC ?_;cases b
 ·revert hK K;refine qW 0 ?_;intro K hK
  exact hR _ _ ⟨_,⟨fun h=>by simp at h,fun h=>hb.2 (hq.1 h).1⟩,rfl,rfl⟩
 ·revert hK K;refine qW 0 ?_;intro K hK
  refine qG ?_;refine qD hP hT ?_;rintro res bx ⟨els,he,rfl,rfl⟩;refine qC ?_;revert hK K;refine qW 0 ?_;intro K hK;refine qG ?_;refine qD hP (h2 els he) ?_;rintro res bx ⟨c,hc,rfl,rfl⟩;refine qC ?_;cases c
  ·revert hK K;refine qW 0 ?_;intro K hK
   try simp only[hnf]
   revert hK K;refine qW 0 ?_;intro K hK;exact hR _ _ ⟨_,⟨fun _=>hq.2 ⟨hb.1 rfl,fun h=>absurd (hc.2 h) (by simp)⟩,fun _=>rfl⟩,rfl,rfl⟩
  ·revert hK K;refine qW 0 ?_;intro K hK
   try simp only[hnt]
   revert hK K;refine qW 0 ?_;intro K hK;exact hR _ _ ⟨_,⟨fun h=>by simp at h,fun h=>absurd (hc.1 rfl) (hq.1 h).2⟩,rfl,rfl⟩
theorem wD0:zK1 105 xU0:=by
 intro s hs;have h1:=wC1 s hs;have h2:=uR0 kR0 (strs kR0) s rfl (by decide)
 have hq:xU0 s↔kB0 s/\¬s∈kR0:=Iff.rfl;have hels:strs kR0=[[T.lit (.string ⟨⟨[98,101,103,105,110]⟩⟩)],[T.lit (.string ⟨⟨[101,110,100]⟩⟩)],[T.lit (.string ⟨⟨[102,117,110,99]⟩⟩)],[T.lit (.string ⟨⟨[112,114,105,110,116]⟩⟩)],[T.lit (.string ⟨⟨[105,102]⟩⟩)],[T.lit (.string ⟨⟨[101,108,115,101]⟩⟩)],[T.lit (.string ⟨⟨[119,104,105,108,101]⟩⟩)],[T.lit (.string ⟨⟨[102,111,114]⟩⟩)],[T.lit (.string ⟨⟨[105,110]⟩⟩)],[T.lit (.string ⟨⟨[110,101,120,116]⟩⟩)],[T.lit (.string ⟨⟨[101,120,105,116]⟩⟩)],[T.lit (.string ⟨⟨[114,101,116,117,114,110]⟩⟩)],[T.lit (.string ⟨⟨[100,101,108,101,116,101]⟩⟩)],[T.lit (.string ⟨⟨[108,101,110,103,116,104]⟩⟩)],[T.lit (.string ⟨⟨[115,117,98,115,116,114]⟩⟩)],[T.lit (.string ⟨⟨[105,110,100,101,120]⟩⟩)],[T.lit (.string ⟨⟨[117,112,112,101,114]⟩⟩)],[T.lit (.string ⟨⟨[103,115,117,98]⟩⟩)],[T.lit (.string ⟨⟨[110,114]⟩⟩)],[T.lit (.string ⟨⟨[110,102]⟩⟩)]]:=rfl
 generalize xU0 s=np at *;generalize kB0 s=wp at *;generalize hW:(s∈kR0)=ws at *;obtain ⟨els,he⟩:=qX (strs kR0);rw[<-he] at h2 hels;refine qF tyK Tryz.func105 13 [.tmp 2] ?_;unhygienic intros
 have hnt:bnot true=false:=by cases hO;rfl
 have hnf:bnot false=true:=by cases hO;rfl
 clear hW he;revert hK K;refine qW 0 ?_;intro K hK;rw[<-hels];refine qG ?_;refine qD hP h1 ?_;rintro res bx ⟨b,hb,rfl,rfl⟩;refine qC ?_;cases b
 ·revert hK K;refine qW 0 ?_;intro K hK
  exact hR _ _ ⟨_,⟨fun h=>by simp at h,fun h=>hb.2 (hq.1 h).1⟩,rfl,rfl⟩
 ·revert hK K;refine qW 0 ?_;intro K hK
  refine qg (nS []) ?_;refine qC ?_;refine qD hP h2 ?_;rintro res bx ⟨c,hc,rfl,rfl⟩;refine qC ?_;cases c
  ·revert hK K;refine qW 0 ?_;intro K hK
   try simp only[hnf]
   revert hK K;refine qW 0 ?_;intro K hK;exact hR _ _ ⟨_,⟨fun _=>hq.2 ⟨hb.1 rfl,fun h=>absurd (hc.2 h) (by simp)⟩,fun _=>rfl⟩,rfl,rfl⟩
  ·revert hK K;refine qW 0 ?_;intro K hK
   try simp only[hnt]
   revert hK K;refine qW 0 ?_;intro K hK;exact hR _ _ ⟨_,⟨fun h=>by simp at h,fun h=>absurd (hc.1 rfl) (hq.1 h).2⟩,rfl,rfl⟩
def rU0 (l:Bs) (but:UInt8) (i:Nat):Prop:=∀p c,p < i->l[p]?=some c->32<=c.toNat/\c.toNat<=126/\c≠but
def gK0 (but:UInt8) (s:ByteArray):Prop:=rU0 (toL s) but s.size
def vM0 (s:ByteArray):Prop:=gK0 39 s/\s.size<=200
def invN4 (s:ByteArray) (but:UInt8) (bb:Int) (N:Nat) (σ:AS):Prop:=∃(i:Nat),σ=⟨vag 28 [(0,litS s),(1,litU bb),(5,litI (Int.ofNat i))],[],1⟩/\i<=s.size/\rU0 (toL s) but i/\N=s.size - i
def invN5 (s:ByteArray) (but:UInt8) (bb:Int) (N:Nat) (σ:AS):Prop:=∃(i:Nat),σ=⟨vag 25 [(0,litS s),(1,litU bb),(5,litI (Int.ofNat i))],[],1⟩/\i<=s.size/\rU0 (toL s) but i/\N=s.size - i
theorem hQ0:∀(s:ByteArray) (but:UInt8) (bb:Int),bb=Int.ofNat but.toNat->s.size<=4611686018427387904->ACl Tryz.prog 135 [litS s,litU bb] [] (fun res bx=>∃b:Bool,(b=true↔gK0 but s/\s.size<=200)/\res=litB b/\bx=[]):=by
 intro s but bb hbut hs;refine qF tyK Tryz.func135 28 [.tmp 4] ?_;unhygienic intros
 obtain ⟨N,hN⟩:=qX s.size;have hsz:size s=N:=by cases hO;exact hN.symm
 rw[<-hN] at hs;have hnt:bnot true=false:=by cases hO;rfl
 have hnf:bnot false=true:=by cases hO;rfl
 revert hK K;refine qW 0 ?_;intro K hK;refine qL 0 [0,1,5] kk0 (invN4 s but bb) ?_ ?_
 ·cbv
  exact ⟨_,0,by cbv,by simp,fun p c h=>by omega,rfl⟩
 rintro n σ ⟨i,rfl,g1,g2,rfl⟩;rw[<-hN] at g1 |-;revert hK K;refine qW 0 ?_;intro K hK;simp only[hsz];refine nC rfl (fun h4=>?_) (fun h4=>?_)
 ·have hlt:i < N:=qv4
  obtain ⟨c,hc,e1⟩:∃c,(toL s)[i]?=some c/\byte s (nat (Int.ofNat i))=Int.ofNat c.toNat:=byte_at hO (hN ▸ hlt);have e:bin .add .i64 (Int.ofNat i) 1=_:=iSc hO (by omega)
  have hidx:idx (Int.ofNat i) (size s):=hsz ▸ ixN hO hlt;obtain ⟨b,hb⟩:=qX (Int.ofNat c.toNat);rw[<-hb] at e1;have ew:wrap .i64 b=b:=by have:=c.toNat_lt;cases hO;exact zW0 (by simp only[Int.ofNat_eq_natCast] at hb;omega)
  have hbe:b=bb↔c=but:=by rw[hb,hbut,uA0];exact ⟨fun h=>Int.ofNat.inj h,fun h=>by rw[h]⟩
  have hrng:32<=b/\b<=126↔32<=c.toNat/\c.toNat<=126:=by rw[hb];simp only[Int.ofNat_eq_natCast];omega
  have hgood:32<=b/\b<=126->b≠bb->rU0 (toL s) but (i+1):=fun h1 h2 p d hp hd=>by
   by_cases hpi:p=i
   ·rw[hpi,hc] at hd;rw[<-Option.some.inj hd];exact ⟨(hrng.1 h1).1,(hrng.1 h1).2,fun h=>h2 (hbe.2 h)⟩
   ·exact g2 p d (by omega) hd
  have hbad:rU0 (toL s) but s.size->(32<=b/\b<=126)/\b≠bb:=fun h=>by
   have:=h i c (hN ▸ hlt) hc;exact ⟨hrng.2 ⟨this.1,this.2.1⟩,fun h=>this.2.2 (hbe.1 h)⟩
  clear hb hbe hrng;revert hK K;refine qW 0 ?_;intro K hK
  try simp only[e1]
  refine ndC hidx (ndN ?_);revert hK K;refine qW 0 ?_;intro K hK
  try simp only[ew]
  refine qG ?_;refine qD hP (uZ0 b 32 126) ?_;rintro res bx ⟨r,hr,rfl,rfl⟩;refine qC ?_;cases r
  ·revert hK K;refine qW 0 ?_;intro K hK
   simp only[hnf];revert hK K;refine qW 0 ?_;intro K hK;refine hR _ _ ⟨_,⟨fun h=>by simp at h,fun h=>absurd (hr.2 (hbad (And.left h)).1) (by simp)⟩,rfl,rfl⟩
  ·have hr:=hr.1 rfl
   revert hK K;refine qW 0 ?_;intro K hK;simp only[hnt];revert hK K;refine qW 0 ?_;intro K hK
   try simp only[e1]
   refine ndC hidx (ndN ?_);revert hK K;refine qW 0 ?_;intro K hK;refine nC rfl (fun h5=>?_) (fun h5=>?_)
   ·have hbe:b=bb:=qv5
    revert hK K;refine qW 0 ?_;intro K hK;refine hR _ _ ⟨_,⟨fun h=>by simp at h,fun h=>absurd hbe (hbad (And.left h)).2⟩,rfl,rfl⟩
   ·have hbe:b≠bb:=qv5
    revert hK K;refine qW 0 ?_;intro K hK;rw[e];exact ⟨N - (i+1),by omega,i+1,by cbv,by omega,hgood hr hbe,by rw[hN]⟩
 ·have hge:i=N:=qw4
  have hw:gK0 but s:=by rw[hge,hN] at g2;exact g2
  revert hK K;refine qW 0 ?_;intro K hK;simp only[hsz];refine hR _ _ ⟨_,?_,rfl,rfl⟩;rw[<-hN];clear hM hP hC hR;cases hO;simp only[Ops.std,sCm,decide_eq_true_eq,Int.ofNat_eq_natCast];exact ⟨fun h=>⟨hw,by omega⟩,fun h=>by have:=h.2;omega⟩
theorem FU0:∀(s:ByteArray) (but:UInt8) (bb:Int),bb=Int.ofNat but.toNat->s.size<=4611686018427387904->ACl Tryz.prog 141 [litS s,litU bb] [] (fun res bx=>∃b:Bool,(b=true↔gK0 but s)/\res=litB b/\bx=[]):=by
 intro s but bb hbut hs;refine qF tyK Tryz.func141 25 [.tmp 4] ?_;unhygienic intros
 obtain ⟨N,hN⟩:=qX s.size;have hsz:size s=N:=by cases hO;exact hN.symm
 rw[<-hN] at hs;have hnt:bnot true=false:=by cases hO;rfl
 have hnf:bnot false=true:=by cases hO;rfl
 revert hK K;refine qW 0 ?_;intro K hK;refine qL 0 [0,1,5] kk0 (invN5 s but bb) ?_ ?_
 ·cbv
  exact ⟨_,0,by cbv,by simp,fun p c h=>by omega,rfl⟩
 rintro n σ ⟨i,rfl,g1,g2,rfl⟩;rw[<-hN] at g1 |-;revert hK K;refine qW 0 ?_;intro K hK;simp only[hsz];refine nC rfl (fun h4=>?_) (fun h4=>?_)
 ·have hlt:i < N:=qv4
  obtain ⟨c,hc,e1⟩:∃c,(toL s)[i]?=some c/\byte s (nat (Int.ofNat i))=Int.ofNat c.toNat:=byte_at hO (hN ▸ hlt);have e:bin .add .i64 (Int.ofNat i) 1=_:=iSc hO (by omega)
  have hidx:idx (Int.ofNat i) (size s):=hsz ▸ ixN hO hlt;obtain ⟨b,hb⟩:=qX (Int.ofNat c.toNat);rw[<-hb] at e1;have ew:wrap .i64 b=b:=by have:=c.toNat_lt;cases hO;exact zW0 (by simp only[Int.ofNat_eq_natCast] at hb;omega)
  have hbe:b=bb↔c=but:=by rw[hb,hbut,uA0];exact ⟨fun h=>Int.ofNat.inj h,fun h=>by rw[h]⟩
  have hrng:32<=b/\b<=126↔32<=c.toNat/\c.toNat<=126:=by rw[hb];simp only[Int.ofNat_eq_natCast];omega
  have hgood:32<=b/\b<=126->b≠bb->rU0 (toL s) but (i+1):=fun h1 h2 p d hp hd=>by
   by_cases hpi:p=i
   ·rw[hpi,hc] at hd;rw[<-Option.some.inj hd];exact ⟨(hrng.1 h1).1,(hrng.1 h1).2,fun h=>h2 (hbe.2 h)⟩
   ·exact g2 p d (by omega) hd
  have hbad:rU0 (toL s) but s.size->(32<=b/\b<=126)/\b≠bb:=fun h=>by
   have:=h i c (hN ▸ hlt) hc;exact ⟨hrng.2 ⟨this.1,this.2.1⟩,fun h=>this.2.2 (hbe.1 h)⟩
  clear hb hbe hrng;revert hK K;refine qW 0 ?_;intro K hK
  try simp only[e1]
  refine ndC hidx (ndN ?_);revert hK K;refine qW 0 ?_;intro K hK
  try simp only[ew]
  refine qG ?_;refine qD hP (uN0 b 32 126) ?_;rintro res bx ⟨r,hr,rfl,rfl⟩;refine qC ?_;cases r
  ·revert hK K;refine qW 0 ?_;intro K hK
   simp only[hnf];revert hK K;refine qW 0 ?_;intro K hK;refine hR _ _ ⟨_,⟨fun h=>by simp at h,fun h=>absurd (hr.2 (hbad (id h)).1) (by simp)⟩,rfl,rfl⟩
  ·have hr:=hr.1 rfl
   revert hK K;refine qW 0 ?_;intro K hK;simp only[hnt];revert hK K;refine qW 0 ?_;intro K hK
   try simp only[e1]
   refine ndC hidx (ndN ?_);revert hK K;refine qW 0 ?_;intro K hK;refine nC rfl (fun h5=>?_) (fun h5=>?_)
   ·have hbe:b=bb:=qv5
    revert hK K;refine qW 0 ?_;intro K hK;refine hR _ _ ⟨_,⟨fun h=>by simp at h,fun h=>absurd hbe (hbad (id h)).2⟩,rfl,rfl⟩
   ·have hbe:b≠bb:=qv5
    revert hK K;refine qW 0 ?_;intro K hK;rw[e];exact ⟨N - (i+1),by omega,i+1,by cbv,by omega,hgood hr hbe,by rw[hN]⟩
 ·have hge:i=N:=qw4
  have hw:gK0 but s:=by rw[hge,hN] at g2;exact g2
  revert hK K;refine qW 0 ?_;intro K hK;exact hR _ _ ⟨_,⟨fun _=>hw,fun _=>rfl⟩,rfl,rfl⟩
theorem xW1:zK1 104 vM0:=by
 intro s hs;have h1:=FU0 s 39 39 rfl hs;have hq:vM0 s↔gK0 39 s/\s.size<=200:=Iff.rfl;generalize vM0 s=pp at *;generalize gK0 39 s=pl at *;refine qF tyK Tryz.func104 10 [.tmp 2] ?_;unhygienic intros
 obtain ⟨N,hN⟩:=qX s.size;have hsz:size s=N:=by cases hO;exact hN.symm
 rw[<-hN] at hq;revert hK K;refine qW 0 ?_;intro K hK;simp only[hsz];refine GFork.mk (fun h5=>?_) (fun h5=>?_)<;>cbv
 ·have hle:N<=200:=qw5
  revert hK K;refine qW 0 ?_;intro K hK;refine qG ?_;refine qD hP h1 ?_;rintro res bx ⟨b,hb,rfl,rfl⟩;refine qC ?_;revert hK K;refine qW 0 ?_;intro K hK;exact hR _ _ ⟨b,by rw[hb,hq];exact ⟨fun h=>⟨h,hle⟩,fun h=>h.1⟩,rfl,rfl⟩
 ·have hle:200 < N:=qw5
  revert hK K;refine qW 0 ?_;intro K hK;exact hR _ _ ⟨_,⟨fun h=>by simp at h,fun h=>by have:=(hq.1 h).2;omega⟩,rfl,rfl⟩
def RexP (s:ByteArray):Prop:=(∃y:Rx,y.good/\ofL y.txt=s)/\s.size<=200
abbrev RexQ (f:FuncId):Prop:=∀s:ByteArray,s.size<=1099511627776->ACl Tryz.prog f [litS s] [] (fun res bx=>∃b:Bool,(b=true↔RexP s)/\res=litB b/\bx=[])
theorem HG0 {f:FuncId} (h:ParseOk f) (s:ByteArray) (hs:s.size<=1099511627776):ACl Tryz.prog f [litS s] [] (fun res bx=>∃(k:Int) (sx:ByteArray) (xl:List (List T)) (ok:Bool),(ok=true↔∃y:Rx,y.good/\ofL y.txt=s)/\res=⟨.tup [(true,3),(false,1)],[.lit (.int .i64 k),.lit (.string sx),.ro true xl,.lit (.bool ok)]⟩/\bx=[]):=by
 refine acI (h s hs) ?_;rintro res bx ⟨x,ok,h1,_,rfl,h3⟩;obtain ⟨k,sx,l⟩:=x;refine ⟨k,sx,l.map Rx.t,ok,?_,by rw[Rx.t_mk];rfl,h3⟩
 rcases h1 with ⟨rfl,g1,g2⟩ | ⟨rfl,_,g⟩
 ·exact ⟨fun _=>⟨_,g1,g2⟩,fun _=>rfl⟩
 ·exact ⟨fun h=>by simp at h,fun ⟨y,h1,h2⟩=>absurd h2 (g y h1)⟩
theorem rU1:RexQ 136:=by
 intro s hs;have h1:=HG0 hX0 s hs;have hq:RexP s↔(∃y:Rx,y.good/\ofL y.txt=s)/\s.size<=200:=Iff.rfl;generalize RexP s=pp at *;generalize (∃y:Rx,y.good/\ofL y.txt=s)=pl at *;refine qF tyK Tryz.func136 16 [.tmp 2] ?_;unhygienic intros
 obtain ⟨N,hN⟩:=qX s.size;have hsz:size s=N:=by cases hO;exact hN.symm
 rw[<-hN] at hq;revert hK K;refine qW 0 ?_;intro K hK;refine qG ?_;refine qD hP h1 ?_;rintro res bx ⟨k,sx,xl,b,hb,rfl,rfl⟩;refine qC ?_;cases b
 ·revert hK K;refine qW 0 ?_;intro K hK
  exact hR _ _ ⟨_,⟨fun h=>by simp at h,fun h=>hb.2 (hq.1 h).1⟩,rfl,rfl⟩
 ·revert hK K;refine qW 0 ?_;intro K hK
  try simp only[hsz]
  refine hR _ _ ⟨_,?_,rfl,rfl⟩;rw[hq];clear hM hP hC hR;cases hO;simp only[Ops.std,sCm,decide_eq_true_eq,Int.ofNat_eq_natCast];exact ⟨fun h=>⟨hb.1 rfl,by omega⟩,fun h=>by have:=h.2;omega⟩
theorem MJ0:RexQ 108:=by
 intro s hs;have h1:=HG0 hY0 s hs;have hq:RexP s↔(∃y:Rx,y.good/\ofL y.txt=s)/\s.size<=200:=Iff.rfl;generalize RexP s=pp at *;generalize (∃y:Rx,y.good/\ofL y.txt=s)=pl at *;refine qF tyK Tryz.func108 16 [.tmp 2] ?_;unhygienic intros
 obtain ⟨N,hN⟩:=qX s.size;have hsz:size s=N:=by cases hO;exact hN.symm
 rw[<-hN] at hq;revert hK K;refine qW 0 ?_;intro K hK;refine qG ?_;refine qD hP h1 ?_;rintro res bx ⟨k,sx,xl,b,hb,rfl,rfl⟩;refine qC ?_;cases b
 ·revert hK K;refine qW 0 ?_;intro K hK
  exact hR _ _ ⟨_,⟨fun h=>by simp at h,fun h=>hb.2 (hq.1 h).1⟩,rfl,rfl⟩
 ·revert hK K;refine qW 0 ?_;intro K hK
  try simp only[hsz]
  refine hR _ _ ⟨_,?_,rfl,rfl⟩;rw[hq];clear hM hP hC hR;cases hO;simp only[Ops.std,sCm,decide_eq_true_eq,Int.ofNat_eq_natCast];exact ⟨fun h=>⟨hb.1 rfl,by omega⟩,fun h=>by have:=h.2;omega⟩
open Go.Av Go.Proofs
set_option maxHeartbeats 8000000
variable {I:∀{α:Type},α->α}
def vR0 (k n:Int) (s:ByteArray) (N:Nat):Prop:=(k≠1->n=0)/\((k=1/\0<=n/\n<=2147483647/\s=ofL []/\N=0)\/(k=2/\vM0 s/\N=0)\/(k=3/\xU0 s/\N=0)\/(k=4/\xU0 s/\N=1)\/(k=5/\s=ofL []/\N=1)\/(k=6/\s∈operS/\N=2)\/(k=7/\s=ofL []/\N=1)\/(k=8/\s=ofL []/\N=1)\/(k=9/\xU0 s/\N=1)\/(k=10/\RexP s/\N=1)\/(k=11/\xU0 s/\N<=4)\/(k=12/\s=ofL []/\N=1)\/(k=13/\s=ofL []/\N=3)\/(k=14/\s=ofL []/\N=0)\/(k=15/\s=ofL []/\N=0)\/(k=16/\s=ofL []/\N=2)\/(k=17/\s=ofL []/\N=1)\/(k=18/\RexP s/\N=2))
theorem OpsI (hI:II @I) {f:FuncId} {l:List ByteArray} (h:WordsOk f l):ACl Tryz.prog f [] [] (fun res bx=>res=⟨.one,[.ro true (I (l.map strT))]⟩/\bx=[]):=acI h fun _ _ ⟨els,h1,h2,h3⟩=>⟨by rw[h2,h1,hI.e];rfl,h3⟩
section
variable (hI:II @I) (e:Ex) (hs:e.s.size<=1048576)
include hI hs
theorem DA0:ACl Tryz.prog 96 [eA @I e] [] (fun res bx=>res=litB (I (bB (vR0 e.k e.n e.s e.l.length)))/\bx=[]):=by
 have hs:(I e.s).size<=1048576:=by rw[hI.e];exact hs
 have c1:=fun a b c=>QB.of hI (uZ0 a b c);have c2:=QB.of hI (hQ0 (I e.s) 39 39 rfl (by omega))
 have c3:=QB.of hI (xR0 (I e.s) (by omega))
 have c4:=OpsI hI UZ0;have c5:=QB.of hI (TA0 operS (I (operS.map strT)) (I e.s) (by rw[hI.e];rfl) (by decide))
 have c6:=QB.of hI (rU1 (I e.s) (by omega))
 refine qN hI tyK Tryz.func96 137 [.tmp 2] ?_;unhygienic intros
 refine qB 0 ?_
 repeat' first|refine qA 0 ?_|refine qJ (nN []) ?_|refine qp ?_ ?_|refine qk (fun h=>?_) fun h=>?_<;>try(exfalso;omega)|fail
 all_goals (refine hR _ _ ⟨liP hI ?_,rfl⟩;(try simp only[F.k1,F.k2,F.k3,F.k4,F.k5,F.k6,F.k7,F.k8,F.k9,F.k10,F.k11,F.k12,F.k13,xT0,hI.e,Int.ofNat_eq_natCast])<;>(clear F hR;(try clear c1);(try clear c2);(try clear c3);(try clear c4);(try clear c5);(try clear c6);(try clear c7);(try clear c8);(try clear c9);first|(simp_all [-List.length_eq_zero_iff,IffW,vR0,ofL,vM0];done)|(simp_all [-List.length_eq_zero_iff,IffW,vR0,ofL,vM0];omega)|(simp_all [-List.length_eq_zero_iff,IffW,vR0,ofL,vM0];grind)))
theorem rQ1 (m:Int):ACl Tryz.prog 102 [litI m,⟨.one,[.ptr 0 0]⟩] [some (eA @I e).cs] (fun res bx=>res=litB (I (bB (Int.ofNat e.l.length=m)))/\bx=[some (eA @I e).cs]):=by
 refine qN hI tyK Tryz.func102 9 [.tmp 3] ?_;unhygienic intros
 refine qB 1 ?_
 repeat' first|refine qA 1 ?_|refine qJ (nN []) ?_|refine qp ?_ ?_|refine qk (fun h=>?_) fun h=>?_|fail
 all_goals (refine hR _ _ ⟨liP hI ?_,rfl⟩;(try simp only[F.k1,F.k2,F.k3,F.k4,F.k5,F.k6,F.k7,F.k8,F.k9,F.k10,F.k11,F.k12,F.k13,xT0,hI.e,Int.ofNat_eq_natCast])<;>(clear F hR;(try clear c1);(try clear c2);(try clear c3);(try clear c4);(try clear c5);(try clear c6);(try clear c7);(try clear c8);(try clear c9);first|(simp_all [-List.length_eq_zero_iff,IffW];done)|(simp_all [-List.length_eq_zero_iff,IffW];omega)|(simp_all [-List.length_eq_zero_iff,IffW];grind)))
theorem ZL0:ACl Tryz.prog 63 [eA @I e] [] (fun res bx=>res=litB (I (bB (vR0 e.k e.n e.s e.l.length)))/\bx=[]):=by
 have hs:(I e.s).size<=1048576:=by rw[hI.e];exact hs
 have c1:=fun a b c=>QB.of hI (uN0 a b c);have c2:=QB.of hI (xW1 (I e.s) (by omega))
 have c3:=QB.of hI (wD0 (I e.s) (by omega))
 have c4:=OpsI hI wH1;have c5:=QB.of hI (uR0 operS (I (operS.map strT)) (I e.s) (by rw[hI.e];rfl) (by decide))
 have c6:=QB.of hI (MJ0 (I e.s) (by omega))
 have c7:=rQ1 hI e (by rwa[hI.e] at hs)
 refine qN hI tyK Tryz.func63 137 [.tmp 2] ?_;unhygienic intros
 refine qB 0 ?_
 repeat' first|refine qA 0 ?_|refine qJ (nN []) ?_|refine qJ (nN [0]) ?_|refine qp ?_ ?_|refine qk (fun h=>?_) fun h=>?_<;>try(exfalso;omega)|fail
 all_goals (refine hR _ _ ⟨liP hI ?_,rfl⟩;(try simp only[F.k1,F.k2,F.k3,F.k4,F.k5,F.k6,F.k7,F.k8,F.k9,F.k10,F.k11,F.k12,F.k13,xT0,hI.e,Int.ofNat_eq_natCast])<;>(clear F hR;(try clear c1);(try clear c2);(try clear c3);(try clear c4);(try clear c5);(try clear c6);(try clear c7);(try clear c8);(try clear c9);first|(simp_all [-List.length_eq_zero_iff,IffW,vR0,ofL,vM0];done)|(simp_all [-List.length_eq_zero_iff,IffW,vR0,ofL,vM0];omega)|(simp_all [-List.length_eq_zero_iff,IffW,vR0,ofL,vM0];grind)))
end
theorem eA_I (hI:II @I) (e:Ex):agT e.t=eA @I e:=by rw[Ex.tI hI];rfl
theorem sA_I (hI:II @I) (y:Sm):agT y.t=sA @I y:=by rw[Sm.tI hI];rfl
theorem mG1 (e:Ex):agT e.t=eA @id e:=eA_I rfl e
variable {I:∀{α:Type},α->α}
mutual
def Ex.depth:Ex->Nat
 | .mk _ _ _ l=>1+Ex.depths l
def Ex.depths:List Ex->Nat
 | []=>0
 | e::l=>max (Ex.depth e) (Ex.depths l)
end
theorem Ex.depths_le {l:List Ex} {m:Nat}:Ex.depths l<=m↔∀x∈l,x.depth<=m:=by
 induction l with
 | nil=>simp[Ex.depths]
 | cons a l ih=>rw[Ex.depths,List.forall_mem_cons,<-ih];omega
theorem Ex.depth_pos (e:Ex):1<=e.depth:=by cases e;rw[Ex.depth];omega
theorem Ex.parts_pos (e:Ex):1<=e.parts:=by cases e;rw[Ex.parts];omega
theorem Ex.szs_mem:∀{l:List Ex} {x:Ex},x∈l->x.sz<=Ex.szs l
 | [],x,h=>by simp at h
 | y::l,x,h=>by
  rw[Ex.szs];rcases List.mem_cons.1 h with rfl | h
  ·omega
  ·have:=Ex.szs_mem h;omega
theorem Ex.partss_take (l:List Ex) (i:Nat):Ex.partss (l.take i)<=Ex.partss l:=by
 have:=congrArg Ex.partss (List.take_append_drop i l);rw[Ex.partss_app] at this;omega
inductive Ex.ok:Ex->Prop where
 | mk {k n:Int} {s:ByteArray} {l:List Ex} (h:vR0 k n s l.length) (hl:∀x∈l,Ex.ok x):Ex.ok (.mk k n s l)
theorem xP1 {k n:Int} {s:ByteArray} {l:List Ex}:(Ex.mk k n s l).ok↔vR0 k n s l.length/\∀x∈l,Ex.ok x:=⟨fun h=>by cases h with | mk h hl=>exact ⟨h,hl⟩,fun h=>.mk h.1 h.2⟩
def Ex.good (e:Ex):Prop:=e.ok/\e.parts<=100/\e.depth<=10
theorem sz_inv {k n:Int} {s:ByteArray} {l:List Ex} (h:(Ex.mk k n s l).sz<=1048576):s.size<=1048576/\l.length<=1048576/\∀x∈l,x.sz<=1048576:=by
 rw[Ex.sz] at h;exact ⟨by omega,by omega,fun x hx=>by have:=Ex.szs_mem hx;omega⟩
def lowX (l:List Ex) (d i:Nat):Prop:=(∀x∈l.take i,x.depth+(d+1)<=11)/\1+Ex.partss (l.take i)<=100
theorem xA1 {k n:Int} {s:ByteArray} {l:List Ex} {d:Nat} (hd:d<=10):lowX l d l.length↔(Ex.mk k n s l).depth+d<=11/\(Ex.mk k n s l).parts<=100:=by
 unfold lowX;rw[List.take_length,Ex.depth,Ex.parts];refine and_congr_left fun _=>?_;rw[show 1+Ex.depths l+d<=11↔Ex.depths l<=10 - d by omega,Ex.depths_le]
 exact forall_congr' fun x=>forall_congr' fun _=>by omega
theorem HX0 {l:List Ex} {d i:Nat} (h:lowX l d l.length):lowX l d i:=by
 unfold lowX at *;rw[List.take_length] at h;exact ⟨fun x hx=>h.1 x (List.mem_of_mem_take hx),by have:=Ex.partss_take l i;omega⟩
theorem HW0 {l:List Ex} {d i:Nat} {x:Ex} (ht:l.take (i+1)=l.take i++[x]):lowX l d (i+1)↔lowX l d i/\x.depth+(d+1)<=11/\1+Ex.partss (l.take i)+x.parts<=100:=by
 unfold lowX;rw[ht,Ex.partss_app,Ex.partss_one];simp only[List.mem_append,List.mem_singleton]
 constructor
 ·rintro ⟨h1,h2⟩;exact ⟨⟨fun y hy=>h1 y (.inl hy),by omega⟩,h1 x (.inr rfl),by omega⟩
 ·rintro ⟨⟨h1,h2⟩,h3,h4⟩
  refine ⟨fun y hy=>?_,by omega⟩
  rcases hy with hy | rfl
  ·exact h1 y hy
  ·exact h3
def rD1 (l:List Ex) (d i:Nat):Prop:=∀x∈l.take i,x.ok/\x.depth+(d+1)<=11
def Ex.goodAt (r:Ex) (d:Nat):Prop:=r.ok/\r.depth+d<=11/\r.parts<=100
abbrev kG1 (f:FuncId):Prop:=∀r:Ex,r.sz<=1048576->ACl Tryz.prog f [agT r.t] [] (fun res bx=>∃b:Bool,(b=true↔r.good)/\res=litB b/\bx=[])
theorem Ex.ok_eq (e:Ex):e.ok↔vR0 e.k e.n e.s e.l.length/\∀x∈e.l,x.ok:=by cases e;exact xP1
theorem Ex.sz3 {e:Ex} (h:e.sz<=1048576):e.s.size<=1048576/\e.l.length<=1048576/\∀x∈e.l,x.sz<=1048576:=by cases e;exact sz_inv h
theorem Ex.partss_at {l:List Ex} {i:Nat} (h:i < l.length):Ex.partss (l.take (i+1))=Ex.partss (l.take i)+(l[i]!).parts:=by rw[zZ0 h,Ex.partss_app,Ex.partss_one]
theorem gD0 {α:Type} [Inhabited α] {p:α->Prop} {l:List α} {i:Nat} (h:i < l.length) (h1:∀x∈l.take i,p x) (h2:p l[i]!):∀x∈l.take (i+1),p x:=by
 rw[zZ0 h];exact fun x hx=>(List.mem_append.1 hx).elim (h1 x) fun q=>List.mem_singleton.1 q ▸ h2
theorem lowE {e:Ex} {d:Nat} (hd:d<=10):lowX e.l d e.l.length↔e.depth+d<=11/\e.parts<=100:=by cases e;exact xA1 hd
theorem yZ1 {l:List Ex} {d i n m:Nat} (h:i < l.length) (h1:n<=100↔lowX l d i) (h2:n<=100->n=1+Ex.partss (l.take i)) (h3:m<=100↔(l[i]!).depth+(d+1)<=11/\(l[i]!).parts<=100) (h4:m<=100->m=(l[i]!).parts):(n+m<=100↔lowX l d (i+1))/\(n+m<=100->n+m=1+Ex.partss (l.take (i+1))):=by
 rw[HW0 (zZ0 h),<-h1,Ex.partss_at h];refine ⟨⟨fun q=>?_,fun ⟨q1,q2,q3⟩=>?_⟩,fun q=>?_⟩
 ·have a:=h2 (by omega)
  have b:=h4 (by omega)
  exact ⟨by omega,(h3.1 (by omega)).1,by omega⟩
 ·have a:=h2 q1
  have b:=h4 (h3.2 ⟨q2,by omega⟩)
  omega
 ·have a:=h2 (by omega)
  have b:=h4 (by omega)
  omega
section
variable (hI:II @I)
include hI
theorem lit1:(litI 1:AV)=litI (Int.ofNat (I 1)):=by rw[hI.e];rfl
theorem MM0:∀(e:Ex) (d:Nat),d<=11->e.sz<=1048576->ACl Tryz.prog 56 [eA @I e,litI (Int.ofNat (I d))] [] (fun res bx=>∃n:Nat,(n+100 * d<=1301/\(n<=100↔e.depth+d<=11/\e.parts<=100)/\(n<=100->n=e.parts))/\res=litI (Int.ofNat (I n))/\bx=[]):=by
 refine Ex.ind fun e ih d hd hz=>?_;obtain ⟨_,hl,hx0⟩:=Ex.sz3 hz;have hdp:=Ex.depth_pos e;have hpe:e.parts=1+Ex.partss e.l:=by cases e;rw[Ex.parts];rfl
 have hlo:=lowE (e:=e) (d:=d);refine qN hI tyK Tryz.func56 31 [.tmp 4] ?_;unhygienic intros
 refine qB 0 ?_;refine qk (fun h=>?_) fun h=>?_
 ·refine qA 0 ?_
  exact hR _ _ ⟨101,⟨by omega,by omega,by omega⟩,by rw[hI.e];rfl,rfl⟩
 have hd':d<=10:=by omega
 have hlo:=hlo hd';refine qA 0 ?_;refine qLf 1 [1,2,5,6] kk0 (fun a:Nat×Nat=>⟨vag 31 [(1,litI (Int.ofNat (I d))),(2,⟨.one,[.ptr 0 0]⟩),(5,litI (Int.ofNat (I a.2))),(6,litI (Int.ofNat (I a.1)))],[some (eA @I e).cs],1⟩) (fun a=>a.1<=e.l.length/\a.2+100 * d<=1301/\(a.2<=100↔lowX e.l d a.1)/\(a.2<=100->a.2=1+Ex.partss (e.l.take a.1))) (fun a=>e.l.length - a.1) ?_ fun a ha=>?_
 ·cbv
  exact ⟨(0,1),by simp only[hI.e];rfl,by simp,by omega,by simp[lowX,Ex.partss],by simp[Ex.partss]⟩
 obtain ⟨i,n⟩:=a;obtain ⟨h1,h2,h3,h4⟩:=ha;simp only at h1 h2 h3 h4 |-;have c1:=fun (hh:i < e.l.length)=>ih _ (zD0 hh) (d+1) (by omega) (hx0 _ (zD0 hh))
 refine qB 0 ?_
 repeat' first|refine qA 0 ?_|refine qJe (nN []) fun x hx=>?_|refine qp ?_ ?_|refine qk (fun h=>?_) fun h=>?_|fail
 ·obtain ⟨g1,g2⟩:=yZ1 ‹_› h3 h4 hx.2.1 hx.2.2
  exact ⟨(i+1,n+x),by (try simp only[A.reset,hI.e]);rfl,⟨by simp only;omega,by simp only;have:=hx.1;omega,g1,g2⟩,by simp only;omega⟩
 ·exact hR _ _ ⟨n,⟨h2,⟨fun q=>absurd q h,fun q=>h3.2 (HX0 (hlo.2 q))⟩,fun q=>absurd q h⟩,rfl,rfl⟩
 ·obtain rfl:i=e.l.length:=by omega
  rw[List.take_length] at h4;exact hR _ _ ⟨n,⟨h2,h3.trans hlo,fun q=>by rw[h4 q,hpe]⟩,rfl,rfl⟩
theorem rV1:∀(e:Ex),e.sz<=1048576->ACl Tryz.prog 57 [eA @I e] [] (fun res bx=>res=litB (I (bB e.ok))/\bx=[]):=by
 refine Ex.ind fun e ih hz=>?_;obtain ⟨hs,hl,hx0⟩:=Ex.sz3 hz;have he:=Ex.ok_eq e;have c2:=DA0 hI e hs;refine qN hI tyK Tryz.func57 20 [.tmp 2] ?_;unhygienic intros
 refine qB 0 ?_;refine qLf 1 [1,3] kk0 (fun i:Nat=>⟨vag 20 [(1,⟨.one,[.ptr 0 0]⟩),(3,litI (Int.ofNat (I i)))],[some (eA @I e).cs],1⟩) (fun i=>i<=e.l.length/\∀x∈e.l.take i,x.ok) (fun i=>e.l.length - i) ?_ fun i hi=>?_
 ·cbv
  exact ⟨0,by simp only[hI.e];rfl,by simp,by simp⟩
 have c1:=fun (hh:i < e.l.length)=>ih _ (zD0 hh) (hx0 _ (zD0 hh));refine qB 0 ?_
 repeat' first|refine qA 0 ?_|refine qJ (nN []) ?_|refine qp ?_ ?_|refine qk (fun h=>?_) fun h=>?_|fail
 ·exact hR _ _ ⟨liP hI ⟨fun q=>by simp at q,fun q=>absurd ((he.1 q).2 _ (zD0 ‹_›)) h⟩,rfl⟩
 ·exact ⟨i+1,by (try simp only[A.reset,xV0,hI.e,List.append_assoc,Bool.or_false,pE0]);rfl,⟨by omega,gD0 ‹_› hi.2 (Classical.not_not.1 h)⟩,by omega⟩
 ·rw[List.take_of_length_le (by omega)] at hi
  exact hR _ _ ⟨liP hI (by rw[hI.e,xT0,he];exact ⟨fun q=>⟨q,hi.2⟩,fun q=>q.1⟩),rfl⟩
theorem gA0 (e:Ex) (hz:e.sz<=1048576):ACl Tryz.prog 26 [eA @I e] [] (fun res bx=>res=litB (I (bB e.good))/\bx=[]):=by
 have c1:=MM0 hI e 1 (by omega) hz
 rw[<-lit1 hI] at c1;have c2:=rV1 hI e hz;refine qN hI tyK Tryz.func26 10 [.tmp 2] ?_;unhygienic intros
 refine qB 0 ?_
 repeat' first|refine qA 0 ?_|refine qJe (nN []) fun x hx=>?_|refine qJ (nN []) ?_|refine qp ?_ ?_|refine qk (fun h=>?_) fun h=>?_|fail
 ·exact hR _ _ ⟨liP hI (by rw[hI.e,xT0,Ex.good];have:=hx.2.1.1 h;exact ⟨fun q=>⟨q,this.2,by omega⟩,fun q=>q.1⟩),rfl⟩
 ·exact hR _ _ ⟨liP hI ⟨fun q=>by simp at q,fun q=>absurd (hx.2.1.2 ⟨by have:=q.2.2;omega,q.2.1⟩) h⟩,rfl⟩
theorem WY0:∀(e:Ex) (d:Nat),d<=11->e.sz<=1048576->ACl Tryz.prog 29 [eA @I e,litI (Int.ofNat (I d))] [] (fun res bx=>∃n:Nat,(n<=101/\(n<=100↔e.goodAt d)/\(n<=100->n=e.parts))/\res=litI (Int.ofNat (I n))/\bx=[]):=by
 refine Ex.ind fun e ih d hd hz=>?_;obtain ⟨hs,hl,hx0⟩:=Ex.sz3 hz;have hdp:=Ex.depth_pos e;have hpe:e.parts=1+Ex.partss e.l:=by cases e;rw[Ex.parts];rfl
 have hde:e.depth=1+Ex.depths e.l:=by cases e;rw[Ex.depth];rfl
 have he:=Ex.ok_eq e;have c2:=ZL0 hI e hs;refine qN hI tyK Tryz.func29 32 [.tmp 4] ?_;unhygienic intros
 refine qB 0 ?_
 repeat' first|refine qA 0 ?_|refine qJ (nN []) ?_|refine qp ?_ ?_|refine qk (fun h=>?_) fun h=>?_|fail
 ·exact hR _ _ ⟨101,⟨by omega,⟨fun q=>by omega,fun q=>by have:=q.2.1;omega⟩,by omega⟩,by rw[hI.e];rfl,rfl⟩
 ·exact hR _ _ ⟨101,⟨by omega,⟨fun q=>by omega,fun q=>absurd (he.1 q.1).1 h⟩,by omega⟩,by rw[hI.e];rfl,rfl⟩
 have hh:=Classical.not_not.1 h;have hd':d<=10:=by omega
 clear c2 h;refine qLf 1 [1,5,16,17,18] kk0 (fun a:Nat×Nat=>⟨vag 32 [(1,litI (Int.ofNat (I d))),(5,litI (Int.ofNat (I a.2))),(16,⟨.one,[.ro true (I (e.l.map Ex.t))]⟩),(17,litI (Int.ofNat (I e.l.length))),(18,litI (Int.ofNat (I a.1)))],[some (eA @I e).cs],1⟩) (fun a=>a.1<=e.l.length/\a.2=1+Ex.partss (e.l.take a.1)/\a.2<=100/\rD1 e.l d a.1) (fun a=>e.l.length - a.1) ?_ fun a ha=>?_
 ·cbv
  exact ⟨(0,1),by simp only[hI.e];rfl,by simp,by simp[Ex.partss],by simp,by simp[rD1]⟩
 obtain ⟨i,n⟩:=a;obtain ⟨h1,h2,h3,h4⟩:=ha;simp only at h1 h2 h3 h4 |-;have c1:=fun (hh:i < e.l.length)=>ih _ (zD0 hh) (d+1) (by omega) (hx0 _ (zD0 hh))
 refine qB 0 ?_
 repeat' first|refine qA 0 ?_|refine qJe (nN []) fun x hx=>?_|refine qp ?_ ?_|refine qk (fun h=>?_) fun h=>?_|fail
 ·have hm:=zD0 (l:=e.l) ‹_›
  have p1:=Ex.partss_at (l:=e.l) ‹_›;have p2:=Ex.partss_take e.l (i+1);have p3:=Ex.depths_le.1 (Nat.le_refl _) _ hm;refine hR _ _ ⟨101,⟨by omega,⟨fun q=>by omega,fun ⟨q1,q2,q3⟩=>?_⟩,by omega⟩,by rw[hI.e];rfl,rfl⟩
  have p4:=hx.2.1.2 ⟨(he.1 q1).2 _ hm,by omega,by omega⟩
  have:=hx.2.2 p4;omega
 ·have p1:=Ex.partss_at (l:=e.l) ‹_›
  have p4:x<=100:=by omega
  have g:=hx.2.1.1 p4;have:=hx.2.2 p4;exact ⟨(i+1,n+x),by (try simp only[A.reset,hI.e]);rfl,⟨by simp only;omega,by simp only;omega,by simp only;omega,gD0 ‹_› h4 ⟨g.1,by have:=g.2.1;omega⟩⟩,by simp only;omega⟩
 ·obtain rfl:i=e.l.length:=by omega
  rw[rD1,List.take_length] at h4;rw[List.take_length] at h2;have hdl:Ex.depths e.l<=10 - d:=Ex.depths_le.2 fun x hx=>by have:=(h4 x hx).2;omega
  exact hR _ _ ⟨n,⟨by omega,⟨fun _=>⟨he.2 ⟨hh,fun x hx=>(h4 x hx).1⟩,by omega,by omega⟩,fun _=>h3⟩,fun _=>by omega⟩,rfl,rfl⟩
theorem gB0 (e:Ex) (hz:e.sz<=1048576):ACl Tryz.prog 11 [eA @I e] [] (fun res bx=>res=litB (I (bB e.good))/\bx=[]):=by
 have c1:=WY0 hI e 1 (by omega) hz
 rw[<-lit1 hI] at c1;refine qN hI tyK Tryz.func11 6 [.tmp 2] ?_;unhygienic intros
 refine qB 0 ?_
 repeat' first|refine qA 0 ?_|refine qJe (nN []) fun x hx=>?_|refine qp ?_ ?_|refine qk (fun h=>?_) fun h=>?_|fail
 exact hR _ _ ⟨liP hI (by rw[F.k4,hI.e,show (Int.ofNat x<=100)=(x<=100) from nl3 x 100,hx.2.1,Ex.goodAt,Ex.good];exact ⟨fun q=>⟨q.1,q.2.2,by have:=q.2.1;omega⟩,fun q=>⟨q.1,by have:=q.2.2;omega,q.2.1⟩⟩),rfl⟩
end
theorem pP0:kG1 11:=fun e hz=>by rw[mG1];exact QB.to (gB0 (I:=@id) rfl e hz)
theorem ZY0:kG1 26:=fun e hz=>by rw[mG1];exact QB.to (gA0 (I:=@id) rfl e hz)
end Go.Gv
