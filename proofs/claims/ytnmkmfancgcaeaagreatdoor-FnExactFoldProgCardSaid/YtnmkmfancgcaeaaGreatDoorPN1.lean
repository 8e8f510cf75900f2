/- Part PN1 of the proof: contracts of functions of the program, each walked once. -/
import Derived.Test.YtnmkmfancgcaeaaGreatDoorPD7
import Derived.Test.YtnmkmfancgcaeaaGreatDoorPB1
import Derived.Test.YtnmkmfancgcaeaaGreatDoorPD13
import Derived.Test.YtnmkmfancgcaeaaGreatDoorPB6
set_option linter.all false
namespace Go.Gv
open Go.Av Go.Proofs Go.Shelf Go.RowKit
set_option maxRecDepth 10000
set_option maxHeartbeats 4000000
def uN0 (c:UInt8):Bool:=97<=c && c<=122
theorem hW0 {c:UInt8} {b:Int} (hb:b=Int.ofNat c.toNat):uN0 c=true↔97<=b/\b<=122:=by
 simp only[uN0,Bool.and_eq_true,decide_eq_true_eq,PQ0,Int.ofNat_eq_natCast] at *;simp only[show (97:UInt8).toNat=97 from rfl,show (122:UInt8).toNat=122 from rfl]
 omega
theorem KZ0:gY0 134 uN0:=by
 intro c b hb;have hs:=hW0 hb;refine qF tyK Tryz.func134 6 [.tmp 2] ?_;unhygienic intros
 have e0:wrap .i64 b=b:=by have:=c.toNat_lt;cases hO;exact yV0 (by simp only[Int.ofNat_eq_natCast] at hb;omega)
 revert hK K;refine qW 0 ?_;intro K hK;simp only[e0];refine qG ?_;refine qD hP (qG0 b 97 122) ?_;rintro res bx ⟨r,hr,rfl,rfl⟩;refine qC ?_;revert hK K;refine qW 0 ?_;intro K hK;refine hR _ _ ⟨_,?_,rfl,rfl⟩;rw[Bool.eq_iff_iff,hr,hs]
theorem gQ0:gY0 155 uN0:=by
 intro c b hb;have hs:=hW0 hb;refine qF tyK Tryz.func155 9 [.tmp 2] ?_;unhygienic intros
 refine qO ?_
 repeat' first|(revert hK K;refine qV 0 ?_;intro K hK)|(refine qK (fun _=>?_) fun _=>?_)|fail
 all_goals (refine hR _ _ ⟨_,?_,rfl,rfl⟩;clear hM hP hC hR hb;cases hO;simp only[Ops.std,sCm] at *;rw[Bool.eq_iff_iff,hs];clear hs;simp_all;try omega)
def mA0 (l:Bs) (i:Nat):Prop:=∀p c,p < i->l[p]?=some c->uN0 c=true\/(0 < p/\uY0 c=true)
def nM0 (s:ByteArray):Prop:=mA0 (toL s) s.size/\1<=s.size/\s.size<=8
def invW7 (s:ByteArray) (N:Nat) (σ:AS):Prop:=∃(i:Nat),σ=⟨vag 29 [(0,litS s),(3,litI (Int.ofNat i))],[],1⟩/\i<=s.size/\mA0 (toL s) i/\N=s.size - i
abbrev HC0 (f:FuncId) (p:ByteArray->Prop):Prop:=∀s:ByteArray,s.size<=4611686018427387904->ACl Tryz.prog f [litS s] [] (fun res bx=>∃b:Bool,(b=true↔p s)/\res=litB b/\bx=[])
theorem FF0:HC0 97 nM0:=by
 intro s hs;refine qF tyK Tryz.func97 29 [.tmp 2] ?_;unhygienic intros
 obtain ⟨N,hN⟩:=qX s.size;have hsz:size s=N:=by cases hO;exact hN.symm
 rw[<-hN] at hs;have hnt:bnot true=false:=by cases hO;rfl
 have hnf:bnot false=true:=by cases hO;rfl
 revert hK K;refine qW 0 ?_;intro K hK;refine qL 0 [0,3] kk0 (invW7 s) ?_ ?_
 ·cbv
  exact ⟨_,0,by cbv,by simp,fun p c h=>by omega,rfl⟩
 rintro n σ ⟨i,rfl,g1,g2,rfl⟩;rw[<-hN] at g1 |-;revert hK K;refine qW 0 ?_;intro K hK;simp only[hsz];refine nC rfl (fun h4=>?_) (fun h4=>?_)
 ·have hlt:i < N:=qv4
  obtain ⟨c,hc,e1⟩:∃c,(toL s)[i]?=some c/\byte s (nat (Int.ofNat i))=Int.ofNat c.toNat:=byte_at hO (hN ▸ hlt);have e:bin .add .i64 (Int.ofNat i) 1=_:=iSc hO (by omega)
  have hidx:idx (Int.ofNat i) (size s):=hsz ▸ ixN hO hlt;obtain ⟨b,hb⟩:=qX (Int.ofNat c.toNat);rw[<-hb] at e1;have hc1:=KZ0 c b hb;have hc2:=YL0 c b hb;have hgood:(uN0 c=true\/(0 < i/\uY0 c=true))->mA0 (toL s) (i+1):=fun h p d hp hd=>by
   by_cases hpi:p=i
   ·rw[hpi,hc] at hd;rw[<-Option.some.inj hd,hpi];exact h
   ·exact g2 p d (by omega) hd
  have hbad:nM0 s->uN0 c=true\/(0 < i/\uY0 c=true):=fun h=>h.1 i c (hN ▸ hlt) hc;have hstep:mA0 (toL s) (i+1)->∃m,m < N - i/\∃i',(vag 29 [(0,litS s),(3,litI (Int.ofNat (i+1)))]:List AV)=vag 29 [(0,litS s),(3,litI (Int.ofNat i'))]/\i'<=s.size/\mA0 (toL s) i'/\m=s.size - i':=fun h=>⟨N - (i+1),by omega,i+1,rfl,by omega,h,by rw[hN]⟩
  clear hb;revert hK K;refine qW 0 ?_;intro K hK
  try simp only[e1]
  refine ndC hidx (ndN ?_);revert hK K;refine qW 0 ?_;intro K hK;refine qG ?_;refine qD hP hc1 ?_;rintro res bx ⟨r,hr,rfl,rfl⟩;refine qC ?_;cases r
  ·revert hK K;refine qW 0 ?_;intro K hK
   simp only[hnf];revert hK K;refine qW 0 ?_;intro K hK;refine GFork.mk (fun h5=>?_) (fun h5=>?_)<;>cbv
   ·have h0:i=0:=qw5
    revert hK K;refine qW 0 ?_;intro K hK;refine hR _ _ ⟨_,⟨fun h=>by simp at h,fun h=>?_⟩,rfl,rfl⟩
    rcases hbad h with h | h
    ·rw[h] at hr;simp at hr
    ·omega
   ·have h0:0 < i:=qw5
    revert hK K;refine qW 0 ?_;intro K hK
    try simp only[e1]
    refine ndC hidx (ndN ?_);revert hK K;refine qW 0 ?_;intro K hK;refine qG ?_;refine qD hP hc2 ?_;rintro res bx ⟨r,hr2,rfl,rfl⟩;refine qC ?_;cases r
    ·revert hK K;refine qW 0 ?_;intro K hK
     simp only[hnf];revert hK K;refine qW 0 ?_;intro K hK;refine hR _ _ ⟨_,⟨fun h=>by simp at h,fun h=>?_⟩,rfl,rfl⟩
     rcases hbad h with h | h
     ·rw[h] at hr;simp at hr
     ·rw[h.2] at hr2;simp at hr2
    ·revert hK K;refine qW 0 ?_;intro K hK
     simp only[hnt];revert hK K;refine qW 0 ?_;intro K hK;rw[e];exact ⟨N - (i+1),by omega,i+1,by cbv,by omega,hgood (.inr ⟨h0,hr2.symm⟩),by rw[hN]⟩
  ·revert hK K;refine qW 0 ?_;intro K hK
   simp only[hnt];revert hK K;refine qW 0 ?_;intro K hK;rw[e];exact ⟨N - (i+1),by omega,i+1,by cbv,by omega,hgood (.inl hr.symm),by rw[hN]⟩
 ·have hge:i=N:=qw4
  have hw:mA0 (toL s) s.size:=by rw[hge,hN] at g2;exact g2
  have hq:nM0 s↔1<=Int.ofNat N/\Int.ofNat N<=8:=by
   unfold nM0;rw[hN];simp only[Int.ofNat_eq_natCast]
   constructor
   ·rintro ⟨_,h1,h2⟩;omega
   ·rintro ⟨h1,h2⟩;exact ⟨hw,by omega,by omega⟩
  revert hK K;refine qW 0 ?_;intro K hK;simp only[hsz];refine qG ?_;refine qD hP (qG0 (Int.ofNat N) 1 8) ?_;rintro res bx ⟨r,hr,rfl,rfl⟩;refine qC ?_;revert hK K;refine qW 0 ?_;intro K hK;exact hR _ _ ⟨r,hr.trans hq.symm,rfl,rfl⟩
def JR0 (l:Bs) (i:Nat):Prop:=∀p c,p < i->l[p]?=some c->uN0 c=true\/uY0 c=true
def invW8 (s:ByteArray) (N:Nat) (σ:AS):Prop:=∃(i:Nat),σ=⟨vag 23 [(0,litS s),(3,litI (Int.ofNat i))],[],1⟩/\i<=s.size/\JR0 (toL s) i/\N=s.size - i
theorem ZZ0 (s:ByteArray) (hs:s.size<=4611686018427387904):ACl Tryz.prog 156 [litS s] [] (fun res bx=>∃n:Nat,(n=s.size↔JR0 (toL s) s.size)/\res=litI (Int.ofNat n)/\bx=[]):=by
 refine qF tyK Tryz.func156 23 [.tmp 2] ?_;unhygienic intros
 obtain ⟨N,hN⟩:=qX s.size;have hsz:size s=N:=by cases hO;exact hN.symm
 rw[<-hN] at hs;revert hK K;refine qW 0 ?_;intro K hK;refine qL 0 [0,3] kk0 (invW8 s) ?_ ?_
 ·cbv
  exact ⟨_,0,by cbv,by simp,fun p c h=>by omega,rfl⟩
 rintro n σ ⟨i,rfl,g1,g2,rfl⟩;rw[<-hN] at g1 |-;revert hK K;refine qW 0 ?_;intro K hK;simp only[hsz];refine GFork.mk (fun h4=>?_) (fun h4=>?_)<;>cbv
 ·have hlt:i < N:=qv4
  obtain ⟨c,hc,e1⟩:∃c,(toL s)[i]?=some c/\byte s (nat (Int.ofNat i))=Int.ofNat c.toNat:=byte_at hO (hN ▸ hlt);have e:bin .add .i64 (Int.ofNat i) 1=_:=iSc hO (by omega)
  have hidx:idx (Int.ofNat i) (size s):=hsz ▸ ixN hO hlt;obtain ⟨b,hb⟩:=qX (Int.ofNat c.toNat);rw[<-hb] at e1;have hc1:=gQ0 c b hb;have hc2:=YQ0 c b hb;have hgood:(uN0 c=true\/uY0 c=true)->JR0 (toL s) (i+1):=fun h p d hp hd=>by
   by_cases hpi:p=i
   ·rw[hpi,hc] at hd;rw[<-Option.some.inj hd];exact h
   ·exact g2 p d (by omega) hd
  clear hb;revert hK K;refine qW 0 ?_;intro K hK
  try simp only[e1]
  refine ndC hidx (ndN ?_);revert hK K;refine qW 0 ?_;intro K hK;refine qG ?_;refine qD hP hc1 ?_;rintro res bx ⟨r,hr,rfl,rfl⟩;refine qC ?_;cases r
  ·revert hK K;refine qW 0 ?_;intro K hK
   try simp only[e1]
   refine ndC hidx (ndN ?_);revert hK K;refine qW 0 ?_;intro K hK;refine qG ?_;refine qD hP hc2 ?_;rintro res bx ⟨r,hr2,rfl,rfl⟩;refine qC ?_;cases r
   ·revert hK K;refine qW 0 ?_;intro K hK
    refine hR _ _ ⟨i,⟨fun h=>by omega,fun h=>?_⟩,rfl,rfl⟩
    rcases h i c (hN ▸ hlt) hc with h | h
    ·rw[h] at hr;simp at hr
    ·rw[h] at hr2;simp at hr2
   ·revert hK K;refine qW 0 ?_;intro K hK
    rw[e];exact ⟨N - (i+1),by omega,i+1,by cbv,by omega,hgood (.inr hr2.symm),by rw[hN]⟩
  ·revert hK K;refine qW 0 ?_;intro K hK
   rw[e];exact ⟨N - (i+1),by omega,i+1,by cbv,by omega,hgood (.inl hr.symm),by rw[hN]⟩
 ·have hge:i=N:=qw4
  revert hK K;refine qW 0 ?_;intro K hK;exact hR _ _ ⟨i,⟨fun _=>by rw[hge,hN] at g2;exact g2,fun _=>by omega⟩,rfl,rfl⟩
theorem HK0 {s:ByteArray} (h1:1<=s.size) {c:UInt8} (hc:(toL s)[0]?=some c):mA0 (toL s) s.size↔uN0 c=true/\JR0 (toL s) s.size:=by
 constructor
 ·intro h
  refine ⟨?_,fun p d hp hd=>(h p d hp hd).imp id And.right⟩;rcases h 0 c h1 hc with h | h
  ·exact h
  ·omega
 ·rintro ⟨h0,h⟩ p d hp hd
  by_cases hp0:p=0
  ·subst hp0;rw[hc] at hd;rw[<-Option.some.inj hd];exact .inl h0
  ·exact (h p d hp hd).imp id fun h=>⟨by omega,h⟩
theorem FJ0:HC0 143 nM0:=by
 intro s hs;have hwl:=ZZ0 s hs;refine qF tyK Tryz.func143 18 [.tmp 2] ?_;unhygienic intros
 obtain ⟨N,hN⟩:=qX s.size;have hsz:size s=N:=by cases hO;exact hN.symm
 rw[<-hN] at hwl;revert hK K;refine qW 0 ?_;intro K hK;simp only[hsz];refine qG ?_;refine qD hP (vZ0 (Int.ofNat N) 1 8) ?_;rintro res bx ⟨r,hr,rfl,rfl⟩;refine qC ?_;cases r
 ·revert hK K;refine qW 0 ?_;intro K hK
  refine hR _ _ ⟨_,⟨fun h=>by simp at h,fun h=>?_⟩,rfl,rfl⟩
  have:=hr.2 (by have:=h.2;simp only[Int.ofNat_eq_natCast];omega)
  simp at this
 ·have hr:=hr.1 rfl
  have h18:1<=N/\N<=8:=by simp only[Int.ofNat_eq_natCast] at hr;omega
  obtain ⟨c,hc,e1⟩:∃c,(toL s)[0]?=some c/\byte s (nat 0)=Int.ofNat c.toNat:=byte_at hO (s:=s) (i:=0) (by omega)
  have hidx:idx 0 (size s):=hsz ▸ ixN hO (i:=0) (by omega)
  have hw:=HK0 (by omega) hc
  have hq:nM0 s↔uN0 c=true/\JR0 (toL s) s.size:=by
   unfold nM0;rw[hw];exact ⟨fun h=>h.1,fun h=>⟨h,by omega,by omega⟩⟩
  obtain ⟨b,hb⟩:=qX (Int.ofNat c.toNat);rw[<-hb] at e1;have hc1:=gQ0 c b hb;clear hb hr hw;rw[<-hN] at hq;revert hK K;refine qW 0 ?_;intro K hK
  try simp only[e1]
  refine ndC hidx (ndN ?_);revert hK K;refine qW 0 ?_;intro K hK;refine qG ?_;refine qD hP hc1 ?_;rintro res bx ⟨r,hr,rfl,rfl⟩;refine qC ?_;cases r
  ·revert hK K;refine qW 0 ?_;intro K hK
   refine hR _ _ ⟨_,⟨fun h=>by simp at h,fun h=>?_⟩,rfl,rfl⟩
   rw[(hq.1 h).1] at hr;simp at hr
  ·revert hK K;refine qW 0 ?_;intro K hK
   try simp only[hsz]
   refine qG ?_;refine qD hP hwl ?_;rintro res bx ⟨n,hn,rfl,rfl⟩;refine qC ?_;revert hK K;refine qW 0 ?_;intro K hK
   try simp only[hsz]
   refine hR _ _ ⟨_,?_,rfl,rfl⟩;rw[hq];clear hM hP hC hR;cases hO;simp only[Ops.std,sCm,beq_iff_eq,Int.ofNat_eq_natCast];rw[<-hn];exact ⟨fun h=>⟨hr.symm,by omega⟩,fun h=>by have:=h.2;omega⟩
def mB0:List ByteArray:=[⟨#[98,101,103,105,110]⟩,⟨#[101,110,100]⟩,⟨#[102,117,110,99]⟩,⟨#[112,114,105,110,116]⟩,⟨#[105,102]⟩,⟨#[101,108,115,101]⟩,⟨#[119,104,105,108,101]⟩,⟨#[102,111,114]⟩,⟨#[105,110]⟩,⟨#[110,101,120,116]⟩,⟨#[101,120,105,116]⟩,⟨#[114,101,116,117,114,110]⟩,⟨#[100,101,108,101,116,101]⟩,⟨#[108,101,110,103,116,104]⟩,⟨#[115,117,98,115,116,114]⟩,⟨#[105,110,100,101,120]⟩,⟨#[117,112,112,101,114]⟩,⟨#[103,115,117,98]⟩,⟨#[110,114]⟩,⟨#[110,102]⟩]
def operS:List ByteArray:=[⟨#[43]⟩,⟨#[45]⟩,⟨#[42]⟩,⟨#[47]⟩,⟨#[37]⟩,⟨#[46]⟩,⟨#[60]⟩,⟨#[60,61]⟩,⟨#[61,61]⟩,⟨#[33,61]⟩,⟨#[62]⟩,⟨#[62,61]⟩,⟨#[38,38]⟩,⟨#[124,124]⟩]
abbrev WordsOk (f:FuncId) (l:List ByteArray):Prop:=ACl Tryz.prog f [] [] (fun res bx=>∃els,els=strs l/\res=⟨.one,[.ro true els]⟩/\bx=[])
theorem WordsOk.of {f:FuncId} {l:List ByteArray} (h:ACl Tryz.prog f [] [] (fun res bx=>res=⟨.one,[.ow (0,0) false 1 (strs l)]⟩/\bx=[])):WordsOk f l:=by
 refine acI (ACl.ro h) ?_;rintro res bx ⟨r0,⟨rfl,h⟩,rfl⟩;exact ⟨_,rfl,rfl,h⟩
theorem KX0:WordsOk 99 mB0:=by
 refine WordsOk.of ?_;refine qF tyK Tryz.func99 2 [.tmp 0] ?_;unhygienic intros
 revert hK K;refine qW 0 ?_;intro K hK;exact hR _ _ ⟨rfl,rfl⟩
theorem yZ1:WordsOk 115 operS:=by
 refine WordsOk.of ?_;refine qF tyK Tryz.func115 2 [.tmp 0] ?_;unhygienic intros
 revert hK K;refine qW 0 ?_;intro K hK;exact hR _ _ ⟨rfl,rfl⟩
theorem FN0:WordsOk 123 operS:=by
 refine WordsOk.of ?_;refine qF tyK Tryz.func123 2 [.tmp 0] ?_;unhygienic intros
 revert hK K;refine qW 0 ?_;intro K hK;exact hR _ _ ⟨rfl,rfl⟩
abbrev uT1 (f:FuncId):Prop:=∀(l:List ByteArray) (els:List (List T)) (s:ByteArray),els=strs l->l.length<=1099511627776->ACl Tryz.prog f [⟨.one,[.ro true els]⟩,litS s] [] (fun res bx=>∃b:Bool,(b=true↔s∈l)/\res=litB b/\bx=[])
def invN2 (els:List (List T)) (s:ByteArray) (l:List ByteArray) (N:Nat) (σ:AS):Prop:=
 ∃(i:Nat),σ=⟨vag 18 [(0,⟨.one,[.ro true els]⟩),(1,litS s),(5,litI (Int.ofNat i))],[],1⟩/\i<=l.length/\(∀p x,p < i->l[p]?=some x->x≠s)/\N=l.length - i
theorem WY0:uT1 98:=by
 intro l els s he hl;refine qF tyK Tryz.func98 18 [.tmp 4] ?_;unhygienic intros
 obtain ⟨N,hN⟩:=qX l.length;have hln:len els=N:=lnO hO (by simp[he,hN])
 have ha:all els 1:=alO hO (by rw[he];exact nP0 l)
 rw[<-hN] at hl;revert hK K;refine qW 0 ?_;intro K hK;refine qL 0 [0,1,5] kk0 (invN2 els s l) ?_ ?_
 ·cbv
  exact ⟨_,0,by cbv,by simp,fun p x h=>by omega,rfl⟩
 rintro m σ ⟨i,rfl,g1,g2,rfl⟩;rw[<-hN] at g1 |-;revert hK K;refine qW 0 ?_;intro K hK;simp only[hln];refine nC rfl (fun h3=>?_) (fun h3=>?_)
 ·have hlt:i < N:=qv3
  have e:bin .add .i64 (Int.ofNat i) 1=_:=iSc hO (by omega)
  have hidx:idx (Int.ofNat i) (len els):=hln ▸ ixN hO hlt;obtain ⟨y,hy⟩:∃y,l[i]?=some y:=⟨_,List.getElem?_eq_getElem (hN ▸ hlt)⟩;have e1:get els (nat (Int.ofNat i))=[T.lit (.string y)]:=by cases hO;rw[he];simp[Ops.std,strs,hy]
  revert hK K;refine qW 0 ?_;intro K hK
  repeat (simp only[e1];cbv)
  refine ndC hidx (ndC ha (ndN ?_));revert hK K;refine qW 0 ?_;intro K hK;refine nC rfl (fun h5=>?_) (fun h5=>?_)
  ·have hyk:y=s:=qv5
   revert hK K;refine qW 0 ?_;intro K hK;exact hR _ _ ⟨_,⟨fun _=>hyk ▸ List.mem_of_getElem? hy,fun _=>rfl⟩,rfl,rfl⟩
  ·have hyk:y≠s:=qv5
   revert hK K;refine qW 0 ?_;intro K hK;rw[e];exact ⟨N - (i+1),by omega,i+1,by cbv,by omega,fun p z hp hz=>by
    by_cases hpi:p=i
    ·rw[hpi,hy] at hz;rw[<-Option.some.inj hz];exact hyk
    ·exact g2 p z (by omega) hz,by rw[hN]⟩
 ·have hge:i=N:=qw3
  revert hK K;refine qW 0 ?_;intro K hK;refine hR _ _ ⟨_,⟨fun h=>by simp at h,fun h=>?_⟩,rfl,rfl⟩
  obtain ⟨p,hp⟩:=List.mem_iff_getElem?.1 h;exact absurd rfl (g2 p s (by have:=(List.getElem?_eq_some_iff.1 hp).1;omega) hp)
def invN3 (els:List (List T)) (s:ByteArray) (l:List ByteArray) (N:Nat) (σ:AS):Prop:=
 ∃(i:Nat),σ=⟨vag 19 [(0,⟨.one,[.ro true els]⟩),(1,litS s),(7,litI (Int.ofNat l.length)),(8,litI (Int.ofNat i))],[],1⟩/\i<=l.length/\(∀p x,p < i->l[p]?=some x->x≠s)/\N=l.length - i
theorem QZ0 (l:List ByteArray) (els:List (List T)) (s:ByteArray) (he:els=strs l) (hl:l.length<=1099511627776) :
  ACl Tryz.prog 144 [⟨.one,[.ro true els]⟩,litS s] [] (fun res bx=>∃r:Int,(0<=r↔s∈l)/\res=litI r/\bx=[]):=by
 refine qF tyK Tryz.func144 19 [.tmp 4] ?_;unhygienic intros
 obtain ⟨N,hN⟩:=qX l.length;have hln:len els=N:=lnO hO (by simp[he,hN])
 have ha:all els 1:=alO hO (by rw[he];exact nP0 l)
 rw[<-hN] at hl;revert hK K;refine qW 0 ?_;intro K hK;simp only[hln];refine qL 0 [0,1,7,8] kk0 (invN3 els s l) ?_ ?_
 ·cbv
  exact ⟨_,0,by rw[<-hN];cbv,by omega,by omega,rfl⟩
 rintro m σ ⟨i,rfl,g1,g2,rfl⟩;rw[<-hN];revert hK K;refine qW 0 ?_;intro K hK;refine nC rfl (fun h3=>?_) (fun h3=>?_)
 ·have hlt:i < N:=qv3
  have e:bin .add .i64 (Int.ofNat i) 1=_:=iSc hO (by omega)
  have hidx:idx (Int.ofNat i) (len els):=hln ▸ ixN hO hlt;obtain ⟨y,hy⟩:∃y,l[i]?=some y:=⟨_,List.getElem?_eq_getElem (hN ▸ hlt)⟩;have e1:get els (nat (Int.ofNat i))=[T.lit (.string y)]:=by cases hO;rw[he];simp[Ops.std,strs,hy]
  revert hK K;refine qW 0 ?_;intro K hK
  repeat (simp only[e1];cbv)
  refine ndC hidx (ndC ha (ndN ?_));revert hK K;refine qW 0 ?_;intro K hK;refine nC rfl (fun h5=>?_) (fun h5=>?_)
  ·have hyk:s=y:=qv5
   revert hK K;refine qW 0 ?_;intro K hK;exact hR _ _ ⟨_,⟨fun _=>hyk ▸ List.mem_of_getElem? hy,fun _=>Int.natCast_nonneg _⟩,rfl,rfl⟩
  ·have hyk:s≠y:=qv5
   revert hK K;refine qW 0 ?_;intro K hK;rw[e];exact ⟨N - (i+1),by omega,i+1,by rw[<-hN];cbv,by omega,fun p z hp hz=>by
    by_cases hpi:p=i
    ·rw[hpi,hy] at hz;rw[<-Option.some.inj hz];exact fun h=>hyk h.symm
    ·exact g2 p z (by omega) hz,by rw[hN]⟩
 ·have hge:i=N:=qw3
  revert hK K;refine qW 0 ?_;intro K hK;refine hR _ _ ⟨_,⟨fun h=>absurd h (by decide),fun h=>?_⟩,rfl,rfl⟩
  obtain ⟨p,hp⟩:=List.mem_iff_getElem?.1 h;exact absurd rfl (g2 p s (by have:=(List.getElem?_eq_some_iff.1 hp).1;omega) hp)
theorem uC0:uT1 108:=by
 intro l els s he hl;have hi:=QZ0 l els s he hl;refine qF tyK Tryz.func108 9 [.tmp 4] ?_;unhygienic intros
 revert hK K;refine qW 0 ?_;intro K hK;refine qG ?_;refine qD hP hi ?_;rintro res bx ⟨r,hr,rfl,rfl⟩;refine qC ?_;revert hK K;refine qW 0 ?_;intro K hK;refine hR _ _ ⟨_,?_,rfl,rfl⟩;rw[<-hr];clear hM hP hC hR;cases hO;simp[Ops.std,sCm]
def xE0 (s:ByteArray):Prop:=nM0 s/\s∉mB0
theorem xN0:HC0 61 xE0:=by
 intro s hs;have h1:=FF0 s hs;have h2:=fun els he=>WY0 mB0 els s he (by decide)
 have hq:xE0 s↔nM0 s/\¬s∈mB0:=Iff.rfl;generalize xE0 s=np at *;generalize nM0 s=wp at *;generalize hW:(s∈mB0)=ws at *;have hT:=KX0;unfold WordsOk at hT;refine qF tyK Tryz.func61 11 [.tmp 2] ?_;unhygienic intros
 have hnt:bnot true=false:=by cases hO;rfl
 have hnf:bnot false=true:=by cases hO;rfl
 clear hW;revert hK K;refine qW 0 ?_;intro K hK;refine qG ?_;refine qD hP h1 ?_;rintro res bx ⟨b,hb,rfl,rfl⟩;refine qC ?_;cases b
 ·revert hK K;refine qW 0 ?_;intro K hK
  exact hR _ _ ⟨_,⟨fun h=>by simp at h,fun h=>hb.2 (hq.1 h).1⟩,rfl,rfl⟩
 ·revert hK K;refine qW 0 ?_;intro K hK
  refine qG ?_;refine qD hP hT ?_;rintro res bx ⟨els,he,rfl,rfl⟩;refine qC ?_;revert hK K;refine qW 0 ?_;intro K hK;refine qG ?_;refine qD hP (h2 els he) ?_;rintro res bx ⟨c,hc,rfl,rfl⟩;refine qC ?_;cases c
  ·revert hK K;refine qW 0 ?_;intro K hK
   try simp only[hnf]
   revert hK K;refine qW 0 ?_;intro K hK;exact hR _ _ ⟨_,⟨fun _=>hq.2 ⟨hb.1 rfl,fun h=>absurd (hc.2 h) (by simp)⟩,fun _=>rfl⟩,rfl,rfl⟩
  ·revert hK K;refine qW 0 ?_;intro K hK
   try simp only[hnt]
   revert hK K;refine qW 0 ?_;intro K hK;exact hR _ _ ⟨_,⟨fun h=>by simp at h,fun h=>absurd (hc.1 rfl) (hq.1 h).2⟩,rfl,rfl⟩
theorem xP0:HC0 107 xE0:=by
 intro s hs;have h1:=FJ0 s hs;have h2:=uC0 mB0 (strs mB0) s rfl (by decide)
 have hq:xE0 s↔nM0 s/\¬s∈mB0:=Iff.rfl;have hels:strs mB0=[[T.lit (.string ⟨⟨[98,101,103,105,110]⟩⟩)],[T.lit (.string ⟨⟨[101,110,100]⟩⟩)],[T.lit (.string ⟨⟨[102,117,110,99]⟩⟩)],[T.lit (.string ⟨⟨[112,114,105,110,116]⟩⟩)],[T.lit (.string ⟨⟨[105,102]⟩⟩)],[T.lit (.string ⟨⟨[101,108,115,101]⟩⟩)],[T.lit (.string ⟨⟨[119,104,105,108,101]⟩⟩)],[T.lit (.string ⟨⟨[102,111,114]⟩⟩)],[T.lit (.string ⟨⟨[105,110]⟩⟩)],[T.lit (.string ⟨⟨[110,101,120,116]⟩⟩)],[T.lit (.string ⟨⟨[101,120,105,116]⟩⟩)],[T.lit (.string ⟨⟨[114,101,116,117,114,110]⟩⟩)],[T.lit (.string ⟨⟨[100,101,108,101,116,101]⟩⟩)],[T.lit (.string ⟨⟨[108,101,110,103,116,104]⟩⟩)],[T.lit (.string ⟨⟨[115,117,98,115,116,114]⟩⟩)],[T.lit (.string ⟨⟨[105,110,100,101,120]⟩⟩)],[T.lit (.string ⟨⟨[117,112,112,101,114]⟩⟩)],[T.lit (.string ⟨⟨[103,115,117,98]⟩⟩)],[T.lit (.string ⟨⟨[110,114]⟩⟩)],[T.lit (.string ⟨⟨[110,102]⟩⟩)]]:=rfl
 generalize xE0 s=np at *;generalize nM0 s=wp at *;generalize hW:(s∈mB0)=ws at *;obtain ⟨els,he⟩:=qX (strs mB0);rw[<-he] at h2 hels;refine qF tyK Tryz.func107 13 [.tmp 2] ?_;unhygienic intros
 have hnt:bnot true=false:=by cases hO;rfl
 have hnf:bnot false=true:=by cases hO;rfl
 clear hW he;revert hK K;refine qW 0 ?_;intro K hK;rw[<-hels];refine qG ?_;refine qD hP h1 ?_;rintro res bx ⟨b,hb,rfl,rfl⟩;refine qC ?_;cases b
 ·revert hK K;refine qW 0 ?_;intro K hK
  exact hR _ _ ⟨_,⟨fun h=>by simp at h,fun h=>hb.2 (hq.1 h).1⟩,rfl,rfl⟩
 ·revert hK K;refine qW 0 ?_;intro K hK
  refine qg (nS []) ?_;refine qC ?_;refine qD hP h2 ?_;rintro res bx ⟨c,hc,rfl,rfl⟩;refine qC ?_;cases c
  ·revert hK K;refine qW 0 ?_;intro K hK
   try simp only[hnf]
   revert hK K;refine qW 0 ?_;intro K hK;exact hR _ _ ⟨_,⟨fun _=>hq.2 ⟨hb.1 rfl,fun h=>absurd (hc.2 h) (by simp)⟩,fun _=>rfl⟩,rfl,rfl⟩
  ·revert hK K;refine qW 0 ?_;intro K hK
   try simp only[hnt]
   revert hK K;refine qW 0 ?_;intro K hK;exact hR _ _ ⟨_,⟨fun h=>by simp at h,fun h=>absurd (hc.1 rfl) (hq.1 h).2⟩,rfl,rfl⟩
def rA0 (l:Bs) (but:UInt8) (i:Nat):Prop:=∀p c,p < i->l[p]?=some c->32<=c.toNat/\c.toNat<=126/\c≠but
def jU0 (but:UInt8) (s:ByteArray):Prop:=rA0 (toL s) but s.size
def tY0 (s:ByteArray):Prop:=jU0 39 s/\s.size<=200
def invN4 (s:ByteArray) (but:UInt8) (bb:Int) (N:Nat) (σ:AS):Prop:=∃(i:Nat),σ=⟨vag 28 [(0,litS s),(1,litU bb),(5,litI (Int.ofNat i))],[],1⟩/\i<=s.size/\rA0 (toL s) but i/\N=s.size - i
def invN5 (s:ByteArray) (but:UInt8) (bb:Int) (N:Nat) (σ:AS):Prop:=∃(i:Nat),σ=⟨vag 25 [(0,litS s),(1,litU bb),(5,litI (Int.ofNat i))],[],1⟩/\i<=s.size/\rA0 (toL s) but i/\N=s.size - i
theorem JA0:∀(s:ByteArray) (but:UInt8) (bb:Int),bb=Int.ofNat but.toNat->s.size<=4611686018427387904->ACl Tryz.prog 114 [litS s,litU bb] [] (fun res bx=>∃b:Bool,(b=true↔jU0 but s/\s.size<=200)/\res=litB b/\bx=[]):=by
 intro s but bb hbut hs;refine qF tyK Tryz.func114 28 [.tmp 4] ?_;unhygienic intros
 obtain ⟨N,hN⟩:=qX s.size;have hsz:size s=N:=by cases hO;exact hN.symm
 rw[<-hN] at hs;have hnt:bnot true=false:=by cases hO;rfl
 have hnf:bnot false=true:=by cases hO;rfl
 revert hK K;refine qW 0 ?_;intro K hK;refine qL 0 [0,1,5] kk0 (invN4 s but bb) ?_ ?_
 ·cbv
  exact ⟨_,0,by cbv,by simp,fun p c h=>by omega,rfl⟩
 rintro n σ ⟨i,rfl,g1,g2,rfl⟩;rw[<-hN] at g1 |-;revert hK K;refine qW 0 ?_;intro K hK;simp only[hsz];refine nC rfl (fun h4=>?_) (fun h4=>?_)
 ·have hlt:i < N:=qv4
  obtain ⟨c,hc,e1⟩:∃c,(toL s)[i]?=some c/\byte s (nat (Int.ofNat i))=Int.ofNat c.toNat:=byte_at hO (hN ▸ hlt);have e:bin .add .i64 (Int.ofNat i) 1=_:=iSc hO (by omega)
  have hidx:idx (Int.ofNat i) (size s):=hsz ▸ ixN hO hlt;obtain ⟨b,hb⟩:=qX (Int.ofNat c.toNat);rw[<-hb] at e1;have ew:wrap .i64 b=b:=by have:=c.toNat_lt;cases hO;exact yV0 (by simp only[Int.ofNat_eq_natCast] at hb;omega)
  have hbe:b=bb↔c=but:=by rw[hb,hbut,vG0];exact ⟨fun h=>Int.ofNat.inj h,fun h=>by rw[h]⟩
  have hrng:32<=b/\b<=126↔32<=c.toNat/\c.toNat<=126:=by rw[hb];simp only[Int.ofNat_eq_natCast];omega
  have hgood:32<=b/\b<=126->b≠bb->rA0 (toL s) but (i+1):=fun h1 h2 p d hp hd=>by
   by_cases hpi:p=i
   ·rw[hpi,hc] at hd;rw[<-Option.some.inj hd];exact ⟨(hrng.1 h1).1,(hrng.1 h1).2,fun h=>h2 (hbe.2 h)⟩
   ·exact g2 p d (by omega) hd
  have hbad:rA0 (toL s) but s.size->(32<=b/\b<=126)/\b≠bb:=fun h=>by
   have:=h i c (hN ▸ hlt) hc;exact ⟨hrng.2 ⟨this.1,this.2.1⟩,fun h=>this.2.2 (hbe.1 h)⟩
  clear hb hbe hrng;revert hK K;refine qW 0 ?_;intro K hK
  try simp only[e1]
  refine ndC hidx (ndN ?_);revert hK K;refine qW 0 ?_;intro K hK
  try simp only[ew]
  refine qG ?_;refine qD hP (qG0 b 32 126) ?_;rintro res bx ⟨r,hr,rfl,rfl⟩;refine qC ?_;cases r
  ·revert hK K;refine qW 0 ?_;intro K hK
   simp only[hnf];revert hK K;refine qW 0 ?_;intro K hK;refine hR _ _ ⟨_,⟨fun h=>by simp at h,fun h=>absurd (hr.2 (hbad (And.left h)).1) (by simp)⟩,rfl,rfl⟩
  ·have hr:=hr.1 rfl
   revert hK K;refine qW 0 ?_;intro K hK;simp only[hnt];revert hK K;refine qW 0 ?_;intro K hK
   try simp only[e1]
   refine ndC hidx (ndN ?_);revert hK K;refine qW 0 ?_;intro K hK;refine nC rfl (fun h5=>?_) (fun h5=>?_)
   ·have hbe:b=bb:=qv5
    revert hK K;refine qW 0 ?_;intro K hK;refine hR _ _ ⟨_,⟨fun h=>by simp at h,fun h=>absurd hbe (hbad (And.left h)).2⟩,rfl,rfl⟩
   ·have hbe:b≠bb:=qv5
    revert hK K;refine qW 0 ?_;intro K hK;rw[e];exact ⟨N - (i+1),by omega,i+1,by cbv,by omega,hgood hr hbe,by rw[hN]⟩
 ·have hge:i=N:=qw4
  have hw:jU0 but s:=by rw[hge,hN] at g2;exact g2
  revert hK K;refine qW 0 ?_;intro K hK;simp only[hsz];refine hR _ _ ⟨_,?_,rfl,rfl⟩;rw[<-hN];clear hM hP hC hR;cases hO;simp only[Ops.std,sCm,decide_eq_true_eq,Int.ofNat_eq_natCast];exact ⟨fun h=>⟨hw,by omega⟩,fun h=>by have:=h.2;omega⟩
theorem KV0:∀(s:ByteArray) (but:UInt8) (bb:Int),bb=Int.ofNat but.toNat->s.size<=4611686018427387904->ACl Tryz.prog 147 [litS s,litU bb] [] (fun res bx=>∃b:Bool,(b=true↔jU0 but s)/\res=litB b/\bx=[]):=by
 intro s but bb hbut hs;refine qF tyK Tryz.func147 25 [.tmp 4] ?_;unhygienic intros
 obtain ⟨N,hN⟩:=qX s.size;have hsz:size s=N:=by cases hO;exact hN.symm
 rw[<-hN] at hs;have hnt:bnot true=false:=by cases hO;rfl
 have hnf:bnot false=true:=by cases hO;rfl
 revert hK K;refine qW 0 ?_;intro K hK;refine qL 0 [0,1,5] kk0 (invN5 s but bb) ?_ ?_
 ·cbv
  exact ⟨_,0,by cbv,by simp,fun p c h=>by omega,rfl⟩
 rintro n σ ⟨i,rfl,g1,g2,rfl⟩;rw[<-hN] at g1 |-;revert hK K;refine qW 0 ?_;intro K hK;simp only[hsz];refine nC rfl (fun h4=>?_) (fun h4=>?_)
 ·have hlt:i < N:=qv4
  obtain ⟨c,hc,e1⟩:∃c,(toL s)[i]?=some c/\byte s (nat (Int.ofNat i))=Int.ofNat c.toNat:=byte_at hO (hN ▸ hlt);have e:bin .add .i64 (Int.ofNat i) 1=_:=iSc hO (by omega)
  have hidx:idx (Int.ofNat i) (size s):=hsz ▸ ixN hO hlt;obtain ⟨b,hb⟩:=qX (Int.ofNat c.toNat);rw[<-hb] at e1;have ew:wrap .i64 b=b:=by have:=c.toNat_lt;cases hO;exact yV0 (by simp only[Int.ofNat_eq_natCast] at hb;omega)
  have hbe:b=bb↔c=but:=by rw[hb,hbut,vG0];exact ⟨fun h=>Int.ofNat.inj h,fun h=>by rw[h]⟩
  have hrng:32<=b/\b<=126↔32<=c.toNat/\c.toNat<=126:=by rw[hb];simp only[Int.ofNat_eq_natCast];omega
  have hgood:32<=b/\b<=126->b≠bb->rA0 (toL s) but (i+1):=fun h1 h2 p d hp hd=>by
   by_cases hpi:p=i
   ·rw[hpi,hc] at hd;rw[<-Option.some.inj hd];exact ⟨(hrng.1 h1).1,(hrng.1 h1).2,fun h=>h2 (hbe.2 h)⟩
   ·exact g2 p d (by omega) hd
  have hbad:rA0 (toL s) but s.size->(32<=b/\b<=126)/\b≠bb:=fun h=>by
   have:=h i c (hN ▸ hlt) hc;exact ⟨hrng.2 ⟨this.1,this.2.1⟩,fun h=>this.2.2 (hbe.1 h)⟩
  clear hb hbe hrng;revert hK K;refine qW 0 ?_;intro K hK
  try simp only[e1]
  refine ndC hidx (ndN ?_);revert hK K;refine qW 0 ?_;intro K hK
  try simp only[ew]
  refine qG ?_;refine qD hP (vZ0 b 32 126) ?_;rintro res bx ⟨r,hr,rfl,rfl⟩;refine qC ?_;cases r
  ·revert hK K;refine qW 0 ?_;intro K hK
   simp only[hnf];revert hK K;refine qW 0 ?_;intro K hK;refine hR _ _ ⟨_,⟨fun h=>by simp at h,fun h=>absurd (hr.2 (hbad (id h)).1) (by simp)⟩,rfl,rfl⟩
  ·have hr:=hr.1 rfl
   revert hK K;refine qW 0 ?_;intro K hK;simp only[hnt];revert hK K;refine qW 0 ?_;intro K hK
   try simp only[e1]
   refine ndC hidx (ndN ?_);revert hK K;refine qW 0 ?_;intro K hK;refine nC rfl (fun h5=>?_) (fun h5=>?_)
   ·have hbe:b=bb:=qv5
    revert hK K;refine qW 0 ?_;intro K hK;refine hR _ _ ⟨_,⟨fun h=>by simp at h,fun h=>absurd hbe (hbad (id h)).2⟩,rfl,rfl⟩
   ·have hbe:b≠bb:=qv5
    revert hK K;refine qW 0 ?_;intro K hK;rw[e];exact ⟨N - (i+1),by omega,i+1,by cbv,by omega,hgood hr hbe,by rw[hN]⟩
 ·have hge:i=N:=qw4
  have hw:jU0 but s:=by rw[hge,hN] at g2;exact g2
  revert hK K;refine qW 0 ?_;intro K hK;exact hR _ _ ⟨_,⟨fun _=>hw,fun _=>rfl⟩,rfl,rfl⟩
theorem FC0:HC0 122 tY0:=by
 intro s hs;have h1:=KV0 s 39 39 rfl hs;have hq:tY0 s↔jU0 39 s/\s.size<=200:=Iff.rfl;generalize tY0 s=pp at *;generalize jU0 39 s=pl at *;refine qF tyK Tryz.func122 10 [.tmp 2] ?_;unhygienic intros
 obtain ⟨N,hN⟩:=qX s.size;have hsz:size s=N:=by cases hO;exact hN.symm
 rw[<-hN] at hq;revert hK K;refine qW 0 ?_;intro K hK;simp only[hsz];refine GFork.mk (fun h5=>?_) (fun h5=>?_)<;>cbv
 ·have hle:N<=200:=qw5
  revert hK K;refine qW 0 ?_;intro K hK;refine qG ?_;refine qD hP h1 ?_;rintro res bx ⟨b,hb,rfl,rfl⟩;refine qC ?_;revert hK K;refine qW 0 ?_;intro K hK;exact hR _ _ ⟨b,by rw[hb,hq];exact ⟨fun h=>⟨h,hle⟩,fun h=>h.1⟩,rfl,rfl⟩
 ·have hle:200 < N:=qw5
  revert hK K;refine qW 0 ?_;intro K hK;exact hR _ _ ⟨_,⟨fun h=>by simp at h,fun h=>by have:=(hq.1 h).2;omega⟩,rfl,rfl⟩
def RexP (s:ByteArray):Prop:=(∃y:Rx,y.good/\ofL y.txt=s)/\s.size<=200
abbrev RexQ (f:FuncId):Prop:=∀s:ByteArray,s.size<=1099511627776->ACl Tryz.prog f [litS s] [] (fun res bx=>∃b:Bool,(b=true↔RexP s)/\res=litB b/\bx=[])
theorem NT0 {f:FuncId} (h:ParseOk f) (s:ByteArray) (hs:s.size<=1099511627776):ACl Tryz.prog f [litS s] [] (fun res bx=>∃(k:Int) (sx:ByteArray) (xl:List (List T)) (ok:Bool),(ok=true↔∃y:Rx,y.good/\ofL y.txt=s)/\res=⟨.tup [(true,3),(false,1)],[.lit (.int .i64 k),.lit (.string sx),.ro true xl,.lit (.bool ok)]⟩/\bx=[]):=by
 refine acI (h s hs) ?_;rintro res bx ⟨x,ok,h1,_,rfl,h3⟩;obtain ⟨k,sx,l⟩:=x;refine ⟨k,sx,l.map Rx.t,ok,?_,by rw[Rx.t_mk];rfl,h3⟩
 rcases h1 with ⟨rfl,g1,g2⟩ | ⟨rfl,_,g⟩
 ·exact ⟨fun _=>⟨_,g1,g2⟩,fun _=>rfl⟩
 ·exact ⟨fun h=>by simp at h,fun ⟨y,h1,h2⟩=>absurd h2 (g y h1)⟩
theorem yY1:RexQ 116:=by
 intro s hs;have h1:=NT0 jG0 s hs;have hq:RexP s↔(∃y:Rx,y.good/\ofL y.txt=s)/\s.size<=200:=Iff.rfl;generalize RexP s=pp at *;generalize (∃y:Rx,y.good/\ofL y.txt=s)=pl at *;refine qF tyK Tryz.func116 16 [.tmp 2] ?_;unhygienic intros
 obtain ⟨N,hN⟩:=qX s.size;have hsz:size s=N:=by cases hO;exact hN.symm
 rw[<-hN] at hq;revert hK K;refine qW 0 ?_;intro K hK;refine qG ?_;refine qD hP h1 ?_;rintro res bx ⟨k,sx,xl,b,hb,rfl,rfl⟩;refine qC ?_;cases b
 ·revert hK K;refine qW 0 ?_;intro K hK
  exact hR _ _ ⟨_,⟨fun h=>by simp at h,fun h=>hb.2 (hq.1 h).1⟩,rfl,rfl⟩
 ·revert hK K;refine qW 0 ?_;intro K hK
  try simp only[hsz]
  refine hR _ _ ⟨_,?_,rfl,rfl⟩;rw[hq];clear hM hP hC hR;cases hO;simp only[Ops.std,sCm,decide_eq_true_eq,Int.ofNat_eq_natCast];exact ⟨fun h=>⟨hb.1 rfl,by omega⟩,fun h=>by have:=h.2;omega⟩
theorem QP0:RexQ 124:=by
 intro s hs;have h1:=NT0 jH0 s hs;have hq:RexP s↔(∃y:Rx,y.good/\ofL y.txt=s)/\s.size<=200:=Iff.rfl;generalize RexP s=pp at *;generalize (∃y:Rx,y.good/\ofL y.txt=s)=pl at *;refine qF tyK Tryz.func124 16 [.tmp 2] ?_;unhygienic intros
 obtain ⟨N,hN⟩:=qX s.size;have hsz:size s=N:=by cases hO;exact hN.symm
 rw[<-hN] at hq;revert hK K;refine qW 0 ?_;intro K hK;refine qG ?_;refine qD hP h1 ?_;rintro res bx ⟨k,sx,xl,b,hb,rfl,rfl⟩;refine qC ?_;cases b
 ·revert hK K;refine qW 0 ?_;intro K hK
  exact hR _ _ ⟨_,⟨fun h=>by simp at h,fun h=>hb.2 (hq.1 h).1⟩,rfl,rfl⟩
 ·revert hK K;refine qW 0 ?_;intro K hK
  try simp only[hsz]
  refine hR _ _ ⟨_,?_,rfl,rfl⟩;rw[hq];clear hM hP hC hR;cases hO;simp only[Ops.std,sCm,decide_eq_true_eq,Int.ofNat_eq_natCast];exact ⟨fun h=>⟨hb.1 rfl,by omega⟩,fun h=>by have:=h.2;omega⟩
end Go.Gv
