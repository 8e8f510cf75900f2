/- Part B1 of the proof: contracts of functions of the program, each walked once. -/
import Derived.Test.YtfobhlmjcnkpiaaGreatDoorD7
import Derived.Test.YtfobhlmjcnkpiaaGreatDoorD9
import Derived.Shelf.Small.Strs
set_option linter.all false
namespace Go.Gv
open Go.Av Go.Proofs Go.Shelf Go.RowKit
set_option maxRecDepth 10000
abbrev litU (b:Int):AV:=⟨.one,[.lit (.int .u8 b)]⟩
theorem jA0 {E:Env} {v:Value} {avs:List AV} {us:List Value} {o:List Nat} (h:RpS E (⟨.one,[.lit v]⟩::avs) us o):∃us',us=v::us'/\RpS E avs us' o:=by
 obtain ⟨v1,us1,o1,o2,rfl,rfl,⟨g1,g2⟩,h1⟩:=h;rw[yQ0 g1] at g2;obtain ⟨u,us,p1,p2,k1,rfl,⟨rfl,_,rfl⟩,⟨_,rfl⟩⟩:=g2;simp at k1;exact ⟨us1,by rw[k1.1],by simpa using h1⟩
theorem zC1 {P:Program} {f:FuncId} {s:ByteArray} {b:Int} {v:Value} (hv:isLit v=true) (h:∀w,Calls P f #[.string s,.int .u8 b] w fun e w'=>e=.returned v/\w'=w) :
  ACl P f [litS s,litU b] [] (fun res bx=>res=⟨.one,[.lit v]⟩/\bx=[]):=by
 intro w vals S L bl O1 O2 h1 h2 hn hsl hst hgd;obtain ⟨us1,e1,h1⟩:=jA0 h1;obtain ⟨us2,e2,h1⟩:=jA0 h1;obtain ⟨e3,rfl⟩:us2=[]/\O1=[]:=h1;obtain ⟨rfl,rfl⟩:bl=[]/\O2=[]:=h2;subst e3;subst e2;have hv':vals=#[.string s,.int .u8 b]:=by apply Array.ext';simpa using e1
 subst hv';refine (h w).mono ?_;rintro e w' ⟨rfl,rfl⟩;refine ⟨v,rfl,_,_,S,[],[],[],⟨rfl,rfl⟩,⟨tQ0 hv,?_⟩,⟨rfl,rfl⟩,by simp,fun b hb=>⟨(hst b (hsl b hb)).1,by simp⟩,fun b hb=>hb,fun b hb=>.inl hb,Keeps.refl _ _,by simp,List.prefix_refl _⟩
 rw[yQ0 (tQ0 hv)];exact ⟨v,[],[],[],rfl,rfl,⟨rfl,hv,rfl⟩,rfl,rfl⟩
def ibRen:Go.Shelf.Ren:=⟨fun n=>match n with | 137=>229 | 217=>241 | 266=>246 | n=>n,fun n=>n,fun n=>n⟩
set_option maxRecDepth 100000 in
theorem mA1:Lays.n137 Tryz.prog ibRen:=by
 constructor
 all_goals first | rfl|(intro w;rfl)
theorem hZ0 (s:ByteArray) (b:Int):ACl Tryz.prog 229 [litS s,litU b] [] (fun res bx=>∃r,r=Lib.indexByte (toL s) b.toNat.toUInt8/\res=litI r/\bx=[]):=by
 refine acI (zC1 (v:=.int .i64 (Lib.indexByte (toL s) b.toNat.toUInt8)) rfl fun w=>Any.strings_IndexByte mA1 s b w) ?_;rintro res bx ⟨rfl,rfl⟩;exact ⟨_,rfl,rfl,rfl⟩
abbrev InOk (f:FuncId):Prop:=∀n lo hi:Int,ACl Tryz.prog f [litI n,litI lo,litI hi] [] (fun res bx=>∃b:Bool,(b=true↔lo<=n/\n<=hi)/\res=litB b/\bx=[])
theorem uZ0:InOk 130:=by
 intro n lo hi;refine qF tyK Tryz.func130 15 [.tmp 6] ?_;unhygienic intros
 refine qO ?_
 repeat' first|(revert hK K;refine qV 0 ?_;intro K hK)|(refine qK (fun _=>?_) fun _=>?_)|fail
 all_goals (refine hR _ _ ⟨_,?_,rfl,rfl⟩;clear hM hP hC hR;cases hO;simp only[Ops.std,sCm] at *;simp_all;try omega)
theorem uN0:InOk 103:=by
 intro n lo hi;refine qF tyK Tryz.func103 15 [.tmp 6] ?_;unhygienic intros
 refine qO ?_
 repeat' first|(revert hK K;refine qV 0 ?_;intro K hK)|(refine qK (fun _=>?_) fun _=>?_)|fail
 all_goals (refine hR _ _ ⟨_,?_,rfl,rfl⟩;clear hM hP hC hR;cases hO;simp only[Ops.std,sCm] at *;simp_all;try omega)
abbrev dU0 (f:FuncId) (p:UInt8->Bool):Prop:=∀(c:UInt8) (b:Int),b=Int.ofNat c.toNat->ACl Tryz.prog f [litU b] [] (fun res bx=>∃r,r=p c/\res=litB r/\bx=[])
def tR0 (c:UInt8):Bool:=48<=c && c<=57
theorem KY0 (a c:UInt8):a<=c↔a.toNat<=c.toNat:=UInt8.le_iff_toNat_le
theorem uA0 (a c:UInt8):a=c↔a.toNat=c.toNat:=UInt8.toNat_inj.symm
theorem WQ0:dU0 149 tR0:=by
 intro c b hb;refine qF tyK Tryz.func149 6 [.tmp 2] ?_;unhygienic intros
 have e0:wrap .i64 b=b:=by have:=c.toNat_lt;cases hO;exact zW0 (by simp only[Int.ofNat_eq_natCast] at hb;omega)
 revert hK K;refine qW 0 ?_;intro K hK;simp only[e0];refine qG ?_;refine qD hP (uZ0 b 48 57) ?_;rintro res bx ⟨r,hr,rfl,rfl⟩;refine qC ?_;revert hK K;refine qW 0 ?_;intro K hK;refine hR _ _ ⟨_,?_,rfl,rfl⟩;rw[Bool.eq_iff_iff,hr];simp only[tR0,Bool.and_eq_true,decide_eq_true_eq,KY0,Int.ofNat_eq_natCast] at *;simp only[show (48:UInt8).toNat=48 from rfl,show (57:UInt8).toNat=57 from rfl]
 omega
theorem WW0:dU0 152 tR0:=by
 intro c b hb;refine qF tyK Tryz.func152 9 [.tmp 2] ?_;unhygienic intros
 refine qO ?_
 repeat' first|(revert hK K;refine qV 0 ?_;intro K hK)|(refine qK (fun _=>?_) fun _=>?_)|fail
 all_goals (refine hR _ _ ⟨_,?_,rfl,rfl⟩;clear hM hP hC hR;cases hO;simp only[Ops.std,sCm,tR0,KY0,show (48:UInt8).toNat=48 from rfl,show (57:UInt8).toNat=57 from rfl,Int.ofNat_eq_natCast] at *;rw[Bool.eq_iff_iff];simp_all;try omega)
theorem dF0 {c:UInt8} {b:Int} (hb:b=Int.ofNat c.toNat):tR0 c=true↔48<=b/\b<=57:=by
 simp only[tR0,Bool.and_eq_true,decide_eq_true_eq,KY0,Int.ofNat_eq_natCast] at *;simp only[show (48:UInt8).toNat=48 from rfl,show (57:UInt8).toNat=57 from rfl]
 omega
theorem YU0 {c:UInt8} {b:Int} (hb:b=Int.ofNat c.toNat):wE0 c=true↔(97<=b/\b<=122)\/(65<=b/\b<=90)\/(48<=b/\b<=57)\/b=32\/b=95\/b=45\/b=44\/b=58:=by
 simp only[wE0,Bool.or_eq_true,Bool.and_eq_true,decide_eq_true_eq,beq_iff_eq,KY0,uA0,Int.ofNat_eq_natCast] at *;simp only[show (48:UInt8).toNat=48 from rfl,show (57:UInt8).toNat=57 from rfl,show (97:UInt8).toNat=97 from rfl,show (122:UInt8).toNat=122 from rfl,show (65:UInt8).toNat=65 from rfl,show (90:UInt8).toNat=90 from rfl,
  show (32:UInt8).toNat=32 from rfl,show (95:UInt8).toNat=95 from rfl,show (45:UInt8).toNat=45 from rfl,show (44:UInt8).toNat=44 from rfl,show (58:UInt8).toNat=58 from rfl]
 omega
theorem HV0 {c:UInt8} {b:Int} (hb:b=Int.ofNat c.toNat):0<=Lib.indexByte [32,95,45,44,58] b.toNat.toUInt8↔b=32\/b=95\/b=45\/b=44\/b=58:=by
 have e:b.toNat.toUInt8=c:=by rw[hb];simp
 rw[e];have h:∀c:UInt8,0<=Lib.indexByte [32,95,45,44,58] c↔c=32\/c=95\/c=45\/c=44\/c=58:=by
  intro c;simp only[Lib.indexByte,beq_iff_eq]
  by_cases h1:32=c
  ·subst h1;decide
  by_cases h2:95=c
  ·subst h2;decide
  by_cases h3:45=c
  ·subst h3;decide
  by_cases h4:44=c
  ·subst h4;decide
  by_cases h5:58=c
  ·subst h5;decide
  simp only[h1,h2,h3,h4,h5,Ne.symm h1,Ne.symm h2,Ne.symm h3,Ne.symm h4,Ne.symm h5,if_false];simp
 rw[h];simp only[uA0,Int.ofNat_eq_natCast] at *;simp only[show (32:UInt8).toNat=32 from rfl,show (95:UInt8).toNat=95 from rfl,show (45:UInt8).toNat=45 from rfl,show (44:UInt8).toNat=44 from rfl,show (58:UInt8).toNat=58 from rfl]
 omega
theorem ZG0:dU0 239 wE0:=by
 intro c b hb;have hs:=YU0 hb;have hd:=dF0 hb;refine qF tyK Tryz.func239 35 [.tmp 2] ?_;unhygienic intros
 have e0:wrap .i64 b=b:=by have:=c.toNat_lt;cases hO;exact zW0 (by simp only[Int.ofNat_eq_natCast] at hb;omega)
 refine qO ?_
 repeat' first|(revert hK K;refine qV 0 ?_;intro K hK)|(refine qK (fun _=>?_) fun _=>?_)|(refine qG ?_;refine qD hP (uZ0 _ _ _) ?_;rintro res bx ⟨r,hr,rfl,rfl⟩;refine qC ?_)|(refine qG ?_;refine qD hP (WQ0 c b hb) ?_;rintro res bx ⟨r,hr,rfl,rfl⟩;refine qC ?_)|fail
 all_goals (refine hR _ _ ⟨_,?_,rfl,rfl⟩;clear hM hP hC hR hseg hb;cases hO;simp only[Ops.std,sCm] at *;rw[Bool.eq_iff_iff,hs];clear hs;simp_all;try omega)
theorem rP1 {c:UInt8} {b:Int} (hb:b=Int.ofNat c.toNat):ACl Tryz.prog 229 [litS ⟨#[32,95,45,44,58]⟩,litU b] [] (fun res bx=>∃r,(0<=r↔b=32\/b=95\/b=45\/b=44\/b=58)/\res=litI r/\bx=[]):=
 acI (hZ0 _ b) fun res bx ⟨r,hr,h1,h2⟩=>⟨r,by rw[hr];exact HV0 hb,h1,h2⟩
theorem hM0:dU0 208 wE0:=by
 intro c b hb;have hs:=YU0 hb;have hd:=dF0 hb;refine qF tyK Tryz.func208 26 [.tmp 2] ?_;unhygienic intros
 refine qO ?_
 repeat' first|(revert hK K;refine qV 0 ?_;intro K hK)|(refine qK (fun _=>?_) fun _=>?_)|(refine qG ?_;refine qD hP (WW0 c b hb) ?_;rintro res bx ⟨r,hr,rfl,rfl⟩;refine qC ?_)|(refine qG ?_;refine qD hP (rP1 hb) ?_;rintro res bx ⟨r,hr,rfl,rfl⟩;refine qC ?_)|fail
 all_goals (refine hR _ _ ⟨_,?_,rfl,rfl⟩;clear hM hP hC hR hseg hb;cases hO;simp only[Ops.std,sCm] at *;rw[Bool.eq_iff_iff,hs];clear hs;simp_all;try omega)
theorem hR0 (k:Int):ACl Tryz.prog 238 [litI k] [] (fun res bx=>∃r,r=tP0 k/\res=litB r/\bx=[]):=by
 refine qF tyK Tryz.func238 13 [.tmp 2] ?_;unhygienic intros
 refine qO ?_
 repeat' first|(revert hK K;refine qV 0 ?_;intro K hK)|(refine qK (fun _=>?_) fun _=>?_)|fail
 all_goals (refine hR _ _ ⟨_,?_,rfl,rfl⟩;clear hM hP hC hR hseg;cases hO;simp only[Ops.std,sCm,tP0] at *;rw[Bool.eq_iff_iff];simp_all;try omega)
theorem wD1 (x:Rx):ACl Tryz.prog 212 [agT x.t] [] (fun res bx=>∃r,r=tP0 x.k/\res=litB r/\bx=[]):=by
 obtain ⟨k,s,l⟩:=x;simp only[agT,Rx.t_mk,List.map,tA,Rx.k];generalize l.map Rx.t=xl;refine qF tyK Tryz.func212 16 [.tmp 2] ?_;unhygienic intros
 refine qO ?_
 repeat' first|(revert hK K;refine qV 0 ?_;intro K hK)|(refine qK (fun _=>?_) fun _=>?_)|fail
 all_goals (refine hR _ _ ⟨_,?_,rfl,rfl⟩;clear hM hP hC hR hseg;cases hO;simp only[Ops.std,sCm,tP0] at *;rw[Bool.eq_iff_iff];simp_all;try omega)
def okTo (l:Bs) (i:Nat):Prop:=∀j c,j < i->l[j]?=some c->wE0 c=true/\∀d,0 < j->l[j - 1]?=some d->d < c
theorem jR0 (l:Bs):okTo l 0:=fun j c h=>by omega
theorem yT1 (l:Bs):okTo l l.length↔l.all wE0=true/\NQ0 l=true:=by
 induction l with
 | nil=>simp[jR0,NQ0]
 | cons a l ih=>
  have key:okTo (a::l) (a::l).length↔wE0 a=true/\(∀b,l[0]?=some b->a < b)/\okTo l l.length:=by
   constructor
   ·intro h
    refine ⟨(h 0 a (by simp) rfl).1,fun b hb=>(h 1 b (by cases l<;>simp at hb |-) (by simpa using hb)).2 a (by omega) rfl,fun j c hj hc=>?_⟩
    have:=h (j+1) c (by simpa using hj) (by simpa using hc)
    refine ⟨this.1,fun d hd hl=>this.2 d (by omega) ?_⟩
    obtain ⟨j,rfl⟩:∃i,j=i+1:=⟨j - 1,by omega⟩
    simpa using hl
   ·rintro ⟨h1,h2,h3⟩ j c hj hc
    cases j with
    | zero=>simp at hc;subst hc;exact ⟨h1,fun d hd=>by omega⟩
    | succ j=>
     have h4:=h3 j c (by simpa using hj) (by simpa using hc)
     refine ⟨h4.1,fun d _ hl=>?_⟩;cases j with
     | zero=>simp at hl;subst hl;exact h2 c (by simpa using hc)
     | succ j=>exact h4.2 d (by omega) (by simpa using hl)
  rw[key,ih];cases l with
  | nil=>simp[NQ0]
  | cons b l=>simp only[List.all_cons,NQ0,Bool.and_eq_true,decide_eq_true_eq];simp;constructor<;>(intro h;simp_all)
theorem RK0 (s:ByteArray):setB (toL s)=true↔okTo (toL s) s.size/\1<=s.size/\s.size<=10:=by
 rw[<-zJ0,yT1];simp only[setB,Bool.and_eq_true,decide_eq_true_eq];simp only[and_assoc]
theorem qY0 {l:Bs} {i:Nat} {c:UInt8} (h:okTo l i) (hc:l[i]?=some c) (hs:wE0 c=true) (hd:∀d,0 < i->l[i - 1]?=some d->d < c):okTo l (i+1):=by
 intro j c' hj hc'
 by_cases hji:j=i
 ·subst hji
  rw[hc] at hc';obtain rfl:=Option.some.inj hc';exact ⟨hs,hd⟩
 ·exact h j c' (by omega) hc'
theorem byte_at {O:Ops} (hO:O=Ops.std) {s:ByteArray} {i:Nat} (h:i < s.size):∃c,(toL s)[i]?=some c/\O.byte s (O.nat (Int.ofNat i))=Int.ofNat c.toNat:=by
 subst hO;have h':i < (toL s).length:=by rw[zJ0];exact h
 refine ⟨(toL s)[i],List.getElem?_eq_getElem h',?_⟩
 show ((vB0 s i).toNat:Int)=_
 have:vB0 s i=(toL s)[i]:=by
  unfold vB0 toL;rw[getElem?_pos s i h];simp
  rfl
 rw[this];rfl
def vW1 (s:ByteArray) (N:Nat) (σ:AS):Prop:=
 ∃(i:Nat),σ=⟨vag 32 [(0,litS s),(3,litI (Int.ofNat i))],[],1⟩/\i<=s.size/\okTo (toL s) i/\N=s.size - i
abbrev kB1 (f:FuncId):Prop:=∀s:ByteArray,s.size<=4611686018427387904->ACl Tryz.prog f [litS s] [] (fun res bx=>∃b,b=setB (toL s)/\res=litB b/\bx=[])
theorem rW1:kB1 240:=by
 intro s hs;have hset:=RK0 s;refine qF tyK Tryz.func240 32 [.tmp 2] ?_;unhygienic intros
 obtain ⟨N,hN⟩:=qX s.size;have hsz:size s=N:=by cases hO;exact hN.symm
 rw[<-hN] at hs;have hnt:bnot true=false:=by cases hO;rfl
 have hnf:bnot false=true:=by cases hO;rfl
 revert hK K;refine qW 0 ?_;intro K hK;refine qL 0 [0,3] kk0 (vW1 s) ?_ ?_
 ·cbv
  exact ⟨_,0,by cbv,by simp,jR0 _,rfl⟩
 rintro n σ ⟨i,rfl,g1,g2,rfl⟩;rw[<-hN] at g1 |-;revert hK K;refine qW 0 ?_;intro K hK;simp only[hsz];refine nC rfl (fun h4=>?_) (fun h4=>?_)
 ·have hlt:i < N:=qv4
  obtain ⟨c,hc,e1⟩:∃c,(toL s)[i]?=some c/\byte s (nat (Int.ofNat i))=Int.ofNat c.toNat:=byte_at hO (hN ▸ hlt);have e:bin .add .i64 (Int.ofNat i) 1=_:=iSc hO (by omega)
  have hidx:idx (Int.ofNat i) (size s):=hsz ▸ ixN hO hlt;obtain ⟨b,hb⟩:=qX (Int.ofNat c.toNat);rw[<-hb] at e1;have hcall:=ZG0 c b hb;revert hK K;refine qW 0 ?_;intro K hK
  try simp only[e1]
  refine ndC hidx (ndN ?_);revert hK K;refine qW 0 ?_;intro K hK;refine qG ?_;refine qD hP hcall ?_;rintro res bx ⟨r,hr,rfl,rfl⟩;refine qC ?_;cases r
  ·revert hK K;refine qW 0 ?_;intro K hK
   simp only[hnf];revert hK K;refine qW 0 ?_;intro K hK;refine hR _ _ ⟨_,?_,rfl,rfl⟩;rw[Bool.eq_iff_iff,hset];refine ⟨fun h=>by simp at h,fun h=>absurd ((h.1 i c (by omega) hc).1) (by rw[<-hr];simp)⟩
  ·revert hK K;refine qW 0 ?_;intro K hK
   simp only[hnt];revert hK K;refine qW 0 ?_;intro K hK;refine GFork.mk (fun h5=>?_) (fun h5=>?_)<;>cbv
   ·have hpos:0 < i:=qv5
    obtain ⟨p,hp⟩:=qX (i - 1);have e2:bin .sub .i64 (Int.ofNat i) 1=Int.ofNat p:=by cases hO;exact (zW0 (x:=(i:Int) - 1) (by omega)).trans (by simp only[Int.ofNat_eq_natCast];omega)
    obtain ⟨d,hd,e3⟩:∃c,(toL s)[p]?=some c/\byte s (nat (Int.ofNat p))=Int.ofNat c.toNat:=byte_at hO (by omega)
    have hidx2:idx (Int.ofNat p) (size s):=hsz ▸ ixN hO (by omega)
    have hcd:cmp .geq (Int.ofNat d.toNat) b=true↔¬d < c:=by
     cases hO;simp only[Ops.std,sCm,decide_eq_true_eq,hb,UInt8.lt_iff_toNat_lt,Int.ofNat_eq_natCast];omega
    generalize Int.ofNat d.toNat=db at e3 hcd
    try simp only[e2,e1,e3]
    refine ndC hidx2 (ndC hidx (ndN ?_));revert hK K;refine qW 0 ?_;intro K hK;refine nC rfl (fun h6=>?_) (fun h6=>?_)
    ·revert hK K;refine qW 0 ?_;intro K hK
     refine hR _ _ ⟨_,?_,rfl,rfl⟩;rw[Bool.eq_iff_iff,hset];refine ⟨fun h=>by simp at h,fun h=>absurd ((h.1 i c (by omega) hc).2 d hpos (by rw[<-hp];exact hd)) (hcd.1 h6)⟩
    ·revert hK K;refine qW 0 ?_;intro K hK
     rw[e];refine ⟨N - (i+1),by omega,i+1,by cbv,by omega,qY0 g2 hc hr.symm fun d' _ hd'=>?_,by rw[hN]⟩
     rw[<-hp,hd] at hd';obtain rfl:=Option.some.inj hd';exact Classical.byContradiction fun hh=>by rw[hcd.2 hh] at h6;simp at h6
   ·have hpos:i=0:=qw5
    revert hK K;refine qW 0 ?_;intro K hK;rw[e];exact ⟨N - (i+1),by omega,i+1,by cbv,by omega,qY0 g2 hc hr.symm fun d' h0 _=>by omega,by rw[hN]⟩
 ·have hge:i=N:=qw4
  subst hge;revert hK K;refine qW 0 ?_;intro K hK;simp only[hsz];refine qG ?_;refine qD hP (uZ0 (Int.ofNat i) 1 10) ?_;rintro res bx ⟨r,hr,rfl,rfl⟩;refine qC ?_;revert hK K;refine qW 0 ?_;intro K hK;refine hR _ _ ⟨_,?_,rfl,rfl⟩;rw[Bool.eq_iff_iff,hset,hr,<-hN];simp only[Int.ofNat_eq_natCast];exact ⟨fun h=>⟨g2,by omega,by omega⟩,fun h=>by omega⟩
theorem rM1:kB1 209:=by
 intro s hs;have hset:=RK0 s;refine qF tyK Tryz.func209 32 [.tmp 2] ?_;unhygienic intros
 obtain ⟨N,hN⟩:=qX s.size;have hsz:size s=N:=by cases hO;exact hN.symm
 rw[<-hN] at hs;have hnt:bnot true=false:=by cases hO;rfl
 have hnf:bnot false=true:=by cases hO;rfl
 revert hK K;refine qW 0 ?_;intro K hK;refine qL 0 [0,3] kk0 (vW1 s) ?_ ?_
 ·cbv
  exact ⟨_,0,by cbv,by simp,jR0 _,rfl⟩
 rintro n σ ⟨i,rfl,g1,g2,rfl⟩;rw[<-hN] at g1 |-;revert hK K;refine qW 0 ?_;intro K hK;simp only[hsz];refine nC rfl (fun h4=>?_) (fun h4=>?_)
 ·have hlt:i < N:=qv4
  obtain ⟨c,hc,e1⟩:∃c,(toL s)[i]?=some c/\byte s (nat (Int.ofNat i))=Int.ofNat c.toNat:=byte_at hO (hN ▸ hlt);have e:bin .add .i64 (Int.ofNat i) 1=_:=iSc hO (by omega)
  have hidx:idx (Int.ofNat i) (size s):=hsz ▸ ixN hO hlt;obtain ⟨b,hb⟩:=qX (Int.ofNat c.toNat);rw[<-hb] at e1;have hcall:=hM0 c b hb;revert hK K;refine qW 0 ?_;intro K hK
  try simp only[e1]
  refine ndC hidx (ndN ?_);revert hK K;refine qW 0 ?_;intro K hK;refine qG ?_;refine qD hP hcall ?_;rintro res bx ⟨r,hr,rfl,rfl⟩;refine qC ?_;cases r
  ·revert hK K;refine qW 0 ?_;intro K hK
   simp only[hnf];revert hK K;refine qW 0 ?_;intro K hK;refine hR _ _ ⟨_,?_,rfl,rfl⟩;rw[Bool.eq_iff_iff,hset];refine ⟨fun h=>by simp at h,fun h=>absurd ((h.1 i c (by omega) hc).1) (by rw[<-hr];simp)⟩
  ·revert hK K;refine qW 0 ?_;intro K hK
   simp only[hnt];revert hK K;refine qW 0 ?_;intro K hK;refine GFork.mk (fun h5=>?_) (fun h5=>?_)<;>cbv
   ·have hpos:0 < i:=qv5
    obtain ⟨p,hp⟩:=qX (i - 1);have e2:bin .sub .i64 (Int.ofNat i) 1=Int.ofNat p:=by cases hO;exact (zW0 (x:=(i:Int) - 1) (by omega)).trans (by simp only[Int.ofNat_eq_natCast];omega)
    obtain ⟨d,hd,e3⟩:∃c,(toL s)[p]?=some c/\byte s (nat (Int.ofNat p))=Int.ofNat c.toNat:=byte_at hO (by omega)
    have hidx2:idx (Int.ofNat p) (size s):=hsz ▸ ixN hO (by omega)
    have hcd:cmp .geq (Int.ofNat d.toNat) b=true↔¬d < c:=by
     cases hO;simp only[Ops.std,sCm,decide_eq_true_eq,hb,UInt8.lt_iff_toNat_lt,Int.ofNat_eq_natCast];omega
    generalize Int.ofNat d.toNat=db at e3 hcd
    try simp only[e2,e1,e3]
    refine ndC hidx2 (ndC hidx (ndN ?_));revert hK K;refine qW 0 ?_;intro K hK;refine nC rfl (fun h6=>?_) (fun h6=>?_)
    ·revert hK K;refine qW 0 ?_;intro K hK
     refine hR _ _ ⟨_,?_,rfl,rfl⟩;rw[Bool.eq_iff_iff,hset];refine ⟨fun h=>by simp at h,fun h=>absurd ((h.1 i c (by omega) hc).2 d hpos (by rw[<-hp];exact hd)) (hcd.1 h6)⟩
    ·revert hK K;refine qW 0 ?_;intro K hK
     rw[e];refine ⟨N - (i+1),by omega,i+1,by cbv,by omega,qY0 g2 hc hr.symm fun d' _ hd'=>?_,by rw[hN]⟩
     rw[<-hp,hd] at hd';obtain rfl:=Option.some.inj hd';exact Classical.byContradiction fun hh=>by rw[hcd.2 hh] at h6;simp at h6
   ·have hpos:i=0:=qw5
    revert hK K;refine qW 0 ?_;intro K hK;rw[e];exact ⟨N - (i+1),by omega,i+1,by cbv,by omega,qY0 g2 hc hr.symm fun d' h0 _=>by omega,by rw[hN]⟩
 ·have hge:i=N:=qw4
  subst hge;revert hK K;refine qW 0 ?_;intro K hK;simp only[hsz];refine qG ?_;refine qD hP (uN0 (Int.ofNat i) 1 10) ?_;rintro res bx ⟨r,hr,rfl,rfl⟩;refine qC ?_;revert hK K;refine qW 0 ?_;intro K hK;refine hR _ _ ⟨_,?_,rfl,rfl⟩;rw[Bool.eq_iff_iff,hset,hr,<-hN];simp only[Int.ofNat_eq_natCast];exact ⟨fun h=>⟨g2,by omega,by omega⟩,fun h=>by omega⟩
abbrev rdS (s:ByteArray) (i:Nat) (b:Bool) (d:Int):Option (List A):=some [.lit (.string s),.lit (.int .i64 (Int.ofNat i)),.lit (.bool b),.lit (.int .i64 d)]
theorem hT0 (s:ByteArray) (a d:Int) (b:Bool):ACl Tryz.prog 244 [⟨.one,[.ptr 0 0]⟩] [some [.lit (.string s),.lit (.int .i64 a),.lit (.bool b),.lit (.int .i64 d)]]
  (fun res bx=>res=⟨.agg,[.lit (.int .i64 0),.lit (.string ⟨⟨[]⟩⟩),.nil]⟩/\bx=[some [.lit (.string s),.lit (.int .i64 a),.lit (.bool true),.lit (.int .i64 d)]]):=by
 refine qF tyK Tryz.func244 7 [.cell 2 138] ?_;unhygienic intros
 revert hK K;refine qW 1 ?_;intro K hK;exact hR _ _ ⟨rfl,rfl⟩
theorem mK0 (s:ByteArray) (hs:s.size<=4611686018427387904) (i:Nat) (hi:i<=s.size) (bad:Bool) (d b0:Int):ACl Tryz.prog 204 [⟨.one,[.ptr 0 0]⟩,litU b0] [rdS s i bad d]
  (fun res bx=>∃(r:Bool) (j:Nat),(r=true↔bad=false/\∃c,(toL s)[i]?=some c/\Int.ofNat c.toNat=b0)/\(r=true->j=i+1)/\(r=false->j=i)/\res=litB r/\bx=[rdS s j bad d]):=by
 refine qF tyK Tryz.func204 41 [.tmp 4] ?_;unhygienic intros
 obtain ⟨N,hN⟩:=qX s.size;have hsz:size s=N:=by cases hO;exact hN.symm
 have e:bin .add .i64 (Int.ofNat i) 1=_:=iSc hO (by omega)
 rw[<-hN] at hi hs;cases bad
 ·revert hK K;refine qW 1 ?_;intro K hK
  simp only[hsz];refine GFork.mk (fun h1=>?_) (fun h1=>?_)<;>cbv
  ·have hge:N<=i:=qw1
   revert hK K;refine qW 1 ?_;intro K hK;refine hR _ _ ⟨false,i,⟨fun h=>by simp at h,fun ⟨_,c,hc,_⟩=>?_⟩,fun h=>by simp at h,fun _=>rfl,rfl,rfl⟩
   have:=(List.getElem?_eq_some_iff.1 hc).1;rw[zJ0] at this;omega
  ·have hlt:i < N:=qw1
   obtain ⟨c,hc,e1⟩:∃c,(toL s)[i]?=some c/\byte s (nat (Int.ofNat i))=Int.ofNat c.toNat:=byte_at hO (hN ▸ hlt);have hidx:idx (Int.ofNat i) (size s):=hsz ▸ ixN hO hlt;have hiff:(∃c',(toL s)[i]?=some c'/\Int.ofNat c'.toNat=b0)↔Int.ofNat c.toNat=b0:=by
    rw[hc];exact ⟨fun ⟨c',h,h2⟩=>by obtain rfl:=Option.some.inj h;exact h2,fun h=>⟨c,rfl,h⟩⟩
   rw[hiff] at hR;generalize Int.ofNat c.toNat=ci at *;revert hK K;refine qW 1 ?_;intro K hK;simp only[e1];refine ndC hidx (ndN ?_);revert hK K;refine qW 1 ?_;intro K hK;refine nC rfl (fun h2=>?_) (fun h2=>?_)
   ·have hne:ci≠b0:=qv2
    revert hK K;refine qW 1 ?_;intro K hK;exact hR _ _ ⟨false,i,⟨fun h=>by simp at h,fun h=>absurd h.2 hne⟩,fun h=>by simp at h,fun _=>rfl,rfl,rfl⟩
   ·have hne:ci=b0:=qv2
    revert hK K;refine qW 1 ?_;intro K hK;simp only[e];revert hK K;refine qW 1 ?_;intro K hK;exact hR _ _ ⟨true,i+1,⟨fun _=>⟨rfl,hne⟩,fun _=>rfl⟩,fun _=>rfl,fun h=>by simp at h,rfl,rfl⟩
 ·revert hK K;refine qW 1 ?_;intro K hK
  exact hR _ _ ⟨false,i,⟨fun h=>by simp at h,fun h=>by simp at h⟩,fun h=>by simp at h,fun _=>rfl,rfl,rfl⟩
abbrev rdI (s:ByteArray) (i:Nat) (d:Int) (b:Bool):Option (List A):=some [.lit (.string s),.lit (.int .i64 (Int.ofNat i)),.lit (.int .i64 d),.lit (.bool b)]
def zN0 (s:ByteArray) (i:Nat):UInt8:=((toL s)[i]?).getD 0
theorem hL0 (s:ByteArray) (i:Nat) (d:Int) (bad:Bool):ACl Tryz.prog 180 [⟨.one,[.ptr 0 0]⟩] [rdI s i d bad]
  (fun res bx=>∃b,b=Int.ofNat (zN0 s i).toNat/\res=litU b/\bx=[rdI s i d bad]):=by
 refine qF tyK Tryz.func180 22 [.tmp 2] ?_;unhygienic intros
 obtain ⟨N,hN⟩:=qX s.size;have hsz:size s=N:=by cases hO;exact hN.symm
 revert hK K;refine qW 1 ?_;intro K hK;simp only[hsz];refine nC rfl (fun h1=>?_) (fun h1=>?_)
 ·have hge:N<=i:=qw1
  have h0:zN0 s i=0:=by unfold zN0;rw[List.getElem?_eq_none (by rw[zJ0];omega)];rfl
  revert hK K;refine qW 1 ?_;intro K hK;exact hR _ _ ⟨0,by rw[h0];rfl,rfl,rfl⟩
 ·have hlt:i < N:=qw1
  obtain ⟨c,hc,e1⟩:∃c,(toL s)[i]?=some c/\byte s (nat (Int.ofNat i))=Int.ofNat c.toNat:=byte_at hO (hN ▸ hlt);have hidx:idx (Int.ofNat i) (size s):=hsz ▸ ixN hO hlt;have h0:zN0 s i=c:=by unfold zN0;rw[hc];rfl
  rw[h0] at hR;generalize Int.ofNat c.toNat=ci at *;revert hK K;refine qW 1 ?_;intro K hK;simp only[e1];refine ndC hidx (ndN ?_);revert hK K;refine qW 1 ?_;intro K hK;exact hR _ _ ⟨_,rfl,rfl,rfl⟩
set_option maxHeartbeats 4000000
theorem XF0 {n d:Nat} {l:Bs} {y:Rx} {rest:Bs} (h:mItem n d l=some (y,rest)):∃n' x r,mAtom n' d l=some (x,r)/\
  ((r=42::rest/\y=.mk 6 e0 [x])\/(r=43::rest/\y=.mk 7 e0 [x])\/(r=63::rest/\y=.mk 8 e0 [x])\/(y=x/\rest=r/\∀c r',r=c::r'->c≠42/\c≠43/\c≠63)):=by
 cases n with
 | zero=>rw[mItem] at h;simp at h
 | succ n=>
  rw[mItem] at h;cases ha:mAtom n d l with
  | none=>rw[ha] at h;simp at h
  | some p=>
   obtain ⟨x,r⟩:=p;refine ⟨n,x,r,ha,?_⟩;rw[ha] at h;cases r with
   | nil=>
    simp only[Option.some.injEq,Prod.mk.injEq] at h;exact .inr (.inr (.inr ⟨h.1.symm,h.2.symm,fun c r' hc=>by simp at hc⟩))
   | cons c r=>
    simp only at h
    split at h
    ·rename_i hc;simp only[Option.some.injEq,Prod.mk.injEq] at h;exact .inl ⟨by rw[hc,h.2],h.1.symm⟩
    split at h
    ·rename_i hc;simp only[Option.some.injEq,Prod.mk.injEq] at h;exact .inr (.inl ⟨by rw[hc,h.2],h.1.symm⟩)
    split at h
    ·rename_i hc;simp only[Option.some.injEq,Prod.mk.injEq] at h;exact .inr (.inr (.inl ⟨by rw[hc,h.2],h.1.symm⟩))
    rename_i h1 h2 h3;simp only[Option.some.injEq,Prod.mk.injEq] at h;exact .inr (.inr (.inr ⟨h.1.symm,h.2.symm,fun c' r' hc=>by simp only[List.cons.injEq] at hc;rw[<-hc.1];exact ⟨h1,h2,h3⟩⟩))
abbrev ReadOk (f:FuncId) (M:Nat->Nat->Bs->Option (Rx×Bs)) (L:Nat):Prop:=∀(s:ByteArray) (i d:Nat),s.size<=1099511627776->i<=s.size->s.size - i<=L->d<=8->
 ACl Tryz.prog f [⟨.one,[.ptr 0 0]⟩] [rdS s i false (Int.ofNat d)] (fun res bx=>∃(x:Rx) (j:Nat) (bad:Bool) (d':Nat),x.Wf/\i<=j/\j<=s.size/\(d<=d'/\d'<=9)/\(bad=false->d'=d/\i < j)/\
  (∀n y rest,M n (8 - d) ((toL s).drop i)=some (y,rest)->x=y/\bad=false/\rest=(toL s).drop j)/\res=agT x.t/\bx=[rdS s j bad (Int.ofNat d')])
theorem ReadOk.opened {f:FuncId} {M:Nat->Nat->Bs->Option (Rx×Bs)} {L:Nat} (h:ReadOk f M L) (s:ByteArray) (i d:Nat) (h1:s.size<=1099511627776) (h2:i<=s.size) (h3:s.size - i<=L) (h4:d<=8) :
  ACl Tryz.prog f [⟨.one,[.ptr 0 0]⟩] [rdS s i false (Int.ofNat d)] (fun res bx=>∃(x:Rx) (k:Int) (sx:ByteArray) (xl:List (List T)) (j:Nat) (bad:Bool) (d':Nat),x.t=[.lit (.int .i64 k),.lit (.string sx),.sl xl]/\x.Wf/\i<=j/\j<=s.size/\(d<=d'/\d'<=9)/\
   (bad=false->d'=d/\i < j)/\(∀n y rest,M n (8 - d) ((toL s).drop i)=some (y,rest)->x=y/\bad=false/\rest=(toL s).drop j)/\res=⟨.agg,[.lit (.int .i64 k),.lit (.string sx),.ro true xl]⟩/\bx=[rdS s j bad (Int.ofNat d')]):=by
 refine acI (h s i d h1 h2 h3 h4) ?_;rintro res bx ⟨x,j,bad,d',q1,q2,q3,q4,q5,q6,rfl,rfl⟩;obtain ⟨k,sx,l⟩:=x;exact ⟨.mk k sx l,k,sx,l.map Rx.t,j,bad,d',Rx.t_mk k sx l,q1,q2,q3,q4,q5,q6,by rw[agT,Rx.t_mk];rfl,rfl⟩
theorem drop_at {l:Bs} {j:Nat} {c:UInt8} {r:Bs} (h:l.drop j=c::r):l[j]?=some c/\r=l.drop (j+1):=by
 constructor
 ·have:=congrArg (·[0]?) h;simpa using this
 ·have:=congrArg List.tail h;simpa using this.symm
theorem RU0 {k:Int} {x:Rx} (h:x.Wf):(Rx.mk k e0 [x]).Wf:=.mk (by decide) (by simp) (by simpa using h)
theorem kG0 {x:Rx} {bad:Bool} {j D:Nat} {l t:Bs} (q6:∀n y rest,mAtom n D l=some (y,rest)->x=y/\bad=false/\rest=t.drop j) {c:UInt8} (hc:t[j]?=some c) {k:Int} (hck:(c=42/\k=6)\/(c=43/\k=7)\/(c=63/\k=8)) :
  ∀n y rest,mItem n D l=some (y,rest)->Rx.mk k e0 [x]=y/\bad=false/\rest=t.drop (j+1):=by
 intro n y rest h;obtain ⟨n',x',r,ha,hcs⟩:=XF0 h;obtain ⟨rfl,hb,hr⟩:=q6 n' x' r ha;have key:∀c' r',r=c'::r'->c'=c/\r'=t.drop (j+1):=fun c' r' hcr=>by
  have:=drop_at (hr.symm.trans hcr);rw[hc] at this;exact ⟨(Option.some.inj this.1).symm,this.2⟩
 rcases hcs with ⟨h1,rfl⟩ | ⟨h1,rfl⟩ | ⟨h1,rfl⟩ | ⟨rfl,rfl,h1⟩
 ·obtain ⟨rfl,rfl⟩:=key _ _ h1
  rcases hck with ⟨_,rfl⟩ | ⟨h2,_⟩ | ⟨h2,_⟩
  ·exact ⟨rfl,hb,rfl⟩
  ·exact absurd h2 (by decide)
  ·exact absurd h2 (by decide)
 ·obtain ⟨rfl,rfl⟩:=key _ _ h1
  rcases hck with ⟨h2,_⟩ | ⟨_,rfl⟩ | ⟨h2,_⟩
  ·exact absurd h2 (by decide)
  ·exact ⟨rfl,hb,rfl⟩
  ·exact absurd h2 (by decide)
 ·obtain ⟨rfl,rfl⟩:=key _ _ h1
  rcases hck with ⟨h2,_⟩ | ⟨h2,_⟩ | ⟨_,rfl⟩
  ·exact absurd h2 (by decide)
  ·exact absurd h2 (by decide)
  ·exact ⟨rfl,hb,rfl⟩
 ·have hlt:j < t.length:=(List.getElem?_eq_some_iff.1 hc).1
  have h2:=h1 (t[j]) (t.drop (j+1)) (by rw[hr];exact List.drop_eq_getElem_cons hlt)
  have h3:t[j]=c:=(List.getElem?_eq_some_iff.1 hc).2;rw[h3] at h2;rcases hck with ⟨h4,_⟩ | ⟨h4,_⟩ | ⟨h4,_⟩
  ·exact absurd h4 h2.1
  ·exact absurd h4 h2.2.1
  ·exact absurd h4 h2.2.2
theorem XC0 {x:Rx} {bad:Bool} {j D:Nat} {l t:Bs} (q6:∀n y rest,mAtom n D l=some (y,rest)->x=y/\bad=false/\rest=t.drop j) (hno:bad=false->∀c,t[j]?=some c->c≠42/\c≠43/\c≠63) :
  ∀n y rest,mItem n D l=some (y,rest)->x=y/\bad=false/\rest=t.drop j:=by
 intro n y rest h;obtain ⟨n',x',r,ha,hcs⟩:=XF0 h;obtain ⟨rfl,hb,hr⟩:=q6 n' x' r ha;have key:∀c' r',r=c'::r'->c'≠42/\c'≠43/\c'≠63:=fun c' r' hcr=>hno hb c' (drop_at (hr.symm.trans hcr)).1;rcases hcs with ⟨h1,_⟩ | ⟨h1,_⟩ | ⟨h1,_⟩ | ⟨rfl,rfl,_⟩
 ·exact absurd rfl (key _ _ h1).1
 ·exact absurd rfl (key _ _ h1).2.1
 ·exact absurd rfl (key _ _ h1).2.2
 ·exact ⟨rfl,hb,hr⟩
theorem ZF0 (L:Nat) (hA:ReadOk 237 mAtom L):ReadOk 223 mItem L:=by
 intro s i d hs hi hL hd;have ha:=hA.opened s i d hs hi hL hd;refine acI (ACl.ro (R:=fun res bx=>∃r0:AV,(∃(x:Rx) (j:Nat) (bad:Bool) (d':Nat),x.Wf/\i<=j/\j<=s.size/\(d<=d'/\d'<=9)/\(bad=false->d'=d/\i < j)/\
  (∀n y rest,mItem n (8 - d) ((toL s).drop i)=some (y,rest)->x=y/\bad=false/\rest=(toL s).drop j)/\r0.roC=agT x.t/\bx=[rdS s j bad (Int.ofNat d')])/\res=r0) ?_) ?_
 ·refine qF tyK Tryz.func223 25 [.cell 2 138] ?_;unhygienic intros
  revert hK K;refine qW 1 ?_;intro K hK;refine qg (nN [0]) ?_;refine qC ?_;refine qD hP ha ?_;rintro res bx ⟨x,k,sx,xl,j,bad,d',qt,q1,q2,q3,q4,q5,q6,rfl,rfl⟩;refine qC ?_;revert hK K;refine qW 1 ?_;intro K hK;refine qg (nN [0]) ?_;refine qC ?_;refine qD hP (mK0 s (by omega) j q3 bad (Int.ofNat d') 42) ?_;rintro res bx ⟨r,j2,r1,r2,r3,rfl,rfl⟩;refine qC ?_
  cases r
  ·have hj2:j=j2:=(r3 rfl).symm
   subst hj2;clear r2 r3;revert hK K;refine qW 1 ?_;intro K hK;refine qg (nN [0]) ?_;refine qC ?_;refine qD hP (mK0 s (by omega) j q3 bad (Int.ofNat d') 43) ?_;rintro res bx ⟨r,j2,t1,r2,r3,rfl,rfl⟩;refine qC ?_
   cases r
   ·have hj2:j=j2:=(r3 rfl).symm
    subst hj2;clear r2 r3;revert hK K;refine qW 1 ?_;intro K hK;refine qg (nN [0]) ?_;refine qC ?_;refine qD hP (mK0 s (by omega) j q3 bad (Int.ofNat d') 63) ?_;rintro res bx ⟨r,j2,v1,r2,r3,rfl,rfl⟩;refine qC ?_
    cases r
    ·have hj2:j=j2:=(r3 rfl).symm
     subst hj2;clear r2 r3;revert hK K;refine qW 1 ?_;intro K hK
     try cbv
     refine hR _ _ ⟨_,⟨x,j,bad,d',q1,q2,q3,q4,q5,XC0 q6 (fun hb c hc=>⟨fun h=>?_,fun h=>?_,fun h=>?_⟩),by rw[qt];rfl,rfl⟩,rfl⟩
     ·exact absurd (r1.2 ⟨hb,c,hc,by rw[h];rfl⟩) (by simp)
     ·exact absurd (t1.2 ⟨hb,c,hc,by rw[h];rfl⟩) (by simp)
     ·exact absurd (v1.2 ⟨hb,c,hc,by rw[h];rfl⟩) (by simp)
    ·obtain rfl:=r2 rfl
     obtain ⟨_,c,hc,hc42⟩:=v1.1 rfl;have hjl:j < s.size:=by have:=(List.getElem?_eq_some_iff.1 hc).1;rwa[zJ0] at this
     have hcv:c=63:=by rw[uA0];simp only[Int.ofNat_eq_natCast] at hc42;exact Int.ofNat.inj hc42
     revert hK K;refine qW 1 ?_;intro K hK
     try cbv
     exact hR _ _ ⟨_,⟨.mk 8 e0 [x],j+1,bad,d',RU0 q1,by omega,by omega,q4,fun h=>⟨(q5 h).1,by omega⟩,kG0 q6 hc (by rw[hcv];decide),by rw[Rx.t_mk];simp[AV.roC,A.roC,erD,tA,qt,e0,ofL,shOf,A.reset],rfl⟩,rfl⟩
   ·obtain rfl:=r2 rfl
    obtain ⟨_,c,hc,hc42⟩:=t1.1 rfl;have hjl:j < s.size:=by have:=(List.getElem?_eq_some_iff.1 hc).1;rwa[zJ0] at this
    have hcv:c=43:=by rw[uA0];simp only[Int.ofNat_eq_natCast] at hc42;exact Int.ofNat.inj hc42
    revert hK K;refine qW 1 ?_;intro K hK
    try cbv
    exact hR _ _ ⟨_,⟨.mk 7 e0 [x],j+1,bad,d',RU0 q1,by omega,by omega,q4,fun h=>⟨(q5 h).1,by omega⟩,kG0 q6 hc (by rw[hcv];decide),by rw[Rx.t_mk];simp[AV.roC,A.roC,erD,tA,qt,e0,ofL,shOf,A.reset],rfl⟩,rfl⟩
  ·obtain rfl:=r2 rfl
   obtain ⟨_,c,hc,hc42⟩:=r1.1 rfl;have hjl:j < s.size:=by have:=(List.getElem?_eq_some_iff.1 hc).1;rwa[zJ0] at this
   have hcv:c=42:=by rw[uA0];simp only[Int.ofNat_eq_natCast] at hc42;exact Int.ofNat.inj hc42
   revert hK K;refine qW 1 ?_;intro K hK
   try cbv
   exact hR _ _ ⟨_,⟨.mk 6 e0 [x],j+1,bad,d',RU0 q1,by omega,by omega,q4,fun h=>⟨(q5 h).1,by omega⟩,kG0 q6 hc (by rw[hcv];decide),by rw[Rx.t_mk];simp[AV.roC,A.roC,erD,tA,qt,e0,ofL,shOf,A.reset],rfl⟩,rfl⟩
 ·rintro res bx ⟨r0,⟨r1,⟨x,j,bad,d',h1,h2,h3,h4,h5,h6,h7,h8⟩,rfl⟩,rfl⟩
  exact ⟨x,j,bad,d',h1,h2,h3,h4,h5,h6,h7,h8⟩
def OutS (s:ByteArray) (i d:Nat) (M:Nat->Nat->Bs->Option (Rx×Bs)) (x:Rx) (j:Nat) (bad:Bool) (d':Nat):Prop:=
 x.Wf/\i<=j/\j<=s.size/\(d<=d'/\d'<=9)/\(bad=false->d'=d/\i < j)/\(∀n y rest,M n (8 - d) ((toL s).drop i)=some (y,rest)->x=y/\bad=false/\rest=(toL s).drop j)
theorem ReadOk.of {f:FuncId} {M:Nat->Nat->Bs->Option (Rx×Bs)} {L:Nat} (h:∀(s:ByteArray) (i d:Nat),s.size<=1099511627776->i<=s.size->s.size - i<=L->d<=8->
  ACl Tryz.prog f [⟨.one,[.ptr 0 0]⟩] [rdS s i false (Int.ofNat d)] (fun res bx=>∃x j bad d',OutS s i d M x j bad d'/\res.roC=agT x.t/\bx=[rdS s j bad (Int.ofNat d')])):ReadOk f M L:=by
 intro s i d h1 h2 h3 h4;refine acI (ACl.ro (h s i d h1 h2 h3 h4)) ?_;rintro res bx ⟨r0,⟨x,j,bad,d',⟨q1,q2,q3,q4,q5,q6⟩,q7,q8⟩,rfl⟩;exact ⟨x,j,bad,d',q1,q2,q3,q4,q5,q6,q7,q8⟩
theorem zL0 {k:Int} {s:ByteArray} (h:s.size<=4611686018427387904):(Rx.mk k s []).Wf:=.mk h (by simp) (by simp)
theorem zE0 (k:Int) (s:ByteArray):List.map (tA true) (Rx.mk k s []).t=[.lit (.int .i64 k),.lit (.string s),.ro true []]:=by rw[Rx.t_mk];rfl
theorem gY0 (L:Nat) (hA:ReadOk 177 mAlt L):ReadOk 245 mGroup L:=by
 refine ReadOk.of fun s i d hs hi hL hd=>?_;have hb41:∀c:UInt8,Int.ofNat c.toNat=41↔c=41:=fun c=>by rw[uA0];exact ⟨fun h=>Int.ofNat.inj h,fun h=>by rw[h];rfl⟩
 have hA:=fun (d1:Nat) (h:d1<=8)=>hA.opened s i d1 hs hi hL h;refine qF tyK Tryz.func245 36 [.cell 2 138] ?_;unhygienic intros
 have hnt:bnot true=false:=by cases hO;rfl
 have hnf:bnot false=true:=by cases hO;rfl
 revert hK K;refine qW 1 ?_;intro K hK;refine qg (nN [0]) ?_;refine qC ?_;refine qD hP (mK0 s (by omega) i hi false (Int.ofNat d) 41) ?_;rintro res bx ⟨r,j2,r1,r2,r3,rfl,rfl⟩;refine qC ?_
 cases r
 ·have hj2:i=j2:=(r3 rfl).symm
  subst hj2;clear r2 r3;have ed:bin .add .i64 (Int.ofNat d) 1=_:=iSc hO (by omega)
  obtain ⟨d1,hd1⟩:=qX (d+1);rw[<-hd1] at ed;revert hK K;refine qW 1 ?_;intro K hK;simp only[ed];revert hK K;refine qW 1 ?_;intro K hK;refine nC rfl (fun h1=>?_) (fun h1=>?_)
  ·have hd8:d=8:=qw1
   revert hK K;refine qW 1 ?_;intro K hK;refine qg (nN [0]) ?_;refine qC ?_;refine qD hP (hT0 s (Int.ofNat i) (Int.ofNat d1) false) ?_;rintro res bx ⟨rfl,rfl⟩;refine qC ?_;revert hK K;refine qW 1 ?_;intro K hK
   try cbv
   refine hR _ _ ⟨.mk 0 e0 [],i,true,d1,⟨zL0 (by decide),by omega,hi,by omega,fun h=>by simp at h,fun n y rest h=>?_⟩,by rw[zE0];rfl,rfl⟩
   rcases vE0 h with ⟨h2,_⟩ | ⟨D,h2,_⟩
   ·obtain ⟨h3,_⟩:=drop_at h2
    exact absurd (r1.2 ⟨rfl,41,h3,rfl⟩) (by simp)
   ·omega
  ·have hd8:d1<=8:=qw1
   have ha:=hA d1 hd8;revert hK K;refine qW 1 ?_;intro K hK;refine qg (nN [0]) ?_;refine qC ?_;refine qD hP ha ?_;rintro res bx ⟨x,k,sx,xl,j,bad,d',qt,q1,q2,q3,q4,q5,q6,rfl,rfl⟩;refine qC ?_;obtain ⟨d2,hd2⟩:=qX (d' - 1);have hdd:d<=d2/\d2<=9:=by clear r1 ed;omega
   have hq5:bad=false->d2=d/\i < j:=fun h=>by have:=q5 h;clear r1 ed;omega
   have es:bin .sub .i64 (Int.ofNat d') 1=Int.ofNat d2:=by rw[hd2];cases hO;simp only[Ops.std,yW0,Int.ofNat_eq_natCast];rw[zW0 (by omega)];omega
   revert hK K;refine qW 1 ?_;intro K hK;simp only[es];revert hK K;refine qW 1 ?_;intro K hK;refine qg (nN [0]) ?_;refine qC ?_;refine qD hP (mK0 s (by omega) j q3 bad (Int.ofNat d2) 41) ?_;rintro res bx ⟨r,j2,v1,r2,r3,rfl,rfl⟩;refine qC ?_
   cases r
   ·have hj2:j=j2:=(r3 rfl).symm
    subst hj2;clear r2 r3;revert hK K;refine qW 1 ?_;intro K hK;simp only[hnf];revert hK K;refine qW 1 ?_;intro K hK;refine qg (nN [0]) ?_;refine qC ?_;refine qD hP (hT0 s (Int.ofNat j) (Int.ofNat d2) bad) ?_;rintro res bx ⟨rfl,rfl⟩;refine qC ?_;revert hK K;refine qW 1 ?_;intro K hK
    try cbv
    refine hR _ _ ⟨.mk 0 e0 [],j,true,d2,⟨zL0 (by decide),q2,q3,hdd,fun h=>by simp at h,fun n y rest h=>?_⟩,by rw[zE0];rfl,rfl⟩
    rcases vE0 h with ⟨h2,_⟩ | ⟨D,h2,h3,_,h4⟩
    ·obtain ⟨h3,_⟩:=drop_at h2
     exact absurd (r1.2 ⟨rfl,41,h3,rfl⟩) (by simp)
    ·obtain ⟨_,h5,h6⟩:=q6 n y _ (by rw[show 8 - d1=D by omega];exact h4)
     obtain ⟨h7,_⟩:=drop_at h6.symm;exact absurd (v1.2 ⟨h5,41,h7,rfl⟩) (by simp)
   ·obtain rfl:=r2 rfl
    obtain ⟨hbad,c,hc,hc42⟩:=v1.1 rfl;have hjl:j < s.size:=by have:=(List.getElem?_eq_some_iff.1 hc).1;rwa[zJ0] at this
    have hcv:c=41:=(hb41 c).1 hc42;subst hbad;revert hK K;refine qW 1 ?_;intro K hK;simp only[hnt];revert hK K;refine qW 1 ?_;intro K hK
    try cbv
    refine hR _ _ ⟨x,j+1,false,d2,⟨q1,by clear r1 v1 es ed;omega,by clear r1 v1 es ed;omega,hdd,fun _=>⟨(hq5 rfl).1,Nat.lt_succ_of_lt (hq5 rfl).2⟩,fun n y rest h=>?_⟩,by rw[qt];rfl,rfl⟩
    rcases vE0 h with ⟨h2,_⟩ | ⟨D,h2,h3,_,h4⟩
    ·obtain ⟨h3,_⟩:=drop_at h2
     exact absurd (r1.2 ⟨rfl,41,h3,rfl⟩) (by simp)
    ·obtain ⟨h5,_,h6⟩:=q6 n y _ (by rw[show 8 - d1=D by omega];exact h4)
     obtain ⟨_,h7⟩:=drop_at h6.symm;exact ⟨h5,rfl,h7⟩
 ·obtain rfl:=r2 rfl
  obtain ⟨_,c,hc,hc42⟩:=r1.1 rfl;have hjl:i < s.size:=by have:=(List.getElem?_eq_some_iff.1 hc).1;rwa[zJ0] at this
  have hcv:c=41:=(hb41 c).1 hc42;subst hcv;revert hK K;refine qW 1 ?_;intro K hK
  try cbv
  refine hR _ _ ⟨.mk 9 e0 [],i+1,false,d,⟨zL0 (by decide),by omega,by omega,by omega,fun _=>by omega,fun n y rest h=>?_⟩,by rw[zE0];rfl,rfl⟩
  rcases vE0 h with ⟨h2,h3⟩ | ⟨D,h2,h3,_,h4⟩
  ·exact ⟨h3.symm,rfl,(drop_at h2).2⟩
  ·exact absurd (drop_cons hc) (h3 _)
theorem JB0 {O:Ops} (hO:O=Ops.std) {s:ByteArray} {a b:Nat}:O.sub s a b=ofL (((toL s).drop a).take (b - a)):=by
 subst hO
 show s.extract a b=_
 apply ByteArray.ext;simp only[ofL,toL,ByteArray.data_extract];apply Array.ext';simp[List.take_drop]
def inv17 (s:ByteArray) (i1:Nat) (d:Nat) (z:ByteArray) (N:Nat) (σ:AS):Prop:=
 ∃(p:Nat),σ=⟨vag 119 [(0,⟨.one,[.ptr 0 0]⟩),(2,⟨.one,[.ptr 1 0]⟩),(4,litI (Int.ofNat i1))],[rdS s p false (Int.ofNat d),some [.lit (.int .i64 0),.lit (.string z),.nil]],1⟩/\i1<=p/\p<=s.size/\(∀q,i1<=q->q < p->(toL s)[q]?≠some 93)/\N=s.size - p
theorem ZH0 (L:Nat) (hG:∀L',L' < L->ReadOk 245 mGroup L'):ReadOk 237 mAtom L:=by
 refine ReadOk.of fun s i d hs hi hL hd=>?_;have hG:=fun (i1:Nat) (h1:i1<=s.size) (h2:s.size - i1 < L)=>(hG (s.size - i1) h2).opened s i1 d hs h1 (Nat.le_refl _) hd;refine qF tyK Tryz.func237 119 [.cell 2 138] ?_;unhygienic intros
 obtain ⟨N,hN⟩:=qX s.size;have hsz:size s=N:=by cases hO;exact hN.symm
 have hnt:bnot true=false:=by cases hO;rfl
 have hnf:bnot false=true:=by cases hO;rfl
 have hsubA:∀a p:Nat,sub s (nat (Int.ofNat a)) (nat (Int.ofNat p))=ofL (((toL s).drop a).take (p - a)):=fun a p=>by
  have:=JB0 hO (s:=s) (a:=a) (b:=p);cases hO;exact this
 have e:bin .add .i64 (Int.ofNat i) 1=_:=iSc hO (by omega)
 rw[<-hN] at hi hs;obtain ⟨i1,hi1⟩:=qX (i+1);rw[<-hi1] at e;revert hK K;refine qW 1 ?_;intro K hK;simp only[hsz];refine nC rfl (fun h1=>?_) (fun h1=>?_)
 ·have hge:N<=i:=qw1
  revert hK K;refine qW 1 ?_;intro K hK;refine qg (nN [0]) ?_;refine qC ?_;refine qD hP (hT0 s (Int.ofNat i) (Int.ofNat d) false) ?_;rintro res bx ⟨rfl,rfl⟩;refine qC ?_;revert hK K;refine qW 1 ?_;intro K hK
  try cbv
  refine hR _ _ ⟨.mk 0 e0 [],i,true,d,⟨zL0 (by decide),by omega,by omega,by omega,fun h=>by simp at h,?_⟩,by rw[zE0];rfl,rfl⟩
  rw[List.drop_eq_nil_of_le (by rw[zJ0];omega)]
  exact PQ0
 have hlt:i < N:=qw1;obtain ⟨c,hc,e1⟩:∃c,(toL s)[i]?=some c/\byte s (nat (Int.ofNat i))=Int.ofNat c.toNat:=byte_at hO (hN ▸ hlt);have hidx:idx (Int.ofNat i) (size s):=hsz ▸ ixN hO hlt;have hdr:=drop_cons hc;rw[<-hi1] at hdr;have hk:∀k:UInt8,Int.ofNat c.toNat=Int.ofNat k.toNat↔c=k:=fun k=>by rw[uA0];exact ⟨fun h=>Int.ofNat.inj h,fun h=>by rw[h]⟩
 have h46:Int.ofNat c.toNat=46↔c=46:=hk 46;have h94:Int.ofNat c.toNat=94↔c=94:=hk 94;have h36:Int.ofNat c.toNat=36↔c=36:=hk 36;have h40:Int.ofNat c.toNat=40↔c=40:=hk 40;have h91:Int.ofNat c.toNat=91↔c=91:=hk 91;have hbyte:=ZG0 c _ rfl;clear hk;obtain ⟨ci,hci⟩:=qX (Int.ofNat c.toNat);rw[<-hci] at h46 h94 h36 h40 h91 hbyte e1;revert hK K;refine qW 1 ?_;intro K hK;simp only[e1,e];refine ndC hidx (ndN ?_)
 revert hK K;refine qW 1 ?_;intro K hK;simp only[e];refine nC rfl (fun h2=>?_) (fun h2=>?_)
 ·have hce:ci=46:=qv2
  revert hK K;refine qW 1 ?_;intro K hK
  try cbv
  refine hR _ _ ⟨.mk 2 e0 [],i1,false,d,⟨zL0 (by decide),by omega,by omega,by omega,fun h=>by omega,?_⟩,by rw[zE0];rfl,rfl⟩
  rw[hdr,h46.1 hce];exact PT0
 have n46:ci≠46:=qv2;clear h2;revert hK K;refine qW 1 ?_;intro K hK;refine nC rfl (fun h2=>?_) (fun h2=>?_)
 ·have hce:ci=94:=qv2
  revert hK K;refine qW 1 ?_;intro K hK
  try cbv
  refine hR _ _ ⟨.mk 10 e0 [],i1,false,d,⟨zL0 (by decide),by omega,by omega,by omega,fun h=>by omega,?_⟩,by rw[zE0];rfl,rfl⟩
  rw[hdr,h94.1 hce];exact dP0
 have n94:ci≠94:=qv2;clear h2;revert hK K;refine qW 1 ?_;intro K hK;refine nC rfl (fun h2=>?_) (fun h2=>?_)
 ·have hce:ci=36:=qv2
  revert hK K;refine qW 1 ?_;intro K hK
  try cbv
  refine hR _ _ ⟨.mk 11 e0 [],i1,false,d,⟨zL0 (by decide),by omega,by omega,by omega,fun h=>by omega,?_⟩,by rw[zE0];rfl,rfl⟩
  rw[hdr,h36.1 hce];exact PR0
 have n36:ci≠36:=qv2;clear h2;revert hK K;refine qW 1 ?_;intro K hK;refine nC rfl (fun h2=>?_) (fun h2=>?_)
 ·have hce:ci=40:=qv2
  have ha:=hG i1 (by omega) (by omega)
  revert hK K;refine qW 1 ?_;intro K hK;refine qg (nN [0]) ?_;refine qC ?_;refine qD hP ha ?_;rintro res bx ⟨x,k,sx,xl,j,bad,d',qt,q1,q2,q3,q4,q5,q6,rfl,rfl⟩;refine qC ?_;revert hK K;refine qW 1 ?_;intro K hK
  try cbv
  refine hR _ _ ⟨x,j,bad,d',⟨q1,by omega,q3,q4,fun h=>by have:=q5 h;omega,?_⟩,by rw[qt];rfl,rfl⟩
  rw[hdr,h40.1 hce];exact pT0 q6
 have n40:ci≠40:=qv2;clear h2;revert hK K;refine qW 1 ?_;intro K hK;refine qG ?_;refine qD hP hbyte ?_;rintro res bx ⟨b,hb,rfl,rfl⟩;refine qC ?_;cases b
 ·have hself:¬wE0 c=true:=by rw[<-hb];simp
  revert hK K;refine qW 1 ?_;intro K hK;refine nC rfl (fun h2=>?_) (fun h2=>?_)
  ·have hce:ci≠91:=qv2
   revert hK K;refine qW 1 ?_;intro K hK;refine qg (nN [0]) ?_;refine qC ?_;refine qD hP (hT0 s (Int.ofNat i1) (Int.ofNat d) false) ?_;rintro res bx ⟨rfl,rfl⟩;refine qC ?_;revert hK K;refine qW 1 ?_;intro K hK
   try cbv
   refine hR _ _ ⟨.mk 0 e0 [],i1,true,d,⟨zL0 (by decide),by omega,by omega,by omega,fun h=>by simp at h,?_⟩,by rw[zE0];rfl,rfl⟩
   rw[hdr];exact pU0 (fun h=>n46 (h46.2 h)) (fun h=>n94 (h94.2 h)) (fun h=>n36 (h36.2 h)) (fun h=>n40 (h40.2 h)) hself (fun h=>hce (h91.2 h))
  ·have hce:ci=91:=qv2
   obtain rfl:=h91.1 hce;clear h2;revert hK K;refine qW 1 ?_;intro K hK;obtain ⟨em,hem⟩:=qX (⟨⟨[]⟩⟩:ByteArray);have hi1N:i1<=N:=by rw[hi1];exact hlt
   clear hb h91 h40 h36 h94 h46 hbyte hself;refine qL 2 [0,2,4] kk0 (inv17 s i1 d ⟨⟨[]⟩⟩) ?_ ?_
   ·cbv
    exact ⟨_,i1,by cbv,Nat.le_refl _,by omega,fun q a b=>by omega,rfl⟩
   rintro m σ ⟨p,rfl,g1,g2,g3,rfl⟩;have ep:bin .add .i64 (Int.ofNat p) 1=_:=iSc hO (by omega)
   obtain ⟨p1,hp1⟩:=qX (p+1);rw[<-hp1] at ep;rw[<-hN] at g2 |-;revert hK K;refine qW 1 ?_;intro K hK;simp only[hsz];refine GFork.mk (fun h3=>?_) (fun h3=>?_)<;>cbv
   ·have hlt2:p < N:=qv3
    obtain ⟨c',hc',e2⟩:∃c,(toL s)[p]?=some c/\byte s (nat (Int.ofNat p))=Int.ofNat c.toNat:=byte_at hO (hN ▸ hlt2);have hidx2:idx (Int.ofNat p) (size s):=hsz ▸ ixN hO hlt2;have h93:Int.ofNat c'.toNat=93↔c'=93:=by rw[uA0];exact ⟨fun h=>Int.ofNat.inj h,fun h=>by rw[h];rfl⟩
    generalize Int.ofNat c'.toNat=cj at e2 h93;revert hK K;refine qW 1 ?_;intro K hK;simp only[e2];refine ndC hidx2 (ndN ?_);revert hK K;refine qW 1 ?_;intro K hK;refine nC rfl (fun h5=>?_) (fun h5=>?_)
    ·have h6:cj≠93:=qv5
     revert hK K;refine qW 1 ?_;intro K hK;simp only[ep];exact ⟨N - p1,by omega,p1,by cbv,by omega,by omega,fun q a b hq=>by
      by_cases hqp:q=p
      ·rw[hqp,hc'] at hq;exact h6 (h93.2 (Option.some.inj hq))
      ·exact g3 q a (by omega) hq,by rw[hN]⟩
    ·have h6:cj=93:=qv5
     obtain rfl:=h93.1 h6;clear h5;have nb1:bnd (Int.ofNat i1) (size s):=by rw[hsz];cases hO;exact ⟨Int.natCast_nonneg _,Int.ofNat_le.2 hi1N⟩
     have nb2:bnd (Int.ofNat p) (size s):=by rw[hsz];cases hO;exact ⟨Int.natCast_nonneg _,Int.ofNat_le.2 g2⟩
     have nle:le (nat (Int.ofNat i1)) (nat (Int.ofNat p)):=by cases hO;exact g1
     obtain ⟨u,hu⟩:=qX (ofL (((toL s).drop i1).take (p - i1)));have hsub:sub s (nat (Int.ofNat i1)) (nat (Int.ofNat p))=u:=by rw[hu];exact hsubA i1 p
     revert hK K;refine qW 1 ?_;intro K hK;simp only[hsub]
     repeat' (with_reducible first | refine ndC nb1 ?_ | refine ndC nb2 ?_ | refine ndC nle ?_ | refine ndC True.intro ?_ | apply ndN)
     revert hK K;refine qW 1 ?_;intro K hK;refine qg (nN [0]) ?_;refine qC ?_;refine qD hP (mK0 s (by omega) p (by omega) false (Int.ofNat d) 93) ?_;rintro res bx ⟨r,j2,r1,r2,r3,rfl,rfl⟩;refine qC ?_
     obtain rfl:r=true:=r1.2 ⟨rfl,93,hc',rfl⟩;obtain rfl:=r2 rfl;have hup:=kV0 (t:=toL s) (p - i1) i1 (fun q a b=>g3 q a (by omega)) (by rw[show i1+(p - i1)=p by omega];exact hc')
     rw[show i1+(p - i1)=p by omega,<-uH0 (((toL s).drop i1).take (p - i1)),<-hu] at hup
     have hus:u.size<=4611686018427387904:=by rw[hu,zP0,List.length_take];omega
     clear r1 r2 r3 h93 h6;revert hK K;refine qW 1 ?_;intro K hK;simp only[hnt];revert hK K;refine qW 1 ?_;intro K hK
     try cbv
     refine hR _ _ ⟨.mk 3 u [],p+1,false,d,⟨zL0 hus,by omega,by omega,by omega,fun h=>by omega,?_⟩,by rw[zE0];rfl,rfl⟩
     rw[hdr];have:=PP0 (D:=8 - d) hup;rwa[tM0] at this
   ·have hge:N<=p:=qw3
    have nb1:bnd (Int.ofNat i1) (size s):=by rw[hsz];cases hO;exact ⟨Int.natCast_nonneg _,Int.ofNat_le.2 hi1N⟩
    have nb2:bnd (Int.ofNat p) (size s):=by rw[hsz];cases hO;exact ⟨Int.natCast_nonneg _,Int.ofNat_le.2 g2⟩
    have nle:le (nat (Int.ofNat i1)) (nat (Int.ofNat p)):=by cases hO;exact g1
    obtain ⟨u,hu⟩:=qX (ofL (((toL s).drop i1).take (p - i1)));have hsub:sub s (nat (Int.ofNat i1)) (nat (Int.ofNat p))=u:=by rw[hu];exact hsubA i1 p
    revert hK K;refine qW 1 ?_;intro K hK;simp only[hsub]
    repeat' (with_reducible first | refine ndC nb1 ?_ | refine ndC nb2 ?_ | refine ndC nle ?_ | refine ndC True.intro ?_ | apply ndN)
    revert hK K;refine qW 1 ?_;intro K hK;refine qg (nN [0]) ?_;refine qC ?_;refine qD hP (mK0 s (by omega) p (by omega) false (Int.ofNat d) 93) ?_;rintro res bx ⟨r,j2,r1,r2,r3,rfl,rfl⟩;refine qC ?_
    obtain rfl:r=false:=by
     cases r
     ·rfl
     ·obtain ⟨_,c,hc,_⟩:=r1.1 rfl
      have:=(List.getElem?_eq_some_iff.1 hc).1;rw[zJ0] at this;omega
    obtain rfl:=r3 rfl;have hup:upTo ((toL s).drop i1)=none:=YM0 fun q a b=>g3 q a (by rw[zJ0] at b;omega)
    clear r1 r2 r3;revert hK K;refine qW 1 ?_;intro K hK;simp only[hnf];revert hK K;refine qW 1 ?_;intro K hK;refine qg (nN [0]) ?_;refine qC ?_;refine qD hP (hT0 s (Int.ofNat j2) (Int.ofNat d) false) ?_;rintro res bx ⟨rfl,rfl⟩;refine qC ?_;revert hK K;refine qW 1 ?_;intro K hK
    try cbv
    refine hR _ _ ⟨.mk 0 e0 [],j2,true,d,⟨zL0 (by decide),by omega,by omega,by omega,fun h=>by simp at h,?_⟩,by rw[zE0];rfl,rfl⟩
    rw[hdr];exact dN0 hup
 ·have hself:wE0 c=true:=hb.symm
  have hisB:isB [[T.lit (.int .u8 ci)]]:=by cases hO;rfl
  have htx:text [[T.lit (.int .u8 ci)]]=ofL [c]:=by
   cases hO;rw[hci]
   show textOf [Int.ofNat c.toNat]=_
   simp only[textOf,List.foldl,Int.ofNat_eq_natCast,Int.toNat_natCast,UInt8.ofNat_toNat]
   rfl
  obtain ⟨tx,htx'⟩:=qX (ofL [c]);rw[<-htx'] at htx;revert hK K;refine qW 1 ?_;intro K hK;simp only[htx];refine ndC hisB (ndN ?_);revert hK K;refine qW 1 ?_;intro K hK
  try cbv
  refine hR _ _ ⟨.mk 1 tx [],i1,false,d,⟨zL0 (by rw[htx',zP0];simp),by omega,by omega,by omega,fun h=>by omega,?_⟩,by rw[zE0];rfl,rfl⟩
  rw[hdr,htx'];exact VJ0 hself
def OutI (s:ByteArray) (i e δ:Nat) (M:Nat->Nat->Bs->Option (Rx×Bs)) (x:Rx) (j:Nat) (bad:Bool):Prop:=
 x.Wf/\i<=j/\j<=s.size+1/\(bad=false->i < j/\j<=s.size)/\(e<=δ->∀n y rest,M n (δ - e) ((toL s).drop i)=some (y,rest)->x=y/\bad=false/\rest=(toL s).drop j)
abbrev ReadI (f:FuncId) (M:Nat->Nat->Bs->Option (Rx×Bs)) (δ L:Nat):Prop:=∀(s:ByteArray) (i e:Nat),s.size<=1099511627776->i<=s.size->s.size - i<=L->e<=40->
 ACl Tryz.prog f [⟨.one,[.ptr 0 0]⟩] [rdI s i (Int.ofNat e) false] (fun res bx=>∃x j bad,OutI s i e δ M x j bad/\res=agT x.t/\bx=[rdI s j (Int.ofNat e) bad])
theorem ReadI.of {f:FuncId} {M:Nat->Nat->Bs->Option (Rx×Bs)} {δ L:Nat} (h:∀(s:ByteArray) (i e:Nat),s.size<=1099511627776->i<=s.size->s.size - i<=L->e<=40->
  ACl Tryz.prog f [⟨.one,[.ptr 0 0]⟩] [rdI s i (Int.ofNat e) false] (fun res bx=>∃x j bad,OutI s i e δ M x j bad/\res.roC=agT x.t/\bx=[rdI s j (Int.ofNat e) bad])):ReadI f M δ L:=by
 intro s i d h1 h2 h3 h4;refine acI (ACl.ro (h s i d h1 h2 h3 h4)) ?_;rintro res bx ⟨r0,⟨x,j,bad,q1,q2,q3⟩,rfl⟩;exact ⟨x,j,bad,q1,q2,q3⟩
theorem ReadI.opened {f:FuncId} {M:Nat->Nat->Bs->Option (Rx×Bs)} {δ L:Nat} (h:ReadI f M δ L) (s:ByteArray) (i e:Nat) (h1:s.size<=1099511627776) (h2:i<=s.size) (h3:s.size - i<=L) (h4:e<=40) :
  ACl Tryz.prog f [⟨.one,[.ptr 0 0]⟩] [rdI s i (Int.ofNat e) false] (fun res bx=>∃(x:Rx) (k:Int) (sx:ByteArray) (xl:List (List T)) (j:Nat) (bad:Bool),x.t=[.lit (.int .i64 k),.lit (.string sx),.sl xl]/\x.Wf/\i<=j/\j<=s.size+1/\
   (bad=false->i < j/\j<=s.size)/\(e<=δ->∀n y rest,M n (δ - e) ((toL s).drop i)=some (y,rest)->x=y/\bad=false/\rest=(toL s).drop j)/\res=⟨.agg,[.lit (.int .i64 k),.lit (.string sx),.ro true xl]⟩/\bx=[rdI s j (Int.ofNat e) bad]):=by
 refine acI (h s i e h1 h2 h3 h4) ?_;rintro res bx ⟨x,j,bad,⟨q1,q2,q3,q4,q5⟩,rfl,rfl⟩;obtain ⟨k,sx,l⟩:=x;exact ⟨.mk k sx l,k,sx,l.map Rx.t,j,bad,Rx.t_mk k sx l,q1,q2,q3,q4,q5,by rw[agT,Rx.t_mk];rfl,rfl⟩
theorem WC0 (n:Nat) (h:n < 128):Utf8.encode (n:Int)=⟨#[UInt8.ofNat n]⟩:=by
 have hv:Utf8.valid (n:Int)=true:=by simp[Utf8.valid];omega
 simp[Utf8.encode,hv];omega
theorem mB1 {x:Int} (h:-2147483648<=x/\x<=2147483647):IntKind.i32.wrap x=x:=by
 simp[IntKind.wrap,IntKind.bits,IntKind.signed];omega
theorem rB1 {l:Bs} (h:Lib.indexByte l 93 < 0):upTo l=none:=by
 have h0:Lib.indexByte l 93=-1:=by have:=Lib.indexByte_ge l 93;omega
 refine kW0 fun c hc he=>?_;obtain ⟨q,hq,hg⟩:=List.getElem_of_mem hc;exact Lib.indexByte_none h0 q (by rw[List.getElem?_eq_getElem hq,hg,he])
theorem rA1 {l:Bs} {n:Nat} (h:Lib.indexByte l 93=Int.ofNat n):n < l.length/\upTo l=some (l.take n,l.drop (n+1)):=by
 obtain ⟨h1,h2⟩:=Lib.indexByte_some h;refine ⟨(List.getElem?_eq_some_iff.1 h1).1,?_⟩;have:=kV0 (t:=l) n 0 (fun q _ hq=>h2 q (by omega)) (by rw[Nat.zero_add];exact h1)
 simpa using this
theorem TL0 (L:Nat) (hA:∀L',L' < L->ReadI 163 mAlt 8 L'):ReadI 228 mAtom 9 L:=by
 refine ReadI.of fun s i e hs hi hL he=>?_;have hA:=fun (i1:Nat) (h1:i1<=s.size) (h2:s.size - i1 < L)=>(hA (s.size - i1) h2).opened s i1 e hs h1 (Nat.le_refl _) he;refine qF tyK Tryz.func228 112 [.cell 2 138] ?_;unhygienic intros
 obtain ⟨N,hN⟩:=qX s.size;have hsz:size s=N:=by cases hO;exact hN.symm
 have ei:bin .add .i64 (Int.ofNat i) 1=_:=iSc hO (by omega)
 obtain ⟨i1,hi1⟩:=qX (i+1);rw[<-hi1] at ei;revert hK K;refine qW 1 ?_;intro K hK;refine qg (nN [0]) ?_;refine qC ?_;refine qD hP (hL0 s i (Int.ofNat e) false) ?_;rintro res bx ⟨ci,hci,rfl,rfl⟩;refine qC ?_;obtain ⟨c,hc⟩:=qX (zN0 s i);rw[<-hc] at hci;have hdr:c≠0->(toL s).drop i=c::(toL s).drop i1/\i1<=s.size:=fun h=>by
  unfold zN0 at hc;cases h2:(toL s)[i]? with
  | none=>rw[h2] at hc;exact absurd hc h
  | some b=>
   rw[h2] at hc;have:c=b:=hc;subst this;have hlt:=(List.getElem?_eq_some_iff.1 h2).1;rw[zJ0] at hlt;exact ⟨by rw[hi1];exact drop_cons h2,by omega⟩
 have h0:c=0->∀D x out,gL0 D ((toL s).drop i) x true out:=fun h D x out=>by
  unfold zN0 at hc;cases h2:(toL s)[i]? with
  | none=>rw[List.drop_eq_nil_of_le (List.getElem?_eq_none_iff.1 h2)];exact PQ0
  | some b=>
   rw[h2,h] at hc;have:(0:UInt8)=b:=hc;subst this;rw[drop_cons h2];exact pU0 (by decide) (by decide) (by decide) (by decide) (by decide) (by decide)
 have hk:∀k:UInt8,Int.ofNat c.toNat=Int.ofNat k.toNat↔c=k:=fun k=>by rw[uA0];exact ⟨fun h=>Int.ofNat.inj h,fun h=>by rw[h]⟩
 have h46:Int.ofNat c.toNat=46↔c=46:=hk 46;have h94:Int.ofNat c.toNat=94↔c=94:=hk 94;have h36:Int.ofNat c.toNat=36↔c=36:=hk 36;have h40:Int.ofNat c.toNat=40↔c=40:=hk 40;have h91:Int.ofNat c.toNat=91↔c=91:=hk 91;have hbyte:=hM0 c _ rfl;clear hk hc;rw[<-hci] at h46 h94 h36 h40 h91 hbyte;revert hK K;refine qW 1 ?_;intro K hK;simp only[ei];revert hK K;refine qW 1 ?_;intro K hK;refine qG ?_;refine qD hP hbyte ?_;rintro res bx ⟨b,hb,rfl,rfl⟩;refine qC ?_
 cases b
 ·have hself:¬wE0 c=true:=by rw[<-hb];simp
  clear hb hbyte;revert hK K;refine qW 1 ?_;intro K hK;refine nC rfl (fun h2=>?_) (fun h2=>?_)
  ·have hce:ci=46:=qv2
   obtain rfl:=h46.1 hce;obtain ⟨hdr,hle⟩:=hdr (by decide)
   revert hK K;refine qW 1 ?_;intro K hK
   try cbv
   refine hR _ _ ⟨.mk 2 e0 [],i1,false,⟨zL0 (by decide),by omega,by omega,fun _=>by omega,fun _=>?_⟩,by rw[zE0];rfl,rfl⟩
   rw[hdr];exact PT0
  have n46:ci≠46:=qv2;clear h2;revert hK K;refine qW 1 ?_;intro K hK;refine nC rfl (fun h2=>?_) (fun h2=>?_)
  ·have hce:ci=94:=qv2
   obtain rfl:=h94.1 hce;obtain ⟨hdr,hle⟩:=hdr (by decide)
   revert hK K;refine qW 1 ?_;intro K hK
   try cbv
   refine hR _ _ ⟨.mk 10 e0 [],i1,false,⟨zL0 (by decide),by omega,by omega,fun _=>by omega,fun _=>?_⟩,by rw[zE0];rfl,rfl⟩
   rw[hdr];exact dP0
  have n94:ci≠94:=qv2;clear h2;revert hK K;refine qW 1 ?_;intro K hK;refine nC rfl (fun h2=>?_) (fun h2=>?_)
  ·have hce:ci=36:=qv2
   obtain rfl:=h36.1 hce;obtain ⟨hdr,hle⟩:=hdr (by decide)
   revert hK K;refine qW 1 ?_;intro K hK
   try cbv
   refine hR _ _ ⟨.mk 11 e0 [],i1,false,⟨zL0 (by decide),by omega,by omega,fun _=>by omega,fun _=>?_⟩,by rw[zE0];rfl,rfl⟩
   rw[hdr];exact PR0
  have n36:ci≠36:=qv2;clear h2;revert hK K;refine qW 1 ?_;intro K hK;refine nC rfl (fun h2=>?_) (fun h2=>?_)
  ·have hce:ci=91:=qv2
   obtain rfl:=h91.1 hce;obtain ⟨hdr,hle⟩:=hdr (by decide)
   clear h46 h94 h36 h40 h91 h0 hA hself h2;obtain ⟨u,hu⟩:=qX (ofL ((toL s).drop i1));have hsub:sub s (nat (Int.ofNat i1)) (size s)=u:=by
    rw[hu];have:=JB0 hO (s:=s) (a:=i1) (b:=s.size);rw[List.take_of_length_le (by rw[List.length_drop,zJ0];exact Nat.le_refl _)] at this
    cases hO;exact this
   have nb1:bnd (Int.ofNat i1) (size s):=by rw[hsz];cases hO;exact ⟨Int.natCast_nonneg _,Int.ofNat_le.2 (by omega)⟩
   have nle:le (nat (Int.ofNat i1)) (size s):=by rw[hsz];cases hO;show i1<=N;omega
   have hib:=hZ0 u 93;rw[hu,uH0] at hib;rw[<-hu] at hib;revert hK K;refine qW 1 ?_;intro K hK;simp only[hsub];refine ndC nb1 (ndC nle (ndN ?_));refine qG ?_;refine qD hP hib ?_;rintro res bx ⟨r,hr,rfl,rfl⟩;refine qC ?_;have hr:r=Lib.indexByte ((toL s).drop i1) 93:=hr;revert hK K;refine qW 1 ?_;intro K hK;refine nC rfl (fun h2=>?_) (fun h2=>?_)
   ·have hneg:r < 0:=qv2
    have hup:=rB1 (by rw[<-hr];exact hneg)
    clear hr hib hsub nb1 nle h2;revert hK K;refine qW 1 ?_;intro K hK
    try cbv
    refine hR _ _ ⟨.mk 0 e0 [],i1,true,⟨zL0 (by decide),by omega,by omega,fun h=>by simp at h,fun _=>?_⟩,by rw[zE0];rfl,rfl⟩
    rw[hdr];exact dN0 hup
   ·have hneg:0<=r:=qv2
    obtain ⟨n,hn⟩:∃n:Nat,r=Int.ofNat n:=⟨r.toNat,by simp only[Int.ofNat_eq_natCast];omega⟩
    obtain ⟨hnl,hup⟩:=rA1 (hr.symm.trans hn);rw[List.length_drop,zJ0] at hnl;subst hn;have ea:bin .add .i64 (Int.ofNat i1) (Int.ofNat n)=_:=qG0 hO (by omega)
    obtain ⟨p,hp⟩:=qX (i1+n);rw[<-hp] at ea;have eb:bin .add .i64 (Int.ofNat n) 1=_:=iSc hO (by omega)
    have ec:bin .add .i64 (Int.ofNat i1) (Int.ofNat (n+1))=_:=qG0 hO (by omega)
    obtain ⟨j,hj⟩:=qX (i1+(n+1));rw[<-hj] at ec;obtain ⟨n1,hn1⟩:=qX (n+1);rw[<-hn1] at eb ec;obtain ⟨v,hv⟩:=qX (ofL (((toL s).drop i1).take n));have hsub2:sub s (nat (Int.ofNat i1)) (nat (Int.ofNat p))=v:=by
     rw[hv];have:=JB0 hO (s:=s) (a:=i1) (b:=p);rw[show p - i1=n by omega] at this
     cases hO;exact this
    have nb2:bnd (Int.ofNat p) (size s):=by rw[hsz];cases hO;exact ⟨Int.natCast_nonneg _,Int.ofNat_le.2 (by omega)⟩
    have nle2:le (nat (Int.ofNat i1)) (nat (Int.ofNat p)):=by cases hO;show i1<=p;omega
    rw[List.drop_drop,show i1+(n+1)=j by omega,<-uH0 (((toL s).drop i1).take n),<-hv] at hup
    have hvs:v.size<=4611686018427387904:=by rw[hv,zP0,List.length_take];omega
    clear hr hib hsub nle h2;revert hK K;refine qW 1 ?_;intro K hK;simp only[ea];revert hK K;refine qW 1 ?_;intro K hK;simp only[hsub2]
    repeat' (with_reducible first | refine ndC nb1 ?_ | refine ndC nb2 ?_ | refine ndC nle2 ?_ | refine ndC True.intro ?_ | apply ndN)
    revert hK K;refine qW 1 ?_;intro K hK;simp only[eb,ec];revert hK K;refine qW 1 ?_;intro K hK
    try cbv
    refine hR _ _ ⟨.mk 3 v [],j,false,⟨zL0 hvs,by omega,by omega,fun _=>by omega,fun _=>?_⟩,by rw[zE0];rfl,rfl⟩
    rw[hdr];have:=PP0 (D:=9 - e) hup;rwa[tM0] at this
  have n91:ci≠91:=qv2;clear h2;revert hK K;refine qW 1 ?_;intro K hK;refine GFork.mk (fun h2=>?_) (fun h2=>?_)<;>cbv
  ·have hce:ci=40:=qv2
   obtain rfl:=h40.1 hce;obtain ⟨hdr,hle⟩:=hdr (by decide)
   clear h46 h94 h36 h40 h91 h0 hself;have hA:=hA i1 hle (by omega)
   revert hK K;refine qW 1 ?_;intro K hK;refine qg (nN [0]) ?_;refine qC ?_;refine qD hP (hL0 s i1 (Int.ofNat e) false) ?_;rintro res bx ⟨b2,hb2,rfl,rfl⟩;refine qC ?_;have hc2:∀{c:UInt8} {r:Bs},(toL s).drop i1=c::r->zN0 s i1=c:=fun h=>by unfold zN0;rw[(drop_at h).1];rfl
   have h41:b2=41↔(toL s)[i1]?=some 41:=by
    rw[hb2];unfold zN0;cases (toL s)[i1]? with
    | none=>decide
    | some c=>
     show Int.ofNat c.toNat=41↔some c=some 41
     rw[Option.some.injEq,uA0];exact ⟨fun h=>Int.ofNat.inj h,fun h=>by rw[h];rfl⟩
   clear hb2 hc2;revert hK K;refine qW 1 ?_;intro K hK;refine nC rfl (fun h3=>?_) (fun h3=>?_)
   ·have hbe:b2=41:=qv3
    have h41:=h41.1 hbe;have hlt:=(List.getElem?_eq_some_iff.1 h41).1;rw[zJ0] at hlt;have ej:bin .add .i64 (Int.ofNat i1) 1=_:=iSc hO (by omega)
    obtain ⟨i2,hi2⟩:=qX (i1+1);rw[<-hi2] at ej;clear h3;revert hK K;refine qW 1 ?_;intro K hK;simp only[ej];revert hK K;refine qW 1 ?_;intro K hK
    try cbv
    refine hR _ _ ⟨.mk 9 e0 [],i2,false,⟨zL0 (by decide),by omega,by omega,fun _=>by omega,fun _=>?_⟩,by rw[zE0];rfl,rfl⟩
    rw[hdr];refine pT0 fun n y rest h=>?_;rw[drop_cons h41] at h;rcases vE0 h with ⟨h5,h6⟩ | ⟨D,_,h6,_⟩
    ·exact ⟨h6.symm,rfl,by rw[hi2];exact (List.cons.inj h5).2.symm⟩
    ·exact absurd rfl (h6 _)
   ·have hbe:b2≠41:=qv3
    have h41:(toL s)[i1]?≠some 41:=fun h=>hbe (h41.2 h);clear h3 hbe;revert hK K;refine qW 1 ?_;intro K hK;refine nC rfl (fun h3=>?_) (fun h3=>?_)
    ·clear h3
     revert hK K;refine qW 1 ?_;intro K hK;refine qg (nN [0]) ?_;refine qC ?_;refine qD hP hA ?_;rintro res bx ⟨x,k,sx,xl,j,bad,qt,q1,q2,q3,q4,q5,rfl,rfl⟩;refine qC ?_;revert hK K;refine qW 1 ?_;intro K hK;refine qg (nN [0]) ?_;refine qC ?_;refine qD hP (hL0 s j (Int.ofNat e) bad) ?_;rintro res bx ⟨b3,hb3,rfl,rfl⟩;refine qC ?_;have h43:b3=41↔(toL s)[j]?=some 41:=by
      rw[hb3];unfold zN0;cases (toL s)[j]? with
      | none=>decide
      | some c=>
       show Int.ofNat c.toNat=41↔some c=some 41
       rw[Option.some.injEq,uA0];exact ⟨fun h=>Int.ofNat.inj h,fun h=>by rw[h];rfl⟩
     have hgr:∀n y rest,e<=9->mGroup n (9 - e) ((toL s).drop i1)=some (y,rest)->x=y/\bad=false/\(toL s).drop j=41::rest:=fun n y rest he h=>by
      rcases vE0 h with ⟨h5,h6⟩ | ⟨D,h5,h6,_,h7⟩
      ·exact absurd (drop_at h5).1 h41
      ·obtain ⟨h8,h9,h10⟩:=q5 (by omega) n y _ (by rw[show 8 - e=D by omega];exact h7)
       exact ⟨h8,h9,h10.symm⟩
     clear hb3 q5;revert hK K;refine qW 1 ?_;intro K hK;refine nC rfl (fun h3=>?_) (fun h3=>?_)
     ·have hbe:b3≠41:=qv3
      have h43:(toL s)[j]?≠some 41:=fun h=>hbe (h43.2 h);clear h3 hbe;revert hK K;refine qW 1 ?_;intro K hK
      try cbv
      refine hR _ _ ⟨.mk 0 e0 [],j,true,⟨zL0 (by decide),by omega,by omega,fun h=>by simp at h,fun he=>?_⟩,by rw[zE0];rfl,rfl⟩
      rw[hdr];refine pT0 fun n y rest h=>?_;obtain ⟨_,_,h8⟩:=hgr n y rest he h;exact absurd (drop_at h8).1 h43
     ·have hbe:b3=41:=qv3
      have h43:=h43.1 hbe;have hlt:=(List.getElem?_eq_some_iff.1 h43).1;rw[zJ0] at hlt;have ej:bin .add .i64 (Int.ofNat j) 1=_:=iSc hO (by omega)
      obtain ⟨j2,hj2⟩:=qX (j+1);rw[<-hj2] at ej;clear h3;revert hK K;refine qW 1 ?_;intro K hK;simp only[ej];revert hK K;refine qW 1 ?_;intro K hK
      try cbv
      refine hR _ _ ⟨x,j2,bad,⟨q1,by omega,by omega,fun h=>by omega,fun he=>?_⟩,by rw[qt];rfl,rfl⟩
      rw[hdr];refine pT0 fun n y rest h=>?_;obtain ⟨h6,h7,h8⟩:=hgr n y rest he h;exact ⟨h6,h7,by rw[hj2];exact (drop_at h8).2⟩
    ·exact absurd h2 (by rw[h3];simp)
  ·have n40:ci≠40:=qv2
   have hpost:∀D x out,gL0 D ((toL s).drop i) x true out:=fun D x out=>by
    by_cases h:c=0
    ·exact h0 h D x out
    ·rw[(hdr h).1]
     exact pU0 (fun h=>n46 (h46.2 h)) (fun h=>n94 (h94.2 h)) (fun h=>n36 (h36.2 h)) (fun h=>n40 (h40.2 h)) hself (fun h=>n91 (h91.2 h))
   clear hdr h0 h46 h94 h36 h40 h91 hself hA;revert hK K;refine qW 1 ?_;intro K hK;refine nC rfl (fun h3=>?_) (fun h3=>?_)
   ·exact absurd h3 (by rw[h2];simp)
   ·clear h3
    revert hK K;refine qW 1 ?_;intro K hK
    try cbv
    exact hR _ _ ⟨.mk 0 e0 [],i1,true,⟨zL0 (by decide),by omega,by omega,fun h=>by simp at h,fun _=>hpost _ _ _⟩,by rw[zE0];rfl,rfl⟩
 ·have hself:wE0 c=true:=hb.symm
  obtain ⟨hdr,hle⟩:=hdr (by rintro rfl;exact absurd hself (by decide))
  have hlt:c.toNat < 128:=by
   simp only[wE0,Bool.or_eq_true,Bool.and_eq_true,decide_eq_true_eq,beq_iff_eq] at hself;have:=c.toNat_lt;rcases hself with ((((((h | h) | h) | h) | h) | h) | h) | h
   all_goals first|(subst h;decide)|(have:=h.2;have h3:c.toNat<=_:=this;exact Nat.lt_of_le_of_lt h3 (by decide))
  obtain ⟨tx,htx'⟩:=qX (ofL [c]);have htx:chr (wrap .i32 ci)=tx:=by
   cases hO;rw[hci,htx']
   show Utf8.encode (IntKind.i32.wrap (Int.ofNat c.toNat))=_
   rw[mB1 (by simp only[Int.ofNat_eq_natCast];omega)]
   have:=WC0 c.toNat hlt;simp only[Int.ofNat_eq_natCast];rw[this,UInt8.ofNat_toNat];rfl
  revert hK K;refine qW 1 ?_;intro K hK;simp only[htx]
  try cbv
  refine hR _ _ ⟨.mk 1 tx [],i1,false,⟨zL0 (by rw[htx',zP0];simp),by omega,by omega,fun _=>by omega,fun _=>?_⟩,by rw[zE0];rfl,rfl⟩
  rw[hdr,htx'];exact VJ0 hself
def opB (p:Nat):UInt8:=if p=0 then 42 else if p=1 then 43 else 63
def inv23 (s:ByteArray) (j:Nat) (e:Nat) (bad:Bool) (els:List (List T)) (z:ByteArray) (k:Int) (sx:ByteArray) (xl:List (List T)) (N:Nat) (σ:AS):Prop:=
 ∃(q:Nat),σ=⟨vag 34 [(0,⟨.one,[.ptr 0 0]⟩),(2,⟨.one,[.ptr 1 0]⟩),(3,⟨.one,[.ptr 2 0]⟩),(9,⟨.one,[.ro true els]⟩),(10,litI 3),(11,litI (Int.ofNat q))],
  [rdI s j (Int.ofNat e) bad,some [.lit (.int .i64 0),.lit (.string z),.nil],some [.lit (.int .i64 k),.lit (.string sx),.ro true xl]],1⟩/\q<=3/\(∀p,p < q->zN0 s j≠opB p)/\N=3 - q
theorem TJ0 (L:Nat) (hA:ReadI 228 mAtom 9 L):ReadI 207 mItem 9 L:=by
 refine ReadI.of fun s i e hs hi hL he=>?_;have hA:=hA.opened s i e hs hi hL he;refine qF tyK Tryz.func207 34 [.cell 2 138] ?_;unhygienic intros
 obtain ⟨N,hN⟩:=qX s.size;revert hK K;refine qW 1 ?_;intro K hK;refine qg (nN [0]) ?_;refine qC ?_;refine qD hP hA ?_;rintro res bx ⟨x,k,sx,xl,j,bad,qt,q1,q2,q3,q4,q5,rfl,rfl⟩;refine qC ?_
 (with_reducible refine hK _ ?_)
 clear hK K
 conv=>whnf
 refine xR (base:=1) rfl rfl rfl ?_
 try cbv
 refine GHand.mk ⟨_,_,tN1 rfl rfl (hP ▸ tyK _ _ rfl) rfl (hP ▸ tyK _ _ rfl) rfl (by simp),?_⟩
 intro K hK
 try cbv
 obtain ⟨els,hels⟩:=qX ([[T.lit (.int .u8 42)],[T.lit (.int .u8 43)],[T.lit (.int .u8 63)]]:List (List T));have hln:len els=3:=by cases hO;rw[hels];rfl
 rw[<-hels];simp only[hln];revert hK K;refine qW 1 ?_;intro K hK;refine qL 3 [0,2,3,9,10,11] kk0 (inv23 s j e bad els ⟨⟨[]⟩⟩ k sx xl) ?_ ?_
 ·cbv
  exact ⟨_,0,by cbv,by omega,by omega,rfl⟩
 rintro m σ ⟨q,rfl,g1,g2,rfl⟩;revert hK K;refine qW 1 ?_;intro K hK;refine nC rfl (fun h3=>?_) (fun h3=>?_)
 ·have hlt:q < 3:=qw3
  have hget:get els (nat (Int.ofNat q))=[T.lit (.int .u8 (Int.ofNat (opB q).toNat))]:=by
   cases hO;rw[hels]
   match q,hlt with
   | 0,_=>rfl
   | 1,_=>rfl
   | 2,_=>rfl
  have hidx:idx (Int.ofNat q) (len els):=by rw[hln];exact ixN hO hlt
  have ha:all els 1:=alO hO (by rw[hels];simp)
  have eq:bin .add .i64 (Int.ofNat q) 1=_:=iSc hO (by omega)
  obtain ⟨q1',hq1'⟩:=qX (q+1);rw[<-hq1'] at eq;obtain ⟨v,hv⟩:=qX (Int.ofNat (opB q).toNat);rw[<-hv] at hget;revert hK K;refine qW 1 ?_;intro K hK
  repeat (simp only[hget];cbv)
  refine ndC hidx (ndC ha (ndN ?_));revert hK K;refine qW 1 ?_;intro K hK;refine qg (nN [0]) ?_;refine qC ?_;refine qD hP (hL0 s j (Int.ofNat e) bad) ?_;rintro res bx ⟨b,hb,rfl,rfl⟩;refine qC ?_;revert hK K;refine qW 1 ?_;intro K hK;have hbv:b=v↔zN0 s j=opB q:=by rw[hb,hv,uA0];exact ⟨fun h=>Int.ofNat.inj h,fun h=>by rw[h]⟩
  refine nC rfl (fun h5=>?_) (fun h5=>?_)
  ·have hbe:b=v:=qv5
   have hat:(toL s)[j]?=some (opB q):=by
    have h:=hbv.1 hbe;unfold zN0 at h;cases h2:(toL s)[j]? with
    | none=>
     rw[h2] at h;exact absurd h (by match q,hlt with | 0,_=>decide | 1,_=>decide | 2,_=>decide)
    | some c=>rw[h2] at h;exact congrArg some h
   have hlt2:=(List.getElem?_eq_some_iff.1 hat).1;rw[zJ0] at hlt2;have ej:bin .add .i64 (Int.ofNat j) 1=_:=iSc hO (by omega)
   obtain ⟨j1,hj1⟩:=qX (j+1);rw[<-hj1] at ej;have ek:bin .add .i64 6 (Int.ofNat q)=Int.ofNat (6+q):=qG0 hO (a:=6) (by omega)
   obtain ⟨k1,hk1⟩:=qX (6+q);rw[<-hk1] at ek;have hck:(opB q=42/\(Int.ofNat k1)=6)\/(opB q=43/\(Int.ofNat k1)=7)\/(opB q=63/\(Int.ofNat k1)=8):=by
    rw[hk1]
    match q,hlt with
    | 0,_=>exact .inl ⟨rfl,rfl⟩
    | 1,_=>exact .inr (.inl ⟨rfl,rfl⟩)
    | 2,_=>exact .inr (.inr ⟨rfl,rfl⟩)
   clear h5 hbv hb hv hget;revert hK K;refine qW 1 ?_;intro K hK;simp only[ej];revert hK K;refine qW 1 ?_;intro K hK;simp only[ek];revert hK K;refine qW 1 ?_;intro K hK
   try cbv
   refine hR _ _ ⟨.mk (Int.ofNat k1) e0 [x],j1,bad,⟨RU0 q1,by omega,by omega,fun h=>by omega,fun he=>?_⟩,by rw[Rx.t_mk];simp[AV.roC,A.roC,erD,tA,qt,e0,ofL,shOf,A.reset],rfl⟩
   rw[hj1];exact kG0 (q5 he) hat hck
  ·have hbe:b≠v:=qv5
   have hne:zN0 s j≠opB q:=fun h=>hbe (hbv.2 h);clear h5 hbv hb hv hget;revert hK K;refine qW 1 ?_;intro K hK;simp only[eq];revert hK K;refine qW 1 ?_;intro K hK;exact ⟨3 - q1',by omega,q1',by cbv,by omega,fun p hp=>by
    by_cases hpq:p=q
    ·rw[hpq];exact hne
    ·exact g2 p (by omega),rfl⟩
 ·have hge:q=3:=qw3
  subst hge;revert hK K;refine qW 1 ?_;intro K hK
  try cbv
  refine hR _ _ ⟨x,j,bad,⟨q1,q2,q3,q4,fun he=>XC0 (q5 he) fun _ c hc=>?_⟩,by rw[qt];rfl,rfl⟩
  have hcb:zN0 s j=c:=by unfold zN0;rw[hc];rfl
  rw[hcb] at g2;exact ⟨g2 0 (by omega),g2 1 (by omega),g2 2 (by omega)⟩
theorem VK0 {O:Ops} (hO:O=Ops.std) {xl:List (List T)} {xs:List Rx} (h:xl=xs.map Rx.t) (x:Rx) {c:List T} (hc:x.t=c):O.app xl [c]=(xs++[x]).map Rx.t:=by
 subst hO;subst h;subst hc;simp[Ops.std]
def inv19 (s:ByteArray) (i d:Nat) (z:ByteArray) (N:Nat) (σ:AS):Prop:=
 ∃(j d':Nat) (bad:Bool) (xs:List Rx) (xl:List (List T)),σ=⟨vag 22 [(0,⟨.one,[.ptr 0 0]⟩),(2,⟨.one,[.ptr 1 0]⟩),(3,⟨.one,[.ow (0,0) false 3 xl]⟩)],[rdS s j bad (Int.ofNat d'),some [.lit (.int .i64 0),.lit (.string z),.nil]],1⟩/\
  xl=xs.map Rx.t/\i<=j/\j<=s.size/\xs.length+i<=j+1/\(d<=d'/\d'<=9)/\(bad=false->d'=d/\i < j)/\(∀x∈xs,x.Wf)/\AltI (8 - d) ((toL s).drop i) xs bad ((toL s).drop j)/\N=s.size - j
theorem WM0 (L:Nat) (hC:ReadOk 203 mCat L):ReadOk 177 mAlt L:=by
 refine ReadOk.of fun s i d hs hi hL hd=>?_;have hCat:=fun (j:Nat) (h1:i<=j) (h2:j<=s.size)=>hC.opened s j d hs h2 (by omega) hd
 clear hC;have hb124:∀c:UInt8,Int.ofNat c.toNat=124↔c=124:=fun c=>by rw[uA0];exact ⟨fun h=>Int.ofNat.inj h,fun h=>by rw[h];rfl⟩
 refine qF tyK Tryz.func177 22 [.cell 2 138] ?_;unhygienic intros
 revert hK K;refine qW 1 ?_;intro K hK;refine qg (nN [0]) ?_;refine qC ?_;refine qD hP (hCat i (Nat.le_refl _) hi) ?_;rintro res bx ⟨x,k,sx,xl0,j,bad,d',qt,q1,q2,q3,q4,q5,q6,rfl,rfl⟩;refine qC ?_;revert hK K;refine qW 1 ?_;intro K hK;refine qL 2 [0,2,3] kk0 (inv19 s i d ⟨⟨[]⟩⟩) ?_ ?_
 ·cbv
  exact ⟨_,j,d',bad,[x],_,by cbv,by rw[<-qt];rfl,q2,q3,by simp;omega,q4,q5,by simpa using q1,YC0 q6,rfl⟩
 rintro m σ ⟨j,d',bad,xs,xl,rfl,hxl,g1,g2,g3,g4,g5,g6,g7,rfl⟩;revert hK K;refine qW 1 ?_;intro K hK;refine qg (nN [0]) ?_;refine qC ?_;refine qD hP (mK0 s (by omega) j g2 bad (Int.ofNat d') 124) ?_;rintro res bx ⟨r,j2,r1,r2,r3,rfl,rfl⟩;refine qC ?_
 cases r
 ·obtain rfl:j=j2:=(r3 rfl).symm
  have hfin:=pW0 g7 (by
   cases bad
   ·exact .inr fun r hr=>absurd (r1.2 ⟨rfl,124,(drop_at hr).1,rfl⟩) (by simp)
   ·exact .inl rfl)
  clear r1 r2 r3;have hln:len xl=xs.length:=lnO hO (by simp[hxl])
  revert hK K;refine qW 1 ?_;intro K hK;simp only[hln];refine nC rfl (fun h5=>?_) (fun h5=>?_)
  ·have h6:xs.length=1:=qw5
   obtain ⟨x,rfl⟩:∃x,xs=[x]:=List.length_eq_one_iff.1 h6;obtain ⟨x',hx1,hx2,hx3,e1⟩:=mpA hO hxl (i:=0) (by simp)
   obtain rfl:x=x':=by simpa using hx2
   have hidx:idx 0 (len xl):=by rw[hln];exact ixN hO (i:=0) (n:=1) (by omega)
   have hidx':idx (Int.ofNat (nadd 0 (nat 0))) (len xl):=by cases hO;exact hidx
   have ha:all xl 3:=alO hO (by subst hxl;simp[Rx.t_len])
   have e2:get xl (nadd 0 (nat 0))=x.t:=by cases hO;exact e1
   have hwx:=g6 x List.mem_cons_self;rw[yG0] at hfin;obtain ⟨k,sx,l⟩:=x;rw[Rx.t_mk] at e2;generalize hxl':l.map Rx.t=xl' at e2;revert hK K;refine qW 1 ?_;intro K hK
   repeat (simp only[e2];cbv)
   repeat' (with_reducible first | refine ndC hidx ?_ | refine ndC hidx' ?_ | refine ndC ha ?_ | refine ndC True.intro ?_ | apply ndN)
   revert hK K;refine qW 1 ?_;intro K hK
   try cbv
   exact hR _ _ ⟨.mk k sx l,j,bad,d',⟨hwx,g1,g2,g4,g5,hfin⟩,by rw[Rx.t_mk,hxl'];rfl,rfl⟩
  ·have h6:xs.length≠1:=qw5
   have hw:=wG0 (k:=5) (xs:=xs) (by omega) g6
   rw[zV0 h6] at hfin hw;revert hK K;refine qW 1 ?_;intro K hK
   try cbv
   exact hR _ _ ⟨.mk 5 e0 xs,j,bad,d',⟨hw,g1,g2,g4,g5,hfin⟩,by rw[Rx.t_mk,<-hxl];rfl,rfl⟩
 ·obtain rfl:=r2 rfl
  obtain ⟨hbad,c,hc,hc42⟩:=r1.1 rfl;have hjl:j < s.size:=by have:=(List.getElem?_eq_some_iff.1 hc).1;rwa[zJ0] at this
  obtain rfl:c=124:=(hb124 c).1 hc42;subst hbad;obtain ⟨rfl,g5'⟩:=g5 rfl;have hdr:=drop_cons hc;clear r1 r2 r3;obtain ⟨j1,hj1⟩:=qX (j+1);rw[<-hj1] at hdr |-;revert hK K;refine qW 1 ?_;intro K hK;refine qg (nN [0]) ?_;refine qC ?_;refine qD hP (hCat j1 (by omega) (by omega)) ?_;rintro res bx ⟨x,k,sx,xl0,j',bad,d2,qt,q1,q2,q3,q4,q5,q6,rfl,rfl⟩;refine qC ?_
  obtain ⟨xl',hxl'⟩:=qX ((xs++[x]).map Rx.t);have happ:app xl [[T.lit (.int .i64 k),T.lit (.string sx),T.sl xl0]]=xl':=by rw[hxl'];exact VK0 hO hxl x qt
  have haok:∀b,b<=64->aOk b xl [[T.lit (.int .i64 k),T.lit (.string sx),T.sl xl0]]:=fun b hb=>dR0 hO (by
   have:(xl.length+1) * b<=1099511627778 * 64:=Nat.mul_le_mul (by rw[hxl,List.length_map];omega) hb
   simp only[List.length_cons,List.length_nil,Nat.zero_add] at this |-;omega) (by rw[hxl,List.length_map];simp only[List.length_cons,List.length_nil];omega)
  revert hK K;refine qW 1 ?_;intro K hK;simp only[happ];refine ndC (alO hO (by simp)) (ndC (haok _ (by decide)) (ndN ?_))
  revert hK K;refine qW 1 ?_;intro K hK;exact ⟨s.size - j',by omega,j',d2,bad,xs++[x],xl',by cbv,hxl',by omega,q3,by simp only[List.length_append,List.length_cons,List.length_nil];omega,q4,fun h=>by have:=q5 h;omega,fun y hy=>by
   rcases List.mem_append.1 hy with hy | hy
   ·exact g6 y hy
   ·obtain rfl:=List.mem_singleton.1 hy;exact q1,gC0 g7 hdr q6,rfl⟩
def inv24 (s:ByteArray) (i e:Nat) (z:ByteArray) (N:Nat) (σ:AS):Prop:=
 ∃(j:Nat) (bad:Bool) (xs:List Rx) (xl:List (List T)),σ=⟨vag 44 [(0,⟨.one,[.ptr 0 0]⟩),(2,⟨.one,[.ptr 1 0]⟩),(3,⟨.one,[.ow (0,0) false 3 xl]⟩)],[rdI s j (Int.ofNat e) bad,some [.lit (.int .i64 0),.lit (.string z),.nil]],1⟩/\
  xl=xs.map Rx.t/\i<=j/\j<=s.size+1/\xs.length+i<=j+1/\(bad=false->j<=s.size/\(xs≠[]->i < j)/\xs.length+i<=j)/\(∀x∈xs,x.Wf)/\(e<=9->CatI (9 - e) ((toL s).drop i) xs bad ((toL s).drop j))/\
  N=(s.size+1 - j)+(if bad=true then 0 else 1)
theorem MT0 (L:Nat) (hI:ReadI 207 mItem 9 L):ReadI 179 mCat 9 L:=by
 refine ReadI.of fun s i e hs hi hL he=>?_;have hItem:=fun (j:Nat) (h1:i<=j) (h2:j<=s.size)=>hI.opened s j e hs h2 (by omega) he
 clear hI;refine qF tyK Tryz.func179 44 [.cell 2 138] ?_;unhygienic intros
 have hnt:bnot true=false:=by cases hO;rfl
 have hnf:bnot false=true:=by cases hO;rfl
 revert hK K;refine qW 1 ?_;intro K hK;refine qL 2 [0,2,3] (fun r _=>if r=.slot 3 then some 3 else none) (inv24 s i e ⟨⟨[]⟩⟩) ?_ ?_
 ·cbv
  exact ⟨_,i,false,[],[],by cbv,rfl,Nat.le_refl _,by omega,by simp,fun _=>⟨hi,by simp,by simp⟩,by simp,fun _=>FR0,rfl⟩
 rintro m σ ⟨j,bad,xs,xl,rfl,hxl,g1,g2,g3,g5,g6,g7,rfl⟩;cases bad
 ·obtain ⟨ci,hci⟩:=qX (Int.ofNat (zN0 s j).toNat)
  have hk:∀k:UInt8,ci=Int.ofNat k.toNat↔zN0 s j=k:=fun k=>by rw[hci,uA0];exact ⟨fun h=>Int.ofNat.inj h,fun h=>by rw[h]⟩
  have h0:ci=0↔zN0 s j=0:=hk 0;have h124:ci=124↔zN0 s j=124:=hk 124;have h41:ci=41↔zN0 s j=41:=hk 41;have hcase:((toL s).drop j=[]/\zN0 s j=0)\/((toL s).drop j=zN0 s j::(toL s).drop (j+1)):=by
   unfold zN0;cases h2:(toL s)[j]? with
   | none=>exact .inl ⟨List.drop_eq_nil_of_le (List.getElem?_eq_none_iff.1 h2),rfl⟩
   | some c=>exact .inr (drop_cons h2)
  have hnext:ACl Tryz.prog 180 [⟨.one,[.ptr 0 0]⟩] [rdI s j (Int.ofNat e) false] (fun res bx=>res=litU ci/\bx=[rdI s j (Int.ofNat e) false]):=
   acI (hL0 s j (Int.ofNat e) false) fun res bx ⟨b,h1,h2,h3⟩=>⟨by rw[h2,h1,hci],h3⟩
  clear hk hci;revert hK K;refine qW 1 ?_;intro K hK;simp only[hnf];revert hK K;refine qW 1 ?_;intro K hK;refine qg (nN [0]) ?_;refine qC ?_;refine qD hP hnext ?_;rintro res bx ⟨rfl,rfl⟩;refine qC ?_;refine GFork.mk (fun h5=>?_) (fun h5=>?_)<;>cbv
  ·have n0:ci≠0:=qv5
   have m0:zN0 s j≠0:=fun h=>n0 (h0.2 h);have hdr:=hcase.resolve_left fun h=>m0 h.2;clear h5 hcase h0 n0;revert hK K;refine qW 1 ?_;intro K hK;refine qg (nN [0]) ?_;refine qC ?_;refine qD hP hnext ?_;rintro res bx ⟨rfl,rfl⟩;refine qC ?_;refine GFork.mk (fun h5=>?_) (fun h5=>?_)<;>cbv
   ·have n124:ci≠124:=qv5
    have m124:zN0 s j≠124:=fun h=>n124 (h124.2 h);clear h5 h124 n124;revert hK K;refine qW 1 ?_;intro K hK;refine qg (nN [0]) ?_;refine qC ?_;refine qD hP hnext ?_;rintro res bx ⟨rfl,rfl⟩;refine qC ?_;revert hK K;refine qW 1 ?_;intro K hK;refine nC rfl (fun h5=>?_) (fun h5=>?_)
    ·have n41:ci≠41:=qv5
     have m41:zN0 s j≠41:=fun h=>n41 (h41.2 h);clear h5 h41 n41 hnext;obtain ⟨g8,g9,g10⟩:=g5 rfl;revert hK K;refine qW 1 ?_;intro K hK;refine qg (nN [0]) ?_;refine qC ?_;refine qD hP (hItem j g1 g8) ?_;rintro res bx ⟨x,k,sx,xl0,j',bad,qt,q1,q2,q3,q4,q5,rfl,rfl⟩;refine qC ?_;obtain ⟨xl',hxl'⟩:=qX ((xs++[x]).map Rx.t);have happ:app xl [[T.lit (.int .i64 k),T.lit (.string sx),T.sl xl0]]=xl':=by rw[hxl'];exact VK0 hO hxl x qt
     have haok:∀b,b<=64->aOk b xl [[T.lit (.int .i64 k),T.lit (.string sx),T.sl xl0]]:=fun b hb=>dR0 hO (by
      have:(xl.length+1) * b<=1099511627778 * 64:=Nat.mul_le_mul (by rw[hxl,List.length_map];omega) hb
      simp only[List.length_cons,List.length_nil,Nat.zero_add] at this |-;omega) (by rw[hxl,List.length_map];simp only[List.length_cons,List.length_nil];omega)
     have hnew:=fun he=>WD0 (g7 he) hdr m124 m41 (q5 he);have hmeas:(s.size+1 - j')+(if bad=true then 0 else 1) < (s.size+1 - j)+1:=by
      cases bad
      ·have:=(q4 rfl).1;have:=(q4 rfl).2;simp only[Bool.false_eq_true,if_false];omega
      ·simp only[if_true];omega
     revert hK K;refine qW 1 ?_;intro K hK;simp only[happ];refine ndC (alO hO (by simp)) (ndC (haok _ (by decide)) (ndN ?_))
     revert hK K;refine qW 1 ?_;intro K hK;exact ⟨_,hmeas,j',bad,xs++[x],xl',by cbv,hxl',by omega,q3,by simp only[List.length_append,List.length_cons,List.length_nil];omega,fun h=>by have:=q4 h;refine ⟨this.2,fun _=>by omega,?_⟩;simp only[List.length_append,List.length_cons,List.length_nil];omega,fun y hy=>by
      rcases List.mem_append.1 hy with hy | hy
      ·exact g6 y hy
      ·obtain rfl:=List.mem_singleton.1 hy;exact q1,hnew,rfl⟩
    ·have y41:ci=41:=qv5
     have hend:false=true\/(toL s).drop j=[]\/∃c r,(toL s).drop j=c::r/\(c=124\/c=41\/c=0):=.inr (.inr ⟨_,_,hdr,.inr (.inl (h41.1 y41))⟩);clear h5 h41;obtain ⟨n,hn⟩:=qX xs.length;have hln:len xl=n:=lnO hO (by simp[hxl,hn])
     revert hK K;refine qW 1 ?_;intro K hK;simp only[hln];refine nC rfl (fun h5=>?_) (fun h5=>?_)
     ·have h6:n=0:=qv5
      obtain rfl:=List.length_eq_zero_iff.1 (hn.symm.trans h6);revert hK K;refine qW 1 ?_;intro K hK
      try cbv
      exact hR _ _ ⟨.mk 0 e0 [],j,true,⟨zL0 (by decide),g1,g2,fun h=>by simp at h,fun he=>kK0 (g7 he) hend⟩,by rw[zE0];rfl,rfl⟩
     have h7:n≠0:=qv5;have hxne:xs≠[]:=fun h=>h7 (by rw[hn,h];rfl)
     clear h5;have hfin:=fun he=>vP0 (g7 he) hend;have hgo:false=false->i < j/\j<=s.size:=fun h=>⟨(g5 h).2.1 hxne,(g5 h).1⟩;revert hK K;refine qW 1 ?_;intro K hK;refine nC rfl (fun h5=>?_) (fun h5=>?_)
     ·have h6:n=1:=qw5
      obtain ⟨x,rfl⟩:∃x,xs=[x]:=List.length_eq_one_iff.1 (hn.symm.trans h6);obtain ⟨x',hx1,hx2,hx3,e1⟩:=mpA hO hxl (i:=0) (by simp)
      obtain rfl:x=x':=by simpa using hx2
      have hidx:idx 0 (len xl):=by rw[hln,h6];exact ixN hO (i:=0) (n:=1) (by omega)
      have hidx':idx (Int.ofNat (nadd 0 (nat 0))) (len xl):=by cases hO;exact hidx
      have ha:all xl 3:=alO hO (by subst hxl;simp[Rx.t_len])
      have e2:get xl (nadd 0 (nat 0))=x.t:=by cases hO;exact e1
      have hwx:=g6 x List.mem_cons_self;rw[yG0] at hfin;obtain ⟨k,sx,l⟩:=x;rw[Rx.t_mk] at e2;generalize hxl':l.map Rx.t=xl' at e2;revert hK K;refine qW 1 ?_;intro K hK
      repeat (simp only[e2];cbv)
      repeat' (with_reducible first | refine ndC hidx ?_ | refine ndC hidx' ?_ | refine ndC ha ?_ | refine ndC True.intro ?_ | apply ndN)
      revert hK K;refine qW 1 ?_;intro K hK
      try cbv
      exact hR _ _ ⟨.mk k sx l,j,false,⟨hwx,g1,g2,hgo,hfin⟩,by rw[Rx.t_mk,hxl'];rfl,rfl⟩
     ·have h6':n≠1:=qw5
      have h6:xs.length≠1:=hn ▸ h6';have hw:=wG0 (k:=4) (xs:=xs) (by omega) g6
      rw[zV0 h6] at hfin hw;revert hK K;refine qW 1 ?_;intro K hK
      try cbv
      exact hR _ _ ⟨.mk 4 e0 xs,j,false,⟨hw,g1,g2,hgo,hfin⟩,by rw[Rx.t_mk,<-hxl];rfl,rfl⟩
   ·have y124:ci=124:=qv5
    have hend:false=true\/(toL s).drop j=[]\/∃c r,(toL s).drop j=c::r/\(c=124\/c=41\/c=0):=.inr (.inr ⟨_,_,hdr,.inl (h124.1 y124)⟩);clear h5 h124;obtain ⟨n,hn⟩:=qX xs.length;have hln:len xl=n:=lnO hO (by simp[hxl,hn])
    revert hK K;refine qW 1 ?_;intro K hK;simp only[hln];refine nC rfl (fun h5=>?_) (fun h5=>?_)
    ·have h6:n=0:=qv5
     obtain rfl:=List.length_eq_zero_iff.1 (hn.symm.trans h6);revert hK K;refine qW 1 ?_;intro K hK
     try cbv
     exact hR _ _ ⟨.mk 0 e0 [],j,true,⟨zL0 (by decide),g1,g2,fun h=>by simp at h,fun he=>kK0 (g7 he) hend⟩,by rw[zE0];rfl,rfl⟩
    have h7:n≠0:=qv5;have hxne:xs≠[]:=fun h=>h7 (by rw[hn,h];rfl)
    clear h5;have hfin:=fun he=>vP0 (g7 he) hend;have hgo:false=false->i < j/\j<=s.size:=fun h=>⟨(g5 h).2.1 hxne,(g5 h).1⟩;revert hK K;refine qW 1 ?_;intro K hK;refine nC rfl (fun h5=>?_) (fun h5=>?_)
    ·have h6:n=1:=qw5
     obtain ⟨x,rfl⟩:∃x,xs=[x]:=List.length_eq_one_iff.1 (hn.symm.trans h6);obtain ⟨x',hx1,hx2,hx3,e1⟩:=mpA hO hxl (i:=0) (by simp)
     obtain rfl:x=x':=by simpa using hx2
     have hidx:idx 0 (len xl):=by rw[hln,h6];exact ixN hO (i:=0) (n:=1) (by omega)
     have hidx':idx (Int.ofNat (nadd 0 (nat 0))) (len xl):=by cases hO;exact hidx
     have ha:all xl 3:=alO hO (by subst hxl;simp[Rx.t_len])
     have e2:get xl (nadd 0 (nat 0))=x.t:=by cases hO;exact e1
     have hwx:=g6 x List.mem_cons_self;rw[yG0] at hfin;obtain ⟨k,sx,l⟩:=x;rw[Rx.t_mk] at e2;generalize hxl':l.map Rx.t=xl' at e2;revert hK K;refine qW 1 ?_;intro K hK
     repeat (simp only[e2];cbv)
     repeat' (with_reducible first | refine ndC hidx ?_ | refine ndC hidx' ?_ | refine ndC ha ?_ | refine ndC True.intro ?_ | apply ndN)
     revert hK K;refine qW 1 ?_;intro K hK
     try cbv
     exact hR _ _ ⟨.mk k sx l,j,false,⟨hwx,g1,g2,hgo,hfin⟩,by rw[Rx.t_mk,hxl'];rfl,rfl⟩
    ·have h6':n≠1:=qw5
     have h6:xs.length≠1:=hn ▸ h6';have hw:=wG0 (k:=4) (xs:=xs) (by omega) g6
     rw[zV0 h6] at hfin hw;revert hK K;refine qW 1 ?_;intro K hK
     try cbv
     exact hR _ _ ⟨.mk 4 e0 xs,j,false,⟨hw,g1,g2,hgo,hfin⟩,by rw[Rx.t_mk,<-hxl];rfl,rfl⟩
  ·have y0:ci=0:=qv5
   have hend:false=true\/(toL s).drop j=[]\/∃c r,(toL s).drop j=c::r/\(c=124\/c=41\/c=0):=by
    rcases hcase with h | h
    ·exact .inr (.inl h.1)
    ·exact .inr (.inr ⟨_,_,h,.inr (.inr (h0.1 y0))⟩)
   clear h5 h0 hcase;obtain ⟨n,hn⟩:=qX xs.length;have hln:len xl=n:=lnO hO (by simp[hxl,hn])
   revert hK K;refine qW 1 ?_;intro K hK;simp only[hln];refine nC rfl (fun h5=>?_) (fun h5=>?_)
   ·have h6:n=0:=qv5
    obtain rfl:=List.length_eq_zero_iff.1 (hn.symm.trans h6);revert hK K;refine qW 1 ?_;intro K hK
    try cbv
    exact hR _ _ ⟨.mk 0 e0 [],j,true,⟨zL0 (by decide),g1,g2,fun h=>by simp at h,fun he=>kK0 (g7 he) hend⟩,by rw[zE0];rfl,rfl⟩
   have h7:n≠0:=qv5;have hxne:xs≠[]:=fun h=>h7 (by rw[hn,h];rfl)
   clear h5;have hfin:=fun he=>vP0 (g7 he) hend;have hgo:false=false->i < j/\j<=s.size:=fun h=>⟨(g5 h).2.1 hxne,(g5 h).1⟩;revert hK K;refine qW 1 ?_;intro K hK;refine nC rfl (fun h5=>?_) (fun h5=>?_)
   ·have h6:n=1:=qw5
    obtain ⟨x,rfl⟩:∃x,xs=[x]:=List.length_eq_one_iff.1 (hn.symm.trans h6);obtain ⟨x',hx1,hx2,hx3,e1⟩:=mpA hO hxl (i:=0) (by simp)
    obtain rfl:x=x':=by simpa using hx2
    have hidx:idx 0 (len xl):=by rw[hln,h6];exact ixN hO (i:=0) (n:=1) (by omega)
    have hidx':idx (Int.ofNat (nadd 0 (nat 0))) (len xl):=by cases hO;exact hidx
    have ha:all xl 3:=alO hO (by subst hxl;simp[Rx.t_len])
    have e2:get xl (nadd 0 (nat 0))=x.t:=by cases hO;exact e1
    have hwx:=g6 x List.mem_cons_self;rw[yG0] at hfin;obtain ⟨k,sx,l⟩:=x;rw[Rx.t_mk] at e2;generalize hxl':l.map Rx.t=xl' at e2;revert hK K;refine qW 1 ?_;intro K hK
    repeat (simp only[e2];cbv)
    repeat' (with_reducible first | refine ndC hidx ?_ | refine ndC hidx' ?_ | refine ndC ha ?_ | refine ndC True.intro ?_ | apply ndN)
    revert hK K;refine qW 1 ?_;intro K hK
    try cbv
    exact hR _ _ ⟨.mk k sx l,j,false,⟨hwx,g1,g2,hgo,hfin⟩,by rw[Rx.t_mk,hxl'];rfl,rfl⟩
   ·have h6':n≠1:=qw5
    have h6:xs.length≠1:=hn ▸ h6';have hw:=wG0 (k:=4) (xs:=xs) (by omega) g6
    rw[zV0 h6] at hfin hw;revert hK K;refine qW 1 ?_;intro K hK
    try cbv
    exact hR _ _ ⟨.mk 4 e0 xs,j,false,⟨hw,g1,g2,hgo,hfin⟩,by rw[Rx.t_mk,<-hxl];rfl,rfl⟩
 ·have hend:true=true\/(toL s).drop j=[]\/∃c r,(toL s).drop j=c::r/\(c=124\/c=41\/c=0):=.inl rfl
  revert hK K;refine qW 1 ?_;intro K hK;simp only[hnt];obtain ⟨n,hn⟩:=qX xs.length;have hln:len xl=n:=lnO hO (by simp[hxl,hn])
  revert hK K;refine qW 1 ?_;intro K hK;simp only[hln];refine nC rfl (fun h5=>?_) (fun h5=>?_)
  ·have h6:n=0:=qv5
   obtain rfl:=List.length_eq_zero_iff.1 (hn.symm.trans h6);revert hK K;refine qW 1 ?_;intro K hK
   try cbv
   exact hR _ _ ⟨.mk 0 e0 [],j,true,⟨zL0 (by decide),g1,g2,fun h=>by simp at h,fun he=>kK0 (g7 he) hend⟩,by rw[zE0];rfl,rfl⟩
  have h7:n≠0:=qv5;have hxne:xs≠[]:=fun h=>h7 (by rw[hn,h];rfl)
  clear h5;have hfin:=fun he=>vP0 (g7 he) hend;have hgo:true=false->i < j/\j<=s.size:=fun h=>⟨(g5 h).2.1 hxne,(g5 h).1⟩;revert hK K;refine qW 1 ?_;intro K hK;refine nC rfl (fun h5=>?_) (fun h5=>?_)
  ·have h6:n=1:=qw5
   obtain ⟨x,rfl⟩:∃x,xs=[x]:=List.length_eq_one_iff.1 (hn.symm.trans h6);obtain ⟨x',hx1,hx2,hx3,e1⟩:=mpA hO hxl (i:=0) (by simp)
   obtain rfl:x=x':=by simpa using hx2
   have hidx:idx 0 (len xl):=by rw[hln,h6];exact ixN hO (i:=0) (n:=1) (by omega)
   have hidx':idx (Int.ofNat (nadd 0 (nat 0))) (len xl):=by cases hO;exact hidx
   have ha:all xl 3:=alO hO (by subst hxl;simp[Rx.t_len])
   have e2:get xl (nadd 0 (nat 0))=x.t:=by cases hO;exact e1
   have hwx:=g6 x List.mem_cons_self;rw[yG0] at hfin;obtain ⟨k,sx,l⟩:=x;rw[Rx.t_mk] at e2;generalize hxl':l.map Rx.t=xl' at e2;revert hK K;refine qW 1 ?_;intro K hK
   repeat (simp only[e2];cbv)
   repeat' (with_reducible first | refine ndC hidx ?_ | refine ndC hidx' ?_ | refine ndC ha ?_ | refine ndC True.intro ?_ | apply ndN)
   revert hK K;refine qW 1 ?_;intro K hK
   try cbv
   exact hR _ _ ⟨.mk k sx l,j,true,⟨hwx,g1,g2,hgo,hfin⟩,by rw[Rx.t_mk,hxl'];rfl,rfl⟩
  ·have h6':n≠1:=qw5
   have h6:xs.length≠1:=hn ▸ h6';have hw:=wG0 (k:=4) (xs:=xs) (by omega) g6
   rw[zV0 h6] at hfin hw;revert hK K;refine qW 1 ?_;intro K hK
   try cbv
   exact hR _ _ ⟨.mk 4 e0 xs,j,true,⟨hw,g1,g2,hgo,hfin⟩,by rw[Rx.t_mk,<-hxl];rfl,rfl⟩
end Go.Gv
