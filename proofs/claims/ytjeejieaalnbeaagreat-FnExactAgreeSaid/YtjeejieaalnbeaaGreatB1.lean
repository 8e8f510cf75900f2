/- Part B1 of the proof: contracts of functions of the program, each walked once. -/
import Derived.Test.YtjeejieaalnbeaaGreatT1
import Derived.Shelf.Small.Strs
import Derived.Test.YtjeejieaalnbeaaGreatQ1
import Derived.Shelf.Strings.OnBuilder
set_option linter.all false
namespace Go.Gv
open Go.Av Go.Proofs Go.Shelf Go.RowKit
set_option maxRecDepth 10000
abbrev litU (b:Int):AV:=⟨.one,[.lit (.int .u8 b)]⟩
theorem slots_one {E:Env} {v:Value} {avs:List AV} {us:List Value} {o:List Nat} (h:RpS E (⟨.one,[.lit v]⟩::avs) us o):∃us',us=v::us'/\RpS E avs us' o:=by
 obtain ⟨v1,us1,o1,o2,rfl,rfl,⟨g1,g2⟩,h1⟩:=h;rw[flat_one g1] at g2;obtain ⟨u,us,p1,p2,k1,rfl,⟨rfl,_,rfl⟩,⟨_,rfl⟩⟩:=g2;simp at k1;exact ⟨us1,by rw[k1.1],by simpa using h1⟩
theorem acalls_sb {P:Program} {f:FuncId} {s:ByteArray} {b:Int} {v:Value} (hv:isLit v=true) (h:∀w,Calls P f #[.string s,.int .u8 b] w fun e w'=>e=.returned v/\w'=w) :
  ACl P f [litS s,litU b] [] (fun res bx=>res=⟨.one,[.lit v]⟩/\bx=[]):=by
 intro w vals S L bl O1 O2 h1 h2 hn hsl hst;obtain ⟨us1,e1,h1⟩:=slots_one h1;obtain ⟨us2,e2,h1⟩:=slots_one h1;obtain ⟨e3,rfl⟩:us2=[]/\O1=[]:=h1;obtain ⟨rfl,rfl⟩:bl=[]/\O2=[]:=h2;subst e3;subst e2;have hv':vals=#[.string s,.int .u8 b]:=by apply Array.ext';simpa using e1
 subst hv';refine (h w).mono ?_;rintro e w' ⟨rfl,rfl⟩;refine ⟨v,rfl,_,_,S,[],[],[],⟨rfl,rfl⟩,⟨isLit_one hv,?_⟩,⟨rfl,rfl⟩,by simp,fun b hb=>⟨(hst b (hsl b hb)).1,by simp⟩,fun b hb=>hb,fun b hb=>.inl hb,Keeps.refl _ _,by simp,List.prefix_refl _⟩
 rw[flat_one (isLit_one hv)];exact ⟨v,[],[],[],rfl,rfl,⟨rfl,hv,rfl⟩,rfl,rfl⟩
def ibRen:Go.Shelf.Ren:=⟨fun n=>match n with | 137=>273 | 217=>281 | 266=>284 | n=>n,fun n=>n,fun n=>n⟩
set_option maxRecDepth 100000 in
theorem ibLays:Lays.n137 Tryz.prog ibRen:=by
 constructor
 all_goals first | rfl|(intro w;rfl)
theorem c_IndexByte (s:ByteArray) (b:Int):ACl Tryz.prog 273 [litS s,litU b] [] (fun res bx=>∃r,r=Lib.indexByte (toL s) b.toNat.toUInt8/\res=litI r/\bx=[]):=by
 refine acI (acalls_sb (v:=.int .i64 (Lib.indexByte (toL s) b.toNat.toUInt8)) rfl fun w=>Any.strings_IndexByte ibLays s b w) ?_;rintro res bx ⟨rfl,rfl⟩;exact ⟨_,rfl,rfl,rfl⟩
abbrev InOk (f:FuncId):Prop:=∀n lo hi:Int,ACl Tryz.prog f [litI n,litI lo,litI hi] [] (fun res bx=>∃b:Bool,(b=true↔lo<=n/\n<=hi)/\res=litB b/\bx=[])
theorem c_l1In:InOk 192:=by
 intro n lo hi;refine qF tyK Tryz.func192 15 [.tmp 6] ?_;unhygienic intros;refine qU ?_
 repeat' first|(revert hK K;refine qV0 ?_;intro K hK)|(refine GFork.mk (fun _=>qQ ?_) fun _=>qQ ?_)
 all_goals (refine hR _ _ ⟨_,?_,rfl,rfl⟩;clear hM hP hC hR;cases hO;simp only[Ops.std,sCm] at *;simp_all;try omega)
theorem c_within:InOk 90:=by
 intro n lo hi;refine qF tyK Tryz.func90 15 [.tmp 6] ?_;unhygienic intros;refine qU ?_
 repeat' first|(revert hK K;refine qV0 ?_;intro K hK)|(refine GFork.mk (fun _=>qQ ?_) fun _=>qQ ?_)
 all_goals (refine hR _ _ ⟨_,?_,rfl,rfl⟩;clear hM hP hC hR;cases hO;simp only[Ops.std,sCm] at *;simp_all;try omega)
abbrev ByteOk (f:FuncId) (p:UInt8->Bool):Prop:=∀(c:UInt8) (b:Int),b=Int.ofNat c.toNat->ACl Tryz.prog f [litU b] [] (fun res bx=>∃r,r=p c/\res=litB r/\bx=[])
def digitB (c:UInt8):Bool:=48<=c && c<=57
theorem u8_le (a c:UInt8):a<=c↔a.toNat<=c.toNat:=UInt8.le_iff_toNat_le
theorem u8_eq (a c:UInt8):a=c↔a.toNat=c.toNat:=UInt8.toNat_inj.symm
theorem c_l2Digit:ByteOk 191 digitB:=by
 intro c b hb;refine qF tyK Tryz.func191 6 [.tmp 2] ?_;unhygienic intros;have e0:wrap .i64 b=b:=by have:=c.toNat_lt;cases hO;exact i64_id (by simp only[Int.ofNat_eq_natCast] at hb;omega)
 revert hK K;refine qW0 ?_;intro K hK;simp only[e0];refine qG ?_;refine qD hP (c_l1In b 48 57) ?_;rintro res bx ⟨r,hr,rfl,rfl⟩;refine qC ?_;revert hK K;refine qW0 ?_;intro K hK;refine hR _ _ ⟨_,?_,rfl,rfl⟩;rw[Bool.eq_iff_iff,hr];simp only[digitB,Bool.and_eq_true,decide_eq_true_eq,u8_le,Int.ofNat_eq_natCast] at *;simp only[show (48:UInt8).toNat=48 from rfl,show (57:UInt8).toNat=57 from rfl]
 omega
theorem c_isDigit:ByteOk 237 digitB:=by
 intro c b hb;refine qF tyK Tryz.func237 9 [.tmp 2] ?_;unhygienic intros;refine qU ?_
 repeat' first|(revert hK K;refine qV0 ?_;intro K hK)|(refine GFork.mk (fun _=>qQ ?_) fun _=>qQ ?_)
 all_goals (refine hR _ _ ⟨_,?_,rfl,rfl⟩;clear hM hP hC hR;cases hO;simp only[Ops.std,sCm,digitB,u8_le,show (48:UInt8).toNat=48 from rfl,show (57:UInt8).toNat=57 from rfl,Int.ofNat_eq_natCast] at *;rw[Bool.eq_iff_iff];simp_all;try omega)
theorem digitB_iff {c:UInt8} {b:Int} (hb:b=Int.ofNat c.toNat):digitB c=true↔48<=b/\b<=57:=by
 simp only[digitB,Bool.and_eq_true,decide_eq_true_eq,u8_le,Int.ofNat_eq_natCast] at *;simp only[show (48:UInt8).toNat=48 from rfl,show (57:UInt8).toNat=57 from rfl]
 omega
theorem selfB_iff {c:UInt8} {b:Int} (hb:b=Int.ofNat c.toNat):selfB c=true↔(97<=b/\b<=122)\/(65<=b/\b<=90)\/(48<=b/\b<=57)\/b=32\/b=95\/b=45\/b=44\/b=58:=by
 simp only[selfB,Bool.or_eq_true,Bool.and_eq_true,decide_eq_true_eq,beq_iff_eq,u8_le,u8_eq,Int.ofNat_eq_natCast] at *;simp only[show (48:UInt8).toNat=48 from rfl,show (57:UInt8).toNat=57 from rfl,show (97:UInt8).toNat=97 from rfl,show (122:UInt8).toNat=122 from rfl,show (65:UInt8).toNat=65 from rfl,show (90:UInt8).toNat=90 from rfl,
  show (32:UInt8).toNat=32 from rfl,show (95:UInt8).toNat=95 from rfl,show (45:UInt8).toNat=45 from rfl,show (44:UInt8).toNat=44 from rfl,show (58:UInt8).toNat=58 from rfl]
 omega
theorem marks_iff {c:UInt8} {b:Int} (hb:b=Int.ofNat c.toNat):0<=Lib.indexByte [32,95,45,44,58] b.toNat.toUInt8↔b=32\/b=95\/b=45\/b=44\/b=58:=by
 have e:b.toNat.toUInt8=c:=by rw[hb];simp
 rw[e];have h:∀c:UInt8,0<=Lib.indexByte [32,95,45,44,58] c↔c=32\/c=95\/c=45\/c=44\/c=58:=by
  intro c;simp only[Lib.indexByte,beq_iff_eq]
  by_cases h1:32=c
  ·subst h1;decide
  by_cases h2:95=c
  ·subst h2;decide
  by_cases h3:45=c
  ·subst h3;decide
  by_cases h4:44=c
  ·subst h4;decide
  by_cases h5:58=c
  ·subst h5;decide
  simp only[h1,h2,h3,h4,h5,Ne.symm h1,Ne.symm h2,Ne.symm h3,Ne.symm h4,Ne.symm h5,if_false];simp
 rw[h];simp only[u8_eq,Int.ofNat_eq_natCast] at *;simp only[show (32:UInt8).toNat=32 from rfl,show (95:UInt8).toNat=95 from rfl,show (45:UInt8).toNat=45 from rfl,show (44:UInt8).toNat=44 from rfl,show (58:UInt8).toNat=58 from rfl]
 omega
theorem c_l3Byte:ByteOk 270 selfB:=by
 intro c b hb;have hs:=selfB_iff hb;have hd:=digitB_iff hb;refine qF tyK Tryz.func270 35 [.tmp 2] ?_;unhygienic intros;have e0:wrap .i64 b=b:=by have:=c.toNat_lt;cases hO;exact i64_id (by simp only[Int.ofNat_eq_natCast] at hb;omega)
 refine qU ?_
 repeat' first|(revert hK K;refine qV0 ?_;intro K hK)|(refine GFork.mk (fun _=>qQ ?_) fun _=>qQ ?_)|(refine qG ?_;refine qD hP (c_l1In _ _ _) ?_;rintro res bx ⟨r,hr,rfl,rfl⟩;refine qC ?_)|(refine qG ?_;refine qD hP (c_l2Digit c b hb) ?_;rintro res bx ⟨r,hr,rfl,rfl⟩;refine qC ?_)
 all_goals (refine hR _ _ ⟨_,?_,rfl,rfl⟩;clear hM hP hC hR hseg hb;cases hO;simp only[Ops.std,sCm] at *;rw[Bool.eq_iff_iff,hs];clear hs;simp_all;try omega)
theorem c_marks {c:UInt8} {b:Int} (hb:b=Int.ofNat c.toNat):ACl Tryz.prog 273 [litS ⟨#[32,95,45,44,58]⟩,litU b] [] (fun res bx=>∃r,(0<=r↔b=32\/b=95\/b=45\/b=44\/b=58)/\res=litI r/\bx=[]):=
 acI (c_IndexByte _ b) fun res bx ⟨r,hr,h1,h2⟩=>⟨r,by rw[hr];exact marks_iff hb,h1,h2⟩
theorem c_litByte:ByteOk 261 selfB:=by
 intro c b hb;have hs:=selfB_iff hb;have hd:=digitB_iff hb;refine qF tyK Tryz.func261 26 [.tmp 2] ?_;unhygienic intros;refine qU ?_
 repeat' first|(revert hK K;refine qV0 ?_;intro K hK)|(refine GFork.mk (fun _=>qQ ?_) fun _=>qQ ?_)|(refine qG ?_;refine qD hP (c_isDigit c b hb) ?_;rintro res bx ⟨r,hr,rfl,rfl⟩;refine qC ?_)|(refine qG ?_;refine qD hP (c_marks hb) ?_;rintro res bx ⟨r,hr,rfl,rfl⟩;refine qC ?_)
 all_goals (refine hR _ _ ⟨_,?_,rfl,rfl⟩;clear hM hP hC hR hseg hb;cases hO;simp only[Ops.std,sCm] at *;rw[Bool.eq_iff_iff,hs];clear hs;simp_all;try omega)
theorem c_l3Repeats (k:Int):ACl Tryz.prog 269 [litI k] [] (fun res bx=>∃r,r=loopK k/\res=litB r/\bx=[]):=by
 refine qF tyK Tryz.func269 13 [.tmp 2] ?_;unhygienic intros;refine qU ?_
 repeat' first|(revert hK K;refine qV0 ?_;intro K hK)|(refine GFork.mk (fun _=>qQ ?_) fun _=>qQ ?_)
 all_goals (refine hR _ _ ⟨_,?_,rfl,rfl⟩;clear hM hP hC hR hseg;cases hO;simp only[Ops.std,sCm,loopK] at *;rw[Bool.eq_iff_iff];simp_all;try omega)
theorem c_isLoop (x:Rx):ACl Tryz.prog 265 [agT x.t] [] (fun res bx=>∃r,r=loopK x.k/\res=litB r/\bx=[]):=by
 obtain ⟨k,s,l⟩:=x;simp only[agT,Rx.t_mk,List.map,tA,Rx.k];generalize l.map Rx.t=xl;refine qF tyK Tryz.func265 16 [.tmp 2] ?_;unhygienic intros;refine qU ?_
 repeat' first|(revert hK K;refine qV0 ?_;intro K hK)|(refine GFork.mk (fun _=>qQ ?_) fun _=>qQ ?_)
 all_goals (refine hR _ _ ⟨_,?_,rfl,rfl⟩;clear hM hP hC hR hseg;cases hO;simp only[Ops.std,sCm,loopK] at *;rw[Bool.eq_iff_iff];simp_all;try omega)
def okTo (l:Bs) (i:Nat):Prop:=∀j c,j < i->l[j]?=some c->selfB c=true/\∀d,0 < j->l[j - 1]?=some d->d < c
theorem okTo_zero (l:Bs):okTo l 0:=fun j c h=>by omega
theorem okTo_all (l:Bs):okTo l l.length↔l.all selfB=true/\rises l=true:=by
 induction l with
 | nil=>simp[okTo_zero,rises]
 | cons a l ih=>
  have key:okTo (a::l) (a::l).length↔selfB a=true/\(∀b,l[0]?=some b->a < b)/\okTo l l.length:=by
   constructor
   ·intro h
    refine ⟨(h 0 a (by simp) rfl).1,fun b hb=>(h 1 b (by cases l<;>simp at hb |-) (by simpa using hb)).2 a (by omega) rfl,fun j c hj hc=>?_⟩
    have:=h (j+1) c (by simpa using hj) (by simpa using hc)
    refine ⟨this.1,fun d hd hl=>this.2 d (by omega) ?_⟩
    obtain ⟨j,rfl⟩:∃i,j=i+1:=⟨j - 1,by omega⟩
    simpa using hl
   ·rintro ⟨h1,h2,h3⟩ j c hj hc
    cases j with
    | zero=>simp at hc;subst hc;exact ⟨h1,fun d hd=>by omega⟩
    | succ j=>
     have h4:=h3 j c (by simpa using hj) (by simpa using hc)
     refine ⟨h4.1,fun d _ hl=>?_⟩;cases j with
     | zero=>simp at hl;subst hl;exact h2 c (by simpa using hc)
     | succ j=>exact h4.2 d (by omega) (by simpa using hl)
  rw[key,ih];cases l with
  | nil=>simp[rises]
  | cons b l=>simp only[List.all_cons,rises,Bool.and_eq_true,decide_eq_true_eq];simp;constructor<;>(intro h;simp_all)
theorem setB_iff (s:ByteArray):setB (toL s)=true↔okTo (toL s) s.size/\1<=s.size/\s.size<=10:=by
 rw[<-toL_len,okTo_all];simp only[setB,Bool.and_eq_true,decide_eq_true_eq];simp only[and_assoc]
theorem okTo_succ {l:Bs} {i:Nat} {c:UInt8} (h:okTo l i) (hc:l[i]?=some c) (hs:selfB c=true) (hd:∀d,0 < i->l[i - 1]?=some d->d < c):okTo l (i+1):=by
 intro j c' hj hc'
 by_cases hji:j=i
 ·subst hji
  rw[hc] at hc';obtain rfl:=Option.some.inj hc';exact ⟨hs,hd⟩
 ·exact h j c' (by omega) hc'
theorem byte_at {O:Ops} (hO:O=Ops.std) {s:ByteArray} {i:Nat} (h:i < s.size):∃c,(toL s)[i]?=some c/\O.byte s (O.nat (Int.ofNat i))=Int.ofNat c.toNat:=by
 subst hO;have h':i < (toL s).length:=by rw[toL_len];exact h
 refine ⟨(toL s)[i],List.getElem?_eq_getElem h',?_⟩
 show ((byteAt s i).toNat:Int)=_
 have:byteAt s i=(toL s)[i]:=by
  unfold byteAt toL;rw[getElem?_pos s i h];simp
  rfl
 rw[this];rfl
def invSet (s:ByteArray) (N:Nat) (σ:AS):Prop:=
 ∃(i:Nat),σ=⟨vag 32 [(0,litS s),(3,litI (Int.ofNat i))],[],1⟩/\i<=s.size/\okTo (toL s) i/\N=s.size - i
abbrev SetOk (f:FuncId):Prop:=∀s:ByteArray,s.size<=4611686018427387904->ACl Tryz.prog f [litS s] [] (fun res bx=>∃b,b=setB (toL s)/\res=litB b/\bx=[])
theorem c_l3Set:SetOk 271:=by
 intro s hs;have hset:=setB_iff s;refine qF tyK Tryz.func271 32 [.tmp 2] ?_;unhygienic intros;obtain ⟨N,hN⟩:=qX s.size;have hsz:size s=N:=by cases hO;exact hN.symm
 rw[<-hN] at hs;have hnt:bnot true=false:=by cases hO;rfl
 have hnf:bnot false=true:=by cases hO;rfl
 revert hK K;refine qW0 ?_;intro K hK;refine qL 0 [0,3] kk0 (invSet s) ?_ ?_
 ·cbv
  exact ⟨_,0,by cbv,by simp,okTo_zero _,rfl⟩
 rintro n σ ⟨i,rfl,g1,g2,rfl⟩;rw[<-hN] at g1 |-;revert hK K;refine qW0 ?_;intro K hK;simp only[hsz];refine nC rfl (fun h4=>?_) (fun h4=>?_)
 ·have hlt:i < N:=qv4
  obtain ⟨c,hc,e1⟩:∃c,(toL s)[i]?=some c/\byte s (nat (Int.ofNat i))=Int.ofNat c.toNat:=byte_at hO (hN ▸ hlt);have e:bin .add .i64 (Int.ofNat i) 1=_:=iSc hO (by omega)
  have hidx:idx (Int.ofNat i) (size s):=hsz ▸ ixN hO hlt;obtain ⟨b,hb⟩:=qX (Int.ofNat c.toNat);rw[<-hb] at e1;have hcall:=c_l3Byte c b hb;revert hK K;refine qW0 ?_;intro K hK
  try simp only[e1]
  refine ndC hidx (ndN ?_);revert hK K;refine qW0 ?_;intro K hK;refine qG ?_;refine qD hP hcall ?_;rintro res bx ⟨r,hr,rfl,rfl⟩;refine qC ?_;cases r
  ·revert hK K;refine qW0 ?_;intro K hK
   simp only[hnf];revert hK K;refine qW0 ?_;intro K hK;refine hR _ _ ⟨_,?_,rfl,rfl⟩;rw[Bool.eq_iff_iff,hset];refine ⟨fun h=>by simp at h,fun h=>absurd ((h.1 i c (by omega) hc).1) (by rw[<-hr];simp)⟩
  ·revert hK K;refine qW0 ?_;intro K hK
   simp only[hnt];revert hK K;refine qW0 ?_;intro K hK;refine GFork.mk (fun h5=>?_) (fun h5=>?_)<;>cbv
   ·have hpos:0 < i:=qv5
    obtain ⟨p,hp⟩:=qX (i - 1);have e2:bin .sub .i64 (Int.ofNat i) 1=Int.ofNat p:=by cases hO;exact (i64_id (x:=(i:Int) - 1) (by omega)).trans (by simp only[Int.ofNat_eq_natCast];omega)
    obtain ⟨d,hd,e3⟩:∃c,(toL s)[p]?=some c/\byte s (nat (Int.ofNat p))=Int.ofNat c.toNat:=byte_at hO (by omega)
    have hidx2:idx (Int.ofNat p) (size s):=hsz ▸ ixN hO (by omega)
    have hcd:cmp .geq (Int.ofNat d.toNat) b=true↔¬d < c:=by
     cases hO;simp only[Ops.std,sCm,decide_eq_true_eq,hb,UInt8.lt_iff_toNat_lt,Int.ofNat_eq_natCast];omega
    generalize Int.ofNat d.toNat=db at e3 hcd
    try simp only[e2,e1,e3]
    refine ndC hidx2 (ndC hidx (ndN ?_));revert hK K;refine qW0 ?_;intro K hK;refine nC rfl (fun h6=>?_) (fun h6=>?_)
    ·revert hK K;refine qW0 ?_;intro K hK
     refine hR _ _ ⟨_,?_,rfl,rfl⟩;rw[Bool.eq_iff_iff,hset];refine ⟨fun h=>by simp at h,fun h=>absurd ((h.1 i c (by omega) hc).2 d hpos (by rw[<-hp];exact hd)) (hcd.1 h6)⟩
    ·revert hK K;refine qW0 ?_;intro K hK
     rw[e];refine ⟨N - (i+1),by omega,i+1,by cbv,by omega,okTo_succ g2 hc hr.symm fun d' _ hd'=>?_,by rw[hN]⟩
     rw[<-hp,hd] at hd';obtain rfl:=Option.some.inj hd';exact Classical.byContradiction fun hh=>by rw[hcd.2 hh] at h6;simp at h6
   ·have hpos:i=0:=qw5
    revert hK K;refine qW0 ?_;intro K hK;rw[e];exact ⟨N - (i+1),by omega,i+1,by cbv,by omega,okTo_succ g2 hc hr.symm fun d' h0 _=>by omega,by rw[hN]⟩
 ·have hge:i=N:=qw4
  subst hge;revert hK K;refine qW0 ?_;intro K hK;simp only[hsz];refine qG ?_;refine qD hP (c_l1In (Int.ofNat i) 1 10) ?_;rintro res bx ⟨r,hr,rfl,rfl⟩;refine qC ?_;revert hK K;refine qW0 ?_;intro K hK;refine hR _ _ ⟨_,?_,rfl,rfl⟩;rw[Bool.eq_iff_iff,hset,hr,<-hN];simp only[Int.ofNat_eq_natCast];exact ⟨fun h=>⟨g2,by omega,by omega⟩,fun h=>by omega⟩
theorem c_setOk:SetOk 262:=by
 intro s hs;have hset:=setB_iff s;refine qF tyK Tryz.func262 32 [.tmp 2] ?_;unhygienic intros;obtain ⟨N,hN⟩:=qX s.size;have hsz:size s=N:=by cases hO;exact hN.symm
 rw[<-hN] at hs;have hnt:bnot true=false:=by cases hO;rfl
 have hnf:bnot false=true:=by cases hO;rfl
 revert hK K;refine qW0 ?_;intro K hK;refine qL 0 [0,3] kk0 (invSet s) ?_ ?_
 ·cbv
  exact ⟨_,0,by cbv,by simp,okTo_zero _,rfl⟩
 rintro n σ ⟨i,rfl,g1,g2,rfl⟩;rw[<-hN] at g1 |-;revert hK K;refine qW0 ?_;intro K hK;simp only[hsz];refine nC rfl (fun h4=>?_) (fun h4=>?_)
 ·have hlt:i < N:=qv4
  obtain ⟨c,hc,e1⟩:∃c,(toL s)[i]?=some c/\byte s (nat (Int.ofNat i))=Int.ofNat c.toNat:=byte_at hO (hN ▸ hlt);have e:bin .add .i64 (Int.ofNat i) 1=_:=iSc hO (by omega)
  have hidx:idx (Int.ofNat i) (size s):=hsz ▸ ixN hO hlt;obtain ⟨b,hb⟩:=qX (Int.ofNat c.toNat);rw[<-hb] at e1;have hcall:=c_litByte c b hb;revert hK K;refine qW0 ?_;intro K hK
  try simp only[e1]
  refine ndC hidx (ndN ?_);revert hK K;refine qW0 ?_;intro K hK;refine qG ?_;refine qD hP hcall ?_;rintro res bx ⟨r,hr,rfl,rfl⟩;refine qC ?_;cases r
  ·revert hK K;refine qW0 ?_;intro K hK
   simp only[hnf];revert hK K;refine qW0 ?_;intro K hK;refine hR _ _ ⟨_,?_,rfl,rfl⟩;rw[Bool.eq_iff_iff,hset];refine ⟨fun h=>by simp at h,fun h=>absurd ((h.1 i c (by omega) hc).1) (by rw[<-hr];simp)⟩
  ·revert hK K;refine qW0 ?_;intro K hK
   simp only[hnt];revert hK K;refine qW0 ?_;intro K hK;refine GFork.mk (fun h5=>?_) (fun h5=>?_)<;>cbv
   ·have hpos:0 < i:=qv5
    obtain ⟨p,hp⟩:=qX (i - 1);have e2:bin .sub .i64 (Int.ofNat i) 1=Int.ofNat p:=by cases hO;exact (i64_id (x:=(i:Int) - 1) (by omega)).trans (by simp only[Int.ofNat_eq_natCast];omega)
    obtain ⟨d,hd,e3⟩:∃c,(toL s)[p]?=some c/\byte s (nat (Int.ofNat p))=Int.ofNat c.toNat:=byte_at hO (by omega)
    have hidx2:idx (Int.ofNat p) (size s):=hsz ▸ ixN hO (by omega)
    have hcd:cmp .geq (Int.ofNat d.toNat) b=true↔¬d < c:=by
     cases hO;simp only[Ops.std,sCm,decide_eq_true_eq,hb,UInt8.lt_iff_toNat_lt,Int.ofNat_eq_natCast];omega
    generalize Int.ofNat d.toNat=db at e3 hcd
    try simp only[e2,e1,e3]
    refine ndC hidx2 (ndC hidx (ndN ?_));revert hK K;refine qW0 ?_;intro K hK;refine nC rfl (fun h6=>?_) (fun h6=>?_)
    ·revert hK K;refine qW0 ?_;intro K hK
     refine hR _ _ ⟨_,?_,rfl,rfl⟩;rw[Bool.eq_iff_iff,hset];refine ⟨fun h=>by simp at h,fun h=>absurd ((h.1 i c (by omega) hc).2 d hpos (by rw[<-hp];exact hd)) (hcd.1 h6)⟩
    ·revert hK K;refine qW0 ?_;intro K hK
     rw[e];refine ⟨N - (i+1),by omega,i+1,by cbv,by omega,okTo_succ g2 hc hr.symm fun d' _ hd'=>?_,by rw[hN]⟩
     rw[<-hp,hd] at hd';obtain rfl:=Option.some.inj hd';exact Classical.byContradiction fun hh=>by rw[hcd.2 hh] at h6;simp at h6
   ·have hpos:i=0:=qw5
    revert hK K;refine qW0 ?_;intro K hK;rw[e];exact ⟨N - (i+1),by omega,i+1,by cbv,by omega,okTo_succ g2 hc hr.symm fun d' h0 _=>by omega,by rw[hN]⟩
 ·have hge:i=N:=qw4
  subst hge;revert hK K;refine qW0 ?_;intro K hK;simp only[hsz];refine qG ?_;refine qD hP (c_within (Int.ofNat i) 1 10) ?_;rintro res bx ⟨r,hr,rfl,rfl⟩;refine qC ?_;revert hK K;refine qW0 ?_;intro K hK;refine hR _ _ ⟨_,?_,rfl,rfl⟩;rw[Bool.eq_iff_iff,hset,hr,<-hN];simp only[Int.ofNat_eq_natCast];exact ⟨fun h=>⟨g2,by omega,by omega⟩,fun h=>by omega⟩
abbrev rdS (s:ByteArray) (i:Nat) (b:Bool) (d:Int):Option (List A):=some [.lit (.string s),.lit (.int .i64 (Int.ofNat i)),.lit (.bool b),.lit (.int .i64 d)]
theorem c_l3Bad (s:ByteArray) (a d:Int) (b:Bool):ACl Tryz.prog 279 [⟨.one,[.ptr 0 0]⟩] [some [.lit (.string s),.lit (.int .i64 a),.lit (.bool b),.lit (.int .i64 d)]]
  (fun res bx=>res=⟨.agg,[.lit (.int .i64 0),.lit (.string ⟨⟨[]⟩⟩),.nil]⟩/\bx=[some [.lit (.string s),.lit (.int .i64 a),.lit (.bool true),.lit (.int .i64 d)]]):=by
 refine qF tyK Tryz.func279 7 [.cell 2 331] ?_;unhygienic intros;revert hK K;refine qW1 ?_;intro K hK;exact hR _ _ ⟨rfl,rfl⟩
theorem c_l3Is (s:ByteArray) (hs:s.size<=4611686018427387904) (i:Nat) (hi:i<=s.size) (bad:Bool) (d b0:Int):ACl Tryz.prog 248 [⟨.one,[.ptr 0 0]⟩,litU b0] [rdS s i bad d]
  (fun res bx=>∃(r:Bool) (j:Nat),(r=true↔bad=false/\∃c,(toL s)[i]?=some c/\Int.ofNat c.toNat=b0)/\(r=true->j=i+1)/\(r=false->j=i)/\res=litB r/\bx=[rdS s j bad d]):=by
 refine qF tyK Tryz.func248 41 [.tmp 4] ?_;unhygienic intros;obtain ⟨N,hN⟩:=qX s.size;have hsz:size s=N:=by cases hO;exact hN.symm
 have e:bin .add .i64 (Int.ofNat i) 1=_:=iSc hO (by omega)
 rw[<-hN] at hi hs;cases bad
 ·revert hK K;refine qW1 ?_;intro K hK
  simp only[hsz];refine GFork.mk (fun h1=>?_) (fun h1=>?_)<;>cbv
  ·have hge:N<=i:=qw1
   revert hK K;refine qW1 ?_;intro K hK;refine hR _ _ ⟨false,i,⟨fun h=>by simp at h,fun ⟨_,c,hc,_⟩=>?_⟩,fun h=>by simp at h,fun _=>rfl,rfl,rfl⟩
   have:=(List.getElem?_eq_some_iff.1 hc).1;rw[toL_len] at this;omega
  ·have hlt:i < N:=qw1
   obtain ⟨c,hc,e1⟩:∃c,(toL s)[i]?=some c/\byte s (nat (Int.ofNat i))=Int.ofNat c.toNat:=byte_at hO (hN ▸ hlt);have hidx:idx (Int.ofNat i) (size s):=hsz ▸ ixN hO hlt;have hiff:(∃c',(toL s)[i]?=some c'/\Int.ofNat c'.toNat=b0)↔Int.ofNat c.toNat=b0:=by
    rw[hc];exact ⟨fun ⟨c',h,h2⟩=>by obtain rfl:=Option.some.inj h;exact h2,fun h=>⟨c,rfl,h⟩⟩
   rw[hiff] at hR;generalize Int.ofNat c.toNat=ci at *;revert hK K;refine qW1 ?_;intro K hK;simp only[e1];refine ndC hidx (ndN ?_);revert hK K;refine qW1 ?_;intro K hK;refine nC rfl (fun h2=>?_) (fun h2=>?_)
   ·have hne:ci≠b0:=qv2
    revert hK K;refine qW1 ?_;intro K hK;exact hR _ _ ⟨false,i,⟨fun h=>by simp at h,fun h=>absurd h.2 hne⟩,fun h=>by simp at h,fun _=>rfl,rfl,rfl⟩
   ·have hne:ci=b0:=qv2
    revert hK K;refine qW1 ?_;intro K hK;simp only[e];revert hK K;refine qW1 ?_;intro K hK;exact hR _ _ ⟨true,i+1,⟨fun _=>⟨rfl,hne⟩,fun _=>rfl⟩,fun _=>rfl,fun h=>by simp at h,rfl,rfl⟩
 ·revert hK K;refine qW1 ?_;intro K hK
  exact hR _ _ ⟨false,i,⟨fun h=>by simp at h,fun h=>by simp at h⟩,fun h=>by simp at h,fun _=>rfl,rfl,rfl⟩
set_option maxRecDepth 100000
set_option maxHeartbeats 4000000
def joinRen:Go.Shelf.Ren:=⟨fun n=>match n with | 156=>266 | 165=>275 | 166=>276 | 169=>277 | 240=>282 | 241=>283 | 276=>285 | 277=>286 | n=>n,
 fun n=>match n with | 31=>30 | 37=>33 | 70=>354 | 72=>356 | 75=>359 | 76=>360 | 80=>362 | 127=>363 | 164=>364 | n=>n,fun n=>n⟩
theorem joinLays:Lays.n156 Tryz.prog joinRen:=by
 constructor
 all_goals first | rfl|(intro w;rfl)
theorem joinX:Builder.Extra Tryz.prog joinRen where
 sizeBuilder:=rfl
 liesBuilder:=by kernel_rfl
 t5:=rfl
 a5:=fun _=>rfl
 z5:=fun _=>rfl
 v5:=fun _=>rfl
 infoByte:=rfl
 cellsByte:=by kernel_rfl
 sizeByte:=rfl
 neB5:=by decide
theorem strs_cells {S:Nat->Prop} {w:World} {b:Nat}:∀{l:List ByteArray} {o:Nat},RepSE S w b o (strs l)->∀j x,l[j]?=some x->w.cell? ⟨b,o+j,none⟩=some (.string x)
 | [],o,_,j,x,hj=>by simp at hj
 | y::l,o,h,j,x,hj=>by
  simp only[strs,List.map_cons,RepSE,RepSC,List.length_singleton] at h;obtain ⟨⟨⟨u,h1,h2⟩,_⟩,h3⟩:=h;cases j with
  | zero=>
   simp at hj;subst hj;simp only[RepS] at h2;rw[Nat.add_zero,h1,h2.1]
  | succ j=>
   simp at hj;have:=strs_cells h3 j x hj;rwa[show o+1+j=o+(j+1) by omega] at this
theorem Keeps.of_below {O:List Nat} {w w':World} (h:Below w.heap.size w w'):Av.Keeps O w w':=⟨h.os,h.tape,h.output,h.size,fun b hb _=>h.block b hb⟩
def joinS (sep:ByteArray) (l:List ByteArray):ByteArray:=⟨(Lib.join (l.map (·.data.toList)) sep.data.toList).toArray⟩
theorem c_Join (sep:ByteArray) (els:List (List T)) (fields:List ByteArray) (he:els=strs fields) (hl:fields.length<=1048576) (hF:(joinS sep fields).size<=1099511627776) :
  ACl Tryz.prog 266 [⟨.one,[.ro true els]⟩,litS sep] [] (fun res bx=>∃s,s=joinS sep fields/\res=litS s/\bx=[]):=by
 intro w vals S L bl O1 O2 h1 h2 hn hsl hst;obtain ⟨v1,us1,o1,o2,e1,rfl,⟨g1,g2⟩,h1⟩:=h1;obtain ⟨v2,us2,o3,o4,e2,rfl,⟨g3,g4⟩,h1⟩:=h1;obtain ⟨rfl,rfl⟩:=h1;obtain ⟨rfl,rfl⟩:=h2;rw[flat_one g1] at g2;rw[flat_one g3] at g4;obtain ⟨u,us,p1,p2,k1,rfl,⟨hr,rfl⟩,⟨_,rfl⟩⟩:=g2;obtain ⟨u',us',p3,p4,k2,rfl,⟨rfl,_,rfl⟩,⟨_,rfl⟩⟩:=g4;simp at k1 k2;obtain ⟨rfl,_⟩:=k1;obtain ⟨rfl,_⟩:=k2;subst e2;simp only[RepS] at hr
 obtain ⟨ad,cap,rfl,hcap,hne⟩:=hr;have hv:vals=#[.slice ad els.length cap,.string sep]:=by
  apply Array.ext';simpa using e1
 subst hv;have main:Calls Tryz.prog 266 #[.slice ad els.length cap,.string sep] w fun e w'=>e=.returned (.string (joinS sep fields))/\Below w.heap.size w w':=by
  by_cases h0:els=[]
  ·have hf0:fields=[]:=by
    cases fields with
    | nil=>rfl
    | cons a r=>rw[he] at h0;simp[strs] at h0
   subst h0;subst hf0;exact (Any.strings_Join_none joinLays joinX ad cap sep w).mono fun e w' ⟨he,hw⟩=>⟨he,hw ▸ Below.refl _ _⟩
  ·obtain ⟨b,o,rfl,hLb,hrep⟩:=hne h0
   subst he;have hcells:=strs_cells hrep;have hj:(Lib.join (fields.map (·.data.toList)) sep.data.toList).length<=140737488355328:=by
    have h2:(joinS sep fields).size=(Lib.join (fields.map (·.data.toList)) sep.data.toList).length:=by simp[joinS,ByteArray.size]
    omega
   rw[strs_len] at hcap |-;exact Any.strings_Join joinLays joinX b o cap fields sep w hcells (hst b (hsl b hLb)).1 (by omega) hcap hj
 refine Calls.mono main ?_;rintro e w' ⟨rfl,hbel⟩;refine ⟨_,rfl,litS (joinS sep fields),[],S,[],[],[],⟨_,rfl,rfl,rfl⟩,⟨⟨rfl,rfl⟩,_,[],[],[],rfl,rfl,⟨rfl,rfl,rfl⟩,rfl,rfl⟩,⟨rfl,rfl⟩,by simp,?_,fun _ h=>h,fun _ h=>.inl h,Gv.Keeps.of_below hbel,by simp,List.prefix_rfl⟩
 intro b hb;have:=hst b (hsl b hb);exact ⟨by have:=hbel.size;omega,by simp⟩
theorem ACl.nilLast {P:Program} {f:FuncId} {a:AV} {bx:List (Option (List A))} {R:AV->List (Option (List A))->Prop} (h:ACl P f [a,⟨.one,[.ro true []]⟩] bx R):ACl P f [a,⟨.one,[.nil]⟩] bx R:=by
 intro w vals S L bl O1 O2 h1;refine h w vals S L bl O1 O2 ?_;obtain ⟨v1,us1,o1,o2,e1,e2,g1,v2,us2,o3,o4,e3,e4,⟨g3,g4⟩,h5⟩:=h1;refine ⟨v1,us1,o1,o2,e1,e2,g1,v2,us2,o3,o4,e3,e4,⟨g3,?_⟩,h5⟩;obtain ⟨u,us',p1,p2,k1,k2,⟨⟨ad,rfl⟩,rfl⟩,k4⟩:=g4;exact ⟨_,us',[],p2,k1,k2,⟨by simp only[RepS];exact ⟨ad,0,rfl,Nat.le_refl _,fun hne=>absurd rfl hne⟩,rfl⟩,k4⟩
end Go.Gv
