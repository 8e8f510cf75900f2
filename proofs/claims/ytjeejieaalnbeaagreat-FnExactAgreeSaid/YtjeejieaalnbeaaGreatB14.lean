/- Part B14 of the proof: contracts of functions of the program, each walked once. -/
import Derived.Test.YtjeejieaalnbeaaGreatB1
import Derived.Test.YtjeejieaalnbeaaGreatQ1
import Derived.Test.YtjeejieaalnbeaaGreatR1
set_option linter.all false
namespace Go.Gv
open Go.Av Go.Proofs Go.Shelf Go.RowKit
set_option maxRecDepth 10000
abbrev rdI (s:ByteArray) (i:Nat) (d:Int) (b:Bool):Option (List A):=some [.lit (.string s),.lit (.int .i64 (Int.ofNat i)),.lit (.int .i64 d),.lit (.bool b)]
def byteOr (s:ByteArray) (i:Nat):UInt8:=((toL s)[i]?).getD 0
theorem c_next (s:ByteArray) (i:Nat) (d:Int) (bad:Bool):ACl Tryz.prog 252 [⟨.one,[.ptr 0 0]⟩] [rdI s i d bad]
  (fun res bx=>∃b,b=Int.ofNat (byteOr s i).toNat/\res=litU b/\bx=[rdI s i d bad]):=by
 refine qF tyK Tryz.func252 22 [.tmp 2] ?_;unhygienic intros;obtain ⟨N,hN⟩:=qX s.size;have hsz:size s=N:=by cases hO;exact hN.symm
 revert hK K;refine qW1 ?_;intro K hK;simp only[hsz];refine nC rfl (fun h1=>?_) (fun h1=>?_)
 ·have hge:N<=i:=qw1
  have h0:byteOr s i=0:=by unfold byteOr;rw[List.getElem?_eq_none (by rw[toL_len];omega)];rfl
  revert hK K;refine qW1 ?_;intro K hK;exact hR _ _ ⟨0,by rw[h0];rfl,rfl,rfl⟩
 ·have hlt:i < N:=qw1
  obtain ⟨c,hc,e1⟩:∃c,(toL s)[i]?=some c/\byte s (nat (Int.ofNat i))=Int.ofNat c.toNat:=byte_at hO (hN ▸ hlt);have hidx:idx (Int.ofNat i) (size s):=hsz ▸ ixN hO hlt;have h0:byteOr s i=c:=by unfold byteOr;rw[hc];rfl
  rw[h0] at hR;generalize Int.ofNat c.toNat=ci at *;revert hK K;refine qW1 ?_;intro K hK;simp only[e1];refine ndC hidx (ndN ?_);revert hK K;refine qW1 ?_;intro K hK;exact hR _ _ ⟨_,rfl,rfl,rfl⟩
set_option maxHeartbeats 4000000
theorem mItem_inv {n d:Nat} {l:Bs} {y:Rx} {rest:Bs} (h:mItem n d l=some (y,rest)):∃n' x r,mAtom n' d l=some (x,r)/\
  ((r=42::rest/\y=.mk 6 e0 [x])\/(r=43::rest/\y=.mk 7 e0 [x])\/(r=63::rest/\y=.mk 8 e0 [x])\/(y=x/\rest=r/\∀c r',r=c::r'->c≠42/\c≠43/\c≠63)):=by
 cases n with
 | zero=>rw[mItem] at h;simp at h
 | succ n=>
  rw[mItem] at h;cases ha:mAtom n d l with
  | none=>rw[ha] at h;simp at h
  | some p=>
   obtain ⟨x,r⟩:=p;refine ⟨n,x,r,ha,?_⟩;rw[ha] at h;cases r with
   | nil=>
    simp only[Option.some.injEq,Prod.mk.injEq] at h;exact .inr (.inr (.inr ⟨h.1.symm,h.2.symm,fun c r' hc=>by simp at hc⟩))
   | cons c r=>
    simp only at h
    split at h
    ·rename_i hc;simp only[Option.some.injEq,Prod.mk.injEq] at h;exact .inl ⟨by rw[hc,h.2],h.1.symm⟩
    split at h
    ·rename_i hc;simp only[Option.some.injEq,Prod.mk.injEq] at h;exact .inr (.inl ⟨by rw[hc,h.2],h.1.symm⟩)
    split at h
    ·rename_i hc;simp only[Option.some.injEq,Prod.mk.injEq] at h;exact .inr (.inr (.inl ⟨by rw[hc,h.2],h.1.symm⟩))
    rename_i h1 h2 h3;simp only[Option.some.injEq,Prod.mk.injEq] at h;exact .inr (.inr (.inr ⟨h.1.symm,h.2.symm,fun c' r' hc=>by simp only[List.cons.injEq] at hc;rw[<-hc.1];exact ⟨h1,h2,h3⟩⟩))
abbrev ReadOk (f:FuncId) (M:Nat->Nat->Bs->Option (Rx×Bs)) (L:Nat):Prop:=∀(s:ByteArray) (i d:Nat),s.size<=1099511627776->i<=s.size->s.size - i<=L->d<=8->
 ACl Tryz.prog f [⟨.one,[.ptr 0 0]⟩] [rdS s i false (Int.ofNat d)] (fun res bx=>∃(x:Rx) (j:Nat) (bad:Bool) (d':Nat),x.Wf/\i<=j/\j<=s.size/\(d<=d'/\d'<=9)/\(bad=false->d'=d/\i < j)/\
  (∀n y rest,M n (8 - d) ((toL s).drop i)=some (y,rest)->x=y/\bad=false/\rest=(toL s).drop j)/\res=agT x.t/\bx=[rdS s j bad (Int.ofNat d')])
theorem ReadOk.opened {f:FuncId} {M:Nat->Nat->Bs->Option (Rx×Bs)} {L:Nat} (h:ReadOk f M L) (s:ByteArray) (i d:Nat) (h1:s.size<=1099511627776) (h2:i<=s.size) (h3:s.size - i<=L) (h4:d<=8) :
  ACl Tryz.prog f [⟨.one,[.ptr 0 0]⟩] [rdS s i false (Int.ofNat d)] (fun res bx=>∃(x:Rx) (k:Int) (sx:ByteArray) (xl:List (List T)) (j:Nat) (bad:Bool) (d':Nat),x.t=[.lit (.int .i64 k),.lit (.string sx),.sl xl]/\x.Wf/\i<=j/\j<=s.size/\(d<=d'/\d'<=9)/\
   (bad=false->d'=d/\i < j)/\(∀n y rest,M n (8 - d) ((toL s).drop i)=some (y,rest)->x=y/\bad=false/\rest=(toL s).drop j)/\res=⟨.agg,[.lit (.int .i64 k),.lit (.string sx),.ro true xl]⟩/\bx=[rdS s j bad (Int.ofNat d')]):=by
 refine acI (h s i d h1 h2 h3 h4) ?_;rintro res bx ⟨x,j,bad,d',q1,q2,q3,q4,q5,q6,rfl,rfl⟩;obtain ⟨k,sx,l⟩:=x;exact ⟨.mk k sx l,k,sx,l.map Rx.t,j,bad,d',Rx.t_mk k sx l,q1,q2,q3,q4,q5,q6,by rw[agT,Rx.t_mk];rfl,rfl⟩
theorem drop_at {l:Bs} {j:Nat} {c:UInt8} {r:Bs} (h:l.drop j=c::r):l[j]?=some c/\r=l.drop (j+1):=by
 constructor
 ·have:=congrArg (·[0]?) h;simpa using this
 ·have:=congrArg List.tail h;simpa using this.symm
theorem rep_wf {k:Int} {x:Rx} (h:x.Wf):(Rx.mk k e0 [x]).Wf:=.mk (by decide) (by simp) (by simpa using h)
theorem rep_post {x:Rx} {bad:Bool} {j D:Nat} {l t:Bs} (q6:∀n y rest,mAtom n D l=some (y,rest)->x=y/\bad=false/\rest=t.drop j) {c:UInt8} (hc:t[j]?=some c) {k:Int} (hck:(c=42/\k=6)\/(c=43/\k=7)\/(c=63/\k=8)) :
  ∀n y rest,mItem n D l=some (y,rest)->Rx.mk k e0 [x]=y/\bad=false/\rest=t.drop (j+1):=by
 intro n y rest h;obtain ⟨n',x',r,ha,hcs⟩:=mItem_inv h;obtain ⟨rfl,hb,hr⟩:=q6 n' x' r ha;have key:∀c' r',r=c'::r'->c'=c/\r'=t.drop (j+1):=fun c' r' hcr=>by
  have:=drop_at (hr.symm.trans hcr);rw[hc] at this;exact ⟨(Option.some.inj this.1).symm,this.2⟩
 rcases hcs with ⟨h1,rfl⟩ | ⟨h1,rfl⟩ | ⟨h1,rfl⟩ | ⟨rfl,rfl,h1⟩
 ·obtain ⟨rfl,rfl⟩:=key _ _ h1
  rcases hck with ⟨_,rfl⟩ | ⟨h2,_⟩ | ⟨h2,_⟩
  ·exact ⟨rfl,hb,rfl⟩
  ·exact absurd h2 (by decide)
  ·exact absurd h2 (by decide)
 ·obtain ⟨rfl,rfl⟩:=key _ _ h1
  rcases hck with ⟨h2,_⟩ | ⟨_,rfl⟩ | ⟨h2,_⟩
  ·exact absurd h2 (by decide)
  ·exact ⟨rfl,hb,rfl⟩
  ·exact absurd h2 (by decide)
 ·obtain ⟨rfl,rfl⟩:=key _ _ h1
  rcases hck with ⟨h2,_⟩ | ⟨h2,_⟩ | ⟨_,rfl⟩
  ·exact absurd h2 (by decide)
  ·exact absurd h2 (by decide)
  ·exact ⟨rfl,hb,rfl⟩
 ·have hlt:j < t.length:=(List.getElem?_eq_some_iff.1 hc).1
  have h2:=h1 (t[j]) (t.drop (j+1)) (by rw[hr];exact List.drop_eq_getElem_cons hlt)
  have h3:t[j]=c:=(List.getElem?_eq_some_iff.1 hc).2;rw[h3] at h2;rcases hck with ⟨h4,_⟩ | ⟨h4,_⟩ | ⟨h4,_⟩
  ·exact absurd h4 h2.1
  ·exact absurd h4 h2.2.1
  ·exact absurd h4 h2.2.2
theorem none_post {x:Rx} {bad:Bool} {j D:Nat} {l t:Bs} (q6:∀n y rest,mAtom n D l=some (y,rest)->x=y/\bad=false/\rest=t.drop j) (hno:bad=false->∀c,t[j]?=some c->c≠42/\c≠43/\c≠63) :
  ∀n y rest,mItem n D l=some (y,rest)->x=y/\bad=false/\rest=t.drop j:=by
 intro n y rest h;obtain ⟨n',x',r,ha,hcs⟩:=mItem_inv h;obtain ⟨rfl,hb,hr⟩:=q6 n' x' r ha;have key:∀c' r',r=c'::r'->c'≠42/\c'≠43/\c'≠63:=fun c' r' hcr=>hno hb c' (drop_at (hr.symm.trans hcr)).1;rcases hcs with ⟨h1,_⟩ | ⟨h1,_⟩ | ⟨h1,_⟩ | ⟨rfl,rfl,_⟩
 ·exact absurd rfl (key _ _ h1).1
 ·exact absurd rfl (key _ _ h1).2.1
 ·exact absurd rfl (key _ _ h1).2.2
 ·exact ⟨rfl,hb,hr⟩
theorem c_l3Item_step (L:Nat) (hA:ReadOk 268 mAtom L):ReadOk 255 mItem L:=by
 intro s i d hs hi hL hd;have ha:=hA.opened s i d hs hi hL hd;refine acI (ACl.ro (R:=fun res bx=>∃r0:AV,(∃(x:Rx) (j:Nat) (bad:Bool) (d':Nat),x.Wf/\i<=j/\j<=s.size/\(d<=d'/\d'<=9)/\(bad=false->d'=d/\i < j)/\
  (∀n y rest,mItem n (8 - d) ((toL s).drop i)=some (y,rest)->x=y/\bad=false/\rest=(toL s).drop j)/\r0.roC=agT x.t/\bx=[rdS s j bad (Int.ofNat d')])/\res=r0) ?_) ?_
 ·refine qF tyK Tryz.func255 25 [.cell 2 331] ?_;unhygienic intros
  revert hK K;refine qW1 ?_;intro K hK;refine qg [0] ?_;refine qC ?_;refine qD hP ha ?_;rintro res bx ⟨x,k,sx,xl,j,bad,d',qt,q1,q2,q3,q4,q5,q6,rfl,rfl⟩;refine qC ?_;revert hK K;refine qW1 ?_;intro K hK;refine qg [0] ?_;refine qC ?_;refine qD hP (c_l3Is s (by omega) j q3 bad (Int.ofNat d') 42) ?_;rintro res bx ⟨r,j2,r1,r2,r3,rfl,rfl⟩;refine qC ?_
  cases r
  ·have hj2:j=j2:=(r3 rfl).symm
   subst hj2;clear r2 r3;revert hK K;refine qW1 ?_;intro K hK;refine qg [0] ?_;refine qC ?_;refine qD hP (c_l3Is s (by omega) j q3 bad (Int.ofNat d') 43) ?_;rintro res bx ⟨r,j2,t1,r2,r3,rfl,rfl⟩;refine qC ?_
   cases r
   ·have hj2:j=j2:=(r3 rfl).symm
    subst hj2;clear r2 r3;revert hK K;refine qW1 ?_;intro K hK;refine qg [0] ?_;refine qC ?_;refine qD hP (c_l3Is s (by omega) j q3 bad (Int.ofNat d') 63) ?_;rintro res bx ⟨r,j2,v1,r2,r3,rfl,rfl⟩;refine qC ?_
    cases r
    ·have hj2:j=j2:=(r3 rfl).symm
     subst hj2;clear r2 r3;revert hK K;refine qW1 ?_;intro K hK
     try cbv
     refine hR _ _ ⟨_,⟨x,j,bad,d',q1,q2,q3,q4,q5,none_post q6 (fun hb c hc=>⟨fun h=>?_,fun h=>?_,fun h=>?_⟩),by rw[qt];rfl,rfl⟩,rfl⟩
     ·exact absurd (r1.2 ⟨hb,c,hc,by rw[h];rfl⟩) (by simp)
     ·exact absurd (t1.2 ⟨hb,c,hc,by rw[h];rfl⟩) (by simp)
     ·exact absurd (v1.2 ⟨hb,c,hc,by rw[h];rfl⟩) (by simp)
    ·obtain rfl:=r2 rfl
     obtain ⟨_,c,hc,hc42⟩:=v1.1 rfl;have hjl:j < s.size:=by have:=(List.getElem?_eq_some_iff.1 hc).1;rwa[toL_len] at this
     have hcv:c=63:=by rw[u8_eq];simp only[Int.ofNat_eq_natCast] at hc42;exact Int.ofNat.inj hc42
     revert hK K;refine qW1 ?_;intro K hK
     try cbv
     exact hR _ _ ⟨_,⟨.mk 8 e0 [x],j+1,bad,d',rep_wf q1,by omega,by omega,q4,fun h=>⟨(q5 h).1,by omega⟩,rep_post q6 hc (by rw[hcv];decide),by rw[Rx.t_mk];simp[AV.roC,A.roC,tA,qt,e0,ofL,shOf,A.reset],rfl⟩,rfl⟩
   ·obtain rfl:=r2 rfl
    obtain ⟨_,c,hc,hc42⟩:=t1.1 rfl;have hjl:j < s.size:=by have:=(List.getElem?_eq_some_iff.1 hc).1;rwa[toL_len] at this
    have hcv:c=43:=by rw[u8_eq];simp only[Int.ofNat_eq_natCast] at hc42;exact Int.ofNat.inj hc42
    revert hK K;refine qW1 ?_;intro K hK
    try cbv
    exact hR _ _ ⟨_,⟨.mk 7 e0 [x],j+1,bad,d',rep_wf q1,by omega,by omega,q4,fun h=>⟨(q5 h).1,by omega⟩,rep_post q6 hc (by rw[hcv];decide),by rw[Rx.t_mk];simp[AV.roC,A.roC,tA,qt,e0,ofL,shOf,A.reset],rfl⟩,rfl⟩
  ·obtain rfl:=r2 rfl
   obtain ⟨_,c,hc,hc42⟩:=r1.1 rfl;have hjl:j < s.size:=by have:=(List.getElem?_eq_some_iff.1 hc).1;rwa[toL_len] at this
   have hcv:c=42:=by rw[u8_eq];simp only[Int.ofNat_eq_natCast] at hc42;exact Int.ofNat.inj hc42
   revert hK K;refine qW1 ?_;intro K hK
   try cbv
   exact hR _ _ ⟨_,⟨.mk 6 e0 [x],j+1,bad,d',rep_wf q1,by omega,by omega,q4,fun h=>⟨(q5 h).1,by omega⟩,rep_post q6 hc (by rw[hcv];decide),by rw[Rx.t_mk];simp[AV.roC,A.roC,tA,qt,e0,ofL,shOf,A.reset],rfl⟩,rfl⟩
 ·rintro res bx ⟨r0,⟨r1,⟨x,j,bad,d',h1,h2,h3,h4,h5,h6,h7,h8⟩,rfl⟩,rfl⟩
  exact ⟨x,j,bad,d',h1,h2,h3,h4,h5,h6,h7,h8⟩
def OutS (s:ByteArray) (i d:Nat) (M:Nat->Nat->Bs->Option (Rx×Bs)) (x:Rx) (j:Nat) (bad:Bool) (d':Nat):Prop:=
 x.Wf/\i<=j/\j<=s.size/\(d<=d'/\d'<=9)/\(bad=false->d'=d/\i < j)/\(∀n y rest,M n (8 - d) ((toL s).drop i)=some (y,rest)->x=y/\bad=false/\rest=(toL s).drop j)
theorem ReadOk.of {f:FuncId} {M:Nat->Nat->Bs->Option (Rx×Bs)} {L:Nat} (h:∀(s:ByteArray) (i d:Nat),s.size<=1099511627776->i<=s.size->s.size - i<=L->d<=8->
  ACl Tryz.prog f [⟨.one,[.ptr 0 0]⟩] [rdS s i false (Int.ofNat d)] (fun res bx=>∃x j bad d',OutS s i d M x j bad d'/\res.roC=agT x.t/\bx=[rdS s j bad (Int.ofNat d')])):ReadOk f M L:=by
 intro s i d h1 h2 h3 h4;refine acI (ACl.ro (h s i d h1 h2 h3 h4)) ?_;rintro res bx ⟨r0,⟨x,j,bad,d',⟨q1,q2,q3,q4,q5,q6⟩,q7,q8⟩,rfl⟩;exact ⟨x,j,bad,d',q1,q2,q3,q4,q5,q6,q7,q8⟩
theorem leaf_wf {k:Int} {s:ByteArray} (h:s.size<=4611686018427387904):(Rx.mk k s []).Wf:=.mk h (by simp) (by simp)
theorem leaf_map (k:Int) (s:ByteArray):List.map (tA true) (Rx.mk k s []).t=[.lit (.int .i64 k),.lit (.string s),.ro true []]:=by rw[Rx.t_mk];rfl
theorem c_l3Group_step (L:Nat) (hA:ReadOk 242 mAlt L):ReadOk 280 mGroup L:=by
 refine ReadOk.of fun s i d hs hi hL hd=>?_;have hb41:∀c:UInt8,Int.ofNat c.toNat=41↔c=41:=fun c=>by rw[u8_eq];exact ⟨fun h=>Int.ofNat.inj h,fun h=>by rw[h];rfl⟩
 have hA:=fun (d1:Nat) (h:d1<=8)=>hA.opened s i d1 hs hi hL h;refine qF tyK Tryz.func280 36 [.cell 2 331] ?_;unhygienic intros;have hnt:bnot true=false:=by cases hO;rfl
 have hnf:bnot false=true:=by cases hO;rfl
 revert hK K;refine qW1 ?_;intro K hK;refine qg [0] ?_;refine qC ?_;refine qD hP (c_l3Is s (by omega) i hi false (Int.ofNat d) 41) ?_;rintro res bx ⟨r,j2,r1,r2,r3,rfl,rfl⟩;refine qC ?_
 cases r
 ·have hj2:i=j2:=(r3 rfl).symm
  subst hj2;clear r2 r3;have ed:bin .add .i64 (Int.ofNat d) 1=_:=iSc hO (by omega)
  obtain ⟨d1,hd1⟩:=qX (d+1);rw[<-hd1] at ed;revert hK K;refine qW1 ?_;intro K hK;simp only[ed];revert hK K;refine qW1 ?_;intro K hK;refine nC rfl (fun h1=>?_) (fun h1=>?_)
  ·have hd8:d=8:=qw1
   revert hK K;refine qW1 ?_;intro K hK;refine qg [0] ?_;refine qC ?_;refine qD hP (c_l3Bad s (Int.ofNat i) (Int.ofNat d1) false) ?_;rintro res bx ⟨rfl,rfl⟩;refine qC ?_;revert hK K;refine qW1 ?_;intro K hK
   try cbv
   refine hR _ _ ⟨.mk 0 e0 [],i,true,d1,⟨leaf_wf (by decide),by omega,hi,by omega,fun h=>by simp at h,fun n y rest h=>?_⟩,by rw[leaf_map];rfl,rfl⟩
   rcases mGroup_inv h with ⟨h2,_⟩ | ⟨D,h2,_⟩
   ·obtain ⟨h3,_⟩:=drop_at h2
    exact absurd (r1.2 ⟨rfl,41,h3,rfl⟩) (by simp)
   ·omega
  ·have hd8:d1<=8:=qw1
   have ha:=hA d1 hd8;revert hK K;refine qW1 ?_;intro K hK;refine qg [0] ?_;refine qC ?_;refine qD hP ha ?_;rintro res bx ⟨x,k,sx,xl,j,bad,d',qt,q1,q2,q3,q4,q5,q6,rfl,rfl⟩;refine qC ?_;obtain ⟨d2,hd2⟩:=qX (d' - 1);have hdd:d<=d2/\d2<=9:=by clear r1 ed;omega
   have hq5:bad=false->d2=d/\i < j:=fun h=>by have:=q5 h;clear r1 ed;omega
   have es:bin .sub .i64 (Int.ofNat d') 1=Int.ofNat d2:=by rw[hd2];cases hO;simp only[Ops.std,stdBin,Int.ofNat_eq_natCast];rw[i64_id (by omega)];omega
   revert hK K;refine qW1 ?_;intro K hK;simp only[es];revert hK K;refine qW1 ?_;intro K hK;refine qg [0] ?_;refine qC ?_;refine qD hP (c_l3Is s (by omega) j q3 bad (Int.ofNat d2) 41) ?_;rintro res bx ⟨r,j2,v1,r2,r3,rfl,rfl⟩;refine qC ?_
   cases r
   ·have hj2:j=j2:=(r3 rfl).symm
    subst hj2;clear r2 r3;revert hK K;refine qW1 ?_;intro K hK;simp only[hnf];revert hK K;refine qW1 ?_;intro K hK;refine qg [0] ?_;refine qC ?_;refine qD hP (c_l3Bad s (Int.ofNat j) (Int.ofNat d2) bad) ?_;rintro res bx ⟨rfl,rfl⟩;refine qC ?_;revert hK K;refine qW1 ?_;intro K hK
    try cbv
    refine hR _ _ ⟨.mk 0 e0 [],j,true,d2,⟨leaf_wf (by decide),q2,q3,hdd,fun h=>by simp at h,fun n y rest h=>?_⟩,by rw[leaf_map];rfl,rfl⟩
    rcases mGroup_inv h with ⟨h2,_⟩ | ⟨D,h2,h3,_,h4⟩
    ·obtain ⟨h3,_⟩:=drop_at h2
     exact absurd (r1.2 ⟨rfl,41,h3,rfl⟩) (by simp)
    ·obtain ⟨_,h5,h6⟩:=q6 n y _ (by rw[show 8 - d1=D by omega];exact h4)
     obtain ⟨h7,_⟩:=drop_at h6.symm;exact absurd (v1.2 ⟨h5,41,h7,rfl⟩) (by simp)
   ·obtain rfl:=r2 rfl
    obtain ⟨hbad,c,hc,hc42⟩:=v1.1 rfl;have hjl:j < s.size:=by have:=(List.getElem?_eq_some_iff.1 hc).1;rwa[toL_len] at this
    have hcv:c=41:=(hb41 c).1 hc42;subst hbad;revert hK K;refine qW1 ?_;intro K hK;simp only[hnt];revert hK K;refine qW1 ?_;intro K hK
    try cbv
    refine hR _ _ ⟨x,j+1,false,d2,⟨q1,by clear r1 v1 es ed;omega,by clear r1 v1 es ed;omega,hdd,fun _=>⟨(hq5 rfl).1,Nat.lt_succ_of_lt (hq5 rfl).2⟩,fun n y rest h=>?_⟩,by rw[qt];rfl,rfl⟩
    rcases mGroup_inv h with ⟨h2,_⟩ | ⟨D,h2,h3,_,h4⟩
    ·obtain ⟨h3,_⟩:=drop_at h2
     exact absurd (r1.2 ⟨rfl,41,h3,rfl⟩) (by simp)
    ·obtain ⟨h5,_,h6⟩:=q6 n y _ (by rw[show 8 - d1=D by omega];exact h4)
     obtain ⟨_,h7⟩:=drop_at h6.symm;exact ⟨h5,rfl,h7⟩
 ·obtain rfl:=r2 rfl
  obtain ⟨_,c,hc,hc42⟩:=r1.1 rfl;have hjl:i < s.size:=by have:=(List.getElem?_eq_some_iff.1 hc).1;rwa[toL_len] at this
  have hcv:c=41:=(hb41 c).1 hc42;subst hcv;revert hK K;refine qW1 ?_;intro K hK
  try cbv
  refine hR _ _ ⟨.mk 9 e0 [],i+1,false,d,⟨leaf_wf (by decide),by omega,by omega,by omega,fun _=>by omega,fun n y rest h=>?_⟩,by rw[leaf_map];rfl,rfl⟩
  rcases mGroup_inv h with ⟨h2,h3⟩ | ⟨D,h2,h3,_,h4⟩
  ·exact ⟨h3.symm,rfl,(drop_at h2).2⟩
  ·exact absurd (drop_cons hc) (h3 _)
theorem sub_at {O:Ops} (hO:O=Ops.std) {s:ByteArray} {a b:Nat}:O.sub s a b=ofL (((toL s).drop a).take (b - a)):=by
 subst hO
 show s.extract a b=_
 apply ByteArray.ext;simp only[ofL,toL,ByteArray.data_extract];apply Array.ext';simp[List.take_drop]
def inv17 (s:ByteArray) (i1:Nat) (d:Nat) (z:ByteArray) (N:Nat) (σ:AS):Prop:=
 ∃(p:Nat),σ=⟨vag 119 [(0,⟨.one,[.ptr 0 0]⟩),(2,⟨.one,[.ptr 1 0]⟩),(4,litI (Int.ofNat i1))],[rdS s p false (Int.ofNat d),some [.lit (.int .i64 0),.lit (.string z),.nil]],1⟩/\i1<=p/\p<=s.size/\(∀q,i1<=q->q < p->(toL s)[q]?≠some 93)/\N=s.size - p
theorem c_l3Atom_step (L:Nat) (hG:∀L',L' < L->ReadOk 280 mGroup L'):ReadOk 268 mAtom L:=by
 refine ReadOk.of fun s i d hs hi hL hd=>?_;have hG:=fun (i1:Nat) (h1:i1<=s.size) (h2:s.size - i1 < L)=>(hG (s.size - i1) h2).opened s i1 d hs h1 (Nat.le_refl _) hd;refine qF tyK Tryz.func268 119 [.cell 2 331] ?_;unhygienic intros;obtain ⟨N,hN⟩:=qX s.size;have hsz:size s=N:=by cases hO;exact hN.symm
 have hnt:bnot true=false:=by cases hO;rfl
 have hnf:bnot false=true:=by cases hO;rfl
 have hsubA:∀a p:Nat,sub s (nat (Int.ofNat a)) (nat (Int.ofNat p))=ofL (((toL s).drop a).take (p - a)):=fun a p=>by
  have:=sub_at hO (s:=s) (a:=a) (b:=p);cases hO;exact this
 have e:bin .add .i64 (Int.ofNat i) 1=_:=iSc hO (by omega)
 rw[<-hN] at hi hs;obtain ⟨i1,hi1⟩:=qX (i+1);rw[<-hi1] at e;revert hK K;refine qW1 ?_;intro K hK;simp only[hsz];refine nC rfl (fun h1=>?_) (fun h1=>?_)
 ·have hge:N<=i:=qw1
  revert hK K;refine qW1 ?_;intro K hK;refine qg [0] ?_;refine qC ?_;refine qD hP (c_l3Bad s (Int.ofNat i) (Int.ofNat d) false) ?_;rintro res bx ⟨rfl,rfl⟩;refine qC ?_;revert hK K;refine qW1 ?_;intro K hK
  try cbv
  refine hR _ _ ⟨.mk 0 e0 [],i,true,d,⟨leaf_wf (by decide),by omega,by omega,by omega,fun h=>by simp at h,?_⟩,by rw[leaf_map];rfl,rfl⟩
  rw[List.drop_eq_nil_of_le (by rw[toL_len];omega)]
  exact atom_nil
 have hlt:i < N:=qw1;obtain ⟨c,hc,e1⟩:∃c,(toL s)[i]?=some c/\byte s (nat (Int.ofNat i))=Int.ofNat c.toNat:=byte_at hO (hN ▸ hlt);have hidx:idx (Int.ofNat i) (size s):=hsz ▸ ixN hO hlt;have hdr:=drop_cons hc;rw[<-hi1] at hdr;have hk:∀k:UInt8,Int.ofNat c.toNat=Int.ofNat k.toNat↔c=k:=fun k=>by rw[u8_eq];exact ⟨fun h=>Int.ofNat.inj h,fun h=>by rw[h]⟩
 have h46:Int.ofNat c.toNat=46↔c=46:=hk 46;have h94:Int.ofNat c.toNat=94↔c=94:=hk 94;have h36:Int.ofNat c.toNat=36↔c=36:=hk 36;have h40:Int.ofNat c.toNat=40↔c=40:=hk 40;have h91:Int.ofNat c.toNat=91↔c=91:=hk 91;have hbyte:=c_l3Byte c _ rfl;clear hk;obtain ⟨ci,hci⟩:=qX (Int.ofNat c.toNat);rw[<-hci] at h46 h94 h36 h40 h91 hbyte e1;revert hK K;refine qW1 ?_;intro K hK;simp only[e1,e];refine ndC hidx (ndN ?_)
 revert hK K;refine qW1 ?_;intro K hK;simp only[e];refine nC rfl (fun h2=>?_) (fun h2=>?_)
 ·have hce:ci=46:=qv2
  revert hK K;refine qW1 ?_;intro K hK
  try cbv
  refine hR _ _ ⟨.mk 2 e0 [],i1,false,d,⟨leaf_wf (by decide),by omega,by omega,by omega,fun h=>by omega,?_⟩,by rw[leaf_map];rfl,rfl⟩
  rw[hdr,h46.1 hce];exact atom_dot
 have n46:ci≠46:=qv2;clear h2;revert hK K;refine qW1 ?_;intro K hK;refine nC rfl (fun h2=>?_) (fun h2=>?_)
 ·have hce:ci=94:=qv2
  revert hK K;refine qW1 ?_;intro K hK
  try cbv
  refine hR _ _ ⟨.mk 10 e0 [],i1,false,d,⟨leaf_wf (by decide),by omega,by omega,by omega,fun h=>by omega,?_⟩,by rw[leaf_map];rfl,rfl⟩
  rw[hdr,h94.1 hce];exact atom_begin
 have n94:ci≠94:=qv2;clear h2;revert hK K;refine qW1 ?_;intro K hK;refine nC rfl (fun h2=>?_) (fun h2=>?_)
 ·have hce:ci=36:=qv2
  revert hK K;refine qW1 ?_;intro K hK
  try cbv
  refine hR _ _ ⟨.mk 11 e0 [],i1,false,d,⟨leaf_wf (by decide),by omega,by omega,by omega,fun h=>by omega,?_⟩,by rw[leaf_map];rfl,rfl⟩
  rw[hdr,h36.1 hce];exact atom_end
 have n36:ci≠36:=qv2;clear h2;revert hK K;refine qW1 ?_;intro K hK;refine nC rfl (fun h2=>?_) (fun h2=>?_)
 ·have hce:ci=40:=qv2
  have ha:=hG i1 (by omega) (by omega)
  revert hK K;refine qW1 ?_;intro K hK;refine qg [0] ?_;refine qC ?_;refine qD hP ha ?_;rintro res bx ⟨x,k,sx,xl,j,bad,d',qt,q1,q2,q3,q4,q5,q6,rfl,rfl⟩;refine qC ?_;revert hK K;refine qW1 ?_;intro K hK
  try cbv
  refine hR _ _ ⟨x,j,bad,d',⟨q1,by omega,q3,q4,fun h=>by have:=q5 h;omega,?_⟩,by rw[qt];rfl,rfl⟩
  rw[hdr,h40.1 hce];exact atom_open q6
 have n40:ci≠40:=qv2;clear h2;revert hK K;refine qW1 ?_;intro K hK;refine qG ?_;refine qD hP hbyte ?_;rintro res bx ⟨b,hb,rfl,rfl⟩;refine qC ?_;cases b
 ·have hself:¬selfB c=true:=by rw[<-hb];simp
  revert hK K;refine qW1 ?_;intro K hK;refine nC rfl (fun h2=>?_) (fun h2=>?_)
  ·have hce:ci≠91:=qv2
   revert hK K;refine qW1 ?_;intro K hK;refine qg [0] ?_;refine qC ?_;refine qD hP (c_l3Bad s (Int.ofNat i1) (Int.ofNat d) false) ?_;rintro res bx ⟨rfl,rfl⟩;refine qC ?_;revert hK K;refine qW1 ?_;intro K hK
   try cbv
   refine hR _ _ ⟨.mk 0 e0 [],i1,true,d,⟨leaf_wf (by decide),by omega,by omega,by omega,fun h=>by simp at h,?_⟩,by rw[leaf_map];rfl,rfl⟩
   rw[hdr];exact atom_none (fun h=>n46 (h46.2 h)) (fun h=>n94 (h94.2 h)) (fun h=>n36 (h36.2 h)) (fun h=>n40 (h40.2 h)) hself (fun h=>hce (h91.2 h))
  ·have hce:ci=91:=qv2
   obtain rfl:=h91.1 hce;clear h2;revert hK K;refine qW1 ?_;intro K hK;obtain ⟨em,hem⟩:=qX (⟨⟨[]⟩⟩:ByteArray);have hi1N:i1<=N:=by rw[hi1];exact hlt
   clear hb h91 h40 h36 h94 h46 hbyte hself;refine qL 2 [0,2,4] kk0 (inv17 s i1 d ⟨⟨[]⟩⟩) ?_ ?_
   ·cbv
    exact ⟨_,i1,by cbv,Nat.le_refl _,by omega,fun q a b=>by omega,rfl⟩
   rintro m σ ⟨p,rfl,g1,g2,g3,rfl⟩;have ep:bin .add .i64 (Int.ofNat p) 1=_:=iSc hO (by omega)
   obtain ⟨p1,hp1⟩:=qX (p+1);rw[<-hp1] at ep;rw[<-hN] at g2 |-;revert hK K;refine qW1 ?_;intro K hK;simp only[hsz];refine GFork.mk (fun h3=>?_) (fun h3=>?_)<;>cbv
   ·have hlt2:p < N:=qv3
    obtain ⟨c',hc',e2⟩:∃c,(toL s)[p]?=some c/\byte s (nat (Int.ofNat p))=Int.ofNat c.toNat:=byte_at hO (hN ▸ hlt2);have hidx2:idx (Int.ofNat p) (size s):=hsz ▸ ixN hO hlt2;have h93:Int.ofNat c'.toNat=93↔c'=93:=by rw[u8_eq];exact ⟨fun h=>Int.ofNat.inj h,fun h=>by rw[h];rfl⟩
    generalize Int.ofNat c'.toNat=cj at e2 h93;revert hK K;refine qW1 ?_;intro K hK;simp only[e2];refine ndC hidx2 (ndN ?_);revert hK K;refine qW1 ?_;intro K hK;refine nC rfl (fun h5=>?_) (fun h5=>?_)
    ·have h6:cj≠93:=qv5
     revert hK K;refine qW1 ?_;intro K hK;simp only[ep];exact ⟨N - p1,by omega,p1,by cbv,by omega,by omega,fun q a b hq=>by
      by_cases hqp:q=p
      ·rw[hqp,hc'] at hq;exact h6 (h93.2 (Option.some.inj hq))
      ·exact g3 q a (by omega) hq,by rw[hN]⟩
    ·have h6:cj=93:=qv5
     obtain rfl:=h93.1 h6;clear h5;have nb1:bnd (Int.ofNat i1) (size s):=by rw[hsz];cases hO;exact ⟨Int.natCast_nonneg _,Int.ofNat_le.2 hi1N⟩
     have nb2:bnd (Int.ofNat p) (size s):=by rw[hsz];cases hO;exact ⟨Int.natCast_nonneg _,Int.ofNat_le.2 g2⟩
     have nle:le (nat (Int.ofNat i1)) (nat (Int.ofNat p)):=by cases hO;exact g1
     obtain ⟨u,hu⟩:=qX (ofL (((toL s).drop i1).take (p - i1)));have hsub:sub s (nat (Int.ofNat i1)) (nat (Int.ofNat p))=u:=by rw[hu];exact hsubA i1 p
     revert hK K;refine qW1 ?_;intro K hK;simp only[hsub]
     repeat' (with_reducible first | refine ndC nb1 ?_ | refine ndC nb2 ?_ | refine ndC nle ?_ | refine ndC True.intro ?_ | apply ndN)
     revert hK K;refine qW1 ?_;intro K hK;refine qg [0] ?_;refine qC ?_;refine qD hP (c_l3Is s (by omega) p (by omega) false (Int.ofNat d) 93) ?_;rintro res bx ⟨r,j2,r1,r2,r3,rfl,rfl⟩;refine qC ?_
     obtain rfl:r=true:=r1.2 ⟨rfl,93,hc',rfl⟩;obtain rfl:=r2 rfl;have hup:=upTo_some (t:=toL s) (p - i1) i1 (fun q a b=>g3 q a (by omega)) (by rw[show i1+(p - i1)=p by omega];exact hc')
     rw[show i1+(p - i1)=p by omega,<-toL_ofL (((toL s).drop i1).take (p - i1)),<-hu] at hup
     have hus:u.size<=4611686018427387904:=by rw[hu,ofL_len,List.length_take];omega
     clear r1 r2 r3 h93 h6;revert hK K;refine qW1 ?_;intro K hK;simp only[hnt];revert hK K;refine qW1 ?_;intro K hK
     try cbv
     refine hR _ _ ⟨.mk 3 u [],p+1,false,d,⟨leaf_wf hus,by omega,by omega,by omega,fun h=>by omega,?_⟩,by rw[leaf_map];rfl,rfl⟩
     rw[hdr];have:=atom_set (D:=8 - d) hup;rwa[ofL_toL] at this
   ·have hge:N<=p:=qw3
    have nb1:bnd (Int.ofNat i1) (size s):=by rw[hsz];cases hO;exact ⟨Int.natCast_nonneg _,Int.ofNat_le.2 hi1N⟩
    have nb2:bnd (Int.ofNat p) (size s):=by rw[hsz];cases hO;exact ⟨Int.natCast_nonneg _,Int.ofNat_le.2 g2⟩
    have nle:le (nat (Int.ofNat i1)) (nat (Int.ofNat p)):=by cases hO;exact g1
    obtain ⟨u,hu⟩:=qX (ofL (((toL s).drop i1).take (p - i1)));have hsub:sub s (nat (Int.ofNat i1)) (nat (Int.ofNat p))=u:=by rw[hu];exact hsubA i1 p
    revert hK K;refine qW1 ?_;intro K hK;simp only[hsub]
    repeat' (with_reducible first | refine ndC nb1 ?_ | refine ndC nb2 ?_ | refine ndC nle ?_ | refine ndC True.intro ?_ | apply ndN)
    revert hK K;refine qW1 ?_;intro K hK;refine qg [0] ?_;refine qC ?_;refine qD hP (c_l3Is s (by omega) p (by omega) false (Int.ofNat d) 93) ?_;rintro res bx ⟨r,j2,r1,r2,r3,rfl,rfl⟩;refine qC ?_
    obtain rfl:r=false:=by
     cases r
     ·rfl
     ·obtain ⟨_,c,hc,_⟩:=r1.1 rfl
      have:=(List.getElem?_eq_some_iff.1 hc).1;rw[toL_len] at this;omega
    obtain rfl:=r3 rfl;have hup:upTo ((toL s).drop i1)=none:=upTo_none_at fun q a b=>g3 q a (by rw[toL_len] at b;omega)
    clear r1 r2 r3;revert hK K;refine qW1 ?_;intro K hK;simp only[hnf];revert hK K;refine qW1 ?_;intro K hK;refine qg [0] ?_;refine qC ?_;refine qD hP (c_l3Bad s (Int.ofNat j2) (Int.ofNat d) false) ?_;rintro res bx ⟨rfl,rfl⟩;refine qC ?_;revert hK K;refine qW1 ?_;intro K hK
    try cbv
    refine hR _ _ ⟨.mk 0 e0 [],j2,true,d,⟨leaf_wf (by decide),by omega,by omega,by omega,fun h=>by simp at h,?_⟩,by rw[leaf_map];rfl,rfl⟩
    rw[hdr];exact atom_noset hup
 ·have hself:selfB c=true:=hb.symm
  have hisB:isB [[T.lit (.int .u8 ci)]]:=by cases hO;rfl
  have htx:text [[T.lit (.int .u8 ci)]]=ofL [c]:=by
   cases hO;rw[hci]
   show textOf [Int.ofNat c.toNat]=_
   simp only[textOf,List.foldl,Int.ofNat_eq_natCast,Int.toNat_natCast,UInt8.ofNat_toNat]
   rfl
  obtain ⟨tx,htx'⟩:=qX (ofL [c]);rw[<-htx'] at htx;revert hK K;refine qW1 ?_;intro K hK;simp only[htx];refine ndC hisB (ndN ?_);revert hK K;refine qW1 ?_;intro K hK
  try cbv
  refine hR _ _ ⟨.mk 1 tx [],i1,false,d,⟨leaf_wf (by rw[htx',ofL_len];simp),by omega,by omega,by omega,fun h=>by omega,?_⟩,by rw[leaf_map];rfl,rfl⟩
  rw[hdr,htx'];exact atom_self hself
end Go.Gv
