/- Part B22 of the proof: contracts of functions of the program, each walked once. -/
import Derived.Test.YtjeejieaalnbeaaGreatB14
import Derived.Test.YtjeejieaalnbeaaGreatQ1
import Derived.Test.YtjeejieaalnbeaaGreatK2
set_option linter.all false
namespace Go.Gv
open Go.Av Go.Proofs Go.Shelf Go.RowKit
set_option maxRecDepth 10000
set_option maxHeartbeats 4000000
def OutI (s:ByteArray) (i e δ:Nat) (M:Nat->Nat->Bs->Option (Rx×Bs)) (x:Rx) (j:Nat) (bad:Bool):Prop:=
 x.Wf/\i<=j/\j<=s.size+1/\(bad=false->i < j/\j<=s.size)/\(e<=δ->∀n y rest,M n (δ - e) ((toL s).drop i)=some (y,rest)->x=y/\bad=false/\rest=(toL s).drop j)
abbrev ReadI (f:FuncId) (M:Nat->Nat->Bs->Option (Rx×Bs)) (δ L:Nat):Prop:=∀(s:ByteArray) (i e:Nat),s.size<=1099511627776->i<=s.size->s.size - i<=L->e<=40->
 ACl Tryz.prog f [⟨.one,[.ptr 0 0]⟩] [rdI s i (Int.ofNat e) false] (fun res bx=>∃x j bad,OutI s i e δ M x j bad/\res=agT x.t/\bx=[rdI s j (Int.ofNat e) bad])
theorem ReadI.of {f:FuncId} {M:Nat->Nat->Bs->Option (Rx×Bs)} {δ L:Nat} (h:∀(s:ByteArray) (i e:Nat),s.size<=1099511627776->i<=s.size->s.size - i<=L->e<=40->
  ACl Tryz.prog f [⟨.one,[.ptr 0 0]⟩] [rdI s i (Int.ofNat e) false] (fun res bx=>∃x j bad,OutI s i e δ M x j bad/\res.roC=agT x.t/\bx=[rdI s j (Int.ofNat e) bad])):ReadI f M δ L:=by
 intro s i d h1 h2 h3 h4;refine acI (ACl.ro (h s i d h1 h2 h3 h4)) ?_;rintro res bx ⟨r0,⟨x,j,bad,q1,q2,q3⟩,rfl⟩;exact ⟨x,j,bad,q1,q2,q3⟩
theorem ReadI.opened {f:FuncId} {M:Nat->Nat->Bs->Option (Rx×Bs)} {δ L:Nat} (h:ReadI f M δ L) (s:ByteArray) (i e:Nat) (h1:s.size<=1099511627776) (h2:i<=s.size) (h3:s.size - i<=L) (h4:e<=40) :
  ACl Tryz.prog f [⟨.one,[.ptr 0 0]⟩] [rdI s i (Int.ofNat e) false] (fun res bx=>∃(x:Rx) (k:Int) (sx:ByteArray) (xl:List (List T)) (j:Nat) (bad:Bool),x.t=[.lit (.int .i64 k),.lit (.string sx),.sl xl]/\x.Wf/\i<=j/\j<=s.size+1/\
   (bad=false->i < j/\j<=s.size)/\(e<=δ->∀n y rest,M n (δ - e) ((toL s).drop i)=some (y,rest)->x=y/\bad=false/\rest=(toL s).drop j)/\res=⟨.agg,[.lit (.int .i64 k),.lit (.string sx),.ro true xl]⟩/\bx=[rdI s j (Int.ofNat e) bad]):=by
 refine acI (h s i e h1 h2 h3 h4) ?_;rintro res bx ⟨x,j,bad,⟨q1,q2,q3,q4,q5⟩,rfl,rfl⟩;obtain ⟨k,sx,l⟩:=x;exact ⟨.mk k sx l,k,sx,l.map Rx.t,j,bad,Rx.t_mk k sx l,q1,q2,q3,q4,q5,by rw[agT,Rx.t_mk];rfl,rfl⟩
theorem encode_small (n:Nat) (h:n < 128):Utf8.encode (n:Int)=⟨#[UInt8.ofNat n]⟩:=by
 have hv:Utf8.valid (n:Int)=true:=by simp[Utf8.valid];omega
 simp[Utf8.encode,hv];omega
theorem i32_id {x:Int} (h:-2147483648<=x/\x<=2147483647):IntKind.i32.wrap x=x:=by
 simp[IntKind.wrap,IntKind.bits,IntKind.signed];omega
theorem ib_none {l:Bs} (h:Lib.indexByte l 93 < 0):upTo l=none:=by
 have h0:Lib.indexByte l 93=-1:=by have:=Lib.indexByte_ge l 93;omega
 refine upTo_none fun c hc he=>?_;obtain ⟨q,hq,hg⟩:=List.getElem_of_mem hc;exact Lib.indexByte_none h0 q (by rw[List.getElem?_eq_getElem hq,hg,he])
theorem ib_some {l:Bs} {n:Nat} (h:Lib.indexByte l 93=Int.ofNat n):n < l.length/\upTo l=some (l.take n,l.drop (n+1)):=by
 obtain ⟨h1,h2⟩:=Lib.indexByte_some h;refine ⟨(List.getElem?_eq_some_iff.1 h1).1,?_⟩;have:=upTo_some (t:=l) n 0 (fun q _ hq=>h2 q (by omega)) (by rw[Nat.zero_add];exact h1)
 simpa using this
theorem c_atom_step (L:Nat) (hA:∀L',L' < L->ReadI 244 mAlt 8 L'):ReadI 272 mAtom 9 L:=by
 refine ReadI.of fun s i e hs hi hL he=>?_;have hA:=fun (i1:Nat) (h1:i1<=s.size) (h2:s.size - i1 < L)=>(hA (s.size - i1) h2).opened s i1 e hs h1 (Nat.le_refl _) he;refine qF tyK Tryz.func272 112 [.cell 2 331] ?_;unhygienic intros;obtain ⟨N,hN⟩:=qX s.size;have hsz:size s=N:=by cases hO;exact hN.symm
 have ei:bin .add .i64 (Int.ofNat i) 1=_:=iSc hO (by omega)
 obtain ⟨i1,hi1⟩:=qX (i+1);rw[<-hi1] at ei;revert hK K;refine qW1 ?_;intro K hK;refine qg [0] ?_;refine qC ?_;refine qD hP (c_next s i (Int.ofNat e) false) ?_;rintro res bx ⟨ci,hci,rfl,rfl⟩;refine qC ?_;obtain ⟨c,hc⟩:=qX (byteOr s i);rw[<-hc] at hci;have hdr:c≠0->(toL s).drop i=c::(toL s).drop i1/\i1<=s.size:=fun h=>by
  unfold byteOr at hc;cases h2:(toL s)[i]? with
  | none=>rw[h2] at hc;exact absurd hc h
  | some b=>
   rw[h2] at hc;have:c=b:=hc;subst this;have hlt:=(List.getElem?_eq_some_iff.1 h2).1;rw[toL_len] at hlt;exact ⟨by rw[hi1];exact drop_cons h2,by omega⟩
 have h0:c=0->∀D x out,AtomP D ((toL s).drop i) x true out:=fun h D x out=>by
  unfold byteOr at hc;cases h2:(toL s)[i]? with
  | none=>rw[List.drop_eq_nil_of_le (List.getElem?_eq_none_iff.1 h2)];exact atom_nil
  | some b=>
   rw[h2,h] at hc;have:(0:UInt8)=b:=hc;subst this;rw[drop_cons h2];exact atom_none (by decide) (by decide) (by decide) (by decide) (by decide) (by decide)
 have hk:∀k:UInt8,Int.ofNat c.toNat=Int.ofNat k.toNat↔c=k:=fun k=>by rw[u8_eq];exact ⟨fun h=>Int.ofNat.inj h,fun h=>by rw[h]⟩
 have h46:Int.ofNat c.toNat=46↔c=46:=hk 46;have h94:Int.ofNat c.toNat=94↔c=94:=hk 94;have h36:Int.ofNat c.toNat=36↔c=36:=hk 36;have h40:Int.ofNat c.toNat=40↔c=40:=hk 40;have h91:Int.ofNat c.toNat=91↔c=91:=hk 91;have hbyte:=c_litByte c _ rfl;clear hk hc;rw[<-hci] at h46 h94 h36 h40 h91 hbyte;revert hK K;refine qW1 ?_;intro K hK;simp only[ei];revert hK K;refine qW1 ?_;intro K hK;refine qG ?_;refine qD hP hbyte ?_;rintro res bx ⟨b,hb,rfl,rfl⟩;refine qC ?_
 cases b
 ·have hself:¬selfB c=true:=by rw[<-hb];simp
  clear hb hbyte;revert hK K;refine qW1 ?_;intro K hK;refine nC rfl (fun h2=>?_) (fun h2=>?_)
  ·have hce:ci=46:=qv2
   obtain rfl:=h46.1 hce;obtain ⟨hdr,hle⟩:=hdr (by decide)
   revert hK K;refine qW1 ?_;intro K hK
   try cbv
   refine hR _ _ ⟨.mk 2 e0 [],i1,false,⟨leaf_wf (by decide),by omega,by omega,fun _=>by omega,fun _=>?_⟩,by rw[leaf_map];rfl,rfl⟩
   rw[hdr];exact atom_dot
  have n46:ci≠46:=qv2;clear h2;revert hK K;refine qW1 ?_;intro K hK;refine nC rfl (fun h2=>?_) (fun h2=>?_)
  ·have hce:ci=94:=qv2
   obtain rfl:=h94.1 hce;obtain ⟨hdr,hle⟩:=hdr (by decide)
   revert hK K;refine qW1 ?_;intro K hK
   try cbv
   refine hR _ _ ⟨.mk 10 e0 [],i1,false,⟨leaf_wf (by decide),by omega,by omega,fun _=>by omega,fun _=>?_⟩,by rw[leaf_map];rfl,rfl⟩
   rw[hdr];exact atom_begin
  have n94:ci≠94:=qv2;clear h2;revert hK K;refine qW1 ?_;intro K hK;refine nC rfl (fun h2=>?_) (fun h2=>?_)
  ·have hce:ci=36:=qv2
   obtain rfl:=h36.1 hce;obtain ⟨hdr,hle⟩:=hdr (by decide)
   revert hK K;refine qW1 ?_;intro K hK
   try cbv
   refine hR _ _ ⟨.mk 11 e0 [],i1,false,⟨leaf_wf (by decide),by omega,by omega,fun _=>by omega,fun _=>?_⟩,by rw[leaf_map];rfl,rfl⟩
   rw[hdr];exact atom_end
  have n36:ci≠36:=qv2;clear h2;revert hK K;refine qW1 ?_;intro K hK;refine nC rfl (fun h2=>?_) (fun h2=>?_)
  ·have hce:ci=91:=qv2
   obtain rfl:=h91.1 hce;obtain ⟨hdr,hle⟩:=hdr (by decide)
   clear h46 h94 h36 h40 h91 h0 hA hself h2;obtain ⟨u,hu⟩:=qX (ofL ((toL s).drop i1));have hsub:sub s (nat (Int.ofNat i1)) (size s)=u:=by
    rw[hu];have:=sub_at hO (s:=s) (a:=i1) (b:=s.size);rw[List.take_of_length_le (by rw[List.length_drop,toL_len];exact Nat.le_refl _)] at this
    cases hO;exact this
   have nb1:bnd (Int.ofNat i1) (size s):=by rw[hsz];cases hO;exact ⟨Int.natCast_nonneg _,Int.ofNat_le.2 (by omega)⟩
   have nle:le (nat (Int.ofNat i1)) (size s):=by rw[hsz];cases hO;show i1<=N;omega
   have hib:=c_IndexByte u 93;rw[hu,toL_ofL] at hib;rw[<-hu] at hib;revert hK K;refine qW1 ?_;intro K hK;simp only[hsub];refine ndC nb1 (ndC nle (ndN ?_));refine qG ?_;refine qD hP hib ?_;rintro res bx ⟨r,hr,rfl,rfl⟩;refine qC ?_;have hr:r=Lib.indexByte ((toL s).drop i1) 93:=hr;revert hK K;refine qW1 ?_;intro K hK;refine nC rfl (fun h2=>?_) (fun h2=>?_)
   ·have hneg:r < 0:=qv2
    have hup:=ib_none (by rw[<-hr];exact hneg)
    clear hr hib hsub nb1 nle h2;revert hK K;refine qW1 ?_;intro K hK
    try cbv
    refine hR _ _ ⟨.mk 0 e0 [],i1,true,⟨leaf_wf (by decide),by omega,by omega,fun h=>by simp at h,fun _=>?_⟩,by rw[leaf_map];rfl,rfl⟩
    rw[hdr];exact atom_noset hup
   ·have hneg:0<=r:=qv2
    obtain ⟨n,hn⟩:∃n:Nat,r=Int.ofNat n:=⟨r.toNat,by simp only[Int.ofNat_eq_natCast];omega⟩
    obtain ⟨hnl,hup⟩:=ib_some (hr.symm.trans hn);rw[List.length_drop,toL_len] at hnl;subst hn;have ea:bin .add .i64 (Int.ofNat i1) (Int.ofNat n)=_:=add_nat hO (by omega)
    obtain ⟨p,hp⟩:=qX (i1+n);rw[<-hp] at ea;have eb:bin .add .i64 (Int.ofNat n) 1=_:=iSc hO (by omega)
    have ec:bin .add .i64 (Int.ofNat i1) (Int.ofNat (n+1))=_:=add_nat hO (by omega)
    obtain ⟨j,hj⟩:=qX (i1+(n+1));rw[<-hj] at ec;obtain ⟨n1,hn1⟩:=qX (n+1);rw[<-hn1] at eb ec;obtain ⟨v,hv⟩:=qX (ofL (((toL s).drop i1).take n));have hsub2:sub s (nat (Int.ofNat i1)) (nat (Int.ofNat p))=v:=by
     rw[hv];have:=sub_at hO (s:=s) (a:=i1) (b:=p);rw[show p - i1=n by omega] at this
     cases hO;exact this
    have nb2:bnd (Int.ofNat p) (size s):=by rw[hsz];cases hO;exact ⟨Int.natCast_nonneg _,Int.ofNat_le.2 (by omega)⟩
    have nle2:le (nat (Int.ofNat i1)) (nat (Int.ofNat p)):=by cases hO;show i1<=p;omega
    rw[List.drop_drop,show i1+(n+1)=j by omega,<-toL_ofL (((toL s).drop i1).take n),<-hv] at hup
    have hvs:v.size<=4611686018427387904:=by rw[hv,ofL_len,List.length_take];omega
    clear hr hib hsub nle h2;revert hK K;refine qW1 ?_;intro K hK;simp only[ea];revert hK K;refine qW1 ?_;intro K hK;simp only[hsub2]
    repeat' (with_reducible first | refine ndC nb1 ?_ | refine ndC nb2 ?_ | refine ndC nle2 ?_ | refine ndC True.intro ?_ | apply ndN)
    revert hK K;refine qW1 ?_;intro K hK;simp only[eb,ec];revert hK K;refine qW1 ?_;intro K hK
    try cbv
    refine hR _ _ ⟨.mk 3 v [],j,false,⟨leaf_wf hvs,by omega,by omega,fun _=>by omega,fun _=>?_⟩,by rw[leaf_map];rfl,rfl⟩
    rw[hdr];have:=atom_set (D:=9 - e) hup;rwa[ofL_toL] at this
  have n91:ci≠91:=qv2;clear h2;revert hK K;refine qW1 ?_;intro K hK;refine GFork.mk (fun h2=>?_) (fun h2=>?_)<;>cbv
  ·have hce:ci=40:=qv2
   obtain rfl:=h40.1 hce;obtain ⟨hdr,hle⟩:=hdr (by decide)
   clear h46 h94 h36 h40 h91 h0 hself;have hA:=hA i1 hle (by omega)
   revert hK K;refine qW1 ?_;intro K hK;refine qg [0] ?_;refine qC ?_;refine qD hP (c_next s i1 (Int.ofNat e) false) ?_;rintro res bx ⟨b2,hb2,rfl,rfl⟩;refine qC ?_;have hc2:∀{c:UInt8} {r:Bs},(toL s).drop i1=c::r->byteOr s i1=c:=fun h=>by unfold byteOr;rw[(drop_at h).1];rfl
   have h41:b2=41↔(toL s)[i1]?=some 41:=by
    rw[hb2];unfold byteOr;cases (toL s)[i1]? with
    | none=>decide
    | some c=>
     show Int.ofNat c.toNat=41↔some c=some 41
     rw[Option.some.injEq,u8_eq];exact ⟨fun h=>Int.ofNat.inj h,fun h=>by rw[h];rfl⟩
   clear hb2 hc2;revert hK K;refine qW1 ?_;intro K hK;refine nC rfl (fun h3=>?_) (fun h3=>?_)
   ·have hbe:b2=41:=qv3
    have h41:=h41.1 hbe;have hlt:=(List.getElem?_eq_some_iff.1 h41).1;rw[toL_len] at hlt;have ej:bin .add .i64 (Int.ofNat i1) 1=_:=iSc hO (by omega)
    obtain ⟨i2,hi2⟩:=qX (i1+1);rw[<-hi2] at ej;clear h3;revert hK K;refine qW1 ?_;intro K hK;simp only[ej];revert hK K;refine qW1 ?_;intro K hK
    try cbv
    refine hR _ _ ⟨.mk 9 e0 [],i2,false,⟨leaf_wf (by decide),by omega,by omega,fun _=>by omega,fun _=>?_⟩,by rw[leaf_map];rfl,rfl⟩
    rw[hdr];refine atom_open fun n y rest h=>?_;rw[drop_cons h41] at h;rcases mGroup_inv h with ⟨h5,h6⟩ | ⟨D,_,h6,_⟩
    ·exact ⟨h6.symm,rfl,by rw[hi2];exact (List.cons.inj h5).2.symm⟩
    ·exact absurd rfl (h6 _)
   ·have hbe:b2≠41:=qv3
    have h41:(toL s)[i1]?≠some 41:=fun h=>hbe (h41.2 h);clear h3 hbe;revert hK K;refine qW1 ?_;intro K hK;refine nC rfl (fun h3=>?_) (fun h3=>?_)
    ·clear h3
     revert hK K;refine qW1 ?_;intro K hK;refine qg [0] ?_;refine qC ?_;refine qD hP hA ?_;rintro res bx ⟨x,k,sx,xl,j,bad,qt,q1,q2,q3,q4,q5,rfl,rfl⟩;refine qC ?_;revert hK K;refine qW1 ?_;intro K hK;refine qg [0] ?_;refine qC ?_;refine qD hP (c_next s j (Int.ofNat e) bad) ?_;rintro res bx ⟨b3,hb3,rfl,rfl⟩;refine qC ?_;have h43:b3=41↔(toL s)[j]?=some 41:=by
      rw[hb3];unfold byteOr;cases (toL s)[j]? with
      | none=>decide
      | some c=>
       show Int.ofNat c.toNat=41↔some c=some 41
       rw[Option.some.injEq,u8_eq];exact ⟨fun h=>Int.ofNat.inj h,fun h=>by rw[h];rfl⟩
     have hgr:∀n y rest,e<=9->mGroup n (9 - e) ((toL s).drop i1)=some (y,rest)->x=y/\bad=false/\(toL s).drop j=41::rest:=fun n y rest he h=>by
      rcases mGroup_inv h with ⟨h5,h6⟩ | ⟨D,h5,h6,_,h7⟩
      ·exact absurd (drop_at h5).1 h41
      ·obtain ⟨h8,h9,h10⟩:=q5 (by omega) n y _ (by rw[show 8 - e=D by omega];exact h7)
       exact ⟨h8,h9,h10.symm⟩
     clear hb3 q5;revert hK K;refine qW1 ?_;intro K hK;refine nC rfl (fun h3=>?_) (fun h3=>?_)
     ·have hbe:b3≠41:=qv3
      have h43:(toL s)[j]?≠some 41:=fun h=>hbe (h43.2 h);clear h3 hbe;revert hK K;refine qW1 ?_;intro K hK
      try cbv
      refine hR _ _ ⟨.mk 0 e0 [],j,true,⟨leaf_wf (by decide),by omega,by omega,fun h=>by simp at h,fun he=>?_⟩,by rw[leaf_map];rfl,rfl⟩
      rw[hdr];refine atom_open fun n y rest h=>?_;obtain ⟨_,_,h8⟩:=hgr n y rest he h;exact absurd (drop_at h8).1 h43
     ·have hbe:b3=41:=qv3
      have h43:=h43.1 hbe;have hlt:=(List.getElem?_eq_some_iff.1 h43).1;rw[toL_len] at hlt;have ej:bin .add .i64 (Int.ofNat j) 1=_:=iSc hO (by omega)
      obtain ⟨j2,hj2⟩:=qX (j+1);rw[<-hj2] at ej;clear h3;revert hK K;refine qW1 ?_;intro K hK;simp only[ej];revert hK K;refine qW1 ?_;intro K hK
      try cbv
      refine hR _ _ ⟨x,j2,bad,⟨q1,by omega,by omega,fun h=>by omega,fun he=>?_⟩,by rw[qt];rfl,rfl⟩
      rw[hdr];refine atom_open fun n y rest h=>?_;obtain ⟨h6,h7,h8⟩:=hgr n y rest he h;exact ⟨h6,h7,by rw[hj2];exact (drop_at h8).2⟩
    ·exact absurd h2 (by rw[h3];simp)
  ·have n40:ci≠40:=qv2
   have hpost:∀D x out,AtomP D ((toL s).drop i) x true out:=fun D x out=>by
    by_cases h:c=0
    ·exact h0 h D x out
    ·rw[(hdr h).1]
     exact atom_none (fun h=>n46 (h46.2 h)) (fun h=>n94 (h94.2 h)) (fun h=>n36 (h36.2 h)) (fun h=>n40 (h40.2 h)) hself (fun h=>n91 (h91.2 h))
   clear hdr h0 h46 h94 h36 h40 h91 hself hA;revert hK K;refine qW1 ?_;intro K hK;refine nC rfl (fun h3=>?_) (fun h3=>?_)
   ·exact absurd h3 (by rw[h2];simp)
   ·clear h3
    revert hK K;refine qW1 ?_;intro K hK
    try cbv
    exact hR _ _ ⟨.mk 0 e0 [],i1,true,⟨leaf_wf (by decide),by omega,by omega,fun h=>by simp at h,fun _=>hpost _ _ _⟩,by rw[leaf_map];rfl,rfl⟩
 ·have hself:selfB c=true:=hb.symm
  obtain ⟨hdr,hle⟩:=hdr (by rintro rfl;exact absurd hself (by decide))
  have hlt:c.toNat < 128:=by
   simp only[selfB,Bool.or_eq_true,Bool.and_eq_true,decide_eq_true_eq,beq_iff_eq] at hself;have:=c.toNat_lt;rcases hself with ((((((h | h) | h) | h) | h) | h) | h) | h
   all_goals first|(subst h;decide)|(have:=h.2;have h3:c.toNat<=_:=this;exact Nat.lt_of_le_of_lt h3 (by decide))
  obtain ⟨tx,htx'⟩:=qX (ofL [c]);have htx:chr (wrap .i32 ci)=tx:=by
   cases hO;rw[hci,htx']
   show Utf8.encode (IntKind.i32.wrap (Int.ofNat c.toNat))=_
   rw[i32_id (by simp only[Int.ofNat_eq_natCast];omega)]
   have:=encode_small c.toNat hlt;simp only[Int.ofNat_eq_natCast];rw[this,UInt8.ofNat_toNat];rfl
  revert hK K;refine qW1 ?_;intro K hK;simp only[htx]
  try cbv
  refine hR _ _ ⟨.mk 1 tx [],i1,false,⟨leaf_wf (by rw[htx',ofL_len];simp),by omega,by omega,fun _=>by omega,fun _=>?_⟩,by rw[leaf_map];rfl,rfl⟩
  rw[hdr,htx'];exact atom_self hself
def opB (p:Nat):UInt8:=if p=0 then 42 else if p=1 then 43 else 63
def inv23 (s:ByteArray) (j:Nat) (e:Nat) (bad:Bool) (els:List (List T)) (z:ByteArray) (k:Int) (sx:ByteArray) (xl:List (List T)) (N:Nat) (σ:AS):Prop:=
 ∃(q:Nat),σ=⟨vag 34 [(0,⟨.one,[.ptr 0 0]⟩),(2,⟨.one,[.ptr 1 0]⟩),(3,⟨.one,[.ptr 2 0]⟩),(9,⟨.one,[.ro true els]⟩),(10,litI 3),(11,litI (Int.ofNat q))],
  [rdI s j (Int.ofNat e) bad,some [.lit (.int .i64 0),.lit (.string z),.nil],some [.lit (.int .i64 k),.lit (.string sx),.ro true xl]],1⟩/\q<=3/\(∀p,p < q->byteOr s j≠opB p)/\N=3 - q
theorem c_item_step (L:Nat) (hA:ReadI 272 mAtom 9 L):ReadI 260 mItem 9 L:=by
 refine ReadI.of fun s i e hs hi hL he=>?_;have hA:=hA.opened s i e hs hi hL he;refine qF tyK Tryz.func260 34 [.cell 2 331] ?_;unhygienic intros;obtain ⟨N,hN⟩:=qX s.size;revert hK K;refine qW1 ?_;intro K hK;refine qg [0] ?_;refine qC ?_;refine qD hP hA ?_;rintro res bx ⟨x,k,sx,xl,j,bad,qt,q1,q2,q3,q4,q5,rfl,rfl⟩;refine qC ?_
 (with_reducible refine hK _ ?_)
 clear hK K
 conv=>whnf
 refine xR (base:=1) rfl rfl rfl ?_
 try cbv
 refine GHand.mk ⟨_,_,mark_ok rfl rfl (hP ▸ tyK _ _ rfl) rfl (hP ▸ tyK _ _ rfl) rfl (by simp),?_⟩
 intro K hK
 try cbv
 obtain ⟨els,hels⟩:=qX ([[T.lit (.int .u8 42)],[T.lit (.int .u8 43)],[T.lit (.int .u8 63)]]:List (List T));have hln:len els=3:=by cases hO;rw[hels];rfl
 rw[<-hels];simp only[hln];revert hK K;refine qW1 ?_;intro K hK;refine qL 3 [0,2,3,9,10,11] kk0 (inv23 s j e bad els ⟨⟨[]⟩⟩ k sx xl) ?_ ?_
 ·cbv
  exact ⟨_,0,by cbv,by omega,by omega,rfl⟩
 rintro m σ ⟨q,rfl,g1,g2,rfl⟩;revert hK K;refine qW1 ?_;intro K hK;refine nC rfl (fun h3=>?_) (fun h3=>?_)
 ·have hlt:q < 3:=qw3
  have hget:get els (nat (Int.ofNat q))=[T.lit (.int .u8 (Int.ofNat (opB q).toNat))]:=by
   cases hO;rw[hels]
   match q,hlt with
   | 0,_=>rfl
   | 1,_=>rfl
   | 2,_=>rfl
  have hidx:idx (Int.ofNat q) (len els):=by rw[hln];exact ixN hO hlt
  have ha:all els 1:=alO hO (by rw[hels];simp)
  have eq:bin .add .i64 (Int.ofNat q) 1=_:=iSc hO (by omega)
  obtain ⟨q1',hq1'⟩:=qX (q+1);rw[<-hq1'] at eq;obtain ⟨v,hv⟩:=qX (Int.ofNat (opB q).toNat);rw[<-hv] at hget;revert hK K;refine qW1 ?_;intro K hK
  repeat (simp only[hget];cbv)
  refine ndC hidx (ndC ha (ndN ?_));revert hK K;refine qW1 ?_;intro K hK;refine qg [0] ?_;refine qC ?_;refine qD hP (c_next s j (Int.ofNat e) bad) ?_;rintro res bx ⟨b,hb,rfl,rfl⟩;refine qC ?_;revert hK K;refine qW1 ?_;intro K hK;have hbv:b=v↔byteOr s j=opB q:=by rw[hb,hv,u8_eq];exact ⟨fun h=>Int.ofNat.inj h,fun h=>by rw[h]⟩
  refine nC rfl (fun h5=>?_) (fun h5=>?_)
  ·have hbe:b=v:=qv5
   have hat:(toL s)[j]?=some (opB q):=by
    have h:=hbv.1 hbe;unfold byteOr at h;cases h2:(toL s)[j]? with
    | none=>
     rw[h2] at h;exact absurd h (by match q,hlt with | 0,_=>decide | 1,_=>decide | 2,_=>decide)
    | some c=>rw[h2] at h;exact congrArg some h
   have hlt2:=(List.getElem?_eq_some_iff.1 hat).1;rw[toL_len] at hlt2;have ej:bin .add .i64 (Int.ofNat j) 1=_:=iSc hO (by omega)
   obtain ⟨j1,hj1⟩:=qX (j+1);rw[<-hj1] at ej;have ek:bin .add .i64 6 (Int.ofNat q)=Int.ofNat (6+q):=add_nat hO (a:=6) (by omega)
   obtain ⟨k1,hk1⟩:=qX (6+q);rw[<-hk1] at ek;have hck:(opB q=42/\(Int.ofNat k1)=6)\/(opB q=43/\(Int.ofNat k1)=7)\/(opB q=63/\(Int.ofNat k1)=8):=by
    rw[hk1]
    match q,hlt with
    | 0,_=>exact .inl ⟨rfl,rfl⟩
    | 1,_=>exact .inr (.inl ⟨rfl,rfl⟩)
    | 2,_=>exact .inr (.inr ⟨rfl,rfl⟩)
   clear h5 hbv hb hv hget;revert hK K;refine qW1 ?_;intro K hK;simp only[ej];revert hK K;refine qW1 ?_;intro K hK;simp only[ek];revert hK K;refine qW1 ?_;intro K hK
   try cbv
   refine hR _ _ ⟨.mk (Int.ofNat k1) e0 [x],j1,bad,⟨rep_wf q1,by omega,by omega,fun h=>by omega,fun he=>?_⟩,by rw[Rx.t_mk];simp[AV.roC,A.roC,tA,qt,e0,ofL,shOf,A.reset],rfl⟩
   rw[hj1];exact rep_post (q5 he) hat hck
  ·have hbe:b≠v:=qv5
   have hne:byteOr s j≠opB q:=fun h=>hbe (hbv.2 h);clear h5 hbv hb hv hget;revert hK K;refine qW1 ?_;intro K hK;simp only[eq];revert hK K;refine qW1 ?_;intro K hK;exact ⟨3 - q1',by omega,q1',by cbv,by omega,fun p hp=>by
    by_cases hpq:p=q
    ·rw[hpq];exact hne
    ·exact g2 p (by omega),rfl⟩
 ·have hge:q=3:=qw3
  subst hge;revert hK K;refine qW1 ?_;intro K hK
  try cbv
  refine hR _ _ ⟨x,j,bad,⟨q1,q2,q3,q4,fun he=>none_post (q5 he) fun _ c hc=>?_⟩,by rw[qt];rfl,rfl⟩
  have hcb:byteOr s j=c:=by unfold byteOr;rw[hc];rfl
  rw[hcb] at g2;exact ⟨g2 0 (by omega),g2 1 (by omega),g2 2 (by omega)⟩
end Go.Gv
