/- Part V3 of the proof: contracts of functions of the program, each walked once. -/
import Derived.Test.YtfobhlmjcnkpiaaGreatDoorV2
set_option linter.all false
namespace Go.Gv
open Go.Av Go.Proofs
set_option maxRecDepth 10000
set_option maxHeartbeats 8000000
variable {I:∀{α:Type},α->α}
structure RA0 (I:∀{α:Type},α->α) (l:List Vl) (d:Int) (bb:Rd->List Sm×Rd):Prop where
 le:∀r,LeR l d r (bb r).2
 c:∀(r:Rd) (x:List Sm×Rd),JD d r->x=bb r->RdC @I l 158 [] r ⟨.one,[.ro true (I (x.1.map Sm.t))]⟩ x.2
section
variable (hI:II @I) (l:List Vl) (hl:l.length<=1048576) (hT:∀t∈l,t.s.size<=200)
variable {d:Int} {ff:Rd->Ex×Rd} (hF:kC0 @I l d ff) {bb:Rd->List Sm×Rd} (hB:RA0 @I l d bb)
include hI hl
include hF in
theorem JU0 {r:Rd} (hj:JD d r) {x:Ex×Rd} (e:x=rX0 l ff r):RdC @I l 196 [] r (eA @I x.1) x.2:=by
 obtain ⟨r1,h1⟩:∃r1,r1=zB0 l r ⟨⟨[40]⟩⟩:=⟨_,rfl⟩;have c1:=zK0 hI l hl h1;have j1:JD d r1:=by rw[h1];exact (zC0 d _ _).j hj
 obtain ⟨a,ha⟩:∃a,a=ff r1:=⟨_,rfl⟩;have c2:=hF.c r1 a j1 ha;obtain ⟨r2,h2⟩:∃r2,r2=zB0 l a.2 ⟨⟨[41]⟩⟩:=⟨_,rfl⟩;have c3:=zK0 hI l hl h2;have q:x=(a.1,r2):=by rw[e,rX0,<-h1,<-ha,<-h2]
 clear e h1 ha h2;refine qN hI tyK Tryz.func196 11 [.cell 2 26] ?_;unhygienic intros
 refine qB 1 ?_
 repeat' first|refine qA 1 ?_|refine qJ (nN [0]) ?_|refine qp ?_ ?_|refine qk (fun h=>?_) fun h=>?_|fail
 exact hR _ _ ⟨by rw[q],by rw[q]⟩
include hT hB in
theorem pV1 {r:Rd} (hj:JD d r) {x:Sm×Rd} (e:x=pFor l bb r):RdC @I l 197 [] r (sA @I x.1) x.2:=by
 refine yM0 ?_;obtain ⟨r1,h1⟩:∃r1,r1=zB0 l r ⟨⟨[40]⟩⟩:=⟨_,rfl⟩;have c1:=zK0 hI l hl h1;have j1:JD d r1:=by rw[h1];exact (zC0 d _ _).j hj
 obtain ⟨s,hs⟩:∃s,s=wB0 l r1:=⟨_,rfl⟩;have c2:=nG0 hI l hl hT hs;have js:JD d s.2:=by rw[hs];exact (wW0 d _).j j1
 obtain ⟨r2,h2⟩:∃r2,r2=gU0 l s.2 ⟨⟨[105,110]⟩⟩:=⟨_,rfl⟩;have c3:=uY1 hI l hl h2;have j2:JD d r2:=by rw[h2];exact (GC0 d _ _).j js
 obtain ⟨t,ht⟩:∃t,t=wB0 l r2:=⟨_,rfl⟩;have c4:=nG0 hI l hl hT ht;have jt:JD d t.2:=by rw[ht];exact (wW0 d _).j j2
 obtain ⟨r3,h3⟩:∃r3,r3=zB0 l t.2 ⟨⟨[41]⟩⟩:=⟨_,rfl⟩;have c5:=zK0 hI l hl h3;have j3:JD d r3:=by rw[h3];exact (zC0 d _ _).j jt
 obtain ⟨b,hb⟩:∃b,b=bb r3:=⟨_,rfl⟩;have c6:=hB.c r3 b j3 hb;have q:x=(.mk 7 s.1 t.1 [] b.1 [],b.2):=by rw[e,pFor];simp only[<-h1,<-hs,<-h2,<-ht,<-h3,<-hb]
 clear e h1 hs h2 ht h3 hb;refine qN hI tyK Tryz.func197 21 [.cell 2 74] ?_;unhygienic intros
 refine qB 1 ?_
 repeat' first|refine qA 1 ?_|refine qJ (nN [0]) ?_|refine qp ?_ ?_|refine qk (fun h=>?_) fun h=>?_|fail
 exact hR _ _ ⟨by rw[q];simp only[AV.roC,A.roC,List.map,erD,sA,hI.e,Ex.t_of,Sm.k,Sm.s,Sm.tt,Sm.x,Sm.a,Sm.b],by rw[q]⟩
include hF hB in
theorem rd_if {r:Rd} (hj:JD d r) {x:Sm×Rd} (e:x=pIf l ff bb r):RdC @I l 195 [] r (sA @I x.1) x.2:=by
 refine yM0 ?_;unfold pIf at e
 dsimp only at e
 generalize ha':rX0 l ff r=a at e;have ha:=ha'.symm;clear ha';have c1:=JU0 hI l hl hF hj ha;have ja:JD d a.2:=by rw[ha];exact (nM0 hF.le r).j hj
 generalize hb':bb a.2=b at e;have hb:=hb'.symm;clear hb';have c2:=hB.c a.2 b ja hb;have jb:JD d b.2:=by rw[hb];exact (hB.le _).j ja
 by_cases h1:pSee l b.2 2 ⟨⟨[101,108,115,101]⟩⟩
 ·obtain ⟨r1,e1⟩:∃r1,r1=b.2.adv:=⟨_,rfl⟩
  have c3:=is_t hI l hl h1 e1;have j1:JD d r1:=by rw[e1];exact rN0 jb
  obtain ⟨g,hg⟩:∃g,g=bb r1:=⟨_,rfl⟩;have c4:=hB.c r1 g j1 hg;have q:x=(.mk 5 ⟨⟨[]⟩⟩ ⟨⟨[]⟩⟩ [a.1] b.1 g.1,g.2.or (g.1.length=0)):=by rw[e,if_pos h1,<-e1,<-hg]
  clear e e1 ha hb hg;refine qN hI tyK Tryz.func195 32 [.cell 2 74] ?_;unhygienic intros
  refine qB 1 ?_
  repeat' first|refine qA 1 ?_|refine qJ (nN [0]) ?_|refine qp ?_ ?_|refine qk (fun h=>?_) fun h=>?_|fail
  all_goals (refine hR _ _ ⟨by rw[q];simp only[AV.roC,A.roC,List.map,erD,sA,hI.e,Ex.t_of,Sm.k,Sm.s,Sm.tt,Sm.x,Sm.a,Sm.b],?_⟩;rw[q];refine or_B hI l g.2 _ _ ?_;(try rw[F.k1]);(try simp only[hI.e] at *);clear F hR hseg;simp_all)
 ·have c3:=is_f hI l hl h1
  have q:x=(.mk 5 ⟨⟨[]⟩⟩ ⟨⟨[]⟩⟩ [a.1] b.1 [],b.2):=by rw[e,if_neg h1]
  clear e ha hb;refine qN hI tyK Tryz.func195 32 [.cell 2 74] ?_;unhygienic intros
  refine qB 1 ?_
  repeat' first|refine qA 1 ?_|refine qJ (nN [0]) ?_|refine qp ?_ ?_|refine qk (fun h=>?_) fun h=>?_|fail
  exact hR _ _ ⟨by rw[q];simp only[AV.roC,A.roC,List.map,erD,sA,hI.e,Ex.t_of,Sm.k,Sm.s,Sm.tt,Sm.x,Sm.a,Sm.b],by rw[q]⟩
include hT hF in
theorem pW1 {r:Rd} (hj:JD d r) {x:Sm×Rd} (e:x=pDel l ff r):RdC @I l 199 [] r (sA @I x.1) x.2:=by
 refine yM0 ?_;obtain ⟨s,hs⟩:∃s,s=wB0 l r:=⟨_,rfl⟩;have c1:=nG0 hI l hl hT hs;have js:JD d s.2:=by rw[hs];exact (wW0 d _).j hj
 obtain ⟨r1,h1⟩:∃r1,r1=zB0 l s.2 ⟨⟨[91]⟩⟩:=⟨_,rfl⟩;have c2:=zK0 hI l hl h1;have j1:JD d r1:=by rw[h1];exact (zC0 d _ _).j js
 obtain ⟨a,ha⟩:∃a,a=ff r1:=⟨_,rfl⟩;have c3:=hF.c r1 a j1 ha;obtain ⟨r2,h2⟩:∃r2,r2=zB0 l a.2 ⟨⟨[93]⟩⟩:=⟨_,rfl⟩;have c4:=zK0 hI l hl h2;obtain ⟨r3,h3⟩:∃r3,r3=zB0 l r2 ⟨⟨[59]⟩⟩:=⟨_,rfl⟩;have c5:=zK0 hI l hl h3;have q:x=(.mk 11 s.1 ⟨⟨[]⟩⟩ [a.1] [] [],r3):=by rw[e,pDel];simp only[<-hs,<-h1,<-ha,<-h2,<-h3]
 clear e hs h1 ha h2 h3;refine qN hI tyK Tryz.func199 21 [.cell 2 74] ?_;unhygienic intros
 refine qB 1 ?_
 repeat' first|refine qA 1 ?_|refine qJ (nN [0]) ?_|refine qp ?_ ?_|refine qk (fun h=>?_) fun h=>?_|fail
 exact hR _ _ ⟨by rw[q];simp only[AV.roC,A.roC,List.map,erD,sA,hI.e,Ex.t_of,Sm.k,Sm.s,Sm.tt,Sm.x,Sm.a,Sm.b],by rw[q]⟩
include hF in
theorem vK1 {r:Rd} (hj:JD d r) {k:Int} {x:Sm×Rd} (e:x=pOne l ff r k):RdC @I l 198 [litI k] r (sA @I x.1) x.2:=by
 refine yM0 ?_;obtain ⟨a,ha⟩:∃a,a=ff r:=⟨_,rfl⟩;have c1:=hF.c r a hj ha;obtain ⟨r2,h2⟩:∃r2,r2=zB0 l a.2 ⟨⟨[59]⟩⟩:=⟨_,rfl⟩;have c2:=zK0 hI l hl h2;have q:x=(.mk k ⟨⟨[]⟩⟩ ⟨⟨[]⟩⟩ [a.1] [] [],r2):=by rw[e,pOne,<-ha,<-h2]
 clear e ha h2;refine qN hI tyK Tryz.func198 14 [.cell 4 74] ?_;unhygienic intros
 refine qB 1 ?_
 repeat' first|refine qA 1 ?_|refine qJ (nN [0]) ?_|refine qp ?_ ?_|refine qk (fun h=>?_) fun h=>?_|fail
 exact hR _ _ ⟨by rw[q];simp only[AV.roC,A.roC,List.map,erD,sA,hI.e,Ex.t_of,Sm.k,Sm.s,Sm.tt,Sm.x,Sm.a,Sm.b],by rw[q]⟩
end
variable {I:∀{α:Type},α->α}
section
variable {l:List Vl} (hM:∀t∈l,t.s.size<=200)
theorem yD0 {r:Rd} {s:ByteArray} (h:(zB0 l r s).bad=false):r.bad=false/\(zB0 l r s).i=r.i+1:=by
 have e:=UH0 h;rw[e] at h |-;exact ⟨h,rfl⟩
theorem qY1 {r:Rd} {s:ByteArray} (h:(gU0 l r s).bad=false):r.bad=false/\(gU0 l r s).i=r.i+1:=by
 unfold gU0 at h |-
 split at h
 ·rename_i q;rw[if_pos q];exact ⟨h,rfl⟩
 ·exact absurd h (by simp[Rd.fail])
theorem tA0:(⟨⟨[]⟩⟩:ByteArray).size=0:=rfl
include hM in
theorem qJ0 {r:Rd} {k:Int} (h:(xL0 l r k).2.bad=false):r.bad=false/\(xL0 l r k).2.i=r.i+1/\(xL0 l r k).1.s.size<=200:=by
 unfold xL0 at h |-
 split at h
 ·rename_i q;rw[if_pos q];exact ⟨h,rfl,hM _ (zD0 q.2.1)⟩
 ·exact absurd h (by simp[Rd.fail])
include hM in
theorem mB0 {r:Rd} (h:(wB0 l r).2.bad=false):r.bad=false/\(wB0 l r).2.i=r.i+1/\(wB0 l r).1.size<=200:=by
 unfold wB0 at h |-
 dsimp only at h |-
 split at h
 ·rename_i q;rw[if_pos q];exact qJ0 hM h
 ·exact absurd h (by simp[Rd.fail])
theorem VW0 {r:Rd} (h:r.adv.bad=false):r.bad=false/\r.adv.i=r.i+1:=⟨h,rfl⟩
def ZE (F:Rd->Ex×Rd):Prop:=∀r,(F r).2.bad=false->r.bad=false/\(F r).1.sz+1+210 * r.i<=210 * (F r).2.i
theorem Ex.sz_mk (k n:Int) (s:ByteArray) (l:List Ex):(Ex.mk k n s l).sz=s.size+l.length+Ex.szs l:=by rw[Ex.sz]
theorem szs2 (a b:Ex):Ex.szs [a,b]=a.sz+b.sz:=by simp[Ex.szs]
theorem szs1 (a:Ex):Ex.szs [a]=a.sz:=by simp[Ex.szs]
theorem szs0:Ex.szs []=0:=by simp[Ex.szs]
variable {F:Rd->Ex×Rd} (hF:ZE F)
include hF
theorem VU0:∀(n:Nat) (r:Rd),(yY0 l F n r).2.bad=false->r.bad=false/\(yY0 l F n r).1.length+Ex.szs (yY0 l F n r).1+210 * r.i<=210 * (yY0 l F n r).2.i
 | 0,r,h=>⟨h,by simp[yY0,Ex.szs]⟩
 | n+1,r,h=>by
  rw[yY0] at h |-
  split
  ·rename_i q;rw[if_pos q] at h;exact absurd q (by rw[h];simp)
  ·rename_i q
   rw[if_neg q] at h
   split
   ·rename_i q1
    rw[if_pos q1] at h;have h1:=VU0 n _ h;have h2:=hF r h1.1;refine ⟨h2.1,?_⟩;have h3:=h1.2;have h4:(F r).2.adv.i=(F r).2.i+1:=rfl;simp only[List.length_cons,Ex.szs];omega
   ·rename_i q1
    rw[if_neg q1] at h;have h2:=hF r h;exact ⟨h2.1,by simp only[List.length_cons,List.length_nil,Ex.szs];omega⟩
theorem pD1 {r:Rd} {n:Int} (h:(wV0 l F r n).2.bad=false):r.bad=false/\(wV0 l F r n).1.length+Ex.szs (wV0 l F r n).1+210 * (r.i+1)<=210 * (wV0 l F r n).2.i:=by
 unfold wV0 at h |-
 split
 ·rename_i q
  rw[if_pos q] at h;obtain ⟨h1,h2⟩:=HJ0 h;obtain ⟨h3,h4⟩:=yD0 (VW0 h1).1;refine ⟨h3,?_⟩;rw[h2];simp only[List.length_nil,Ex.szs,Rd.adv];omega
 ·rename_i q
  rw[if_neg q] at h;obtain ⟨h1,h2⟩:=HJ0 h;obtain ⟨h3,h4⟩:=yD0 h1;obtain ⟨h5,h6⟩:=VU0 hF _ _ h3;obtain ⟨h7,h8⟩:=yD0 h5;refine ⟨h7,?_⟩
  dsimp only
  rw[h2];omega
include hM
theorem zR1 {r:Rd} (h:(xZ0 l F r).2.bad=false):r.bad=false/\(xZ0 l F r).1.sz+1+210 * r.i<=210 * (xZ0 l F r).2.i:=by
 unfold xZ0 at h |-
 split
 ·rename_i q
  rw[if_pos q] at h;obtain ⟨h1,h2⟩:=yD0 h;obtain ⟨h3,h4,h5⟩:=mB0 hM h1;obtain ⟨h6,h7⟩:=hF r h3;have h8:(F r).2.adv.i=(F r).2.i+1:=rfl;refine ⟨h6,?_⟩
  dsimp only
  rw[Ex.sz_mk,szs1];simp only[List.length_cons,List.length_nil];omega
 ·rename_i q
  rw[if_neg q] at h
  split
  ·rename_i q1
   rw[if_pos q1] at h;obtain ⟨h1,h2⟩:=yD0 h;obtain ⟨h3,h4,h5⟩:=qJ0 hM h1;obtain ⟨h6,h7⟩:=hF r h3;have h8:(F r).2.adv.i=(F r).2.i+1:=rfl;refine ⟨h6,?_⟩
   dsimp only
   rw[Ex.sz_mk,szs1];simp only[List.length_cons,List.length_nil];omega
  ·rename_i q1
   rw[if_neg q1] at h;obtain ⟨h1,h2⟩:=yD0 h;obtain ⟨h9,h10⟩:=hF _ h1;obtain ⟨h3,h4,h5⟩:=qJ0 hM h9;obtain ⟨h6,h7⟩:=hF r h3;refine ⟨h6,?_⟩
   dsimp only
   rw[Ex.sz_mk,szs2];simp only[List.length_cons,List.length_nil];omega
theorem pE1 {r:Rd} (h:(gV0 l F r).2.bad=false):r.bad=false/\(gV0 l F r).1.sz+1+210 * r.i<=210 * (gV0 l F r).2.i:=by
 unfold gV0 at h |-
 dsimp only at h |-
 obtain ⟨h1,h2⟩:=yD0 h;obtain ⟨h3,h4⟩:=hF _ h1;obtain ⟨h5,h6⟩:=yD0 h3;obtain ⟨h7,h8,h9⟩:=qJ0 hM h5;obtain ⟨h10,h11⟩:=yD0 h7;obtain ⟨h12,h13⟩:=hF _ h10;obtain ⟨h14,h15⟩:=yD0 h12;refine ⟨h14,?_⟩;rw[Ex.sz_mk,szs2];simp only[List.length_cons,List.length_nil];omega
theorem zT1 {r:Rd} (h:(vH0 l F r).2.bad=false):r.bad=false/\(vH0 l F r).1.sz+1+210 * r.i<=210 * (vH0 l F r).2.i:=by
 unfold vH0 at h |-
 dsimp only at h |-
 repeat' split
 all_goals simp only[*,if_true,if_false] at h
 all_goals first
  | (obtain ⟨h1,h2,h3⟩:=qJ0 hM h;refine ⟨h1,?_⟩;rw[Ex.sz_mk,szs0];simp only[List.length_nil,tA0];omega)
  | (obtain ⟨h4,h5⟩:=pD1 hF h;obtain ⟨h1,h2,h3⟩:=qJ0 hM h4;refine ⟨h1,?_⟩;rw[Ex.sz_mk];simp only[tA0];omega)
  | (obtain ⟨h4,h5⟩:=pE1 hM hF h;obtain ⟨h1,h2,h3⟩:=qJ0 hM h4;exact ⟨h1,by omega⟩)
  | (obtain ⟨h4,h5⟩:=yD0 h;obtain ⟨h6,h7⟩:=hF _ h4;obtain ⟨h1,h2,h3⟩:=qJ0 hM (VW0 h6).1;refine ⟨h1,?_⟩;have h8:(xL0 l r 2).2.adv.i=(xL0 l r 2).2.i+1:=rfl;rw[Ex.sz_mk,szs1];simp only[List.length_cons,List.length_nil];omega)
theorem pB1 {r:Rd} (h:(nJ0 l F r).2.bad=false):r.bad=false/\(nJ0 l F r).1.sz+1+210 * r.i<=210 * (nJ0 l F r).2.i:=by
 have h8:r.adv.i=r.i+1:=rfl;unfold nJ0 at h |-
 repeat' split
 all_goals simp only[*,if_true,if_false] at h
 all_goals first
  | (obtain ⟨h1,h2⟩:=zR1 hM hF h;exact ⟨h1,by omega⟩)
  | (obtain ⟨h1,h2⟩:=hF _ h;refine ⟨h1,?_⟩;rw[Ex.sz_mk,szs1];simp only[List.length_cons,List.length_nil,tA0];omega)
  | (obtain ⟨h1,h2,h3⟩:=qJ0 hM h;refine ⟨h1,?_⟩;rw[Ex.sz_mk,szs0];simp only[List.length_nil,tA0];omega)
  | exact zT1 hM hF h
omit hF
theorem KM0:∀f:Nat,ZE (wQ0 l f)
 | 0=>fun r h=>absurd h (by simp[wQ0,Rd.fail])
 | f+1=>fun r h=>by
  rw[wQ0] at h |-
  split
  ·rename_i q;rw[if_pos q] at h;exact absurd h (by simp[Rd.fail])
  ·rename_i q
   rw[if_neg q] at h;obtain ⟨h1,h2⟩:=pB1 hM (KM0 f) (r:=r.inc) h;exact ⟨h1,h2⟩
omit hM
def KE (F:Rd->Ex×Rd):Prop:=∀r,(F r).1.k=4\/(F r).1.k=5->(F r).1.l.length=1
theorem xF1 (F:Rd->Ex×Rd) (r:Rd):¬((xZ0 l F r).1.k=4\/(xZ0 l F r).1.k=5):=by
 unfold xZ0;repeat' split
 all_goals simp[Ex.k]
theorem nL1 (F:Rd->Ex×Rd):KE (nJ0 l F):=by
 intro r h;unfold nJ0 at h |-
 repeat' split
 all_goals simp only[*,if_true,if_false] at h
 all_goals first
  | exact absurd h (xF1 F _)
  | (simp[Ex.k] at h;done)
  | rfl
  | (unfold vH0 at h |-;dsimp only at h |-;(repeat' split);all_goals simp only[*,if_true,if_false] at h;all_goals first|(simp[Ex.k,gV0] at h;done) | rfl)
theorem vU1:∀f:Nat,KE (wQ0 l f)
 | 0=>fun r h=>by rw[wQ0] at h;simp[Ex.k] at h
 | f+1=>fun r h=>by
  rw[wQ0] at h |-
  split
  ·rename_i q;rw[if_pos q] at h;simp[Ex.k] at h
  ·rename_i q
   rw[if_neg q] at h;exact nL1 _ _ h
end
variable {I:∀{α:Type},α->α}
section
variable (hI:II @I) (l:List Vl) (hl:l.length<=1048576) (hT:∀t∈l,t.s.size<=200)
variable {d:Int} {ff:Rd->Ex×Rd} (hF:kC0 @I l d ff)
include hI hl
theorem RV0 {r r':Rd} {s:ByteArray} (e:r'=zB0 l r.fail s):ACl Tryz.prog 157 [⟨.one,[.ptr 0 0]⟩,litS s] [some [.ro true (I (l.map Vl.t)),.lit (.int .i64 (Int.ofNat (I r.i))),.lit (.bool true),.lit (.int .i64 (I r.deep))]] (fun rs bx=>rs=⟨.tup [],[]⟩/\bx=[rdB @I l r']):=by
 have h:=zK0 hI l hl e;have e1:rdB @I l r.fail=some [.ro true (I (l.map Vl.t)),.lit (.int .i64 (Int.ofNat (I r.i))),.lit (.bool true),.lit (.int .i64 (I r.deep))]:=by simp only[rdB,Rd.fail,hI.e]
 rw[RdC,e1] at h;exact h
include hF
theorem yM1 (hK:KE ff) {r:Rd} (hj:JD d r) {x:Sm×Rd} (e:x=uX0 l ff r):RdC @I l 200 [] r (sA @I x.1) x.2:=by
 refine yM0 ?_;have hk:=hK r;unfold uX0 at e
 dsimp only at e
 generalize ha':ff r=a at e hk;have ha:=ha'.symm;clear ha' hK;have c1:=hF.c r a hj ha;have ja:JD d a.2:=by rw[ha];exact (hF.le r).j hj
 by_cases h1:pSee l a.2 5 ⟨⟨[61]⟩⟩
 ·rw[if_pos h1] at e
  generalize e1':a.2.adv=r1 at e;have e1:=e1'.symm;clear e1';have c2:=is_t hI l hl h1 e1;have j1:JD d r1:=by rw[e1];exact rN0 ja
  generalize hv':ff r1=v at e;have hv:=hv'.symm;clear hv';have c3:=hF.c r1 v j1 hv;clear ha hv e1 h1
  by_cases k3:a.1.k=3
  ·rw[if_pos k3] at e
   obtain ⟨r2,h2⟩:∃r2,r2=zB0 l v.2 ⟨⟨[59]⟩⟩:=⟨_,rfl⟩;have c4:=zK0 hI l hl h2;have q:x=(.mk 2 a.1.s ⟨⟨[]⟩⟩ [v.1] [] [],r2):=by rw[e,<-h2]
   clear e h2 hk;refine qN hI tyK Tryz.func200 50 [.cell 2 74] ?_;unhygienic intros
   refine qB 1 ?_
   (repeat' first|refine qA 1 ?_|refine qJ (nN [0]) ?_|refine qp ?_ ?_|refine qk (fun h=>?_) fun h=>?_|fail)
   all_goals first | exact absurd k3 (by assumption) | exact hR _ _ ⟨by rw[q];simp only[AV.roC,A.roC,List.map,erD,sA,hI.e,Ex.t_of,Sm.k,Sm.s,Sm.tt,Sm.x,Sm.a,Sm.b],by rw[q]⟩
  rw[if_neg k3] at e
  by_cases k4:a.1.k=4
  ·rw[if_pos k4] at e
   obtain ⟨r2,h2⟩:∃r2,r2=zB0 l v.2 ⟨⟨[59]⟩⟩:=⟨_,rfl⟩;have c4:=zK0 hI l hl h2;have q:x=(.mk 3 a.1.s ⟨⟨[]⟩⟩ [a.1.l[0]!,v.1] [] [],r2):=by rw[e,<-h2]
   have hk:=hk (.inl k4);clear e h2;refine qN hI tyK Tryz.func200 50 [.cell 2 74] ?_;unhygienic intros
   refine qB 1 ?_
   (repeat' first|refine qA 1 ?_|refine qJ (nN [0]) ?_|refine qp ?_ ?_|refine qk (fun h=>?_) fun h=>?_|fail)
   all_goals first | exact absurd (by assumption) k3 | exact absurd k4 (by assumption) | exact hR _ _ ⟨by rw[q];simp only[AV.roC,A.roC,List.map,erD,sA,hI.e,Ex.t_of,Sm.k,Sm.s,Sm.tt,Sm.x,Sm.a,Sm.b],by rw[q]⟩
  rw[if_neg k4] at e
  by_cases k5:a.1.k=5
  ·rw[if_pos k5] at e
   obtain ⟨r2,h2⟩:∃r2,r2=zB0 l v.2 ⟨⟨[59]⟩⟩:=⟨_,rfl⟩;have c4:=zK0 hI l hl h2;have q:x=(.mk 4 ⟨⟨[]⟩⟩ ⟨⟨[]⟩⟩ [a.1.l[0]!,v.1] [] [],r2):=by rw[e,<-h2]
   have hk:=hk (.inr k5);clear e h2;refine qN hI tyK Tryz.func200 50 [.cell 2 74] ?_;unhygienic intros
   refine qB 1 ?_
   (repeat' first|refine qA 1 ?_|refine qJ (nN [0]) ?_|refine qp ?_ ?_|refine qk (fun h=>?_) fun h=>?_|fail)
   all_goals first | exact absurd (by assumption) k3 | exact absurd (by assumption) k4 | exact absurd k5 (by assumption) | exact hR _ _ ⟨by rw[q];simp only[AV.roC,A.roC,List.map,erD,sA,hI.e,Ex.t_of,Sm.k,Sm.s,Sm.tt,Sm.x,Sm.a,Sm.b],by rw[q]⟩
  ·rw[if_neg k5] at e
   obtain ⟨r2,h2⟩:∃r2,r2=zB0 l v.2.fail ⟨⟨[59]⟩⟩:=⟨_,rfl⟩;have c4:=RV0 hI l hl h2;have q:x=(.mk 12 ⟨⟨[]⟩⟩ ⟨⟨[]⟩⟩ [a.1] [] [],r2):=by rw[e,<-h2]
   clear e h2 hk;refine qN hI tyK Tryz.func200 50 [.cell 2 74] ?_;unhygienic intros
   refine qB 1 ?_
   (repeat' first|refine qA 1 ?_|refine qJ (nN [0]) ?_|refine qp ?_ ?_|refine qk (fun h=>?_) fun h=>?_|fail)
   all_goals first | exact absurd (by assumption) k3 | exact absurd (by assumption) k4 | exact absurd (by assumption) k5 | exact hR _ _ ⟨by rw[q];simp only[AV.roC,A.roC,List.map,erD,sA,hI.e,Ex.t_of,Sm.k,Sm.s,Sm.tt,Sm.x,Sm.a,Sm.b],by rw[q]⟩
 ·rw[if_neg h1] at e
  have c2:=is_f hI l hl h1;obtain ⟨r2,h2⟩:∃r2,r2=zB0 l a.2 ⟨⟨[59]⟩⟩:=⟨_,rfl⟩;have c3:=zK0 hI l hl h2;have q:x=(.mk 12 ⟨⟨[]⟩⟩ ⟨⟨[]⟩⟩ [a.1] [] [],r2):=by rw[e,<-h2]
  clear e h2 hk ha;refine qN hI tyK Tryz.func200 50 [.cell 2 74] ?_;unhygienic intros
  refine qB 1 ?_
  repeat' first|refine qA 1 ?_|refine qJ (nN [0]) ?_|refine qp ?_ ?_|refine qk (fun h=>?_) fun h=>?_|fail
  exact hR _ _ ⟨by rw[q];simp only[AV.roC,A.roC,List.map,erD,sA,hI.e,Ex.t_of,Sm.k,Sm.s,Sm.tt,Sm.x,Sm.a,Sm.b],by rw[q]⟩
theorem yL1 {r:Rd} (hj:JD d r) (hi0:r.bad=true\/r.i<=l.length) {x:Sm×Rd} (e:x=mH0 l ff r):RdC @I l 194 [] r (sA @I x.1) x.2:=by
 refine yM0 ?_;obtain ⟨y,hy⟩:∃y,y=yY0 l ff (l.length+2) r:=⟨_,rfl⟩;have e0:x=(.mk 1 ⟨⟨[]⟩⟩ ⟨⟨[]⟩⟩ y.1 [] [],zB0 l y.2 ⟨⟨[59]⟩⟩):=by rw[e,mH0,<-hy]
 refine qN hI tyK Tryz.func194 28 [.cell 2 74] ?_;unhygienic intros
 refine qB 1 ?_
 repeat' first|refine qA 1 ?_|refine qp ?_ ?_|refine qk (fun h=>?_) fun h=>?_|fail
 refine qLf 3 [0,2,3,4] (kkB 2 3 4) (fun a:List Ex×Bool×Rd×Nat=>⟨vag 28 [(0,⟨.one,[.ptr 0 0]⟩),(2,⟨.one,[.ptr 1 0]⟩),(3,⟨.one,[.ptr 2 0]⟩),(4,litB a.2.1)],[rdB @I l a.2.2.1,some [.lit (.int .i64 0),.lit (.string ⟨⟨[]⟩⟩),.lit (.string ⟨⟨[]⟩⟩),.nil,.nil,.nil],some [.lit (.int .i64 1),.lit (.string ⟨⟨[]⟩⟩),.lit (.string ⟨⟨[]⟩⟩),.ow (0,0) false 4 (I (a.1.map Ex.t)),.nil,.nil]],1⟩)
  (fun a=>JD d a.2.2.1/\a.1.length+a.2.2.2<=l.length+2/\(a.2.1=true->a.2.2.1.bad=true\/(a.2.2.1.i<=l.length/\l.length < a.2.2.1.i+a.2.2.2))/\y=(if a.2.1=true then (a.1++(yY0 l ff a.2.2.2 a.2.2.1).1,(yY0 l ff a.2.2.2 a.2.2.1).2) else (a.1,a.2.2.1))) (fun a=>a.2.2.2) ?_ fun a ha=>?_
 ·cbv
  exact ⟨([],true,r,l.length+2),by simp only[hI.e];rfl,hj,by simp,fun _=>hi0.imp id fun q=>⟨q,by simp only;omega⟩,by simp[hy]⟩
 obtain ⟨acc,b,rc,m⟩:=a;obtain ⟨hjc,hlen,hin,hyv⟩:=ha;simp only at hjc hlen hin hyv |-;have hacc:acc.length<=1048580:=by omega
 cases b
 ·simp only[Bool.false_eq_true,if_false] at hyv
  obtain ⟨r3,h3⟩:∃r3,r3=zB0 l rc ⟨⟨[59]⟩⟩:=⟨_,rfl⟩;have c1:=zK0 hI l hl h3;have q:x=(.mk 1 ⟨⟨[]⟩⟩ ⟨⟨[]⟩⟩ acc [] [],r3):=by rw[e0,hyv,h3]
  clear e e0 hyv hy hin;refine qB 1 ?_
  repeat' first|refine qA 1 ?_|refine qJ (nN [0]) ?_|refine qp ?_ ?_|refine qk (fun h=>?_) fun h=>?_|fail
  all_goals exact hR _ _ ⟨by rw[q];simp only[AV.roC,A.roC,List.map,erD,sA,hI.e,Ex.t_of,Sm.k,Sm.s,Sm.tt,Sm.x,Sm.a,Sm.b],by rw[q]⟩
 ·simp only[if_true] at hyv
  by_cases hbad:rc.bad=true
  ·have hp:yY0 l ff m rc=([],rc):=by cases m<;>simp[yY0,hbad]
   rw[hp] at hyv;simp only[List.append_nil] at hyv;obtain ⟨r3,h3⟩:∃r3,r3=zB0 l rc ⟨⟨[59]⟩⟩:=⟨_,rfl⟩;have c1:=zK0 hI l hl h3;have q:x=(.mk 1 ⟨⟨[]⟩⟩ ⟨⟨[]⟩⟩ acc [] [],r3):=by rw[e0,hyv,h3]
   clear e e0 hyv hy hin;refine qB 1 ?_
   (repeat' first|refine qA 1 ?_|refine qJ (nN [0]) ?_|refine qp ?_ ?_|refine qk (fun h=>?_) fun h=>?_|fail)
   all_goals first | exact absurd hbad (by assumption) | exact hR _ _ ⟨by rw[q];simp only[AV.roC,A.roC,List.map,erD,sA,hI.e,Ex.t_of,Sm.k,Sm.s,Sm.tt,Sm.x,Sm.a,Sm.b],by rw[q]⟩
  ·have hbf:rc.bad=false:=Bool.eq_false_iff.2 hbad
   have hin:=(hin rfl).resolve_left hbad;obtain ⟨m,rfl⟩:∃m',m=m' + 1:=⟨m - 1,by omega⟩
   rw[yY0,if_neg hbad] at hyv;obtain ⟨z,hzz⟩:∃z,z=ff rc:=⟨_,rfl⟩;have c1:=hF.c rc z hjc hzz;have hle:=hF.le rc;rw[<-hzz] at hle hyv;have hjz:JD d z.2:=hle.j hjc;have hlei:=hle.i
   by_cases hsc:pSee l z.2 5 ⟨⟨[44]⟩⟩
   ·obtain ⟨r4,h4⟩:∃r4,r4=z.2.adv:=⟨_,rfl⟩
    have c2:=is_t hI l hl hsc h4;rw[if_pos hsc,<-h4] at hyv;have hlt:=hsc.2.1;have hi4:r4.i=z.2.i+1:=by rw[h4];rfl
    have hj4:JD d r4:=by rw[h4];exact rN0 hjz
    clear hzz hle e e0 hsc h4;refine qB 1 ?_
    (repeat' first|refine qA 1 ?_|refine qJ (nN [0]) ?_|refine qp ?_ ?_|refine qk (fun h=>?_) fun h=>?_|fail)
    all_goals first
     | exact absurd (Classical.not_not.1 (by assumption)) hbad
     | exact ⟨(acc++[z.1],true,r4,m),by (try simp only[A.reset,xV0,hI.e]);rfl,⟨hj4,by simp only[List.length_append,List.length_cons,List.length_nil];omega,fun _=>.inr ⟨by simp only;omega,by simp only;omega⟩,by simp only[if_true];rw[hyv];simp⟩,by simp only;omega⟩
   ·have c2:=is_f hI l hl hsc
    rw[if_neg hsc] at hyv;clear hzz hle e e0 hsc;refine qB 1 ?_
    (repeat' first|refine qA 1 ?_|refine qJ (nN [0]) ?_|refine qp ?_ ?_|refine qk (fun h=>?_) fun h=>?_|fail)
    all_goals first
     | exact absurd (Classical.not_not.1 (by assumption)) hbad
     | exact ⟨(acc++[z.1],false,z.2,m),by (try simp only[A.reset,xV0,hI.e]);rfl,⟨hjz,by simp only[List.length_append,List.length_cons,List.length_nil];omega,fun q=>absurd q (by simp),by simp only[Bool.false_eq_true,if_false];rw[hyv]⟩,by simp only;omega⟩
end
variable {I:∀{α:Type},α->α}
section
variable (hI:II @I) (l:List Vl) (hl:l.length<=1048576) (hT:∀t∈l,t.s.size<=200)
include hI hl hT
section
variable {d:Int} {ff:Rd->Ex×Rd} (hF:kC0 @I l d ff) (hK:KE ff) {bb:Rd->List Sm×Rd} (hB:RA0 @I l d bb)
include hF hK hB
theorem uZ1 {r:Rd} (hj:JD d r) {x:Sm×Rd} (e:x=qX0 l ff bb r):RdC @I l 175 [] r (sA @I x.1) x.2:=by
 refine yM0 ?_;obtain ⟨r1,e1⟩:∃r1,r1=r.adv:=⟨_,rfl⟩;have j1:JD d r1:=by rw[e1];exact rN0 hj
 have c1:=fun (s:ByteArray) (h:¬pSee l r 2 s)=>is_f hI l hl h;unfold qX0 at e
 by_cases h0:pSee l r 2 ⟨⟨[112,114,105,110,116]⟩⟩
 ·have c2:=is_t hI l hl h0 e1
  have hlt:=h0.2.1;have hi1:r1.bad=true\/r1.i<=l.length:=.inr (by rw[e1];exact hlt)
  rw[if_pos h0,<-e1] at e;have c3:=yL1 hI l hl hF j1 hi1 e;clear e e1;refine qN hI tyK Tryz.func175 55 [.cell 2 74] ?_;unhygienic intros
  refine qB 1 ?_
  repeat' first|refine qA 1 ?_|refine qJ (nN [0]) ?_|refine qp ?_ ?_|refine qk (fun h=>?_) fun h=>?_|fail
  exact hR _ _ ⟨by simp only[AV.roC,A.roC,List.map,erD],rfl⟩
 rw[if_neg h0] at e
 by_cases h1:pSee l r 2 ⟨⟨[105,102]⟩⟩
 ·have c2:=is_t hI l hl h1 e1
  have hlt:=h1.2.1;have hi1:r1.bad=true\/r1.i<=l.length:=.inr (by rw[e1];exact hlt)
  rw[if_pos h1,<-e1] at e;have c3:=rd_if hI l hl hF hB j1 e;clear e e1;refine qN hI tyK Tryz.func175 55 [.cell 2 74] ?_;unhygienic intros
  refine qB 1 ?_
  repeat' first|refine qA 1 ?_|refine qJ (nN [0]) ?_|refine qp ?_ ?_|refine qk (fun h=>?_) fun h=>?_|fail
  exact hR _ _ ⟨by simp only[AV.roC,A.roC,List.map,erD],rfl⟩
 rw[if_neg h1] at e
 by_cases h2:pSee l r 2 ⟨⟨[119,104,105,108,101]⟩⟩
 ·have c2:=is_t hI l hl h2 e1
  have hlt:=h2.2.1;have hi1:r1.bad=true\/r1.i<=l.length:=.inr (by rw[e1];exact hlt)
  rw[if_pos h2,<-e1] at e;generalize ha':rX0 l ff r1=a at e;have ha:=ha'.symm;clear ha';have c3:=JU0 hI l hl hF j1 ha;have ja:JD d a.2:=by rw[ha];exact (nM0 hF.le r1).j j1
  generalize hb':bb a.2=b at e;have hb:=hb'.symm;clear hb';have c4:=hB.c a.2 b ja hb;have q:=e;clear e e1 ha hb;refine qN hI tyK Tryz.func175 55 [.cell 2 74] ?_;unhygienic intros
  refine qB 1 ?_
  repeat' first|refine qA 1 ?_|refine qJ (nN [0]) ?_|refine qp ?_ ?_|refine qk (fun h=>?_) fun h=>?_|fail
  exact hR _ _ ⟨by rw[q];simp only[AV.roC,A.roC,List.map,erD,sA,hI.e,Ex.t_of,Sm.k,Sm.s,Sm.tt,Sm.x,Sm.a,Sm.b],by rw[q]⟩
 rw[if_neg h2] at e
 by_cases h3:pSee l r 2 ⟨⟨[102,111,114]⟩⟩
 ·have c2:=is_t hI l hl h3 e1
  have hlt:=h3.2.1;have hi1:r1.bad=true\/r1.i<=l.length:=.inr (by rw[e1];exact hlt)
  rw[if_pos h3,<-e1] at e;have c3:=pV1 hI l hl hT hB j1 e;clear e e1;refine qN hI tyK Tryz.func175 55 [.cell 2 74] ?_;unhygienic intros
  refine qB 1 ?_
  repeat' first|refine qA 1 ?_|refine qJ (nN [0]) ?_|refine qp ?_ ?_|refine qk (fun h=>?_) fun h=>?_|fail
  exact hR _ _ ⟨by simp only[AV.roC,A.roC,List.map,erD],rfl⟩
 rw[if_neg h3] at e
 by_cases h4:pSee l r 2 ⟨⟨[110,101,120,116]⟩⟩
 ·have c2:=is_t hI l hl h4 e1
  have hlt:=h4.2.1;have hi1:r1.bad=true\/r1.i<=l.length:=.inr (by rw[e1];exact hlt)
  rw[if_pos h4,<-e1] at e;obtain ⟨r2,h2⟩:∃r2,r2=zB0 l r1 ⟨⟨[59]⟩⟩:=⟨_,rfl⟩;have c3:=zK0 hI l hl h2;have q:x=(.mk 8 ⟨⟨[]⟩⟩ ⟨⟨[]⟩⟩ [] [] [],r2):=by rw[e,<-h2]
  clear e e1 h2;refine qN hI tyK Tryz.func175 55 [.cell 2 74] ?_;unhygienic intros
  refine qB 1 ?_
  repeat' first|refine qA 1 ?_|refine qJ (nN [0]) ?_|refine qp ?_ ?_|refine qk (fun h=>?_) fun h=>?_|fail
  exact hR _ _ ⟨by rw[q];simp only[AV.roC,A.roC,List.map,erD,sA,hI.e,Ex.t_of,Sm.k,Sm.s,Sm.tt,Sm.x,Sm.a,Sm.b],by rw[q]⟩
 rw[if_neg h4] at e
 by_cases h5:pSee l r 2 ⟨⟨[101,120,105,116]⟩⟩
 ·have c2:=is_t hI l hl h5 e1
  have hlt:=h5.2.1;have hi1:r1.bad=true\/r1.i<=l.length:=.inr (by rw[e1];exact hlt)
  rw[if_pos h5,<-e1] at e;have c3:=vK1 hI l hl hF j1 e;clear e e1;refine qN hI tyK Tryz.func175 55 [.cell 2 74] ?_;unhygienic intros
  refine qB 1 ?_
  repeat' first|refine qA 1 ?_|refine qJ (nN [0]) ?_|refine qp ?_ ?_|refine qk (fun h=>?_) fun h=>?_|fail
  exact hR _ _ ⟨by simp only[AV.roC,A.roC,List.map,erD],rfl⟩
 rw[if_neg h5] at e
 by_cases h6:pSee l r 2 ⟨⟨[114,101,116,117,114,110]⟩⟩
 ·have c2:=is_t hI l hl h6 e1
  have hlt:=h6.2.1;have hi1:r1.bad=true\/r1.i<=l.length:=.inr (by rw[e1];exact hlt)
  rw[if_pos h6,<-e1] at e;have c3:=vK1 hI l hl hF j1 e;clear e e1;refine qN hI tyK Tryz.func175 55 [.cell 2 74] ?_;unhygienic intros
  refine qB 1 ?_
  repeat' first|refine qA 1 ?_|refine qJ (nN [0]) ?_|refine qp ?_ ?_|refine qk (fun h=>?_) fun h=>?_|fail
  exact hR _ _ ⟨by simp only[AV.roC,A.roC,List.map,erD],rfl⟩
 rw[if_neg h6] at e
 by_cases h7:pSee l r 2 ⟨⟨[100,101,108,101,116,101]⟩⟩
 ·have c2:=is_t hI l hl h7 e1
  have hlt:=h7.2.1;have hi1:r1.bad=true\/r1.i<=l.length:=.inr (by rw[e1];exact hlt)
  rw[if_pos h7,<-e1] at e;have c3:=pW1 hI l hl hT hF j1 e;clear e e1;refine qN hI tyK Tryz.func175 55 [.cell 2 74] ?_;unhygienic intros
  refine qB 1 ?_
  repeat' first|refine qA 1 ?_|refine qJ (nN [0]) ?_|refine qp ?_ ?_|refine qk (fun h=>?_) fun h=>?_|fail
  exact hR _ _ ⟨by simp only[AV.roC,A.roC,List.map,erD],rfl⟩
 rw[if_neg h7] at e;have c2:=yM1 hI l hl hF hK hj e;clear e e1;refine qN hI tyK Tryz.func175 55 [.cell 2 74] ?_;unhygienic intros
 refine qB 1 ?_
 repeat' first|refine qA 1 ?_|refine qJ (nN [0]) ?_|refine qp ?_ ?_|refine qk (fun h=>?_) fun h=>?_|fail
 exact hR _ _ ⟨by simp only[AV.roC,A.roC,List.map,erD],rfl⟩
end
end
variable {I:∀{α:Type},α->α}
theorem bK0 {l:List Vl} {r:Rd} {s:ByteArray} (h:r.bad=true):zB0 l r s=r.fail:=by
 unfold zB0;rw[if_neg fun q=>by rw[q.1] at h;exact absurd h (by decide)]
section
variable (hI:II @I) (l:List Vl) (hl:l.length<=1048576) (hT:∀t∈l,t.s.size<=200)
include hI hl hT
theorem YW0 {r r1:Rd} (h1:r1=zB0 l r ⟨⟨[123]⟩⟩) (hb:r1.bad=true\/20 < dInc r1.deep):RdC @I l 158 [] r ⟨.one,[.ro true (I (([]:List Sm).map Sm.t))]⟩ ⟨r1.i,true,dDec (dInc r1.deep)⟩:=by
 refine yM0 ?_;have c1:=zK0 hI l hl h1;have c2:=RV0 hI l hl (r:=⟨r1.i,false,dDec (dInc r1.deep)⟩) (r':=⟨r1.i,true,dDec (dInc r1.deep)⟩) (s:=⟨⟨[125]⟩⟩) (by rw[bK0 (by rfl)];rfl)
 dsimp only at c2
 clear h1
 by_cases hb1:r1.bad=true
 ·refine qN hI tyK Tryz.func158 61 [.tmp 2] ?_;unhygienic intros
  have e1:bin .add .i64 (I r1.deep) 1=I (dInc r1.deep):=by simp only[hI.e];cases hO;rfl
  have e2:bin .sub .i64 (I (dInc r1.deep)) 1=I (dDec (dInc r1.deep)):=by simp only[hI.e];cases hO;rfl
  have e3:I r1.bad=true:=by rw[hI.e,hb1]
  refine qB 1 ?_
  repeat' first|refine qA 1 ?_|refine qJ (nN [0]) ?_|refine qp ?_ ?_|refine qk (fun h=>?_) fun h=>?_|fail
  all_goals first | exact absurd (by decide:¬False) (by assumption) | skip
  all_goals (
   refine qLf 1 [0,3] (kkS 3 6) (fun _:Unit=>⟨vag 61 [(0,⟨.one,[.ptr 0 0]⟩),(3,⟨.one,[.ow (0,0) false 6 []]⟩)],[some [.ro true (I (l.map Vl.t)),.lit (.int .i64 (Int.ofNat (I r1.i))),.lit (.bool true),.lit (.int .i64 (I (dInc r1.deep)))]],1⟩) (fun _=>True) (fun _=>0) ?_ fun _ _=>?_
   ·cbv
    exact ⟨(),rfl,trivial⟩
   refine qB 1 ?_
   (repeat' first|refine qA 1 ?_|refine qJ (nN [0]) ?_|refine qp ?_ ?_|refine qk (fun h=>?_) fun h=>?_|fail)
   exact hR _ _ ⟨by simp only[AV.roC,A.roC,List.map,erD,hI.e],by simp only[rdB,hI.e]⟩)
 ·have hb:=hb.resolve_left hb1
  refine qN hI tyK Tryz.func158 61 [.tmp 2] ?_;unhygienic intros
  have e1:bin .add .i64 (I r1.deep) 1=I (dInc r1.deep):=by simp only[hI.e];cases hO;rfl
  have e2:bin .sub .i64 (I (dInc r1.deep)) 1=I (dDec (dInc r1.deep)):=by simp only[hI.e];cases hO;rfl
  refine qB 1 ?_
  repeat' first|refine qA 1 ?_|refine qJ (nN [0]) ?_|refine qp ?_ ?_|refine qk (fun h=>?_) fun h=>?_|fail
  all_goals first | exact absurd hb (by assumption) | skip
  all_goals (
   refine qLf 1 [0,3] (kkS 3 6) (fun _:Unit=>⟨vag 61 [(0,⟨.one,[.ptr 0 0]⟩),(3,⟨.one,[.ow (0,0) false 6 []]⟩)],[some [.ro true (I (l.map Vl.t)),.lit (.int .i64 (Int.ofNat (I r1.i))),.lit (.bool true),.lit (.int .i64 (I (dInc r1.deep)))]],1⟩) (fun _=>True) (fun _=>0) ?_ fun _ _=>?_
   ·cbv
    exact ⟨(),rfl,trivial⟩
   refine qB 1 ?_
   (repeat' first|refine qA 1 ?_|refine qJ (nN [0]) ?_|refine qp ?_ ?_|refine qk (fun h=>?_) fun h=>?_|fail)
   exact hR _ _ ⟨by simp only[AV.roC,A.roC,List.map,erD,hI.e],by simp only[rdB,hI.e]⟩)
theorem qU0 (f:Nat) (hf:f<=20) (ih:∀g,f=g+1->RA0 @I l (20 - g) (yU0 l g)):RA0 @I l (20 - f) (yU0 l f):=by
 refine ⟨fun r=>(kH0 f hf r).1,fun r x hj e=>?_⟩;obtain ⟨r1,h1⟩:∃r1,r1=zB0 l r ⟨⟨[123]⟩⟩:=⟨_,rfl⟩;have j1:JD (20 - f) r1:=by rw[h1];exact (zC0 _ _ _).j hj
 by_cases hb:r1.bad=true\/f=0
 ·have hb':r1.bad=true\/20 < dInc r1.deep:=by
   rcases hb with q | q
   ·exact .inl q
   ·rcases j1 with j | j
    ·exact .inl j
    ·exact .inr (by subst q;rw[j];decide)
  have e0:x=([],⟨r1.i,true,dDec (dInc r1.deep)⟩):=by
   cases f with
   | zero=>rw[e,yU0,<-h1,bK0 (by rfl)];rfl
   | succ f=>
    have hb:=hb.resolve_right (by simp)
    rw[e,yU0];rw[<-h1,show xW0 l (qX0 l (wQ0 l f) (yU0 l f)) (l.length+2) r1.inc=([],r1.inc) by cases hh:l.length+2<;>simp[xW0,Rd.inc,hb],bK0 (show r1.inc.dec.bad=true from hb)]
    rfl
  rw[e0];exact YW0 hI l hl hT h1 hb'
 have hb1:¬r1.bad=true:=fun q=>hb (.inl q);obtain ⟨g,rfl⟩:∃g,f=g+1:=⟨f - 1,by omega⟩
 have ih:=ih g rfl;have hd:r1.deep=20 - ((g+1:Nat):Int):=j1.resolve_left hb1;have hd1:dInc r1.deep=20 - (g:Int):=by rw[hd,bY0 (by omega)];omega
 have hF:=bB0 hI l hl hT g (by omega)
 have cS:=fun (r:Rd) (x:Sm×Rd) (hj:JD (20 - g) r) (e:x=qX0 l (wQ0 l g) (yU0 l g) r)=>uZ1 hI l hl hT hF (vU1 g) ih hj e;have hS:=fun r=>GE0 (l:=l) hF.le ih.le r;have hlt:=fun r=>tR1 (l:=l) (r:=r) hF.le ih.le fun r=>(kH0 g (by omega) r).2
 rw[yU0,<-h1] at e;generalize qX0 l (wQ0 l g) (yU0 l g)=ss at *;obtain ⟨y,hy⟩:∃y,y=xW0 l ss (l.length+2) r1.inc:=⟨_,rfl⟩;have e0:x=(y.1,zB0 l y.2.dec ⟨⟨[125]⟩⟩):=by rw[e,<-hy]
 have n3:¬20 < dInc r1.deep:=by omega
 refine yM0 ?_;have c1:=zK0 hI l hl h1;clear e h1 ih hF hj;refine qN hI tyK Tryz.func158 61 [.tmp 2] ?_;unhygienic intros
 have e1:bin .add .i64 (I r1.deep) 1=I (dInc r1.deep):=by simp only[hI.e];cases hO;rfl
 refine qB 1 ?_
 repeat' first|refine qA 1 ?_|refine qJ (nN [0]) ?_|refine qp ?_ ?_|refine qk (fun h=>?_) fun h=>?_|fail
 all_goals first | exact absurd (by assumption) n3 | skip
 clear e1 c1;refine qLf 1 [0,3] (kkS 3 6) (fun a:List Sm×Rd×Nat=>⟨vag 61 [(0,⟨.one,[.ptr 0 0]⟩),(3,⟨.one,[.ow (0,0) false 6 (I (a.1.map Sm.t))]⟩)],[rdB @I l a.2.1],1⟩)
  (fun a=>JD (20 - g) a.2.1/\a.1.length+a.2.2<=l.length+2/\(a.2.1.bad=true\/l.length < a.2.1.i+a.2.2)/\y=(a.1++(xW0 l ss a.2.2 a.2.1).1,(xW0 l ss a.2.2 a.2.1).2)) (fun a=>a.2.2) ?_ fun a ha=>?_
 ·cbv
  exact ⟨([],r1.inc,l.length+2),by simp only[hI.e];rfl,.inr hd1,by simp,.inr (by simp only[Rd.inc];omega),by simp[hy]⟩
 obtain ⟨acc,rc,m⟩:=a;obtain ⟨hjc,hlen,hin,hyv⟩:=ha;simp only at hjc hlen hin hyv |-;have hacc:acc.length<=1048580:=by omega
 by_cases hP:rc.bad=false/\rc.i < l.length/\¬pSee l rc 5 ⟨⟨[125]⟩⟩
 ·have n1:¬rc.bad=true:=by rw[hP.1];decide
  have n2:=hP.2.1;have hin:=hin.resolve_left n1;obtain ⟨m,rfl⟩:∃m',m=m' + 1:=⟨m - 1,by omega⟩
  rw[xW0,if_pos hP] at hyv;obtain ⟨z,hz⟩:∃z,z=ss rc:=⟨_,rfl⟩;have c1:=NP0 hI l hl hP.2.2;have c2:=cS rc z hjc hz;have jz:JD (20 - (g:Int)) z.2:=by rw[hz];exact (hS rc).j hjc
  have lz:z.2.bad=true\/l.length < z.2.i+m:=by
   by_cases q:z.2.bad=true
   ·exact .inl q
   ·have:=hlt rc (by rw[<-hz];exact Bool.eq_false_iff.2 q)
    rw[<-hz] at this;exact .inr (by omega)
  rw[<-hz] at hyv;clear hP hz cS hS hlt e0 hy;refine qB 1 ?_
  repeat' first|refine qA 1 ?_|refine qJ (nN [0]) ?_|refine qp ?_ ?_|refine qk (fun h=>?_) fun h=>?_|fail
  all_goals first
   | exact absurd n2 (by assumption)
   | exact absurd (Classical.not_not.1 (by assumption)) n1
   | exact ⟨(acc++[z.1],z.2,m),by (try simp only[A.reset,xV0,hI.e]);rfl,⟨jz,by simp only[List.length_append,List.length_cons,List.length_nil];omega,lz,by simp only;rw[hyv];simp⟩,by simp only;omega⟩
 ·have hp:xW0 l ss m rc=([],rc):=by
   cases m with
   | zero=>rw[xW0]
   | succ m=>rw[xW0,if_neg hP]
  rw[hp] at hyv;simp only[List.append_nil] at hyv;obtain ⟨r3,h3⟩:∃r3,r3=zB0 l rc.dec ⟨⟨[125]⟩⟩:=⟨_,rfl⟩;have q:x=(acc,r3):=by rw[e0,hyv,h3]
  have c2:ACl Tryz.prog 157 [⟨.one,[.ptr 0 0]⟩,litS ⟨⟨[125]⟩⟩] [some [.ro true (I (l.map Vl.t)),.lit (.int .i64 (Int.ofNat (I rc.i))),.lit (.bool (I rc.bad)),.lit (.int .i64 (I (dDec rc.deep)))]] (fun rs bx=>rs=⟨.tup [],[]⟩/\bx=[rdB @I l r3]):=(zK0 hI l hl h3:RdC @I l 157 [litS ⟨⟨[125]⟩⟩] rc.dec ⟨.tup [],[]⟩ r3);have e1:bin .sub .i64 (I rc.deep) 1=I (dDec rc.deep):=by simp only[hI.e];cases hO;rfl
  by_cases hs:pSee l rc 5 ⟨⟨[125]⟩⟩
  ·have c1:=JN0 hI l hl hs
   clear cS hS hlt e0 hy hs hP;refine qB 1 ?_
   (repeat' first|refine qA 1 ?_|refine qJ (nN [0]) ?_|refine qp ?_ ?_|refine qk (fun h=>?_) fun h=>?_|fail)
   all_goals exact hR _ _ ⟨by rw[q];rfl,by rw[q]⟩
  ·have c1:=NP0 hI l hl hs
   obtain ⟨z,hz⟩:∃z,z=ss rc:=⟨_,rfl⟩;have c3:=cS rc z hjc hz;have hPs:¬rc.bad=true->¬rc.i < l.length:=fun q1 q2=>hP ⟨Bool.eq_false_iff.2 q1,q2,hs⟩;clear cS hS hlt e0 hy hz hP hs;refine qB 1 ?_
   (repeat' first|refine qA 1 ?_|refine qJ (nN [0]) ?_|refine qp ?_ ?_|refine qk (fun h=>?_) fun h=>?_|fail)
   all_goals first
    | exact hR _ _ ⟨by rw[q];rfl,by rw[q]⟩
    | exact absurd (by assumption) (hPs (by assumption))
end
end Go.Gv
