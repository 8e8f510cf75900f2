/- Part V4 of the proof: contracts of functions of the program, each walked once. -/
import Derived.Test.YtfobhlmjcnkpiaaGreatDoorV3
import Derived.Test.YtfobhlmjcnkpiaaGreatDoorR1
set_option linter.all false
namespace Go.Gv
open Go.Av Go.Proofs
set_option maxRecDepth 10000
set_option maxHeartbeats 8000000
variable {I:∀{α:Type},α->α}
theorem nG1 {l:List Vl} (r:Rd) (s:ByteArray):(zB0 l r s).bad=true\/(zB0 l r s).i<=l.length:=by
 unfold zB0
 split
 ·rename_i q;exact .inr q.2.1
 ·exact .inl rfl
section
variable (hI:II @I) (l:List Vl) (hl:l.length<=1048576) (hT:∀t∈l,t.s.size<=200)
include hI hl hT
theorem bC0:∀(f:Nat),f<=20->RA0 @I l (20 - f) (yU0 l f)
 | 0,hf=>qU0 hI l hl hT 0 hf fun g q=>absurd q (by simp)
 | f+1,hf=>qU0 hI l hl hT (f+1) hf fun g q=>by
  have:g=f:=by omega
  subst this;exact bC0 g (by omega)
section
variable {d:Int} {ff:Rd->Ex×Rd} (hF:kC0 @I l d ff) {bb:Rd->List Sm×Rd} (hB:RA0 @I l d bb)
include hB
theorem rd_fn {r:Rd} (hj:JD d r) {x:Fu×Rd} (e:x=pFn l bb r):RdC @I l 133 [] r (fuA @I x.1) x.2:=by
 refine yM0 ?_;unfold pFn at e
 dsimp only at e
 generalize hs':wB0 l r=s at e;have hs:=hs'.symm;clear hs';have c1:=nG0 hI l hl hT hs;have js:JD d s.2:=by rw[hs];exact (wW0 d _).j hj
 generalize h1':zB0 l s.2 ⟨⟨[40]⟩⟩=r1 at e;have h1:=h1'.symm;clear h1';have c2:=zK0 hI l hl h1;have j1:JD d r1:=by rw[h1];exact (zC0 d _ _).j js
 obtain ⟨y,hy⟩:∃y,y=(@ite _ (pSee l r1 5 ⟨⟨[41]⟩⟩) (Classical.propDecidable _) (([]:List ByteArray),r1) (tB0 l (l.length+2) r1)):=⟨_,rfl⟩;rw[<-hy] at e;obtain ⟨b0,hb0,c3⟩:∃b0:Bool,(b0=true↔¬pSee l r1 5 ⟨⟨[41]⟩⟩)/\RdC @I l 155 [litI 5,litS ⟨⟨[41]⟩⟩] r1 (litB (!b0)) r1:=by
  by_cases q:pSee l r1 5 ⟨⟨[41]⟩⟩
  ·exact ⟨false,⟨fun h=>absurd h (by decide),fun h=>absurd q h⟩,JN0 hI l hl q⟩
  ·exact ⟨true,⟨fun _=>q,fun _=>rfl⟩,NP0 hI l hl q⟩
 have hyb:y=(if b0=true then tB0 l (l.length+2) r1 else ([],r1)):=by
  rw[hy]
  by_cases q:pSee l r1 5 ⟨⟨[41]⟩⟩
  ·rw[if_pos q,if_neg fun h=>hb0.1 h q]
  ·rw[if_neg q,if_pos (hb0.2 q)]
 have hi1:r1.bad=true\/r1.i<=l.length:=by rw[h1];exact nG1 _ _
 clear hs h1 hy;refine qN hI tyK Tryz.func133 39 [.cell 2 55] ?_;unhygienic intros
 have e1:bnot (!b0)=b0:=by cases hO;cases b0<;>rfl
 generalize (!b0)=b1 at *;refine qB 1 ?_
 repeat' first|refine qA 1 ?_|refine qJ (nN [0]) ?_|refine qp ?_ ?_|refine qk (fun h=>?_) fun h=>?_|fail
 clear c1 c2 c3 e1;refine qLf 3 [0,2,3,4] (kkB 2 1 1) (fun a:List ByteArray×Bool×Rd×Nat=>⟨vag 39 [(0,⟨.one,[.ptr 0 0]⟩),(2,⟨.one,[.ptr 1 0]⟩),(3,⟨.one,[.ptr 2 0]⟩),(4,litB a.2.1)],[rdB @I l a.2.2.1,some [.lit (.string ⟨⟨[]⟩⟩),.nil,.nil],some [.lit (.string (I s.1)),.ow (0,0) false 1 (I (a.1.map strT)),.nil]],1⟩)
  (fun a=>JD d a.2.2.1/\a.1.length+a.2.2.2<=l.length+2/\(a.2.1=true->a.2.2.1.bad=true\/(a.2.2.1.i<=l.length/\l.length < a.2.2.1.i+a.2.2.2))/\y=(if a.2.1=true then (a.1++(tB0 l a.2.2.2 a.2.2.1).1,(tB0 l a.2.2.2 a.2.2.1).2) else (a.1,a.2.2.1))) (fun a=>a.2.2.2) ?_ fun a ha=>?_
 ·cbv
  exact ⟨([],b0,r1,l.length+2),by simp only[hI.e];rfl,j1,by simp,fun _=>hi1.imp id fun q=>⟨q,by simp only;omega⟩,by simp only[List.nil_append];exact hyb⟩
 obtain ⟨acc,b,rc,m⟩:=a;obtain ⟨hjc,hlen,hin,hyv⟩:=ha;simp only at hjc hlen hin hyv |-;have hacc:acc.length<=1048580:=by omega
 cases b
 ·simp only[Bool.false_eq_true,if_false] at hyv
  obtain ⟨r3,h3⟩:∃r3,r3=zB0 l rc ⟨⟨[41]⟩⟩:=⟨_,rfl⟩;have c1:=zK0 hI l hl h3;have j3:JD d r3:=by rw[h3];exact (zC0 d _ _).j hjc
  obtain ⟨b,hb⟩:∃b,b=bb r3:=⟨_,rfl⟩;have c2:=hB.c r3 b j3 hb;have q:x=(⟨s.1,acc,b.1⟩,b.2):=by rw[e,hyv];simp only[<-h3,<-hb]
  clear e hyv hyb hin h3 hb;refine qB 1 ?_
  repeat' first|refine qA 1 ?_|refine qJ (nN [0]) ?_|refine qp ?_ ?_|refine qk (fun h=>?_) fun h=>?_|fail
  all_goals first | exact absurd (by decide:¬False) (by assumption) | exact hR _ _ ⟨by rw[q];simp only[AV.roC,A.roC,List.map,erD,fuA,hI.e],by rw[q]⟩
 ·simp only[if_true] at hyv
  by_cases hbad:rc.bad=true
  ·have hp:tB0 l m rc=([],rc):=by cases m<;>simp[tB0,hbad]
   rw[hp] at hyv;simp only[List.append_nil] at hyv;obtain ⟨r3,h3⟩:∃r3,r3=zB0 l rc ⟨⟨[41]⟩⟩:=⟨_,rfl⟩;have c1:=zK0 hI l hl h3;have j3:JD d r3:=by rw[h3];exact (zC0 d _ _).j hjc
   obtain ⟨b,hb⟩:∃b,b=bb r3:=⟨_,rfl⟩;have c2:=hB.c r3 b j3 hb;have q:x=(⟨s.1,acc,b.1⟩,b.2):=by rw[e,hyv];simp only[<-h3,<-hb]
   clear e hyv hyb hin h3 hb;refine qB 1 ?_
   (repeat' first|refine qA 1 ?_|refine qJ (nN [0]) ?_|refine qp ?_ ?_|refine qk (fun h=>?_) fun h=>?_|fail)
   all_goals first | exact absurd hbad (by assumption) | exact hR _ _ ⟨by rw[q];simp only[AV.roC,A.roC,List.map,erD,fuA,hI.e],by rw[q]⟩
  ·have hin:=(hin rfl).resolve_left hbad
   obtain ⟨m,rfl⟩:∃m',m=m' + 1:=⟨m - 1,by omega⟩
   rw[tB0,if_neg hbad] at hyv;obtain ⟨z,hz⟩:∃z,z=wB0 l rc:=⟨_,rfl⟩;have c1:=nG0 hI l hl hT hz;have hle:=wW0 (l:=l) d rc;rw[<-hz] at hle hyv;have hjz:JD d z.2:=hle.j hjc;have hlei:=hle.i
   by_cases hsc:pSee l z.2 5 ⟨⟨[44]⟩⟩
   ·obtain ⟨r4,h4⟩:∃r4,r4=z.2.adv:=⟨_,rfl⟩
    have c2:=is_t hI l hl hsc h4;rw[if_pos hsc,<-h4] at hyv;have hlt:=hsc.2.1;have hi4:r4.i=z.2.i+1:=by rw[h4];rfl
    have hj4:JD d r4:=by rw[h4];exact rN0 hjz
    clear hz hle e hyb hsc h4;refine qB 1 ?_
    (repeat' first|refine qA 1 ?_|refine qJ (nN [0]) ?_|refine qp ?_ ?_|refine qk (fun h=>?_) fun h=>?_|fail)
    all_goals first
     | exact absurd (Classical.not_not.1 (by assumption)) hbad
     | exact ⟨(acc++[z.1],true,r4,m),by (try simp only[A.reset,xV0,hI.e]);rfl,⟨hj4,by simp only[List.length_append,List.length_cons,List.length_nil];omega,fun _=>.inr ⟨by simp only;omega,by simp only;omega⟩,by simp only[if_true];rw[hyv];simp⟩,by simp only;omega⟩
   ·have c2:=is_f hI l hl hsc
    rw[if_neg hsc] at hyv;clear hz hle e hyb hsc;refine qB 1 ?_
    (repeat' first|refine qA 1 ?_|refine qJ (nN [0]) ?_|refine qp ?_ ?_|refine qk (fun h=>?_) fun h=>?_|fail)
    all_goals first
     | exact absurd (Classical.not_not.1 (by assumption)) hbad
     | exact ⟨(acc++[z.1],false,z.2,m),by (try simp only[A.reset,xV0,hI.e]);rfl,⟨hjz,by simp only[List.length_append,List.length_cons,List.length_nil];omega,fun q=>absurd q (by simp),by simp only[Bool.false_eq_true,if_false];rw[hyv]⟩,by simp only;omega⟩
end
section
variable {d:Int} {ff:Rd->Ex×Rd} (hF:kC0 @I l d ff) {bb:Rd->List Sm×Rd} (hB:RA0 @I l d bb)
include hF hB
omit hT in
theorem tA1 {r:Rd} (hj:JD d r) {x:Ru×Rd} (e:x=rW0 l ff bb r):RdC @I l 134 [] r (ruA @I x.1) x.2:=by
 refine yM0 ?_;obtain ⟨r1,e1⟩:∃r1,r1=r.adv:=⟨_,rfl⟩;have j1:JD d r1:=by rw[e1];exact rN0 hj
 have c1:=fun (s:ByteArray) (h:¬pSee l r 2 s)=>is_f hI l hl h;unfold rW0 at e
 by_cases h0:pSee l r 2 ⟨⟨[98,101,103,105,110]⟩⟩
 ·have c2:=is_t hI l hl h0 e1
  obtain ⟨b,hb⟩:∃b,b=bb r1:=⟨_,rfl⟩;have c3:=hB.c r1 b j1 hb;rw[if_pos h0,<-e1,<-hb] at e;have q:=e;clear e e1 hb;refine qN hI tyK Tryz.func134 25 [.cell 2 50] ?_;unhygienic intros
  refine qB 1 ?_
  repeat' first|refine qA 1 ?_|refine qJ (nN [0]) ?_|refine qp ?_ ?_|refine qk (fun h=>?_) fun h=>?_|fail
  exact hR _ _ ⟨by rw[q];simp only[AV.roC,A.roC,List.map,erD,ruA,hI.e];(try rfl),by rw[q]⟩
 rw[if_neg h0] at e
 by_cases h1:pSee l r 2 ⟨⟨[101,110,100]⟩⟩
 ·have c2:=is_t hI l hl h1 e1
  obtain ⟨b,hb⟩:∃b,b=bb r1:=⟨_,rfl⟩;have c3:=hB.c r1 b j1 hb;rw[if_pos h1,<-e1,<-hb] at e;have q:=e;clear e e1 hb;refine qN hI tyK Tryz.func134 25 [.cell 2 50] ?_;unhygienic intros
  refine qB 1 ?_
  repeat' first|refine qA 1 ?_|refine qJ (nN [0]) ?_|refine qp ?_ ?_|refine qk (fun h=>?_) fun h=>?_|fail
  exact hR _ _ ⟨by rw[q];simp only[AV.roC,A.roC,List.map,erD,ruA,hI.e];(try rfl),by rw[q]⟩
 rw[if_neg h1] at e
 by_cases h2:pSee l r 5 ⟨⟨[123]⟩⟩
 ·have c2:=JN0 hI l hl h2
  obtain ⟨b,hb⟩:∃b,b=bb r:=⟨_,rfl⟩;have c3:=hB.c r b hj hb;rw[if_pos h2,<-hb] at e;have q:=e;clear e e1 hb;refine qN hI tyK Tryz.func134 25 [.cell 2 50] ?_;unhygienic intros
  have e1:bnot true=false:=F.r18;refine qB 1 ?_
  repeat' first|refine qA 1 ?_|refine qJ (nN [0]) ?_|refine qp ?_ ?_|refine qk (fun h=>?_) fun h=>?_|fail
  exact hR _ _ ⟨by rw[q];simp only[AV.roC,A.roC,List.map,erD,ruA,hI.e];(try rfl),by rw[q]⟩
 ·have c2:=NP0 hI l hl h2
  obtain ⟨a,ha⟩:∃a,a=ff r:=⟨_,rfl⟩;have c3:=hF.c r a hj ha;have ja:JD d a.2:=by rw[ha];exact (hF.le r).j hj
  obtain ⟨b,hb⟩:∃b,b=bb a.2:=⟨_,rfl⟩;have c4:=hB.c a.2 b ja hb;rw[if_neg h2,<-ha,<-hb] at e;have q:=e;clear e e1 hb ha;refine qN hI tyK Tryz.func134 25 [.cell 2 50] ?_;unhygienic intros
  have e1:bnot false=true:=F.r19;refine qB 1 ?_
  repeat' first|refine qA 1 ?_|refine qJ (nN [0]) ?_|refine qp ?_ ?_|refine qk (fun h=>?_) fun h=>?_|fail
  exact hR _ _ ⟨by rw[q];simp only[AV.roC,A.roC,List.map,erD,ruA,hI.e];(try rfl),by rw[q]⟩
end
end
variable {I:∀{α:Type},α->α}
theorem Sm.sz_mk (k:Int) (s t:ByteArray) (x:List Ex) (a b:List Sm):(Sm.mk k s t x a b).sz=s.size+t.size+(x.length+Ex.szs x)+(a.length+Sm.szs a)+(b.length+Sm.szs b):=by rw[Sm.sz]
theorem tF0:Sm.szs []=0:=by simp[Sm.szs]
section
variable {l:List Vl} (hM:∀t∈l,t.s.size<=200)
def ZS (S:Rd->Sm×Rd):Prop:=∀r,(S r).2.bad=false->r.bad=false/\(S r).1.sz+1+210 * r.i<=210 * (S r).2.i
def ZB (B:Rd->List Sm×Rd):Prop:=∀r,(B r).2.bad=false->r.bad=false/\(B r).1.length+Sm.szs (B r).1+1+210 * r.i<=210 * (B r).2.i
variable {F:Rd->Ex×Rd} (hF:ZE F) {B:Rd->List Sm×Rd} (hB:ZB B) (hK:KE F)
include hF in
theorem KN0 {r:Rd} (h:(rX0 l F r).2.bad=false):r.bad=false/\(rX0 l F r).1.sz+1+210 * (r.i+2)<=210 * (rX0 l F r).2.i:=by
 unfold rX0 at h |-
 dsimp only at h |-
 obtain ⟨h1,h2⟩:=yD0 h;obtain ⟨h3,h4⟩:=hF _ h1;obtain ⟨h5,h6⟩:=yD0 h3;exact ⟨h5,by omega⟩
include hM hB in
theorem z_for {r:Rd} (h:(pFor l B r).2.bad=false):r.bad=false/\(pFor l B r).1.sz+1+210 * r.i<=210 * (pFor l B r).2.i:=by
 unfold pFor at h |-
 dsimp only at h |-
 obtain ⟨h1,h2⟩:=hB _ h;obtain ⟨h3,h4⟩:=yD0 h1;obtain ⟨h5,h6,h7⟩:=mB0 hM h3;obtain ⟨h8,h9⟩:=qY1 h5;obtain ⟨g1,g2,g3⟩:=mB0 hM h8;obtain ⟨g4,g5⟩:=yD0 g1;refine ⟨g4,?_⟩;rw[Sm.sz_mk];simp only[List.length_nil,szs0,tF0];omega
include hF hB in
theorem z_if {r:Rd} (h:(pIf l F B r).2.bad=false):r.bad=false/\(pIf l F B r).1.sz+1+210 * r.i<=210 * (pIf l F B r).2.i:=by
 unfold pIf at h |-
 dsimp only at h |-
 split
 ·rename_i q
  rw[if_pos q] at h;obtain ⟨h1,h2⟩:=HJ0 h;obtain ⟨h3,h4⟩:=hB _ h1;obtain ⟨h5,h6⟩:=hB _ (VW0 h3).1;obtain ⟨h7,h8⟩:=KN0 hF h5;refine ⟨h7,?_⟩;have h9:(B (rX0 l F r).2).2.adv.i=(B (rX0 l F r).2).2.i+1:=rfl
  dsimp only
  rw[h2,Sm.sz_mk,szs1];simp only[List.length_cons,List.length_nil,tA0];omega
 ·rename_i q
  rw[if_neg q] at h;obtain ⟨h5,h6⟩:=hB _ h;obtain ⟨h7,h8⟩:=KN0 hF h5;refine ⟨h7,?_⟩
  dsimp only
  rw[Sm.sz_mk,szs1];simp only[List.length_cons,List.length_nil,tA0,tF0];omega
include hF hK in
theorem uD1 {r:Rd} (h:(uX0 l F r).2.bad=false):r.bad=false/\(uX0 l F r).1.sz+1+210 * r.i<=210 * (uX0 l F r).2.i:=by
 have hk:=hK r;have h0:(F r).2.adv.i=(F r).2.i+1:=rfl;have key:(F r).1.l.length=1->((F r).1.l[0]!).sz+1+(F r).1.s.size<=(F r).1.sz:=fun q=>by
  generalize (F r).1=e at q |-;obtain ⟨k,n,s,l⟩:=e
  match l,q with
  | [a],_=>rw[Ex.sz_mk,szs1];show a.sz+1+s.size<=s.size+1+a.sz;omega
 have kz:(F r).1.s.size<=(F r).1.sz:=by generalize (F r).1=e;obtain ⟨k,n,s,l⟩:=e;rw[Ex.sz_mk];show s.size<=_;omega
 unfold uX0 at h |-
 dsimp only at h |-
 split
 ·rename_i q
  rw[if_pos q] at h
  repeat' split
  all_goals simp only[*,if_true,if_false] at h
  ·obtain ⟨h1,h2⟩:=yD0 h
   obtain ⟨h3,h4⟩:=hF _ h1;obtain ⟨h5,h6⟩:=hF r (VW0 h3).1;refine ⟨h5,?_⟩;rw[Sm.sz_mk,szs1];simp only[List.length_cons,List.length_nil,tA0,tF0];omega
  ·rename_i q1 q2
   have:=key (hk (.inl q2));obtain ⟨h1,h2⟩:=yD0 h;obtain ⟨h3,h4⟩:=hF _ h1;obtain ⟨h5,h6⟩:=hF r (VW0 h3).1;refine ⟨h5,?_⟩;rw[Sm.sz_mk,szs2];simp only[List.length_cons,List.length_nil,tA0,tF0];omega
  ·rename_i q1 q2 q3
   have:=key (hk (.inr q3));obtain ⟨h1,h2⟩:=yD0 h;obtain ⟨h3,h4⟩:=hF _ h1;obtain ⟨h5,h6⟩:=hF r (VW0 h3).1;refine ⟨h5,?_⟩;rw[Sm.sz_mk,szs2];simp only[List.length_cons,List.length_nil,tA0,tF0];omega
  ·obtain ⟨h1,h2⟩:=yD0 h
   exact absurd h1 (by simp[Rd.fail])
 ·rename_i q
  rw[if_neg q] at h;obtain ⟨h1,h2⟩:=yD0 h;obtain ⟨h5,h6⟩:=hF r h1;refine ⟨h5,?_⟩
  dsimp only
  rw[Sm.sz_mk,szs1];simp only[List.length_cons,List.length_nil,tA0,tF0];omega
include hF in
theorem uC1 {r:Rd} (h:(mH0 l F r).2.bad=false):r.bad=false/\(mH0 l F r).1.sz+1+210 * r.i<=210 * (mH0 l F r).2.i:=by
 unfold mH0 at h |-
 dsimp only at h |-
 obtain ⟨h1,h2⟩:=yD0 h;obtain ⟨h3,h4⟩:=VU0 hF _ _ h1;refine ⟨h3,?_⟩;rw[Sm.sz_mk];simp only[List.length_nil,tA0,tF0];omega
include hM hF in
theorem z_del {r:Rd} (h:(pDel l F r).2.bad=false):r.bad=false/\(pDel l F r).1.sz+1+210 * r.i<=210 * (pDel l F r).2.i:=by
 unfold pDel at h |-
 dsimp only at h |-
 obtain ⟨h1,h2⟩:=yD0 h;obtain ⟨h3,h4⟩:=yD0 h1;obtain ⟨h5,h6⟩:=hF _ h3;obtain ⟨h7,h8⟩:=yD0 h5;obtain ⟨g1,g2,g3⟩:=mB0 hM h7;refine ⟨g1,?_⟩;rw[Sm.sz_mk,szs1];simp only[List.length_cons,List.length_nil,tA0,tF0];omega
include hF in
theorem pC1 {r:Rd} {k:Int} (h:(pOne l F r k).2.bad=false):r.bad=false/\(pOne l F r k).1.sz+1+210 * r.i<=210 * (pOne l F r k).2.i:=by
 unfold pOne at h |-
 dsimp only at h |-
 obtain ⟨h1,h2⟩:=yD0 h;obtain ⟨h3,h4⟩:=hF _ h1;refine ⟨h3,?_⟩;rw[Sm.sz_mk,szs1];simp only[List.length_cons,List.length_nil,tA0,tF0];omega
include hM hF hB hK in
theorem qZ1:ZS (qX0 l F B):=by
 intro r h;have h0:r.adv.i=r.i+1:=rfl;unfold qX0 at h |-
 repeat' split
 all_goals simp only[*,if_true,if_false] at h
 ·obtain ⟨h1,h2⟩:=uC1 hF h;exact ⟨h1,by omega⟩
 ·obtain ⟨h1,h2⟩:=z_if hF hB h;exact ⟨h1,by omega⟩
 ·obtain ⟨h1,h2⟩:=hB _ h
  obtain ⟨h3,h4⟩:=KN0 hF h1;refine ⟨h3,?_⟩;rw[Sm.sz_mk,szs1];simp only[List.length_cons,List.length_nil,tA0,tF0];omega
 ·obtain ⟨h1,h2⟩:=z_for hM hB h;exact ⟨h1,by omega⟩
 ·obtain ⟨h1,h2⟩:=yD0 h
  refine ⟨h1,?_⟩;rw[Sm.sz_mk];simp only[List.length_nil,szs0,tA0,tF0];omega
 ·obtain ⟨h1,h2⟩:=pC1 hF h;exact ⟨h1,by omega⟩
 ·obtain ⟨h1,h2⟩:=pC1 hF h;exact ⟨h1,by omega⟩
 ·obtain ⟨h1,h2⟩:=z_del hM hF h;exact ⟨h1,by omega⟩
 ·exact uD1 hF hK h
theorem KK0 {S:Rd->Sm×Rd} (hS:ZS S):∀(n:Nat) (r:Rd),(xW0 l S n r).2.bad=false->r.bad=false/\(xW0 l S n r).1.length+Sm.szs (xW0 l S n r).1+210 * r.i<=210 * (xW0 l S n r).2.i
 | 0,r,h=>⟨h,by simp[xW0,Sm.szs]⟩
 | n+1,r,h=>by
  rw[xW0] at h |-
  split
  ·rename_i q
   rw[if_pos q] at h;obtain ⟨h1,h2⟩:=KK0 hS n _ h;obtain ⟨h3,h4⟩:=hS r h1;refine ⟨h3,?_⟩;simp only[List.length_cons,Sm.szs];omega
  ·rename_i q
   rw[if_neg q] at h;exact ⟨h,by simp[Sm.szs]⟩
include hM in
theorem VV0:∀f:Nat,ZB (yU0 l f)
 | 0=>fun r h=>by
  rw[yU0] at h;exact absurd (yD0 h).1 (by simp[Rd.fail,Rd.dec])
 | f+1=>fun r h=>by
  rw[yU0] at h |-
  dsimp only at h |-
  obtain ⟨h1,h2⟩:=yD0 h;obtain ⟨h3,h4⟩:=KK0 (qZ1 hM (KM0 hM f) (VV0 f) (vU1 f)) _ _ h1;obtain ⟨h5,h6⟩:=yD0 (r:=r) h3;refine ⟨h5,?_⟩;have e1:(zB0 l r ⟨⟨[123]⟩⟩).inc.i=(zB0 l r ⟨⟨[123]⟩⟩).i:=rfl;have e2:∀x:Rd,x.dec.i=x.i:=fun _=>rfl;rw[e2] at h2;omega
include hM in
theorem vC1:∀(n:Nat) (r:Rd),(tB0 l n r).2.bad=false->r.bad=false/\(tB0 l n r).1.length+mV0 (tB0 l n r).1+210 * r.i<=210 * (tB0 l n r).2.i
 | 0,r,h=>⟨h,by simp[tB0,mV0]⟩
 | n+1,r,h=>by
  rw[tB0] at h |-
  split
  ·rename_i q;rw[if_pos q] at h;exact absurd q (by rw[h];simp)
  ·rename_i q
   rw[if_neg q] at h
   split
   ·rename_i q1
    rw[if_pos q1] at h;obtain ⟨h1,h2⟩:=vC1 n _ h;obtain ⟨h3,h4,h5⟩:=mB0 hM (VW0 h1).1;refine ⟨h3,?_⟩;have h6:(wB0 l r).2.adv.i=(wB0 l r).2.i+1:=rfl;simp only[List.length_cons,mV0,List.map_cons,List.sum_cons] at h2 |-;omega
   ·rename_i q1
    rw[if_neg q1] at h;obtain ⟨h3,h4,h5⟩:=mB0 hM h;refine ⟨h3,?_⟩;simp only[List.length_cons,List.length_nil,mV0,List.map_cons,List.map_nil,List.sum_cons,List.sum_nil];omega
include hM hB in
theorem z_fn {r:Rd} (h:(pFn l B r).2.bad=false):r.bad=false/\(pFn l B r).1.sz+1+210 * r.i<=210 * (pFn l B r).2.i:=by
 unfold pFn at h |-
 dsimp only at h |-
 obtain ⟨h1,h2⟩:=hB _ h;obtain ⟨h3,h4⟩:=yD0 h1
 split
 ·rename_i q
  simp only[if_pos q] at h1 h2 h3 h4;obtain ⟨h5,h6⟩:=yD0 h3;obtain ⟨h7,h8,h9⟩:=mB0 hM h5;refine ⟨h7,?_⟩;simp only[Fu.sz,List.length_nil,mV0,List.map_nil,List.sum_nil];omega
 ·rename_i q
  simp only[if_neg q] at h1 h2 h3 h4;obtain ⟨g1,g2⟩:=vC1 hM _ _ h3;obtain ⟨h5,h6⟩:=yD0 g1;obtain ⟨h7,h8,h9⟩:=mB0 hM h5;refine ⟨h7,?_⟩;simp only[Fu.sz];omega
include hF hB in
theorem pA1 {r:Rd} (h:(rW0 l F B r).2.bad=false):r.bad=false/\(rW0 l F B r).1.sz+1+210 * r.i<=210 * (rW0 l F B r).2.i:=by
 have h0:r.adv.i=r.i+1:=rfl;unfold rW0 at h |-
 repeat' split
 all_goals simp only[*,if_true,if_false] at h
 ·obtain ⟨h1,h2⟩:=hB _ h
  refine ⟨h1,?_⟩;simp only[Ru.sz,Ex.sz_mk,List.length_nil,szs0,tA0];omega
 ·obtain ⟨h1,h2⟩:=hB _ h
  refine ⟨h1,?_⟩;simp only[Ru.sz,Ex.sz_mk,List.length_nil,szs0,tA0];omega
 ·obtain ⟨h1,h2⟩:=hB _ h
  refine ⟨h1,?_⟩;simp only[Ru.sz,Ex.sz_mk,List.length_nil,szs0,tA0];omega
 ·obtain ⟨h1,h2⟩:=hB _ h
  obtain ⟨h3,h4⟩:=hF _ h1;refine ⟨h3,?_⟩;simp only[Ru.sz];omega
theorem pF1 {G:Rd->Fu×Rd} (hG:∀r,(G r).2.bad=false->r.bad=false/\(G r).1.sz+1+210 * r.i<=210 * (G r).2.i):∀(n:Nat) (r:Rd),(pFns l G n r).2.bad=false->r.bad=false/\(pFns l G n r).1.length+Fu.szs (pFns l G n r).1+210 * r.i<=210 * (pFns l G n r).2.i
 | 0,r,h=>⟨h,by simp[pFns,Fu.szs]⟩
 | n+1,r,h=>by
  rw[pFns] at h |-
  split
  ·rename_i q
   rw[if_pos q] at h;obtain ⟨h1,h2⟩:=pF1 hG n _ h;obtain ⟨h3,h4⟩:=hG _ h1;refine ⟨h3,?_⟩;have h0:r.adv.i=r.i+1:=rfl;simp only[List.length_cons,Fu.szs,List.map_cons,List.sum_cons] at h2 |-;omega
  ·rename_i q
   rw[if_neg q] at h;exact ⟨h,by simp[Fu.szs]⟩
theorem KL0 {G:Rd->Ru×Rd} (hG:∀r,(G r).2.bad=false->r.bad=false/\(G r).1.sz+1+210 * r.i<=210 * (G r).2.i):∀(n:Nat) (r:Rd),(wA0 l G n r).2.bad=false->r.bad=false/\(wA0 l G n r).1.length+Ru.szs (wA0 l G n r).1+210 * r.i<=210 * (wA0 l G n r).2.i
 | 0,r,h=>⟨h,by simp[wA0,Ru.szs]⟩
 | n+1,r,h=>by
  rw[wA0] at h |-
  split
  ·rename_i q
   rw[if_pos q] at h;obtain ⟨h1,h2⟩:=KL0 hG n _ h;obtain ⟨h3,h4⟩:=hG _ h1;refine ⟨h3,?_⟩;simp only[List.length_cons,Ru.szs,List.map_cons,List.sum_cons] at h2 |-;omega
  ·rename_i q
   rw[if_neg q] at h;exact ⟨h,by simp[Ru.szs]⟩
include hM in
theorem vB1 (b:Bool) (h:(vU0 l b).2.bad=false):(⟨(vU0 l b).1,(XB0 l b).1⟩:Pg).sz<=210 * (vU0 l b).2.i:=by
 obtain ⟨h1,h2⟩:=KL0 (l:=l) (fun r q=>pA1 (KM0 hM 20) (VV0 hM 20) q) _ _ h;obtain ⟨h3,h4⟩:=pF1 (l:=l) (fun r q=>z_fn hM (VV0 hM 20) q) _ _ h1;have h5:(⟨0,b,0⟩:Rd).i=0:=rfl;have e1:wA0 l (rW0 l (wQ0 l 20) (yU0 l 20)) (l.length+2) (XB0 l b).2=vU0 l b:=rfl;have e2:pFns l (pFn l (yU0 l 20)) (l.length+2) ⟨0,b,0⟩=XB0 l b:=rfl;rw[e1] at h2;rw[e2] at h4;simp only[Pg.sz]
 omega
end
end Go.Gv
