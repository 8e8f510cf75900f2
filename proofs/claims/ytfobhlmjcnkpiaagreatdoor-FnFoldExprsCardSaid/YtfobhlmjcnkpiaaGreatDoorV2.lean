/- Part V2 of the proof: contracts of functions of the program, each walked once. -/
import Derived.Test.YtfobhlmjcnkpiaaGreatDoorV1
import Derived.Test.YtfobhlmjcnkpiaaGreatDoorT1
import Derived.Test.YtfobhlmjcnkpiaaGreatDoorN3
set_option linter.all false
namespace Go.Gv
open Go.Av Go.Proofs
set_option maxRecDepth 10000
set_option maxHeartbeats 8000000
variable {I:∀{α:Type},α->α}
theorem app2 (a b:Ex):[[T.lit (.int .i64 a.k),.lit (.int .i64 a.n),.lit (.string a.s),.sl (a.l.map Ex.t)]]++[[.lit (.int .i64 b.k),.lit (.int .i64 b.n),.lit (.string b.s),.sl (b.l.map Ex.t)]]=[a,b].map Ex.t:=by
 rw[List.map_cons,List.map_cons,List.map_nil,Ex.t_of a,Ex.t_of b];rfl
section
variable (hI:II @I) (l:List Vl) (hl:l.length<=1048576) (hM:∀t∈l,t.s.size<=200)
variable {d:Int} {ff:Rd->Ex×Rd} (hF:kC0 @I l d ff)
include hI hl hM hF
theorem JT0 {r:Rd} (hj:JD d r) {x:Ex×Rd} (e:x=xZ0 l ff r):RdC @I l 201 [] r (eA @I x.1) x.2:=by
 refine yM0 ?_;obtain ⟨a,ha⟩:∃a,a=ff r:=⟨_,rfl⟩;have c1:=hF.c r a hj ha;have hja:JD d a.2:=by rw[ha];exact (hF.le r).j hj
 by_cases h1:pSee l a.2 2 ⟨⟨[105,110]⟩⟩
 ·obtain ⟨r1,e1⟩:∃r1,r1=a.2.adv:=⟨_,rfl⟩
  have c2:=is_t hI l hl h1 e1;obtain ⟨s,hs⟩:∃s,s=wB0 l r1:=⟨_,rfl⟩;have c3:=nG0 hI l hl hM hs;obtain ⟨r2,h2⟩:∃r2,r2=zB0 l s.2 ⟨⟨[41]⟩⟩:=⟨_,rfl⟩;have c4:=zK0 hI l hl h2;have q:x=(.mk 9 0 s.1 [a.1],r2):=by rw[e,xZ0,<-ha,if_pos h1,<-e1,<-hs,<-h2]
  clear e e1 hs h2 ha;refine qN hI tyK Tryz.func201 41 [.cell 2 26] ?_;unhygienic intros
  refine qB 1 ?_
  repeat' first|refine qA 1 ?_|refine qJ (nN [0]) ?_|refine qp ?_ ?_|refine qk (fun h=>?_) fun h=>?_|fail
  exact hR _ _ ⟨by rw[q];simp only[AV.roC,A.roC,List.map,erD,eA,hI.e,Ex.t_of,Ex.k,Ex.n,Ex.s,Ex.l],by rw[q]⟩
 ·have c2:=is_f hI l hl h1
  by_cases h3:pSee l a.2 5 ⟨⟨[126]⟩⟩
  ·obtain ⟨r1,e1⟩:∃r1,r1=a.2.adv:=⟨_,rfl⟩
   have c3:=is_t hI l hl h3 e1;obtain ⟨s,hs⟩:∃s,s=xL0 l r1 4:=⟨_,rfl⟩;have c4:=rT0 hI l hl hs;obtain ⟨r2,h2⟩:∃r2,r2=zB0 l s.2 ⟨⟨[41]⟩⟩:=⟨_,rfl⟩;have c5:=zK0 hI l hl h2;have q:x=(.mk 10 0 s.1.s [a.1],r2):=by rw[e,xZ0,<-ha,if_neg h1,if_pos h3,<-e1,<-hs,<-h2]
   clear e e1 hs h2 ha;refine qN hI tyK Tryz.func201 41 [.cell 2 26] ?_;unhygienic intros
   refine qB 1 ?_
   (repeat' first|refine qA 1 ?_|refine qJ (nN [0]) ?_|refine qp ?_ ?_|refine qk (fun h=>?_) fun h=>?_|fail)
   exact hR _ _ ⟨by rw[q];simp only[AV.roC,A.roC,List.map,erD,eA,hI.e,Ex.t_of,Ex.k,Ex.n,Ex.s,Ex.l],by rw[q]⟩
  ·have c3:=is_f hI l hl h3
   obtain ⟨s,hs⟩:∃s,s=xL0 l a.2 5:=⟨_,rfl⟩;have c4:=rT0 hI l hl hs;obtain ⟨b,hb⟩:∃b,b=ff s.2:=⟨_,rfl⟩;have hjs:JD d s.2:=by rw[hs];exact (le_next d _ _).j hja
   have c5:=hF.c s.2 b hjs hb;obtain ⟨r2,h2⟩:∃r2,r2=zB0 l b.2 ⟨⟨[41]⟩⟩:=⟨_,rfl⟩;have c6:=zK0 hI l hl h2;have q:x=(.mk 6 0 s.1.s [a.1,b.1],r2):=by rw[e,xZ0,<-ha,if_neg h1,if_neg h3,<-hs,<-hb,<-h2]
   clear e hs h2 ha hb;refine qN hI tyK Tryz.func201 41 [.cell 2 26] ?_;unhygienic intros
   have e1:app [[.lit (.int .i64 (I a.1.k)),.lit (.int .i64 (I a.1.n)),.lit (.string (I a.1.s)),.sl (I (a.1.l.map Ex.t))]] [[.lit (.int .i64 (I b.1.k)),.lit (.int .i64 (I b.1.n)),.lit (.string (I b.1.s)),.sl (I (b.1.l.map Ex.t))]]=I ([a.1,b.1].map Ex.t):=by
    simp only[hI.e];cases hO;exact app2 _ _
   refine qB 1 ?_
   (repeat' first|refine qA 1 ?_|refine qJ (nN [0]) ?_|refine qp ?_ ?_|refine qk (fun h=>?_) fun h=>?_|fail)
   exact hR _ _ ⟨by rw[q];simp only[AV.roC,A.roC,List.map,erD,eA,hI.e,Ex.t_of,Ex.k,Ex.n,Ex.s,Ex.l],by rw[q]⟩
theorem tD1 {r:Rd} (hj:JD d r) {x:Ex×Rd} (e:x=gV0 l ff r):RdC @I l 222 [] r (eA @I x.1) x.2:=by
 refine yM0 ?_;obtain ⟨r1,h1⟩:∃r1,r1=zB0 l r ⟨⟨[40]⟩⟩:=⟨_,rfl⟩;have c1:=zK0 hI l hl h1;have j1:JD d r1:=by rw[h1];exact (zC0 d _ _).j hj
 obtain ⟨a,ha⟩:∃a,a=ff r1:=⟨_,rfl⟩;have c2:=hF.c r1 a j1 ha;have ja:JD d a.2:=by rw[ha];exact (hF.le r1).j j1
 obtain ⟨r2,h2⟩:∃r2,r2=zB0 l a.2 ⟨⟨[126]⟩⟩:=⟨_,rfl⟩;have c3:=zK0 hI l hl h2;have j2:JD d r2:=by rw[h2];exact (zC0 d _ _).j ja
 obtain ⟨s,hs⟩:∃s,s=xL0 l r2 4:=⟨_,rfl⟩;have c4:=rT0 hI l hl hs;have js:JD d s.2:=by rw[hs];exact (le_next d _ _).j j2
 obtain ⟨r3,h3⟩:∃r3,r3=zB0 l s.2 ⟨⟨[44]⟩⟩:=⟨_,rfl⟩;have c5:=zK0 hI l hl h3;have j3:JD d r3:=by rw[h3];exact (zC0 d _ _).j js
 obtain ⟨b,hb⟩:∃b,b=ff r3:=⟨_,rfl⟩;have c6:=hF.c r3 b j3 hb;obtain ⟨r4,h4⟩:∃r4,r4=zB0 l b.2 ⟨⟨[41]⟩⟩:=⟨_,rfl⟩;have c7:=zK0 hI l hl h4;have q:x=(.mk 18 0 s.1.s [a.1,b.1],r4):=by rw[e,gV0];simp only[<-h1,<-ha,<-h2,<-hs,<-h3,<-hb,<-h4]
 clear e h1 ha h2 hs h3 hb h4;refine qN hI tyK Tryz.func222 26 [.cell 2 26] ?_;unhygienic intros
 refine qB 1 ?_
 repeat' first|refine qA 1 ?_|refine qJ (nN [0]) ?_|refine qp ?_ ?_|refine qk (fun h=>?_) fun h=>?_|fail
 exact hR _ _ ⟨by rw[q];simp only[AV.roC,A.roC,List.map,erD,eA,hI.e,Ex.t_of,Ex.k,Ex.n,Ex.s,Ex.l],by rw[q]⟩
end
variable {I:∀{α:Type},α->α}
section
variable (hI:II @I) (l:List Vl) (hl:l.length<=1048576) (hM:∀t∈l,t.s.size<=200)
variable {d:Int} {ff:Rd->Ex×Rd} (hF:kC0 @I l d ff)
include hI hl hM hF
theorem JV0 {r:Rd} (hj:JD d r) {x:Ex×Rd} (e:x=vH0 l ff r):RdC @I l 202 [] r (eA @I x.1) x.2:=by
 refine yM0 ?_;unfold vH0 at e
 dsimp only at e
 generalize hs':xL0 l r 2=s at e;have hs:=hs'.symm;clear hs';have c1:=rT0 hI l hl hs;have js:JD d s.2:=by rw[hs];exact (le_next d _ _).j hj
 have c2:=qB0 hI;have c3:=PC0 hI;have c4:=fun (n:Int) (y:List Ex×Rd) (h:y=wV0 l ff s.2 n)=>tC1 hI l hl hF js h;obtain ⟨g,hg⟩:∃g,g=gV0 l ff s.2:=⟨_,rfl⟩;have c5:=tD1 hI l hl hM hF js hg;obtain ⟨y1,hy1⟩:∃y,y=wV0 l ff s.2 1:=⟨_,rfl⟩;obtain ⟨y2,hy2⟩:∃y,y=wV0 l ff s.2 2:=⟨_,rfl⟩;obtain ⟨y3,hy3⟩:∃y,y=wV0 l ff s.2 3:=⟨_,rfl⟩;obtain ⟨y4,hy4⟩:∃y,y=wV0 l ff s.2 (-1):=⟨_,rfl⟩;simp only[<-hg,<-hy1,<-hy2,<-hy3,<-hy4] at e
 by_cases h8:pSee l s.2 5 ⟨⟨[40]⟩⟩
 ·have c6:=JN0 hI l hl h8
  clear hs hg;refine qN hI tyK Tryz.func202 57 [.cell 2 26] ?_;unhygienic intros
  refine qB 1 ?_
  repeat' first|refine qA 1 ?_|refine qJ (nN [0]) ?_|refine qJ (nN []) ?_|refine qJ (nS []) ?_|refine qp ?_ ?_|refine qk (fun h=>?_) fun h=>?_|fail
  all_goals first
   | exact hR _ _ ⟨by rw[e,if_pos (by assumption)];simp only[AV.roC,A.roC,List.map,erD,eA,hI.e,Ex.t_of,Ex.k,Ex.n,Ex.s,Ex.l],by rw[e,if_pos (by assumption)]⟩
   | exact hR _ _ ⟨by rw[e,if_neg (by assumption),if_pos (by assumption)];simp only[AV.roC,A.roC,List.map,erD,eA,hI.e,Ex.t_of,Ex.k,Ex.n,Ex.s,Ex.l],by rw[e,if_neg (by assumption),if_pos (by assumption)]⟩
   | exact hR _ _ ⟨by rw[e,if_neg (by assumption),if_neg (by assumption),if_pos (by assumption)];simp only[AV.roC,A.roC,List.map,erD,eA,hI.e,Ex.t_of,Ex.k,Ex.n,Ex.s,Ex.l],by rw[e,if_neg (by assumption),if_neg (by assumption),if_pos (by assumption)]⟩
   | exact hR _ _ ⟨by rw[e,if_neg (by assumption),if_neg (by assumption),if_neg (by assumption),if_pos (by assumption)];simp only[AV.roC,A.roC,List.map,erD,eA,hI.e,Ex.t_of,Ex.k,Ex.n,Ex.s,Ex.l],by rw[e,if_neg (by assumption),if_neg (by assumption),if_neg (by assumption),if_pos (by assumption)]⟩
   | exact hR _ _ ⟨by rw[e,if_neg (by assumption),if_neg (by assumption),if_neg (by assumption),if_neg (by assumption),if_pos (by assumption)];simp only[AV.roC,A.roC,List.map,erD,eA,hI.e,Ex.t_of,Ex.k,Ex.n,Ex.s,Ex.l],by rw[e,if_neg (by assumption),if_neg (by assumption),if_neg (by assumption),if_neg (by assumption),if_pos (by assumption)]⟩
   | exact hR _ _ ⟨by rw[e,if_neg (by assumption),if_neg (by assumption),if_neg (by assumption),if_neg (by assumption),if_neg (by assumption),if_pos (by assumption)];simp only[AV.roC,A.roC,List.map,erD,eA,hI.e,Ex.t_of,Ex.k,Ex.n,Ex.s,Ex.l],by rw[e,if_neg (by assumption),if_neg (by assumption),if_neg (by assumption),if_neg (by assumption),if_neg (by assumption),if_pos (by assumption)]⟩
   | exact hR _ _ ⟨by rw[e,if_neg (by assumption),if_neg (by assumption),if_neg (by assumption),if_neg (by assumption),if_neg (by assumption),if_neg (by assumption),if_pos (by assumption)];simp only[AV.roC,A.roC,List.map,erD,eA,hI.e,Ex.t_of,Ex.k,Ex.n,Ex.s,Ex.l],by rw[e,if_neg (by assumption),if_neg (by assumption),if_neg (by assumption),if_neg (by assumption),if_neg (by assumption),if_neg (by assumption),if_pos (by assumption)]⟩
   | exact hR _ _ ⟨by rw[e,if_neg (by assumption),if_neg (by assumption),if_neg (by assumption),if_neg (by assumption),if_neg (by assumption),if_neg (by assumption),if_neg (by assumption),if_pos (by assumption)];simp only[AV.roC,A.roC,List.map,erD,eA,hI.e,Ex.t_of,Ex.k,Ex.n,Ex.s,Ex.l],by rw[e,if_neg (by assumption),if_neg (by assumption),if_neg (by assumption),if_neg (by assumption),if_neg (by assumption),if_neg (by assumption),if_neg (by assumption),if_pos (by assumption)]⟩
   | exact hR _ _ ⟨by rw[e,if_neg (by assumption),if_neg (by assumption),if_neg (by assumption),if_neg (by assumption),if_neg (by assumption),if_neg (by assumption),if_neg (by assumption),if_neg (by assumption),if_pos (by assumption)];simp only[AV.roC,A.roC,List.map,erD,eA,hI.e,Ex.t_of,Ex.k,Ex.n,Ex.s,Ex.l],by rw[e,if_neg (by assumption),if_neg (by assumption),if_neg (by assumption),if_neg (by assumption),if_neg (by assumption),if_neg (by assumption),if_neg (by assumption),if_neg (by assumption),if_pos (by assumption)]⟩
   | exact hR _ _ ⟨by rw[e,if_neg (by assumption),if_neg (by assumption),if_neg (by assumption),if_neg (by assumption),if_neg (by assumption),if_neg (by assumption),if_neg (by assumption),if_neg (by assumption),if_neg (by assumption)];simp only[AV.roC,A.roC,List.map,erD,eA,hI.e,Ex.t_of,Ex.k,Ex.n,Ex.s,Ex.l],by rw[e,if_neg (by assumption),if_neg (by assumption),if_neg (by assumption),if_neg (by assumption),if_neg (by assumption),if_neg (by assumption),if_neg (by assumption),if_neg (by assumption),if_neg (by assumption)]⟩
 ·have c6:=NP0 hI l hl h8
  by_cases h9:pSee l s.2 5 ⟨⟨[91]⟩⟩
  ·obtain ⟨r1,e1⟩:∃r1,r1=s.2.adv:=⟨_,rfl⟩
   have c7:=is_t hI l hl h9 e1;have j1:JD d r1:=by rw[e1];exact rN0 js
   obtain ⟨a,ha⟩:∃a,a=ff r1:=⟨_,rfl⟩;have c8:=hF.c r1 a j1 ha;obtain ⟨r2,h2⟩:∃r2,r2=zB0 l a.2 ⟨⟨[93]⟩⟩:=⟨_,rfl⟩;have c9:=zK0 hI l hl h2;simp only[<-e1,<-ha,<-h2] at e;clear hs hg e1 ha h2;refine qN hI tyK Tryz.func202 57 [.cell 2 26] ?_;unhygienic intros
   refine qB 1 ?_
   (repeat' first|refine qA 1 ?_|refine qJ (nN [0]) ?_|refine qJ (nN []) ?_|refine qJ (nS []) ?_|refine qp ?_ ?_|refine qk (fun h=>?_) fun h=>?_|fail)
   all_goals first
   | exact hR _ _ ⟨by rw[e,if_pos (by assumption)];simp only[AV.roC,A.roC,List.map,erD,eA,hI.e,Ex.t_of,Ex.k,Ex.n,Ex.s,Ex.l],by rw[e,if_pos (by assumption)]⟩
   | exact hR _ _ ⟨by rw[e,if_neg (by assumption),if_pos (by assumption)];simp only[AV.roC,A.roC,List.map,erD,eA,hI.e,Ex.t_of,Ex.k,Ex.n,Ex.s,Ex.l],by rw[e,if_neg (by assumption),if_pos (by assumption)]⟩
   | exact hR _ _ ⟨by rw[e,if_neg (by assumption),if_neg (by assumption),if_pos (by assumption)];simp only[AV.roC,A.roC,List.map,erD,eA,hI.e,Ex.t_of,Ex.k,Ex.n,Ex.s,Ex.l],by rw[e,if_neg (by assumption),if_neg (by assumption),if_pos (by assumption)]⟩
   | exact hR _ _ ⟨by rw[e,if_neg (by assumption),if_neg (by assumption),if_neg (by assumption),if_pos (by assumption)];simp only[AV.roC,A.roC,List.map,erD,eA,hI.e,Ex.t_of,Ex.k,Ex.n,Ex.s,Ex.l],by rw[e,if_neg (by assumption),if_neg (by assumption),if_neg (by assumption),if_pos (by assumption)]⟩
   | exact hR _ _ ⟨by rw[e,if_neg (by assumption),if_neg (by assumption),if_neg (by assumption),if_neg (by assumption),if_pos (by assumption)];simp only[AV.roC,A.roC,List.map,erD,eA,hI.e,Ex.t_of,Ex.k,Ex.n,Ex.s,Ex.l],by rw[e,if_neg (by assumption),if_neg (by assumption),if_neg (by assumption),if_neg (by assumption),if_pos (by assumption)]⟩
   | exact hR _ _ ⟨by rw[e,if_neg (by assumption),if_neg (by assumption),if_neg (by assumption),if_neg (by assumption),if_neg (by assumption),if_pos (by assumption)];simp only[AV.roC,A.roC,List.map,erD,eA,hI.e,Ex.t_of,Ex.k,Ex.n,Ex.s,Ex.l],by rw[e,if_neg (by assumption),if_neg (by assumption),if_neg (by assumption),if_neg (by assumption),if_neg (by assumption),if_pos (by assumption)]⟩
   | exact hR _ _ ⟨by rw[e,if_neg (by assumption),if_neg (by assumption),if_neg (by assumption),if_neg (by assumption),if_neg (by assumption),if_neg (by assumption),if_pos (by assumption)];simp only[AV.roC,A.roC,List.map,erD,eA,hI.e,Ex.t_of,Ex.k,Ex.n,Ex.s,Ex.l],by rw[e,if_neg (by assumption),if_neg (by assumption),if_neg (by assumption),if_neg (by assumption),if_neg (by assumption),if_neg (by assumption),if_pos (by assumption)]⟩
   | exact hR _ _ ⟨by rw[e,if_neg (by assumption),if_neg (by assumption),if_neg (by assumption),if_neg (by assumption),if_neg (by assumption),if_neg (by assumption),if_neg (by assumption),if_pos (by assumption)];simp only[AV.roC,A.roC,List.map,erD,eA,hI.e,Ex.t_of,Ex.k,Ex.n,Ex.s,Ex.l],by rw[e,if_neg (by assumption),if_neg (by assumption),if_neg (by assumption),if_neg (by assumption),if_neg (by assumption),if_neg (by assumption),if_neg (by assumption),if_pos (by assumption)]⟩
   | exact hR _ _ ⟨by rw[e,if_neg (by assumption),if_neg (by assumption),if_neg (by assumption),if_neg (by assumption),if_neg (by assumption),if_neg (by assumption),if_neg (by assumption),if_neg (by assumption),if_pos (by assumption)];simp only[AV.roC,A.roC,List.map,erD,eA,hI.e,Ex.t_of,Ex.k,Ex.n,Ex.s,Ex.l],by rw[e,if_neg (by assumption),if_neg (by assumption),if_neg (by assumption),if_neg (by assumption),if_neg (by assumption),if_neg (by assumption),if_neg (by assumption),if_neg (by assumption),if_pos (by assumption)]⟩
   | exact hR _ _ ⟨by rw[e,if_neg (by assumption),if_neg (by assumption),if_neg (by assumption),if_neg (by assumption),if_neg (by assumption),if_neg (by assumption),if_neg (by assumption),if_neg (by assumption),if_neg (by assumption)];simp only[AV.roC,A.roC,List.map,erD,eA,hI.e,Ex.t_of,Ex.k,Ex.n,Ex.s,Ex.l],by rw[e,if_neg (by assumption),if_neg (by assumption),if_neg (by assumption),if_neg (by assumption),if_neg (by assumption),if_neg (by assumption),if_neg (by assumption),if_neg (by assumption),if_neg (by assumption)]⟩
  ·have c7:=is_f hI l hl h9
   clear hs hg;refine qN hI tyK Tryz.func202 57 [.cell 2 26] ?_;unhygienic intros
   refine qB 1 ?_
   (repeat' first|refine qA 1 ?_|refine qJ (nN [0]) ?_|refine qJ (nN []) ?_|refine qJ (nS []) ?_|refine qp ?_ ?_|refine qk (fun h=>?_) fun h=>?_|fail)
   all_goals first
   | exact hR _ _ ⟨by rw[e,if_pos (by assumption)];simp only[AV.roC,A.roC,List.map,erD,eA,hI.e,Ex.t_of,Ex.k,Ex.n,Ex.s,Ex.l],by rw[e,if_pos (by assumption)]⟩
   | exact hR _ _ ⟨by rw[e,if_neg (by assumption),if_pos (by assumption)];simp only[AV.roC,A.roC,List.map,erD,eA,hI.e,Ex.t_of,Ex.k,Ex.n,Ex.s,Ex.l],by rw[e,if_neg (by assumption),if_pos (by assumption)]⟩
   | exact hR _ _ ⟨by rw[e,if_neg (by assumption),if_neg (by assumption),if_pos (by assumption)];simp only[AV.roC,A.roC,List.map,erD,eA,hI.e,Ex.t_of,Ex.k,Ex.n,Ex.s,Ex.l],by rw[e,if_neg (by assumption),if_neg (by assumption),if_pos (by assumption)]⟩
   | exact hR _ _ ⟨by rw[e,if_neg (by assumption),if_neg (by assumption),if_neg (by assumption),if_pos (by assumption)];simp only[AV.roC,A.roC,List.map,erD,eA,hI.e,Ex.t_of,Ex.k,Ex.n,Ex.s,Ex.l],by rw[e,if_neg (by assumption),if_neg (by assumption),if_neg (by assumption),if_pos (by assumption)]⟩
   | exact hR _ _ ⟨by rw[e,if_neg (by assumption),if_neg (by assumption),if_neg (by assumption),if_neg (by assumption),if_pos (by assumption)];simp only[AV.roC,A.roC,List.map,erD,eA,hI.e,Ex.t_of,Ex.k,Ex.n,Ex.s,Ex.l],by rw[e,if_neg (by assumption),if_neg (by assumption),if_neg (by assumption),if_neg (by assumption),if_pos (by assumption)]⟩
   | exact hR _ _ ⟨by rw[e,if_neg (by assumption),if_neg (by assumption),if_neg (by assumption),if_neg (by assumption),if_neg (by assumption),if_pos (by assumption)];simp only[AV.roC,A.roC,List.map,erD,eA,hI.e,Ex.t_of,Ex.k,Ex.n,Ex.s,Ex.l],by rw[e,if_neg (by assumption),if_neg (by assumption),if_neg (by assumption),if_neg (by assumption),if_neg (by assumption),if_pos (by assumption)]⟩
   | exact hR _ _ ⟨by rw[e,if_neg (by assumption),if_neg (by assumption),if_neg (by assumption),if_neg (by assumption),if_neg (by assumption),if_neg (by assumption),if_pos (by assumption)];simp only[AV.roC,A.roC,List.map,erD,eA,hI.e,Ex.t_of,Ex.k,Ex.n,Ex.s,Ex.l],by rw[e,if_neg (by assumption),if_neg (by assumption),if_neg (by assumption),if_neg (by assumption),if_neg (by assumption),if_neg (by assumption),if_pos (by assumption)]⟩
   | exact hR _ _ ⟨by rw[e,if_neg (by assumption),if_neg (by assumption),if_neg (by assumption),if_neg (by assumption),if_neg (by assumption),if_neg (by assumption),if_neg (by assumption),if_pos (by assumption)];simp only[AV.roC,A.roC,List.map,erD,eA,hI.e,Ex.t_of,Ex.k,Ex.n,Ex.s,Ex.l],by rw[e,if_neg (by assumption),if_neg (by assumption),if_neg (by assumption),if_neg (by assumption),if_neg (by assumption),if_neg (by assumption),if_neg (by assumption),if_pos (by assumption)]⟩
   | exact hR _ _ ⟨by rw[e,if_neg (by assumption),if_neg (by assumption),if_neg (by assumption),if_neg (by assumption),if_neg (by assumption),if_neg (by assumption),if_neg (by assumption),if_neg (by assumption),if_pos (by assumption)];simp only[AV.roC,A.roC,List.map,erD,eA,hI.e,Ex.t_of,Ex.k,Ex.n,Ex.s,Ex.l],by rw[e,if_neg (by assumption),if_neg (by assumption),if_neg (by assumption),if_neg (by assumption),if_neg (by assumption),if_neg (by assumption),if_neg (by assumption),if_neg (by assumption),if_pos (by assumption)]⟩
   | exact hR _ _ ⟨by rw[e,if_neg (by assumption),if_neg (by assumption),if_neg (by assumption),if_neg (by assumption),if_neg (by assumption),if_neg (by assumption),if_neg (by assumption),if_neg (by assumption),if_neg (by assumption)];simp only[AV.roC,A.roC,List.map,erD,eA,hI.e,Ex.t_of,Ex.k,Ex.n,Ex.s,Ex.l],by rw[e,if_neg (by assumption),if_neg (by assumption),if_neg (by assumption),if_neg (by assumption),if_neg (by assumption),if_neg (by assumption),if_neg (by assumption),if_neg (by assumption),if_neg (by assumption)]⟩
end
variable {I:∀{α:Type},α->α}
section
variable (hI:II @I) (l:List Vl) (hl:l.length<=1048576) (hT:∀t∈l,t.s.size<=200)
include hI hl hT
section
variable {d:Int} {ff:Rd->Ex×Rd} (hF:kC0 @I l d ff)
include hF
theorem tB1 {r:Rd} (hj:JD d r) (hi:r.i < l.length) {x:Ex×Rd} (e:x=nJ0 l ff r):RdC @I l 176 [] r (eA @I x.1) x.2:=by
 refine yM0 ?_;obtain ⟨r1,e1⟩:∃r1,r1=r.adv:=⟨_,rfl⟩;have j1:JD d r1:=by rw[e1];exact rN0 hj
 obtain ⟨a,ha⟩:∃a,a=ff r1:=⟨_,rfl⟩;have cE:=hF.c r1 a j1 ha;unfold nJ0 at e
 by_cases h1:pSee l r 5 ⟨⟨[40]⟩⟩
 ·have c1:=is_t hI l hl h1 e1
  rw[if_pos h1,<-e1] at e;have c2:=JT0 hI l hl hT hF j1 e;clear e e1 ha cE;refine qN hI tyK Tryz.func176 54 [.cell 2 26] ?_;unhygienic intros
  refine qB 1 ?_
  repeat' first|refine qA 1 ?_|refine qJ (nN [0]) ?_|refine qp ?_ ?_|refine qk (fun h=>?_) fun h=>?_|fail
  exact hR _ _ ⟨by simp only[AV.roC,A.roC,List.map,erD],rfl⟩
 have f1:=is_f hI l hl h1;rw[if_neg h1] at e
 by_cases h2:pSee l r 5 ⟨⟨[36]⟩⟩
 ·have g1:=is_t hI l hl h2 e1
  have c1:=f1;have c2:=g1;have c3:=cE;have c4:=qB0 hI;rw[if_pos h2,<-e1,<-ha] at e;clear e1 ha g1;refine qN hI tyK Tryz.func176 54 [.cell 2 26] ?_;unhygienic intros
  refine qB 1 ?_
  repeat' first|refine qA 1 ?_|refine qJ (nN [0]) ?_|refine qJ (nS []) ?_|refine qp ?_ ?_|refine qk (fun h=>?_) fun h=>?_|fail
  exact hR _ _ ⟨by rw[e];simp only[AV.roC,A.roC,List.map,erD,eA,hI.e,Ex.t_of,Ex.k,Ex.n,Ex.s,Ex.l],by rw[e]⟩
 have f2:=is_f hI l hl h2;rw[if_neg h2] at e
 by_cases h3:pSee l r 5 ⟨⟨[33]⟩⟩
 ·have g1:=is_t hI l hl h3 e1
  have c1:=f1;have c2:=f2;have c3:=g1;have c4:=cE;have c5:=qB0 hI;rw[if_pos h3,<-e1,<-ha] at e;clear e1 ha g1;refine qN hI tyK Tryz.func176 54 [.cell 2 26] ?_;unhygienic intros
  refine qB 1 ?_
  repeat' first|refine qA 1 ?_|refine qJ (nN [0]) ?_|refine qJ (nS []) ?_|refine qp ?_ ?_|refine qk (fun h=>?_) fun h=>?_|fail
  exact hR _ _ ⟨by rw[e];simp only[AV.roC,A.roC,List.map,erD,eA,hI.e,Ex.t_of,Ex.k,Ex.n,Ex.s,Ex.l],by rw[e]⟩
 have f3:=is_f hI l hl h3;rw[if_neg h3] at e
 by_cases h4:pSee l r 5 ⟨⟨[45]⟩⟩
 ·have g1:=is_t hI l hl h4 e1
  have c1:=f1;have c2:=f2;have c3:=f3;have c4:=g1;have c5:=cE;have c6:=qB0 hI;rw[if_pos h4,<-e1,<-ha] at e;clear e1 ha g1;refine qN hI tyK Tryz.func176 54 [.cell 2 26] ?_;unhygienic intros
  refine qB 1 ?_
  repeat' first|refine qA 1 ?_|refine qJ (nN [0]) ?_|refine qJ (nS []) ?_|refine qp ?_ ?_|refine qk (fun h=>?_) fun h=>?_|fail
  exact hR _ _ ⟨by rw[e];simp only[AV.roC,A.roC,List.map,erD,eA,hI.e,Ex.t_of,Ex.k,Ex.n,Ex.s,Ex.l],by rw[e]⟩
 have f4:=is_f hI l hl h4;rw[if_neg h4] at e;clear e1 ha cE j1;have c1:=f1;have c2:=f2;have c3:=f3;have c4:=f4;obtain ⟨t1,ht1⟩:∃t,t=xL0 l r 1:=⟨_,rfl⟩;have c5:=rT0 hI l hl ht1;obtain ⟨t3,ht3⟩:∃t,t=xL0 l r 3:=⟨_,rfl⟩;have c6:=rT0 hI l hl ht3;obtain ⟨y,hy⟩:∃y,y=vH0 l ff r:=⟨_,rfl⟩;have c7:=JV0 hI l hl hT hF hj hy;have c8:=pG0 hI;rw[<-ht1,<-ht3,<-hy] at e;clear ht1 ht3 hy f1 f2 f3 f4
 refine qN hI tyK Tryz.func176 54 [.cell 2 26] ?_;unhygienic intros
 refine qB 1 ?_
 repeat' first|refine qA 1 ?_|refine qJ (nN [0]) ?_|refine qJ (nN []) ?_|refine qp ?_ ?_|refine qk (fun h=>?_) fun h=>?_|fail
 all_goals first
  | exact hR _ _ ⟨by rw[e,if_pos (by assumption)];simp only[AV.roC,A.roC,List.map,erD,eA,hI.e,Ex.t_of,Ex.k,Ex.n,Ex.s,Ex.l],by rw[e,if_pos (by assumption)]⟩
  | exact hR _ _ ⟨by rw[e,if_neg (by assumption),if_pos (by assumption)];simp only[AV.roC,A.roC,List.map,erD,eA,hI.e,Ex.t_of,Ex.k,Ex.n,Ex.s,Ex.l],by rw[e,if_neg (by assumption),if_pos (by assumption)]⟩
  | (have e':=e;rw[if_neg (by assumption),if_neg (by assumption)] at e';subst e';exact hR _ _ ⟨rfl,rfl⟩)
end
theorem mD0 (f:Nat) (hf:f<=20) (ih:∀g,f=g+1->kC0 @I l (20 - g) (wQ0 l g)):kC0 @I l (20 - f) (wQ0 l f):=by
  refine ⟨UJ0 f hf,fun r x hj e=>?_⟩;have h0:∀q:r.bad=true\/l.length<=r.i\/f=0,x=(.mk 0 0 ⟨⟨[]⟩⟩ [],r.inc.fail):=fun q=>by
   cases f with
   | zero=>rw[e,wQ0]
   | succ f=>rw[e,wQ0,if_pos (q.elim .inl fun q=>q.elim .inr fun q=>absurd q (by simp))]
  by_cases hq:r.bad=true\/l.length<=r.i\/f=0
  ·have e0:=h0 hq
   have hd:r.bad=true\/l.length<=r.i\/20 < dInc r.deep:=by
    rcases hq with q | q | q
    ·exact .inl q
    ·exact .inr (.inl q)
    ·rcases hj with j | j
     ·exact .inl j
     ·exact .inr (.inr (by subst q;rw[j];decide))
   clear e h0 hq;refine yM0 ?_;refine qN hI tyK Tryz.func159 48 [.cell 2 26] ?_;unhygienic intros
   have e1:bin .add .i64 (I r.deep) 1=I (dInc r.deep):=by simp only[hI.e];cases hO;rfl
   refine qB 1 ?_
   (repeat' first|refine qA 1 ?_|refine qJ (nN [0]) ?_|refine qp ?_ ?_|refine qk (fun h=>?_) fun h=>?_|fail)
   all_goals first
    | (exfalso;rcases hd with q | q | q<;>first | exact absurd q (by assumption) | omega)
    | exact hR _ _ ⟨by rw[e0];simp only[AV.roC,A.roC,List.map,erD,eA,hI.e];rfl,by rw[e0];simp only[rdB,Rd.inc,Rd.fail,hI.e]⟩
  ·obtain ⟨f,rfl⟩:∃g,f=g+1:=⟨f - 1,by omega⟩
   have n1:¬r.bad=true:=fun q=>hq (.inl q);have n2:r.i < l.length:=by
    rcases Nat.lt_or_ge r.i l.length with q | q
    ·exact q
    ·exact absurd (.inr (.inl q)) hq
   have hd:r.deep=20 - ((f+1:Nat):Int):=hj.resolve_left n1;have hd1:dInc r.deep=20 - (f:Int):=by rw[hd,bY0 (by omega)];omega
   obtain ⟨y,hy⟩:∃y,y=nJ0 l (wQ0 l f) r.inc:=⟨_,rfl⟩;have e0:x=(y.1,y.2.dec):=by rw[e,wQ0,if_neg (fun q=>q.elim n1 fun q=>absurd n2 (by omega)),hy]
   have c1:ACl Tryz.prog 176 [⟨.one,[.ptr 0 0]⟩] [some [.ro true (I (l.map Vl.t)),.lit (.int .i64 (Int.ofNat (I r.i))),.lit (.bool (I r.bad)),.lit (.int .i64 (I (dInc r.deep)))]] (fun rs bx=>rs=eA @I y.1/\bx=[rdB @I l y.2]):=
    (tB1 hI l hl hT (ih f rfl) (r:=r.inc) (.inr hd1) n2 hy:RdC @I l 176 [] r.inc (eA @I y.1) y.2)
   clear e hy h0 hq ih;have n3:¬20 < dInc r.deep:=by omega
   refine qN hI tyK Tryz.func159 48 [.cell 2 26] ?_;unhygienic intros
   have e1:bin .add .i64 (I r.deep) 1=I (dInc r.deep):=by simp only[hI.e];cases hO;rfl
   have e2:bin .sub .i64 (I y.2.deep) 1=I (dDec y.2.deep):=by simp only[hI.e];cases hO;rfl
   refine qB 1 ?_
   (repeat' first|refine qA 1 ?_|refine qJ (nN [0]) ?_|refine qp ?_ ?_|refine qk (fun h=>?_) fun h=>?_|fail)
   all_goals first
    | exact absurd (by assumption) n1
    | exact absurd (by assumption) n3
    | (exfalso;omega)
    | exact hR _ _ ⟨by rw[e0],by rw[e0];rfl⟩
theorem bB0:∀(f:Nat),f<=20->kC0 @I l (20 - f) (wQ0 l f)
 | 0,hf=>mD0 hI l hl hT 0 hf fun g q=>absurd q (by simp)
 | f+1,hf=>mD0 hI l hl hT (f+1) hf fun g q=>by
  have:g=f:=by omega
  subst this;exact bB0 g (by omega)
end
variable {I:∀{α:Type},α->α}
section
variable (l:List Vl)
noncomputable def rX0 (F:Rd->Ex×Rd) (r:Rd):Ex×Rd:=((F (zB0 l r ⟨⟨[40]⟩⟩)).1,zB0 l (F (zB0 l r ⟨⟨[40]⟩⟩)).2 ⟨⟨[41]⟩⟩)
noncomputable def pFor (B:Rd->List Sm×Rd) (r:Rd):Sm×Rd:=
 let s:=wB0 l (zB0 l r ⟨⟨[40]⟩⟩)
 let t:=wB0 l (gU0 l s.2 ⟨⟨[105,110]⟩⟩)
 let b:=B (zB0 l t.2 ⟨⟨[41]⟩⟩)
 (.mk 7 s.1 t.1 [] b.1 [],b.2)
open Classical in
noncomputable def pIf (F:Rd->Ex×Rd) (B:Rd->List Sm×Rd) (r:Rd):Sm×Rd:=
 let e:=rX0 l F r
 let b:=B e.2
 if pSee l b.2 2 ⟨⟨[101,108,115,101]⟩⟩ then (.mk 5 ⟨⟨[]⟩⟩ ⟨⟨[]⟩⟩ [e.1] b.1 (B b.2.adv).1,(B b.2.adv).2.or ((B b.2.adv).1.length=0)) else (.mk 5 ⟨⟨[]⟩⟩ ⟨⟨[]⟩⟩ [e.1] b.1 [],b.2)
open Classical in
noncomputable def uX0 (F:Rd->Ex×Rd) (r:Rd):Sm×Rd:=
 let e:=F r
 if pSee l e.2 5 ⟨⟨[61]⟩⟩ then
  let v:=F e.2.adv
  if e.1.k=3 then (.mk 2 e.1.s ⟨⟨[]⟩⟩ [v.1] [] [],zB0 l v.2 ⟨⟨[59]⟩⟩)
  else if e.1.k=4 then (.mk 3 e.1.s ⟨⟨[]⟩⟩ [e.1.l[0]!,v.1] [] [],zB0 l v.2 ⟨⟨[59]⟩⟩)
  else if e.1.k=5 then (.mk 4 ⟨⟨[]⟩⟩ ⟨⟨[]⟩⟩ [e.1.l[0]!,v.1] [] [],zB0 l v.2 ⟨⟨[59]⟩⟩)
  else (.mk 12 ⟨⟨[]⟩⟩ ⟨⟨[]⟩⟩ [e.1] [] [],zB0 l v.2.fail ⟨⟨[59]⟩⟩)
 else (.mk 12 ⟨⟨[]⟩⟩ ⟨⟨[]⟩⟩ [e.1] [] [],zB0 l e.2 ⟨⟨[59]⟩⟩)
noncomputable def mH0 (F:Rd->Ex×Rd) (r:Rd):Sm×Rd:=(.mk 1 ⟨⟨[]⟩⟩ ⟨⟨[]⟩⟩ (yY0 l F (l.length+2) r).1 [] [],zB0 l (yY0 l F (l.length+2) r).2 ⟨⟨[59]⟩⟩)
noncomputable def pDel (F:Rd->Ex×Rd) (r:Rd):Sm×Rd:=
 let s:=wB0 l r
 let e:=F (zB0 l s.2 ⟨⟨[91]⟩⟩)
 (.mk 11 s.1 ⟨⟨[]⟩⟩ [e.1] [] [],zB0 l (zB0 l e.2 ⟨⟨[93]⟩⟩) ⟨⟨[59]⟩⟩)
noncomputable def pOne (F:Rd->Ex×Rd) (r:Rd) (k:Int):Sm×Rd:=(.mk k ⟨⟨[]⟩⟩ ⟨⟨[]⟩⟩ [(F r).1] [] [],zB0 l (F r).2 ⟨⟨[59]⟩⟩)
open Classical in
noncomputable def qX0 (F:Rd->Ex×Rd) (B:Rd->List Sm×Rd) (r:Rd):Sm×Rd:=
 if pSee l r 2 ⟨⟨[112,114,105,110,116]⟩⟩ then mH0 l F r.adv
 else if pSee l r 2 ⟨⟨[105,102]⟩⟩ then pIf l F B r.adv
 else if pSee l r 2 ⟨⟨[119,104,105,108,101]⟩⟩ then (.mk 6 ⟨⟨[]⟩⟩ ⟨⟨[]⟩⟩ [(rX0 l F r.adv).1] (B (rX0 l F r.adv).2).1 [],(B (rX0 l F r.adv).2).2)
 else if pSee l r 2 ⟨⟨[102,111,114]⟩⟩ then pFor l B r.adv
 else if pSee l r 2 ⟨⟨[110,101,120,116]⟩⟩ then (.mk 8 ⟨⟨[]⟩⟩ ⟨⟨[]⟩⟩ [] [] [],zB0 l r.adv ⟨⟨[59]⟩⟩)
 else if pSee l r 2 ⟨⟨[101,120,105,116]⟩⟩ then pOne l F r.adv 9
 else if pSee l r 2 ⟨⟨[114,101,116,117,114,110]⟩⟩ then pOne l F r.adv 10
 else if pSee l r 2 ⟨⟨[100,101,108,101,116,101]⟩⟩ then pDel l F r.adv
 else uX0 l F r
open Classical in
noncomputable def xW0 (S:Rd->Sm×Rd):Nat->Rd->List Sm×Rd
 | 0,r=>([],r)
 | n+1,r=>if r.bad=false/\r.i < l.length/\¬pSee l r 5 ⟨⟨[125]⟩⟩ then ((S r).1::(xW0 S n (S r).2).1,(xW0 S n (S r).2).2) else ([],r)
noncomputable def yU0:Nat->Rd->List Sm×Rd
 | 0,r=>([],zB0 l (zB0 l r ⟨⟨[123]⟩⟩).inc.fail.dec ⟨⟨[125]⟩⟩)
 | f+1,r=>let x:=xW0 l (qX0 l (wQ0 l f) (yU0 f)) (l.length+2) (zB0 l r ⟨⟨[123]⟩⟩).inc;(x.1,zB0 l x.2.dec ⟨⟨[125]⟩⟩)
open Classical in
noncomputable def tB0:Nat->Rd->List ByteArray×Rd
 | 0,r=>([],r)
 | n+1,r=>if r.bad=true then ([],r) else if pSee l (wB0 l r).2 5 ⟨⟨[44]⟩⟩ then ((wB0 l r).1::(tB0 n (wB0 l r).2.adv).1,(tB0 n (wB0 l r).2.adv).2) else ([(wB0 l r).1],(wB0 l r).2)
open Classical in
noncomputable def pFn (B:Rd->List Sm×Rd) (r:Rd):Fu×Rd:=
 let s:=wB0 l r
 let r1:=zB0 l s.2 ⟨⟨[40]⟩⟩
 let q:=if pSee l r1 5 ⟨⟨[41]⟩⟩ then ([],r1) else tB0 l (l.length+2) r1
 let b:=B (zB0 l q.2 ⟨⟨[41]⟩⟩)
 (⟨s.1,q.1,b.1⟩,b.2)
open Classical in
noncomputable def rW0 (F:Rd->Ex×Rd) (B:Rd->List Sm×Rd) (r:Rd):Ru×Rd:=
 if pSee l r 2 ⟨⟨[98,101,103,105,110]⟩⟩ then (⟨1,.mk 0 0 ⟨⟨[]⟩⟩ [],(B r.adv).1⟩,(B r.adv).2)
 else if pSee l r 2 ⟨⟨[101,110,100]⟩⟩ then (⟨2,.mk 0 0 ⟨⟨[]⟩⟩ [],(B r.adv).1⟩,(B r.adv).2)
 else if pSee l r 5 ⟨⟨[123]⟩⟩ then (⟨3,.mk 0 0 ⟨⟨[]⟩⟩ [],(B r).1⟩,(B r).2)
 else (⟨4,(F r).1,(B (F r).2).1⟩,(B (F r).2).2)
open Classical in
noncomputable def pFns (G:Rd->Fu×Rd):Nat->Rd->List Fu×Rd
 | 0,r=>([],r)
 | n+1,r=>if pSee l r 2 ⟨⟨[102,117,110,99]⟩⟩ then ((G r.adv).1::(pFns G n (G r.adv).2).1,(pFns G n (G r.adv).2).2) else ([],r)
open Classical in
noncomputable def wA0 (G:Rd->Ru×Rd):Nat->Rd->List Ru×Rd
 | 0,r=>([],r)
 | n+1,r=>if r.i < l.length/\r.bad=false then ((G r).1::(wA0 G n (G r).2).1,(wA0 G n (G r).2).2) else ([],r)
noncomputable def XB0 (b:Bool):List Fu×Rd:=pFns l (pFn l (yU0 l 20)) (l.length+2) ⟨0,b,0⟩
noncomputable def vU0 (b:Bool):List Ru×Rd:=wA0 l (rW0 l (wQ0 l 20) (yU0 l 20)) (l.length+2) (XB0 l b).2
open Classical in
noncomputable def tJ1 (b:Bool):Pg×Bool:=if (vU0 l b).2.bad=false/\(⟨(vU0 l b).1,(XB0 l b).1⟩:Pg).good then (⟨(vU0 l b).1,(XB0 l b).1⟩,true) else (⟨[],[]⟩,false)
variable {l}
theorem bL0 {r r':Rd} {s:ByteArray} (hi:r.i<=r'.i) (h:(zB0 l r' s).bad=false):r.i < (zB0 l r' s).i:=by
 rw[UH0 h];exact Nat.lt_succ_of_le hi
theorem HJ0 {r:Rd} {p:Prop} (h:(r.or p).bad=false):r.bad=false/\(r.or p).i=r.i:=by
 unfold Rd.or at h |-
 split at h
 ·exact absurd h (by simp[Rd.fail])
 ·rename_i q;rw[if_neg q];exact ⟨h,rfl⟩
section
variable {F:Rd->Ex×Rd} {B:Rd->List Sm×Rd} {d:Int} (hF:∀r,LeR l d r (F r).2) (hB:∀r,LeR l d r (B r).2) (hb:∀r,(B r).2.bad=false->r.i < (B r).2.i)
include hF hB hb
omit hB hb in
theorem nM0 (r:Rd):LeR l d r (rX0 l F r).2:=((zC0 d r _).tr (hF _)).tr (zC0 d _ _)
omit hF hb in
theorem vR1 (r:Rd):LeR l d r (pFor l B r).2:=(((((zC0 d r _).tr (wW0 d _)).tr (GC0 d _ _)).tr (wW0 d _)).tr (zC0 d _ _)).tr (hB _)
omit hb in
theorem nJ1 (r:Rd):LeR l d r (pIf l F B r).2:=by
 unfold pIf;dsimp only;split
 ·exact ((((nM0 hF r).tr (hB _)).tr (xM0 d _)).tr (hB _)).tr (tV1 d _ _)
 ·exact (nM0 hF r).tr (hB _)
omit hB hb in
theorem xE1 (r:Rd):LeR l d r (uX0 l F r).2:=by
 unfold uX0;dsimp only
 repeat' split
 all_goals first | exact (((hF r).tr (xM0 d _)).tr (hF _)).tr (zC0 d _ _) | exact ((((hF r).tr (xM0 d _)).tr (hF _)).tr (nL0 d _)).tr (zC0 d _ _) | exact (hF r).tr (zC0 d _ _)
omit hB hb in
theorem QH0 (r:Rd):LeR l d r (mH0 l F r).2:=(bP0 hF _ r).tr (zC0 d _ _)
omit hB hb in
theorem vT1 (r:Rd):LeR l d r (pDel l F r).2:=((((wW0 d r).tr (zC0 d _ _)).tr (hF _)).tr (zC0 d _ _)).tr (zC0 d _ _)
omit hB hb in
theorem vQ1 (r:Rd) (k:Int):LeR l d r (pOne l F r k).2:=(hF r).tr (zC0 d _ _)
omit hb in
theorem GE0 (r:Rd):LeR l d r (qX0 l F B r).2:=by
 unfold qX0
 repeat' split
 all_goals first | exact (xM0 d r).tr (QH0 hF _) | exact (xM0 d r).tr (nJ1 hF hB _) | exact ((xM0 d r).tr (nM0 hF _)).tr (hB _) | exact (xM0 d r).tr (vR1 hB _) | exact (xM0 d r).tr (zC0 d _ _) | exact (xM0 d r).tr (vQ1 hF _ _) | exact (xM0 d r).tr (vT1 hF _) | exact xE1 hF r
omit hB hb in
theorem yY1 {r:Rd} (h:(uX0 l F r).2.bad=false):r.i < (uX0 l F r).2.i:=by
 unfold uX0 at h |-
 dsimp only at h |-
 have a1:r.i<=(F (F r).2.adv).2.i:=Nat.le_trans (hF r).i (Nat.le_trans (Nat.le_succ _) (hF (F r).2.adv).i)
 repeat' split
 all_goals simp only[*,if_true,if_false] at h
 all_goals first | exact bL0 a1 h | exact bL0 (r':=(F (F r).2.adv).2.fail) a1 h | exact bL0 (hF r).i h
theorem tR1 {r:Rd} (h:(qX0 l F B r).2.bad=false):r.i < (qX0 l F B r).2.i:=by
 unfold qX0 at h |-;have s1:r.i < r.adv.i:=Nat.lt_succ_self _
 repeat' split
 all_goals simp only[*,if_true,if_false] at h
 all_goals first
  | exact Nat.lt_of_lt_of_le s1 (QH0 hF _).i
  | exact Nat.lt_of_lt_of_le s1 (nJ1 hF hB _).i
  | exact Nat.lt_of_lt_of_le s1 ((nM0 hF _).tr (hB _)).i
  | exact Nat.lt_of_lt_of_le s1 (vR1 hB _).i
  | exact Nat.lt_of_lt_of_le s1 (zC0 d _ _).i
  | exact Nat.lt_of_lt_of_le s1 (vQ1 hF _ _).i
  | exact Nat.lt_of_lt_of_le s1 (vT1 hF _).i
  | exact yY1 hF h
end
theorem QF0 {S:Rd->Sm×Rd} {d:Int} (hS:∀r,LeR l d r (S r).2):∀(n:Nat) (r:Rd),LeR l d r (xW0 l S n r).2
 | 0,r=>LeR.refl d r
 | n+1,r=>by
  rw[xW0]
  split
  ·exact (hS r).tr (QF0 hS n _)
  ·exact LeR.refl d r
theorem kH0:∀(f:Nat),f<=20->∀r,LeR l (20 - f) r (yU0 l f r).2/\((yU0 l f r).2.bad=false->r.i < (yU0 l f r).2.i)
 | 0,_,r=>by
  have a:LeR l (20 - ((0:Nat):Int)) r (zB0 l (zB0 l r ⟨⟨[123]⟩⟩).inc.fail.dec ⟨⟨[125]⟩⟩):=⟨fun q=>(zC0 (l:=l) 0 (zB0 l r ⟨⟨[123]⟩⟩).inc.fail.dec ⟨⟨[125]⟩⟩).w ((zC0 (l:=l) 0 r ⟨⟨[123]⟩⟩).w q),Nat.le_trans (zC0 (l:=l) 0 r _).i (zC0 (l:=l) 0 (zB0 l r ⟨⟨[123]⟩⟩).inc.fail.dec ⟨⟨[125]⟩⟩).i,fun _=>(zC0 (l:=l) 0 (zB0 l r ⟨⟨[123]⟩⟩).inc.fail.dec ⟨⟨[125]⟩⟩).b rfl,fun _=>.inl ((zC0 (l:=l) 0 (zB0 l r ⟨⟨[123]⟩⟩).inc.fail.dec ⟨⟨[125]⟩⟩).b rfl)⟩
  exact ⟨a,fun h=>absurd ((zC0 (l:=l) 0 (zB0 l r ⟨⟨[123]⟩⟩).inc.fail.dec ⟨⟨[125]⟩⟩).b rfl) (by rw[show zB0 l (zB0 l r ⟨⟨[123]⟩⟩).inc.fail.dec ⟨⟨[125]⟩⟩=(yU0 l 0 r).2 from by rw[yU0],h];simp)⟩
 | f+1,hf,r=>by
  have ih:=kH0 f (by omega)
  have hS:=fun r=>GE0 (l:=l) (fun r=>UJ0 (l:=l) f (by omega) r) (fun r=>(ih r).1) r
  have h1:=QF0 (l:=l) hS (l.length+2) (zB0 l r ⟨⟨[123]⟩⟩).inc;have h0:=zC0 (l:=l) (20 - ((f+1:Nat):Int)) r ⟨⟨[123]⟩⟩;rw[yU0]
  dsimp only
  generalize xW0 l (qX0 l (wQ0 l f) (yU0 l f)) (l.length+2) (zB0 l r ⟨⟨[123]⟩⟩).inc=x at *;have h2:=zC0 (l:=l) (20 - ((f+1:Nat):Int)) x.2.dec ⟨⟨[125]⟩⟩;have hi:r.i<=x.2.dec.i:=Nat.le_trans h0.i h1.i;refine ⟨⟨fun q=>h2.w (h1.w (h0.w q)),Nat.le_trans hi h2.i,fun q=>h2.b (h1.b (h0.b q)),fun q=>h2.j ?_⟩,fun h=>bL0 hi h⟩;rcases h0.j q with q1 | q1
  ·exact .inl (h1.b q1)
  ·have q2:JD (20 - (f:Int)) (zB0 l r ⟨⟨[123]⟩⟩).inc:=.inr (by show dInc _=_;rw[q1,bY0 (by omega)];omega)
   rcases h1.j q2 with q3 | q3
   ·exact .inl q3
   ·refine .inr ?_
    show dDec _=_
    rw[q3,FN0 (by omega)];omega
end
end Go.Gv
