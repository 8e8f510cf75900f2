/- Part T4 of the proof: contracts of functions of the program, each walked once. -/
import Derived.Test.YtfobhlmjcnkpiaaGreatDoorT3
set_option linter.all false
namespace Go.Gv
open Go.Av Go.Proofs
set_option maxRecDepth 10000
set_option maxHeartbeats 8000000
variable {I:∀{α:Type},α->α}
theorem ZD0 (hI:II @I) (d:Nat) (hd:d<=8) (ih:L9s @I d):P9s @I (d+1):=by
 intro fn b u hb hu;refine zB1 6 ?_;have c1:=qC0 hI;have c2:=yL0 hI;have c3:=uQ0 hI;have c4:=tT0 hI;have c5:=fun a b c=>QB.of hI (uZ0 a b c)
 dsimp only [Dr] at c1 c2 c3 c4
 have e2:I (Int.ofNat (d+1))=Int.ofNat (I (d+1)):=by rw[hI.e,hI.e]
 rw[e2];have c9:=ih fn
 dsimp only [L9s,Dr] at c9
 refine qN hI tyK Tryz.func93 123 [.cell 6 74] ?_;unhygienic intros
 have hadd:∀m:Nat,m<=100->bin .add .i64 1 (I (Int.ofNat m))=Int.ofNat (I (m+1)):=by
  intro m hm;simp only[hI.e];cases hO;simp only[Ops.std,yW0];rw[zW0 (by simp only[Int.ofNat_eq_natCast];omega)];simp only[Int.ofNat_eq_natCast];omega
 refine' pM1 (V9 b false) (fun key=>?_) (fun a ha=>?_)
 rotate_left
 ·refine qB 1 ?_
  repeat' first|refine qA 1 ?_|refine qJe (nN [0]) fun x hx=>?_|refine qJ (nN []) ?_|refine qJe (nN [0]) fun x hx=>?_|refine qJe (nN [0]) fun x hx=>?_|refine qp ?_ ?_|refine qk (fun h=>?_) fun h=>?_<;>try(exfalso;omega)|fail
  all_goals refine qLf 3 [0,1,2,6,7,8,9,10] (kkB 2 3 4) (S9 @I b (Int.ofNat (I (d+1))) fn) (V9 b false) (fun a=>a.1.2.2.2 - a.2.1.length) ?_ fun a ha=>?_
  rotate_left;exact key a ha
  all_goals first | exact key a ha | exact absurd trivial (by assumption) | skip
  all_goals first
   | (have hu2:=hx.2;cbv;first | exact ⟨((_,_,_,1),[],_),by simp only[hI.e];rfl,VT0 (by decide) (by first | exact hx.1 | exact Nat.zero_le 40) (by exact Nat.zero_le 40) (fun _=>rfl) (by intro q1 q2;first | exact ⟨by decide,rfl⟩|(exfalso;omega)) hu2⟩ | exact ⟨((_,_,_,0),[],_),by simp only[hI.e];rfl,VT0 (by decide) (by first | exact Nat.zero_le 40 | exact And.left (by assumption)) (by first | exact Nat.zero_le 40 | exact hx.1) (by intro q;exfalso;omega) (by intro q1 q2;first | exact ⟨by decide,rfl⟩|(exfalso;omega)) hu2⟩ | exact ⟨((_,_,_,2),[],_),by simp only[hI.e];rfl,VT0 (by decide) (by first | exact hx.1 | exact Nat.zero_le 40) (by exact Nat.zero_le 40) (by intro q;exfalso;omega) (by intro q1 q2;first | exact ⟨by decide,rfl⟩|(exfalso;omega)) hu2⟩ | fail)
   | (obtain ⟨m,hm⟩:=Int.eq_ofNat_of_zero_le hx.1.1;have hm3:=hx.1.2 (by decide);rw[hm] at hm3;(have ea:bin .add .i64 1 (I x.1)=Int.ofNat (I (m+1)):=by rw[hm];exact hadd m (by omega));(have hm4:m+1<=2:=by omega);have hu2:=hx.2;cbv;exact ⟨((_,_,_,m+1),[],_),by rw[ea];simp only[hI.e];rfl,VT0 hm4 (by exact Nat.zero_le 40) (by exact Nat.zero_le 40) (by intro q;exfalso;omega) (by intro q1 q2;exfalso;omega) hu2⟩)
   | skip
 ·obtain ⟨⟨k,s,t,n⟩,l,v⟩:=a
  obtain ⟨⟨hn,hs,ht⟩,h12,h57,hln,hsz,hv⟩:=ha;simp only at hn hs ht h12 h57 hln hsz hv |-;clear c1 c2;have c1:=pH0 hI 2 (by decide) b v hb hv
  have e3:I (Int.ofNat 2)=(2:Int):=by rw[hI.e];rfl
  rw[e3,show szB 2=1100 from rfl] at c1
  have e1:bin .sub .i64 (Int.ofNat (I (d+1))) 1=I (Int.ofNat d):=by simp only[hI.e];cases hO;exact sub_one d (by omega)
  have hst:=uQ1 d;have hlist:∀n:Nat,n<=3->n * stB d<=3 * stB d:=fun n hn=>Nat.mul_le_mul_right _ hn;generalize hL:l.length=L at *
  repeat' first|refine qA 1 ?_|refine qJe (nN [0]) fun x hx=>?_|refine qJ (nN []) ?_|refine qJe (nN [0]) fun x hx=>?_|refine qJe (nN [0]) fun x hx=>?_|refine qp ?_ ?_|refine qk (fun h=>?_) fun h=>?_<;>try(exfalso;omega)|fail
  ·exact ⟨((k,s,t,n),l++[x.1],x.2),by simp only[hI.e,List.length_append,List.length_singleton,hL];rfl,⟨⟨hn,hs,ht⟩,h12,h57,by simp only[List.length_append,List.length_singleton];omega,by rw[szs_app];simp only[Ex.szs,List.length_append,List.length_singleton,hL,Nat.add_mul];have:=hx.1;omega,hx.2⟩,by simp only[List.length_append,List.length_singleton];omega⟩
  ·have hl:l.length=1:=by have:=h12 h;omega
   obtain ⟨l0,rfl⟩:=List.length_eq_one_iff.1 hl;have hz0:l0.sz<=1100:=by simp only[Ex.szs] at hsz;omega
   have e1:get (I ([l0].map Ex.t)) (nadd 0 (nat 0))=[.lit (.int .i64 (I l0.k)),.lit (.int .i64 (I l0.n)),.lit (.string (I l0.s)),.sl (I (l0.l.map Ex.t))]:=by
    rw[<-Ex.tI hI];simp only[hI.e];cases hO;rfl
   have q1:idx (Int.ofNat (nadd 0 (nat 0))) (I [l0].length):=by simp only[hI.e];cases hO;show (0:Int)<=_/\_ < _;simp[Ops.std]
   have q2:one (I ([l0].map Ex.t)) (nadd 0 (nat 0)) 4:=by simp only[hI.e];exact vM1 hO (i:=0) (by simp) (by cases hO;rfl) (by simp[Ex.t_len])
   refine qA 1 ?_
   (repeat' first|refine qA 1 ?_|refine qJe (nN [0]) fun x hx=>?_|refine qJ (nN []) ?_|refine qp ?_ ?_|refine qk (fun h=>?_) fun h=>?_<;>try(exfalso;omega)|fail)
   all_goals exact hR _ _ ⟨(.mk k s t [.mk 11 0 x.1 [l0]] [] [],x.2),⟨⟨by simp only[Sm.sz,Sm.szs,Ex.szs,Ex.sz,List.length_singleton,List.length_nil,stB];have:=hx.1;omega,UG0 (by simp only[stB];omega) (by simp only[rY0,Ex.szs,Ex.sz,List.length_singleton,List.length_nil,stB];have:=hx.1;omega)⟩,hx.2⟩,by simp only[AV.owF,A.owF,sOw,hI.e,Sm.k,Sm.s,Sm.tt,Sm.x,Sm.a,Sm.b];have q:=RJ0 hO k s t x.1 l0;dsimp only at q;rw[q];rfl,rfl⟩
  ·rename_i hin y hy hk z hz
   have hn1:=(h57 hin.1 hin.2).1;have p1:=hlist _ hy.1.2.1;have p2:=hlist _ hx.1.2.1;exact hR _ _ ⟨(.mk k s t l y.1 x.1,x.2),⟨⟨by simp only[Sm.sz,stB,hL];have:=hy.1.2;have:=hx.1.2;omega,UG0 (by simp only[stB];omega) (by simp only[stB,hL];have:=hy.1.2;have:=hx.1.2;omega)⟩,hx.2⟩,by simp only[AV.owF,A.owF,List.map,sOw,hI.e];rfl,rfl⟩
  ·rename_i hin y hy hk
   have hn1:=(h57 hin.1 hin.2).1;have p1:=hlist _ hy.1.2.1;exact hR _ _ ⟨(.mk k s t l y.1 [],x.2),⟨⟨by simp only[Sm.sz,Sm.szs,List.length_nil,stB,hL];have:=hy.1.2;omega,UG0 (by simp only[stB];omega) (by simp only[rY0,List.length_nil,stB,hL];have:=hy.1.2;omega)⟩,hx.2⟩,by simp only[AV.owF,A.owF,List.map,sOw,hI.e];rfl,rfl⟩
  ·rename_i hin
   have hn1:=(h57 hin.1 hin.2).1;have p2:=hlist _ hx.1.2.1;exact hR _ _ ⟨(.mk k s t l x.1 [],x.2),⟨⟨by simp only[Sm.sz,Sm.szs,List.length_nil,stB,hL];have:=hx.1.2;omega,UG0 (by simp only[stB];omega) (by simp only[rY0,List.length_nil,stB,hL];have:=hx.1.2;omega)⟩,hx.2⟩,by simp only[AV.owF,A.owF,List.map,sOw,hI.e];rfl,rfl⟩
  ·exact hR _ _ ⟨(.mk k s t l [] [],v),⟨⟨by simp only[Sm.sz,Sm.szs,List.length_nil,stB,hL];omega,UG0 (by simp only[stB];omega) (by simp only[rY0,List.length_nil,stB,hL];omega)⟩,hv⟩,by simp only[AV.owF,A.owF,List.map,sOw,hI.e];rfl,rfl⟩
theorem hP0 (hI:II @I):∀d:Nat,d<=8->P9s @I d
 | 0,_=>ZC0 hI
 | d+1,h=>ZD0 hI d (by omega) (hN0 hI d (hP0 hI d (by omega)))
theorem PA0 (hI:II @I) (d:Nat) (h:d<=8):L9s @I d:=hN0 hI d (hP0 hI d h)
abbrev P9 (I:∀{α:Type},α->α) (d:Nat):Prop:=∀fn:Bool,Dr @I 93 [litI (I (Int.ofNat d)),litB fn] (fun y:Sm=>y.sz<=stB d) (fun y=>sOw @I y)
theorem PB0 (hI:II @I) (d:Nat) (h:d<=8):P9 @I d:=fun fn b u hb hu=>acI (hP0 hI d h fn b u hb hu) fun _ _ ⟨x,h1,h2⟩=>⟨x,⟨h1.1.1,h1.2⟩,h2⟩
theorem FY0 (hI:II @I) (d:Nat) (h:d<=8) (fn:Bool):Dr @I 93 [litI (I (Int.ofNat d)),litB fn] (fun y:Sm=>y.sz<=stB d) (fun y=>sA @I y):=by
 intro b u hb hu;exact acI (PB0 hI d h fn b u hb hu).ro fun _ _ ⟨_,⟨x,h1,h2,h3⟩,e⟩=>⟨x,h1,by rw[e,h2];simp only[AV.roC,A.roC,List.map,erD,sOw,sA],h3⟩
end Go.Gv
