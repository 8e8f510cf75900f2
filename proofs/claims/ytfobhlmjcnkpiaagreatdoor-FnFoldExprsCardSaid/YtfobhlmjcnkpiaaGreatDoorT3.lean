/- Part T3 of the proof: contracts of functions of the program, each walked once. -/
import Derived.Test.YtfobhlmjcnkpiaaGreatDoorT2
set_option linter.all false
namespace Go.Gv
open Go.Av Go.Proofs
set_option maxRecDepth 10000
set_option maxHeartbeats 8000000
variable {I:∀{α:Type},α->α}
theorem pM1 {α:Type} {X:Prop} (V:α->Prop) {G:α->Prop} (h:(∀a,V a->G a)->X) (r:∀a,V a->G a):X:=h r
abbrev D9:=(Int×ByteArray×ByteArray×Nat)×List Ex×Cu
abbrev S9 (I:∀{α:Type},α->α) (b:List Int) (dv:Int) (fn:Bool) (a:D9):AS:=⟨vag 123 [(0,⟨.one,[.ptr 0 0]⟩),(1,litI dv),(2,litB fn),(6,⟨.one,[.ptr 1 0]⟩),(7,litI (I a.1.1)),(8,⟨.one,[.ptr 2 0]⟩),(9,litI (Int.ofNat (I a.1.2.2.2))),(10,litI (Int.ofNat (I a.2.1.length)))],[cuB @I b a.2.2,some [.lit (.int .i64 0),.lit (.string ⟨⟨[]⟩⟩),.lit (.string ⟨⟨[]⟩⟩),.nil,.nil,.nil],some [.lit (.int .i64 (I a.1.1)),.lit (.string (I a.1.2.1)),.lit (.string (I a.1.2.2.1)),.ow (0,0) false 4 (I (a.2.1.map Ex.t)),.nil,.nil]],1⟩
abbrev V9 (b:List Int) (z:Bool) (a:D9):Prop:=(a.1.2.2.2<=2/\a.1.2.1.size<=40/\a.1.2.2.1.size<=40)/\(a.1.1=12->a.1.2.2.2=1)/\(5<=a.1.1->a.1.1<=7->a.1.2.2.2<=1/\z=false)/\a.2.1.length<=a.1.2.2.2/\Ex.szs a.2.1<=a.2.1.length * 1100/\a.2.2.i<=b.length
theorem RJ0 {O:Ops} (hO:O=Ops.std) (k:Int) (s t r:ByteArray) (l0:Ex):O.set ([l0].map Ex.t) (O.nadd 0 (O.nat 0)) [.lit (.int .i64 11),.lit (.int .i64 0),.lit (.string r),.sl [[.lit (.int .i64 l0.k),.lit (.int .i64 l0.n),.lit (.string l0.s),.sl (l0.l.map Ex.t)]]]=[Ex.mk 11 0 r [l0]].map Ex.t:=by
 subst hO;cases l0;simp only[List.map,Ex.t_mk,Ex.k,Ex.n,Ex.s,Ex.l];rfl
theorem VT0 {b:List Int} {z:Bool} {k:Int} {s t:ByteArray} {n:Nat} {u:Cu} (hn:n<=2) (hs:s.size<=40) (ht:t.size<=40) (h12:k=12->n=1) (h57:5<=k->k<=7->n<=1/\z=false) (hu:u.i<=b.length):V9 b z ((k,s,t,n),[],u):=
 ⟨⟨hn,hs,ht⟩,h12,h57,Nat.zero_le _,by simp[Ex.szs],hu⟩
theorem ZC0 (hI:II @I):P9s @I 0:=by
 intro fn b u hb hu;refine zB1 6 ?_;have c1:=qC0 hI;have c2:=yL0 hI;have c3:=uQ0 hI;have c4:=tT0 hI;have c5:=fun a b c=>QB.of hI (uZ0 a b c)
 dsimp only [Dr] at c1 c2 c3 c4
 have e1:I (Int.ofNat 0)=(0:Int):=by rw[hI.e];rfl
 rw[e1];refine qN hI tyK Tryz.func93 123 [.cell 6 74] ?_;unhygienic intros
 have hadd:∀m:Nat,m<=100->bin .add .i64 1 (I (Int.ofNat m))=Int.ofNat (I (m+1)):=by
  intro m hm;simp only[hI.e];cases hO;simp only[Ops.std,yW0];rw[zW0 (by simp only[Int.ofNat_eq_natCast];omega)];simp only[Int.ofNat_eq_natCast];omega
 refine' pM1 (V9 b true) (fun key=>?_) (fun a ha=>?_)
 rotate_left
 ·refine qB 1 ?_
  repeat' first|refine qA 1 ?_|refine qJe (nN [0]) fun x hx=>?_|refine qJ (nN []) ?_|refine qJe (nN [0]) fun x hx=>?_|refine qJe (nN [0]) fun x hx=>?_|refine qp ?_ ?_|refine qk (fun h=>?_) fun h=>?_<;>try(exfalso;omega)|fail
  all_goals refine qLf 3 [0,1,2,6,7,8,9,10] (kkB 2 3 4) (S9 @I b 0 fn) (V9 b true) (fun a=>a.1.2.2.2 - a.2.1.length) ?_ fun a ha=>?_
  rotate_left;exact key a ha
  all_goals first | exact key a ha | exact absurd trivial (by assumption) | skip
  all_goals first
   | (have hu2:=hx.2;have h57:∀k:Int,¬(5<=k/\k<=7)->5<=k->k<=7->1<=1/\true=false:=fun k q q1 q2=>absurd ⟨q1,q2⟩ q;cbv;first | exact ⟨((_,_,_,1),[],_),by simp only[hI.e];rfl,VT0 (by decide) (by first | exact hx.1 | exact Nat.zero_le 40) (by exact Nat.zero_le 40) (fun _=>rfl) (by intro q1 q2;first|(exfalso;omega) | skip) hu2⟩ | exact ⟨((_,_,_,0),[],_),by simp only[hI.e];rfl,VT0 (by decide) (by first | exact Nat.zero_le 40 | exact And.left (by assumption)) (by first | exact Nat.zero_le 40 | exact hx.1) (by intro q;exfalso;omega) (by intro q1 q2;first|(exfalso;omega) | skip) hu2⟩ | exact ⟨((_,_,_,2),[],_),by simp only[hI.e];rfl,VT0 (by decide) (by first | exact hx.1 | exact Nat.zero_le 40) (by exact Nat.zero_le 40) (by intro q;exfalso;omega) (by intro q1 q2;first|(exfalso;omega) | skip) hu2⟩ | fail)
   | (obtain ⟨m,hm⟩:=Int.eq_ofNat_of_zero_le hx.1.1;have hm3:=hx.1.2 (by decide);rw[hm] at hm3;(have ea:bin .add .i64 1 (I x.1)=Int.ofNat (I (m+1)):=by rw[hm];exact hadd m (by omega));(have hm4:m+1<=2:=by omega);have hu2:=hx.2;cbv;exact ⟨((_,_,_,m+1),[],_),by rw[ea];simp only[hI.e];rfl,VT0 hm4 (by exact Nat.zero_le 40) (by exact Nat.zero_le 40) (by intro q;exfalso;omega) (by intro q1 q2;exfalso;omega) hu2⟩)
   | skip
 ·obtain ⟨⟨k,s,t,n⟩,l,v⟩:=a
  obtain ⟨⟨hn,hs,ht⟩,h12,h57,hln,hsz,hv⟩:=ha;simp only at hn hs ht h12 h57 hln hsz hv |-;clear c1 c2;have c1:=pH0 hI 2 (by decide) b v hb hv
  have e2:I (Int.ofNat 2)=(2:Int):=by rw[hI.e];rfl
  rw[e2,show szB 2=1100 from rfl] at c1
  generalize hL:l.length=L at *
  repeat' first|refine qA 1 ?_|refine qJe (nN [0]) fun x hx=>?_|refine qJ (nN []) ?_|refine qJe (nN [0]) fun x hx=>?_|refine qJe (nN [0]) fun x hx=>?_|refine qp ?_ ?_|refine qk (fun h=>?_) fun h=>?_<;>try(exfalso;omega)|fail
  ·exact ⟨((k,s,t,n),l++[x.1],x.2),by simp only[hI.e,List.length_append,List.length_singleton,hL];rfl,⟨⟨hn,hs,ht⟩,h12,h57,by simp only[List.length_append,List.length_singleton];omega,by rw[szs_app];simp only[Ex.szs,List.length_append,List.length_singleton,hL,Nat.add_mul];have:=hx.1;omega,hx.2⟩,by simp only[List.length_append,List.length_singleton];omega⟩
  ·have hl:l.length=1:=by have:=h12 h;omega
   obtain ⟨l0,rfl⟩:=List.length_eq_one_iff.1 hl;have hz0:l0.sz<=1100:=by simp only[Ex.szs] at hsz;omega
   have e1:get (I ([l0].map Ex.t)) (nadd 0 (nat 0))=[.lit (.int .i64 (I l0.k)),.lit (.int .i64 (I l0.n)),.lit (.string (I l0.s)),.sl (I (l0.l.map Ex.t))]:=by
    rw[<-Ex.tI hI];simp only[hI.e];cases hO;rfl
   have q1:idx (Int.ofNat (nadd 0 (nat 0))) (I [l0].length):=by simp only[hI.e];cases hO;show (0:Int)<=_/\_ < _;simp[Ops.std]
   have q2:one (I ([l0].map Ex.t)) (nadd 0 (nat 0)) 4:=by simp only[hI.e];exact vM1 hO (i:=0) (by simp) (by cases hO;rfl) (by simp[Ex.t_len])
   refine qA 1 ?_
   (repeat' first|refine qA 1 ?_|refine qJe (nN [0]) fun x hx=>?_|refine qJ (nN []) ?_|refine qp ?_ ?_|refine qk (fun h=>?_) fun h=>?_<;>try(exfalso;omega)|fail)
   all_goals exact hR _ _ ⟨(.mk k s t [.mk 11 0 x.1 [l0]] [] [],x.2),⟨⟨by simp only[Sm.sz,Sm.szs,Ex.szs,Ex.sz,List.length_singleton,List.length_nil,stB];have:=hx.1;omega,UG0 (by decide) (by simp only[rY0,Ex.szs,Ex.sz,List.length_singleton,List.length_nil,stB];have:=hx.1;omega)⟩,hx.2⟩,by simp only[AV.owF,A.owF,sOw,hI.e,Sm.k,Sm.s,Sm.tt,Sm.x,Sm.a,Sm.b];have q:=RJ0 hO k s t x.1 l0;dsimp only at q;rw[q];rfl,rfl⟩
  ·exact absurd (h57 h.1 h.2).2 (by decide)
  ·exact hR _ _ ⟨(.mk k s t l [] [],v),⟨⟨by simp only[Sm.sz,Sm.szs,List.length_nil,stB];omega,UG0 (by decide) (by simp only[rY0,List.length_nil,stB];omega)⟩,hv⟩,by simp only[AV.owF,A.owF,List.map,sOw,hI.e];rfl,rfl⟩
end Go.Gv
