/- Part V6 of the proof: contracts of functions of the program, each walked once. -/
import Derived.Test.YtfobhlmjcnkpiaaGreatDoorR1
import Derived.Test.YtfobhlmjcnkpiaaGreatDoorN1
set_option linter.all false
namespace Go.Gv
open Go.Av Go.Proofs
set_option maxRecDepth 10000
set_option maxHeartbeats 8000000
variable {I:∀{α:Type},α->α}
abbrev exN (I:∀{α:Type},α->α) (f:FuncId) (args:List AV) (W:Nat->Prop):Prop:=ACl Tryz.prog f args [] (fun res bx=>∃x:Nat,W x/\res=litI (Int.ofNat (I x))/\bx=[])
abbrev exB (I:∀{α:Type},α->α) (f:FuncId) (args:List AV) (W:Bool->Prop):Prop:=ACl Tryz.prog f args [] (fun res bx=>∃x:Bool,W x/\res=litB (I x)/\bx=[])
theorem HZ0 (hI:II @I) (a:Int):(⟨.one,[.lit (.int .i64 a)]⟩:AV)=litI (I a):=by rw[hI.e]
theorem rZ0 (hI:II @I) (a:Bool):(⟨.one,[.lit (.bool a)]⟩:AV)=litB (I a):=by rw[hI.e]
noncomputable def dgB (b:Int):Bool:=bB (48<=Ops.std.wrap .i64 b/\Ops.std.wrap .i64 b<=57)
noncomputable def smB (b:Int):Bool:=bB (97<=Ops.std.wrap .i64 b/\Ops.std.wrap .i64 b<=122)
def qD0 (s:ByteArray) (j:Nat):Int:=Ops.std.byte s j
section
variable (hI:II @I)
include hI
theorem vD1 (a b c:Int):exB @I 130 [litI a,litI b,litI c] (fun _=>True):=by
 refine qN hI tyK Tryz.func130 15 [.tmp 6] ?_;unhygienic intros
 refine qB 0 ?_
 repeat' first|refine qA 0 ?_|refine qp ?_ ?_|refine qk (fun h=>?_) fun h=>?_|fail
 all_goals exact hR _ _ ⟨_,trivial,rZ0 hI _,rfl⟩
theorem KP0 (a b c:Int):exB @I 130 [litI a,litI b,litI c] (fun x=>x=bB (b<=a/\a<=c)):=
 acI (uZ0 a b c) fun _ _ ⟨y,hy,e,e'⟩=>⟨y,by show y=bB _;rw[Bool.eq_iff_iff,xT0];exact hy,by rw[e,litB,litB,hI.e],e'⟩
theorem YL0 (b:Int):exB @I 149 [litU b] (fun x=>x=dgB b):=by
 have c1:=KP0 hI;refine qN hI tyK Tryz.func149 6 [.tmp 2] ?_;unhygienic intros
 have e1:wrap .i64 b=Ops.std.wrap .i64 b:=by cases hO;rfl
 generalize hw:Ops.std.wrap .i64 b=w at *;refine qB 0 ?_
 repeat' first|refine qA 0 ?_|refine qJe (nN []) fun x hx=>?_|refine qp ?_ ?_|refine qk (fun h=>?_) fun h=>?_|fail
 all_goals exact hR _ _ ⟨_,by rw[hx,dgB,hw],rfl,rfl⟩
theorem YK0 (b:Int):exB @I 148 [litU b] (fun x=>x=smB b):=by
 have c1:=KP0 hI;refine qN hI tyK Tryz.func148 6 [.tmp 2] ?_;unhygienic intros
 have e1:wrap .i64 b=Ops.std.wrap .i64 b:=by cases hO;rfl
 generalize hw:Ops.std.wrap .i64 b=w at *;refine qB 0 ?_
 repeat' first|refine qA 0 ?_|refine qJe (nN []) fun x hx=>?_|refine qp ?_ ?_|refine qk (fun h=>?_) fun h=>?_|fail
 all_goals exact hR _ _ ⟨_,by rw[hx,smB,hw],rfl,rfl⟩
theorem YJ0 (s:ByteArray) (hs:s.size<=1048576) (a:Nat) (ha:a<=s.size) (c:Int):exN @I 189 [litS (I s),litI (Int.ofNat (I a)),litU c] (fun x=>a<=x/\x<=s.size/\(a < s.size->¬qD0 s a=c->a < x)):=by
 refine qN hI tyK Tryz.func189 21 [.tmp 6] ?_;unhygienic intros
 refine qB 0 ?_
 repeat' first|refine qA 0 ?_|refine qJ (nN []) ?_|refine qp ?_ ?_|refine qk (fun h=>?_) fun h=>?_|fail
 refine qLf 0 [0,1,2] kk0 (fun j:Nat=>⟨vag 21 [(0,litS (I s)),(1,litI (Int.ofNat (I j))),(2,litU c)],[],1⟩) (fun j=>a<=j/\j<=s.size) (fun j=>s.size - j) ?_ fun j hj=>?_
 ·cbv
  exact ⟨a,by simp only[hI.e];rfl,by omega,by omega⟩
 have e1:byte (I s) (nat (Int.ofNat (I j)))=qD0 s j:=by simp only[hI.e];cases hO;rfl
 generalize hv:qD0 s j=v at *;refine qB 0 ?_
 repeat' first|refine qA 0 ?_|refine qJ (nN []) ?_|refine qp ?_ ?_|refine qk (fun h=>?_) fun h=>?_|fail
 all_goals first
  | exact ⟨j+1,by (try simp only[A.reset,hI.e]);rfl,⟨by omega,by omega⟩,by omega⟩
  | exact hR _ _ ⟨j,⟨hj.1,hj.2,fun q1 q2=>by
    rcases Nat.lt_or_ge a j with q | q
    ·exact q
    ·have:j=a:=by omega
     subst this
     first | omega | exact absurd hv (by intro q;rw[q] at q2;simp_all)|(exfalso;simp_all)⟩,rfl,rfl⟩
  | trace_state
theorem uE1 (s:ByteArray) (hs:s.size<=1048576) (a:Nat) (ha:a<=s.size) (b:Bool):exN @I 190 [litS (I s),litI (Int.ofNat (I a)),litB b] (fun x=>a<=x/\x<=s.size/\(a < s.size->(dgB (qD0 s a)=true\/(b=true/\smB (qD0 s a)=true))->a < x)):=by
 have c1:=YL0 hI;have c2:=YK0 hI;refine qN hI tyK Tryz.func190 29 [.tmp 6] ?_;unhygienic intros
 refine qB 0 ?_
 repeat' first|refine qA 0 ?_|refine qJ (nN []) ?_|refine qp ?_ ?_|refine qk (fun h=>?_) fun h=>?_|fail
 refine qLf 0 [0,1,2] kk0 (fun j:Nat=>⟨vag 29 [(0,litS (I s)),(1,litI (Int.ofNat (I j))),(2,litB b)],[],1⟩) (fun j=>a<=j/\j<=s.size) (fun j=>s.size - j) ?_ fun j hj=>?_
 ·cbv
  exact ⟨a,by simp only[hI.e];rfl,by omega,by omega⟩
 have e1:byte (I s) (nat (Int.ofNat (I j)))=qD0 s j:=by simp only[hI.e];cases hO;rfl
 have key:∀q:¬(dgB (qD0 s j)=true\/(b=true/\smB (qD0 s j)=true))\/¬j < s.size,a < s.size->(dgB (qD0 s a)=true\/(b=true/\smB (qD0 s a)=true))->a < j:=fun q q1 q2=>by
  rcases Nat.lt_or_ge a j with w | w
  ·exact w
  ·have:j=a:=by omega
   subst this;exact absurd (q.resolve_right (by omega)) (fun f=>f q2)
 generalize hv:qD0 s j=v at *;refine qB 0 ?_
 repeat' first|refine qA 0 ?_|refine qJe (nN []) fun x hx=>?_|refine qp ?_ ?_|refine qk (fun h=>?_) fun h=>?_|fail
 all_goals first
  | exact ⟨j+1,by (try simp only[A.reset,hI.e]);rfl,⟨by omega,by omega⟩,by omega⟩
  | exact hR _ _ ⟨j,⟨hj.1,hj.2,key (.inr (by assumption))⟩,rfl,rfl⟩
  | (refine hR _ _ ⟨j,⟨hj.1,hj.2,key (.inl ?_)⟩,rfl,rfl⟩;clear F hR hseg key c1 c2;simp_all;done)
  | trace_state
theorem RB0 (s:ByteArray) (hs:s.size<=1048576) (a:Nat) (ha:a<=s.size):exN @I 171 [litS (I s),litI (Int.ofNat (I a))] (fun x=>a<=x/\x<=s.size):=by
 refine qN hI tyK Tryz.func171 44 [.tmp 4] ?_;unhygienic intros
 refine qB 0 ?_
 repeat' first|refine qA 0 ?_|refine qJ (nN []) ?_|refine qp ?_ ?_|refine qk (fun h=>?_) fun h=>?_|fail
 refine qLf 0 [0,1] kk0 (fun j:Nat=>⟨vag 44 [(0,litS (I s)),(1,litI (Int.ofNat (I j)))],[],1⟩) (fun j=>a<=j/\j<=s.size) (fun j=>s.size - j) ?_ fun j hj=>?_
 ·cbv
  exact ⟨a,by simp only[hI.e];rfl,by omega,by omega⟩
 have c1:=YJ0 hI s hs j hj.2 10;have e1:byte (I s) (nat (Int.ofNat (I j)))=qD0 s j:=by simp only[hI.e];cases hO;rfl
 generalize hv:qD0 s j=v at *;refine qB 0 ?_
 repeat' first|refine qA 0 ?_|refine qJe (nN []) fun x hx=>?_|refine qp ?_ ?_|refine qk (fun h=>?_) fun h=>?_|fail
 all_goals first
  | exact ⟨j+1,by (try simp only[A.reset,hI.e]);rfl,⟨by omega,by omega⟩,by omega⟩
  | exact hR _ _ ⟨j,⟨hj.1,hj.2⟩,rfl,rfl⟩
  | (have q:=hx.2.2 (by omega) (by omega);exact ⟨x,by (try simp only[A.reset,hI.e]);rfl,⟨by omega,by omega⟩,by omega⟩)
  | trace_state
theorem uG1 (s:ByteArray) (hs:s.size<=1048576):ACl Tryz.prog 191 [litS (I s)] [] (fun res bx=>∃x:Int,True/\res=litI (I x)/\bx=[]):=by
 have c1:=vD1 hI;refine qN hI tyK Tryz.func191 34 [.tmp 2] ?_;unhygienic intros
 refine qB 0 ?_
 repeat' first|refine qA 0 ?_|refine qJe (nN []) fun x hx=>?_|refine qp ?_ ?_|refine qk (fun h=>?_) fun h=>?_|fail
 all_goals first
  | exact hR _ _ ⟨_,trivial,HZ0 hI _,rfl⟩
  | (
   clear c1;refine qLf 0 [0,3,4] kk0 (fun a:Nat×Int=>⟨vag 34 [(0,litS (I s)),(3,litI a.2),(4,litI (Int.ofNat (I a.1)))],[],1⟩) (fun a=>a.1<=s.size) (fun a=>s.size - a.1) ?_ fun a ha=>?_
   ·cbv
    exact ⟨(0,0),by simp only[hI.e];rfl,by simp⟩
   obtain ⟨i,n⟩:=a;simp only at ha |-;refine qB 0 ?_
   (repeat' first|refine qA 0 ?_|refine qJ (nN []) ?_|refine qp ?_ ?_|refine qk (fun h=>?_) fun h=>?_|fail)
   all_goals first
    | exact ⟨(i+1,_),by (try simp only[A.reset,hI.e]);rfl,by simp only;omega,by simp only;omega⟩
    | exact hR _ _ ⟨_,trivial,HZ0 hI _,rfl⟩
    | trace_state)
theorem RC0 (s:ByteArray) (hs:s.size<=1048576):exB @I 193 [litS (I s)] (fun x=>x=true->s.size<=2):=by
 refine qN hI tyK Tryz.func193 22 [.tmp 2] ?_;unhygienic intros
 have hb:∀i n:Nat,i<=n->bnd (Int.ofNat (I i)) (I n):=by intro i n h;simp only[hI.e];cases hO;exact ⟨Int.natCast_nonneg _,by simp only[Int.ofNat_eq_natCast];omega⟩
 have hle:∀i j:Nat,i<=j->le (nat (Int.ofNat (I i))) (nat (Int.ofNat (I j))):=by intro i j h;simp only[hI.e];cases hO;exact h
 have es:size ⟨⟨[123,125,40,41,91,93,44,59,36,43,45,42,47,37,46,60,62,33,126,61]⟩⟩=I 20:=by rw[hI.e];cases hO;rfl
 have hsub:∀(c:ByteArray) (i:Nat),(sub c (nat (Int.ofNat (I i))) (nat (Int.ofNat (I (i+1))))).size<=1:=by
  intro c i;simp only[hI.e];cases hO
  show (ByteArray.extract c i (i+1)).size<=1
  rw[ByteArray.size_extract];omega
 refine qB 0 ?_
 repeat' first|refine qA 0 ?_|refine qJ (nN []) ?_|refine qp ?_ ?_|refine qk (fun h=>?_) fun h=>?_|fail
 all_goals first
  | exact hR _ _ ⟨true,fun _=>by rw[h];decide,rZ0 hI _,rfl⟩
  | (
   refine qLf 0 [0,3] kk0 (fun i:Nat=>⟨vag 22 [(0,litS (I s)),(3,litI (Int.ofNat (I i)))],[],1⟩) (fun i=>i<=20) (fun i=>20 - i) ?_ fun i hi=>?_
   ·cbv
    exact ⟨0,by simp only[hI.e];rfl,by omega⟩
   by_cases hi2:i < 20
   ·have b1:bnd (Int.ofNat (I i)) (size ⟨⟨[123,125,40,41,91,93,44,59,36,43,45,42,47,37,46,60,62,33,126,61]⟩⟩):=by rw[es];exact hb i 20 (by omega)
    have b2:bnd (Int.ofNat (I (i+1))) (size ⟨⟨[123,125,40,41,91,93,44,59,36,43,45,42,47,37,46,60,62,33,126,61]⟩⟩):=by rw[es];exact hb (i+1) 20 (by omega)
    have b3:=hle i (i+1) (by omega)
    have b4:=hsub ⟨⟨[123,125,40,41,91,93,44,59,36,43,45,42,47,37,46,60,62,33,126,61]⟩⟩ i;refine qB 0 ?_
    (repeat' first|refine qA 0 ?_|refine qJ (nN []) ?_|refine qp ?_ ?_|refine qk (fun h=>?_) fun h=>?_|fail)
    all_goals first
     | exact hR _ _ ⟨true,fun _=>by rw[h];simp only[hI.e,Int.ofNat_eq_natCast] at b4;exact Nat.le_trans b4 (by decide),rZ0 hI _,rfl⟩
     | exact ⟨i+1,by (try simp only[A.reset,hI.e]);rfl,by omega,by omega⟩
     | exact absurd hi2 (by assumption)
     | trace_state
   ·refine qB 0 ?_
    (repeat' first|refine qA 0 ?_|refine qJ (nN []) ?_|refine qp ?_ ?_|refine qk (fun h=>?_) fun h=>?_|fail)
    all_goals first
     | exact absurd (by assumption) hi2
     | exact hR _ _ ⟨false,fun q=>absurd q (by decide),rZ0 hI _,rfl⟩
     | trace_state)
theorem NB0 (s:ByteArray) (hs:s.size<=1048576) (a:Nat) (ha:a < s.size) (k:Int):ACl Tryz.prog 192 [litS (I s),litI (Int.ofNat (I a)),litI k] [] (fun res bx=>∃x:Vl×Nat,(x.1.s.size<=s.size/\a < x.2/\x.2<=s.size)/\res=⟨.tup [(true,3),(false,1)],[.lit (.int .i64 (I x.1.k)),.lit (.int .i64 (I x.1.n)),.lit (.string (I x.1.s)),.lit (.int .i64 (Int.ofNat (I x.2)))]⟩/\bx=[]):=by
 have c1:=fun c=>YJ0 hI s hs (a+1) (by omega) c
 refine qN hI tyK Tryz.func192 31 [.cell 6 160,.tmp 7] ?_;unhygienic intros
 have hb:∀i n:Nat,i<=n->bnd (Int.ofNat (I i)) (I n):=by intro i n h;simp only[hI.e];cases hO;exact ⟨Int.natCast_nonneg _,by simp only[Int.ofNat_eq_natCast];omega⟩
 have hle:∀i j:Nat,i<=j->le (nat (Int.ofNat (I i))) (nat (Int.ofNat (I j))):=by intro i j h;simp only[hI.e];cases hO;exact h
 have hsub:∀s a b,(sub s a b).size<=s.size:=by intro s a b;cases hO;show (ByteArray.extract s a b).size<=_;rw[ByteArray.size_extract];omega
 refine qB 0 ?_
 repeat' first|refine qA 0 ?_|refine qJe (nN []) fun x hx=>?_|refine qp ?_ ?_|refine qk (fun h=>?_) fun h=>?_|fail
 ·exact hR _ _ ⟨(⟨0,0,⟨⟨[]⟩⟩⟩,x),⟨Nat.zero_le _,by omega,hx.2.1⟩,by simp only[hI.e],rfl⟩
 ·have b1:=hb (a+1) s.size (by omega)
  have b2:=hb x s.size hx.2.1;have b3:=hle (a+1) x hx.1;refine qA 0 ?_
  repeat' first|refine qA 0 ?_|refine qJe (nN []) fun x hx=>?_|refine qp ?_ ?_|refine qk (fun h=>?_) fun h=>?_|fail
  exact hR _ _ ⟨(⟨k,0,_⟩,x+1),⟨hsub _ _ _,by have:=hx.1;show a < x+1;omega,by have:=hx.2.1;show x+1<=s.size;omega⟩,by simp only[hI.e];rfl,rfl⟩
theorem KQ0 (t:Vl) (ht:t.s.size<=1048576):exB @I 173 [⟨.agg,[.lit (.int .i64 (I t.k)),.lit (.int .i64 (I t.n)),.lit (.string (I t.s))]⟩] (fun x=>x=true->t.s.size<=200):=by
 have c1:=vD1 hI;have c2:=RC0 hI t.s ht;have c3:=acI (R':=fun res bx=>∃x:Bool,(x=true->t.s.size<=8)/\res=litB (I x)/\bx=[]) (PF0 (I t.s) (by rw[hI.e];omega)) fun _ _ ⟨b,hb,e,e'⟩=>⟨b,fun q=>by have:=(hb.1 q).2.2;rw[hI.e] at this;exact this,by rw[e,litB,litB,hI.e],e'⟩
 have c4:=acI (R':=fun res bx=>∃x:Bool,(x=true->t.s.size<=200)/\res=litB (I x)/\bx=[]) (hQ0 (I t.s) 39 39 rfl (by rw[hI.e];omega)) fun _ _ ⟨b,hb,e,e'⟩=>⟨b,fun q=>by have:=(hb.1 q).2;rw[hI.e] at this;exact this,by rw[e,litB,litB,hI.e],e'⟩
 have c5:=acI (R':=fun res bx=>∃x:Bool,(x=true->t.s.size<=200)/\res=litB (I x)/\bx=[]) (hQ0 (I t.s) 47 47 rfl (by rw[hI.e];omega)) fun _ _ ⟨b,hb,e,e'⟩=>⟨b,fun q=>by have:=(hb.1 q).2;rw[hI.e] at this;exact this,by rw[e,litB,litB,hI.e],e'⟩
 refine qN hI tyK Tryz.func173 60 [.tmp 2] ?_;unhygienic intros
 refine qB 0 ?_
 repeat' first|refine qA 0 ?_|refine qJe (nN []) fun x hx=>?_|refine qp ?_ ?_|refine qk (fun h=>?_) fun h=>?_|fail
 all_goals first
  | exact hR _ _ ⟨false,fun q=>absurd q (by decide),rZ0 hI _,rfl⟩
  | exact hR _ _ ⟨_,fun _=>Nat.le_trans (hx (by assumption)) (by decide),rZ0 hI _,rfl⟩
  | exact hR _ _ ⟨_,fun q=>by rw[F.k7,hI.e] at q;rw[q];decide,rZ0 hI _,rfl⟩
  | trace_state
end
variable {I:∀{α:Type},α->α}
theorem wW1 {α:Type} {P:Program} {f:FuncId} {args:List AV} {bx:List (Option (List A))} {W:α->Prop} {r:α->AV} {b:α->List (Option (List A))} (h:ACl P f args bx (fun res bx=>∃x,W x/\res.roC=r x/\bx=b x)):ACl P f args bx (fun res bx=>∃x,W x/\res=r x/\bx=b x):=
 acI h.ro fun _ _ ⟨_,⟨x,h1,h2,h3⟩,e⟩=>⟨x,h1,by rw[e,h2],h3⟩
section
variable (hI:II @I)
include hI
theorem uF1 (s:ByteArray) (hs:s.size<=1048576) (a:Nat) (ha:a < s.size) (b:Bool):ACl Tryz.prog 172 [litS (I s),litI (Int.ofNat (I a)),litB b] [] (fun res bx=>∃x:Vl×Nat,(x.1.s.size<=s.size/\a < x.2/\x.2<=s.size)/\res=⟨.tup [(true,3),(false,1)],[.lit (.int .i64 (I x.1.k)),.lit (.int .i64 (I x.1.n)),.lit (.string (I x.1.s)),.lit (.int .i64 (Int.ofNat (I x.2)))]⟩/\bx=[]):=by
 have c1:=YL0 hI;have c2:=YK0 hI;have c3:=fun c=>uE1 hI s hs a (by omega) c
 have c4:=NB0 hI s hs a ha;refine qN hI tyK Tryz.func172 88 [.cell 6 160,.tmp 7] ?_;unhygienic intros
 have hb:∀i n:Nat,i<=n->bnd (Int.ofNat (I i)) (I n):=by intro i n h;simp only[hI.e];cases hO;exact ⟨Int.natCast_nonneg _,by simp only[Int.ofNat_eq_natCast];omega⟩
 have hle:∀i j:Nat,i<=j->le (nat (Int.ofNat (I i))) (nat (Int.ofNat (I j))):=by intro i j h;simp only[hI.e];cases hO;exact h
 have hsub:∀p q,(sub (I s) p q).size<=s.size:=by intro p q;rw[hI.e s];cases hO;show (ByteArray.extract s p q).size<=_;rw[ByteArray.size_extract];omega
 have c5:∀p q,ACl Tryz.prog 191 [litS (sub (I s) p q)] [] (fun res bx=>∃x:Int,True/\res=litI (I x)/\bx=[]):=fun p q=>by
  have:=uG1 hI (sub (I s) p q) (Nat.le_trans (hsub p q) hs);rwa[hI.e (sub (I s) p q)] at this
 have c6:∀p q,ACl Tryz.prog 193 [litS (sub (I s) p q)] [] (fun res bx=>∃x:Bool,True/\res=litB (I x)/\bx=[]):=fun p q=>by
  have:=acI (R':=fun res bx=>∃x:Bool,True/\res=litB (I x)/\bx=[]) (RC0 hI (sub (I s) p q) (Nat.le_trans (hsub p q) hs)) fun _ _ ⟨x,_,e,e'⟩=>⟨x,trivial,e,e'⟩;rwa[hI.e (sub (I s) p q)] at this
 have b1:=hb a s.size (by omega)
 have b2:=hb (a+1) s.size (by omega)
 have b3:=hle a (a+1) (by omega)
 have e1:byte (I s) (nat (Int.ofNat (I a)))=qD0 s a:=by simp only[hI.e];cases hO;rfl
 have e2:bin .add .i64 (Int.ofNat (I a)) 2=Int.ofNat (I (a+2)):=by
  simp only[hI.e];cases hO;exact (zW0 (x:=Int.ofNat a+2) (by simp only[Int.ofNat_eq_natCast];omega)).trans (by simp only[Int.ofNat_eq_natCast];omega)
 generalize hv:qD0 s a=v at *;refine qB 0 ?_
 repeat' first|refine qA 0 ?_|refine qJe (nN []) fun x hx=>?_|refine qp ?_ ?_|refine qk (fun h=>?_) fun h=>?_|fail
 ·have b4:=hb x s.size hx.2.1
  have b5:=hle a x hx.1;have hlt:a < x:=hx.2.2 ha (.inl (by rename_i y hy;rw[<-hy];exact h))
  have hle2:=hx.2.1;refine qA 0 ?_
  repeat' first|refine qA 0 ?_|refine qJe (nN []) fun x hx=>?_|refine qp ?_ ?_|refine qk (fun h=>?_) fun h=>?_|fail
  exact hR _ _ ⟨(⟨1,_,⟨⟨[]⟩⟩⟩,_),⟨Nat.zero_le _,hlt,hle2⟩,by simp only[hI.e];rfl,rfl⟩
 ·have b4:=hb x s.size hx.2.1
  have b5:=hle a x hx.1;have hlt:a < x:=hx.2.2 ha (.inr ⟨rfl,by rename_i y hy;rw[<-hy];exact h⟩)
  have hle2:=hx.2.1;refine qA 0 ?_
  repeat' first|refine qA 0 ?_|refine qJe (nN []) fun x hx=>?_|refine qp ?_ ?_|refine qk (fun h=>?_) fun h=>?_|fail
  exact hR _ _ ⟨(⟨2,0,_⟩,_),⟨hsub _ _,hlt,hle2⟩,by simp only[hI.e];rfl,rfl⟩
 ·exact hR _ _ ⟨x,hx,rfl,rfl⟩
 ·exact hR _ _ ⟨x,hx,rfl,rfl⟩
 ·have b4:=hb (a+2) s.size (by omega)
  have b5:=hle a (a+2) (by omega)
  refine qA 0 ?_
  repeat' first|refine qA 0 ?_|refine qJe (nN []) fun x hx=>?_|refine qp ?_ ?_|refine qk (fun h=>?_) fun h=>?_|fail
  ·exact hR _ _ ⟨(⟨5,0,_⟩,a+2),⟨hsub _ _,by show a < a+2;omega,by show a+2<=s.size;omega⟩,by simp only[hI.e];rfl,rfl⟩
  ·exact hR _ _ ⟨(⟨5,0,_⟩,a+1),⟨hsub _ _,by show a < a+1;omega,by show a+1<=s.size;omega⟩,by simp only[hI.e];rfl,rfl⟩
 ·exact hR _ _ ⟨(⟨5,0,_⟩,a+1),⟨hsub _ _,by show a < a+1;omega,by show a+1<=s.size;omega⟩,by simp only[hI.e];rfl,rfl⟩
 ·have b4:=hb (a+2) s.size (by omega)
  have b5:=hle a (a+2) (by omega)
  refine qA 0 ?_
  repeat' first|refine qA 0 ?_|refine qJe (nN []) fun x hx=>?_|refine qp ?_ ?_|refine qk (fun h=>?_) fun h=>?_|fail
  ·exact hR _ _ ⟨(⟨5,0,_⟩,a+2),⟨hsub _ _,by show a < a+2;omega,by show a+2<=s.size;omega⟩,by simp only[hI.e];rfl,rfl⟩
  ·exact hR _ _ ⟨(⟨5,0,_⟩,a+1),⟨hsub _ _,by show a < a+1;omega,by show a+1<=s.size;omega⟩,by simp only[hI.e];rfl,rfl⟩
 ·exact hR _ _ ⟨(⟨5,0,_⟩,a+1),⟨hsub _ _,by show a < a+1;omega,by show a+1<=s.size;omega⟩,by simp only[hI.e];rfl,rfl⟩
theorem x_Lex (s:ByteArray) (hs:s.size<=1048576):ACl Tryz.prog 154 [litS (I s)] [] (fun res bx=>∃x:List Vl×Int,(x.1.length<=2000/\∀t∈x.1,t.s.size<=200)/\res=⟨.tup [(false,1),(false,1)],[.ro true (I (x.1.map Vl.t)),.lit (.int .i64 (I x.2))]⟩/\bx=[]):=by
 refine wW1 ?_;have c1:=fun (a:Nat) (ha:a<=s.size)=>RB0 hI s hs a ha;have c2:=fun (a:Nat) (ha:a < s.size) (b:Bool)=>uF1 hI s hs a ha b;have c3:=fun (t:Vl) (ht:t.s.size<=s.size)=>KQ0 hI t (Nat.le_trans ht hs);have c4:=RB0 hI s hs 0 (Nat.zero_le _);rw[show (Int.ofNat (I 0))=0 by rw[hI.e];rfl] at c4
 refine qN hI tyK Tryz.func154 49 [.tmp 2,.tmp 3] ?_;unhygienic intros
 refine qB 0 ?_
 repeat' first|refine qA 0 ?_|refine qJe (nN []) fun x hx=>?_|refine qp ?_ ?_|refine qk (fun h=>?_) fun h=>?_|fail
 refine qLf 0 [0,4,5,6] (kkS 4 3) (fun a:List Vl×Bool×Nat=>⟨vag 49 [(0,litS (I s)),(4,⟨.one,[.ow (0,0) false 3 (I (a.1.map Vl.t))]⟩),(5,litB a.2.1),(6,litI (Int.ofNat (I a.2.2)))],[],1⟩) (fun a=>(a.1.length<=2000/\∀t∈a.1,t.s.size<=200)/\a.2.2<=s.size) (fun a=>s.size - a.2.2) ?_ fun a ha=>?_
 ·cbv
  exact ⟨([],false,x),by simp only[hI.e];rfl,by simp,hx.2⟩
 obtain ⟨ts,rex,p⟩:=a;obtain ⟨⟨h1,h2⟩,h3⟩:=ha;simp only at h1 h2 h3 |-;clear hx c4;refine qB 0 ?_
 repeat' first|refine qA 0 ?_|refine qJe (nN []) fun x hx=>?_|refine qp ?_ ?_|refine qk (fun h=>?_) fun h=>?_|fail
 ·exact hR _ _ ⟨([],Int.ofNat p),⟨by simp,by simp⟩,by simp only[AV.roC,A.roC,List.map,hI.e,erD],rfl⟩
 ·exact hR _ _ ⟨([],Int.ofNat p),⟨by simp,by simp⟩,by simp only[AV.roC,A.roC,List.map,hI.e,erD],rfl⟩
 ·rename_i t ht b hb hb1 hl
  have h4:=hb (Classical.not_not.1 hb1);exact ⟨(ts++[t.1],_,x),by (try simp only[A.reset,xV0,hI.e]);rfl,⟨⟨by simp only[List.length_append,List.length_cons,List.length_nil];omega,fun q hq=>(List.mem_append.1 hq).elim (h2 q) fun hq=>by rw[List.mem_singleton.1 hq];exact h4⟩,hx.2⟩,by simp only;omega⟩
 ·rename_i t ht b hb hb1 hl
  have h4:=hb (Classical.not_not.1 hb1);exact ⟨(ts++[t.1],_,x),by (try simp only[A.reset,xV0,hI.e]);rfl,⟨⟨by simp only[List.length_append,List.length_cons,List.length_nil];omega,fun q hq=>(List.mem_append.1 hq).elim (h2 q) fun hq=>by rw[List.mem_singleton.1 hq];exact h4⟩,hx.2⟩,by simp only;omega⟩
 ·exact hR _ _ ⟨(ts,-1),⟨h1,h2⟩,by simp only[AV.roC,A.roC,List.map,hI.e,erD],rfl⟩
end
end Go.Gv
