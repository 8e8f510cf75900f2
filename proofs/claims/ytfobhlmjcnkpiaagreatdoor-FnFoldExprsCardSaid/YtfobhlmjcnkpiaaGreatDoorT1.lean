/- Part T1 of the proof: contracts of functions of the program, each walked once. -/
import Derived.Test.YtfobhlmjcnkpiaaGreatDoorD8
import Derived.Test.YtfobhlmjcnkpiaaGreatDoorD9
set_option linter.all false
namespace Go.Gv
open Go.Av Go.Proofs
set_option maxRecDepth 10000
set_option maxHeartbeats 8000000
variable {I:∀{α:Type},α->α}
theorem qN1 (a:Int):0<=yW0 .and .i64 a 255/\yW0 .and .i64 a 255<=255:=by
 have h:(BitVec.ofInt 64 a &&& BitVec.ofInt 64 255).toNat<=255:=by
  rw[BitVec.toNat_and];exact Nat.le_trans Nat.and_le_right (by decide)
 have e:yW0 .and .i64 a 255=((BitVec.ofInt 64 a &&& BitVec.ofInt 64 255).toNat:Int):=by
  show IntKind.i64.wrap ((BitVec.ofInt 64 a &&& BitVec.ofInt 64 255).toNat:Int)=_
  exact zW0 (by omega)
 rw[e];omega
structure Cu where
 i:Nat
 h:Int
 deriving Inhabited
@[simp,reducible] def cuB (I:∀{α:Type},α->α) (b:List Int) (u:Cu):Option (List A):=some [.ro true (I (b.map byT)),.lit (.int .i64 (Int.ofNat (I u.i))),.lit (.int .i64 (I u.h))]
abbrev Dr (I:∀{α:Type},α->α) {α:Type} (f:FuncId) (args:List AV) (W:α->Prop) (r:α->AV):Prop:=∀(b:List Int) (u:Cu),b.length<=1048576->u.i<=b.length->ACl Tryz.prog f (⟨.one,[.ptr 0 0]⟩::args) [cuB @I b u] (fun res bx=>∃x:α×Cu,(W x.1/\x.2.i<=b.length)/\res=r x.1/\bx=[cuB @I b x.2])
theorem QD0 (hI:II @I) (a:Int):(⟨.one,[.lit (.int .i64 a)]⟩:AV)=litI (I a):=by rw[hI.e]
theorem nH1 (hI:II @I) (a:Bool):(⟨.one,[.lit (.bool a)]⟩:AV)=litB (I a):=by rw[hI.e]
theorem vP1 (hI:II @I) (a:ByteArray):(⟨.one,[.lit (.string a)]⟩:AV)=litS (I a):=by rw[hI.e]
theorem cu_I (hI:II @I) (b:List Int) (i:Nat) (h:Int):[some [A.ro true (I (b.map byT)),.lit (.int .i64 (Int.ofNat (I i))),.lit (.int .i64 h)]]=[cuB @I b ⟨i,h⟩]:=by rw[cuB,hI.e h]
theorem wA1 (hI:II @I):Dr @I 81 [] (fun x:Int=>0<=x/\x<=255) (fun x=>litI (I x)):=by
 intro b u hb hu;refine qN hI tyK Tryz.func81 58 [.tmp 2] ?_;unhygienic intros
 have hand:∀a,0<=bin .and .i64 a 255/\bin .and .i64 a 255<=255:=by intro a;cases hO;exact qN1 a
 refine qB 1 ?_
 repeat' first|refine qA 1 ?_|refine qp ?_ ?_|refine qk (fun h=>?_) fun h=>?_|fail
 all_goals exact hR _ _ ⟨(_,⟨_,_⟩),⟨hand _,by simp only;omega⟩,QD0 hI _,cu_I hI ..⟩
theorem yL0 (hI:II @I) (n:Int):Dr @I 44 [litI n] (fun x:Int=>0<=x/\(0 < n->x < n)) (fun x=>litI (I x)):=by
 intro b u hb hu;have c1:=fun (w:Cu) (h:w.i<=b.length)=>wA1 hI b w hb h;refine qN hI tyK Tryz.func44 31 [.tmp 4] ?_;unhygienic intros
 have hmul:∀x y z,0<=x/\x<=255->0<=y/\y<=255->0<=z/\z<=255->0<=bin .add .i64 (bin .add .i64 (bin .mul .i64 x 65536) (bin .mul .i64 y 256)) z:=by
  intro x y z h1 h2 h3;cases hO;simp only[Ops.std,yW0];rw[zW0 (x:=x * 65536) (by omega),zW0 (x:=y * 256) (by omega),zW0 (x:=x * 65536+y * 256) (by omega),zW0 (by omega)]
  omega
 have hrem:∀a,0<=a->0 < n->0<=bin .rem .i64 a n/\bin .rem .i64 a n < n:=by
  intro a h0 h1;have e:bin .rem .i64 a n=a.tmod n:=by cases hO;rfl
  rw[e];exact ⟨Int.tmod_nonneg _ h0,Int.tmod_lt_of_pos _ h1⟩
 by_cases hn:n<=0
 ·refine qB 1 ?_
  repeat' first|refine qA 1 ?_|refine qJe (nN [0]) fun x hx=>?_|refine qp ?_ ?_|refine qk (fun h=>?_) fun h=>?_<;>try(exfalso;omega)|fail
  exact hR _ _ ⟨(0,u),⟨⟨by omega,by omega⟩,hu⟩,QD0 hI 0,rfl⟩
 have hnz:nz n:=nF1 hO (by omega)
 refine qB 1 ?_
 repeat' first|refine qA 1 ?_|refine qJe (nN [0]) fun x hx=>?_|refine qp ?_ ?_|refine qk (fun h=>?_) fun h=>?_<;>try(exfalso;omega)|fail
 ·exact hR _ _ ⟨(_,x.2),⟨⟨(hrem _ (by rw[hI.e];exact hx.1.1) (by omega)).1,fun h=>(hrem _ (by rw[hI.e];exact hx.1.1) h).2⟩,hx.2⟩,QD0 hI _,rfl⟩
 ·rename_i x1 hx1 x2 hx2
  have hp:=hmul x1.1 x2.1 x.1 hx1.1 hx2.1 hx.1;simp only[hI.e];exact hR _ _ ⟨(_,x.2),⟨⟨(hrem _ hp (by omega)).1,fun h=>(hrem _ hp h).2⟩,hx.2⟩,by simp only[litI,hI.e],by simp only[cuB,hI.e]⟩
theorem uQ0 (hI:II @I) (n:Int):Dr @I 18 [litI n] (fun _:Bool=>True) (fun x=>litB (I x)):=by
 intro b u hb hu;have c1:=yL0 hI n b u hb hu;refine qN hI tyK Tryz.func18 9 [.tmp 4] ?_;unhygienic intros
 refine qB 1 ?_
 repeat' first|refine qA 1 ?_|refine qJe (nN [0]) fun x hx=>?_|refine qp ?_ ?_|refine qk (fun h=>?_) fun h=>?_|fail
 exact hR _ _ ⟨(_,x.2),⟨trivial,hx.2⟩,nH1 hI _,rfl⟩
def okT (e:List (List T)):Bool:=decide (0 < e.length) && e.all fun | [.lit (.string s)]=>decide (s.size<=40) | _=>false
def okN (e:List (List T)):Bool:=decide (0 < e.length) && e.all fun | [.lit (.int .i64 _)]=>true | _=>false
theorem vN1 {e:List (List T)} {i:Nat} (h:okT e=true) (hi:i < e.length):∃s:ByteArray,e[i]! = [.lit (.string s)]/\s.size<=40:=by
 rw[okT,Bool.and_eq_true,List.all_eq_true] at h;have:=h.2 _ (zD0 hi)
 split at this
 ·exact ⟨_,by assumption,by simpa using this⟩
 ·exact absurd this (by simp)
theorem nD1 {e:List (List T)} {i:Nat} (h:okN e=true) (hi:i < e.length):∃n:Int,e[i]! = [.lit (.int .i64 n)]:=by
 rw[okN,Bool.and_eq_true,List.all_eq_true] at h;have:=h.2 _ (zD0 hi)
 split at this
 ·exact ⟨_,by assumption⟩
 ·exact absurd this (by simp)
theorem HL0 {e:List (List T)} (h:okT e=true):∀x∈e,x.length=1:=by
 rw[okT,Bool.and_eq_true,List.all_eq_true] at h;intro x hx;have:=h.2 x hx
 split at this
 ·rfl
 ·exact absurd this (by simp)
theorem tL1 {e:List (List T)} (h:okN e=true):∀x∈e,x.length=1:=by
 rw[okN,Bool.and_eq_true,List.all_eq_true] at h;intro x hx;have:=h.2 x hx
 split at this
 ·rfl
 ·exact absurd this (by simp)
theorem tT0 (hI:II @I) (e:List (List T)) (he:okT e=true):Dr @I 46 [⟨.one,[.ro false e]⟩] (fun s:ByteArray=>s.size<=40) (fun s=>litS (I s)):=by
 intro b u hb hu;have hl:0 < e.length:=by rw[okT,Bool.and_eq_true] at he;simpa using he.1
 have c1:=yL0 hI (Int.ofNat (I e.length)) b u hb hu;refine qN hI tyK Tryz.func46 12 [.tmp 4] ?_;unhygienic intros
 have e1:len e=I e.length:=by rw[hI.e];cases hO;rfl
 have hget:∀x:Int,0<=x->x < Int.ofNat e.length->idx (I x) (I e.length)/\get e (nat (I x))=e[x.toNat]!/\x.toNat < e.length:=by
  intro x h0 h1;have h2:x.toNat < e.length:=by simp only[Int.ofNat_eq_natCast] at h1;omega
  rw[hI.e,hI.e];cases hO;exact ⟨⟨h0,h1⟩,by simp[Ops.std,h2],h2⟩
 refine qB 1 ?_
 repeat' first|refine qA 1 ?_|refine qJe (nN [0]) fun x hx=>?_|refine qp ?_ ?_|refine qk (fun h=>?_) fun h=>?_|fail
 have hx1:=hget x.1 hx.1.1 (by have:=hx.1.2;rw[hI.e] at this;exact this (by simp only[Int.ofNat_eq_natCast];omega))
 obtain ⟨s,hs,hz⟩:=vN1 he hx1.2.2;have hix:=hx1.1;have e2:=hx1.2.1.trans hs;have hall:all e 1:=by cases hO;exact HL0 he
 refine qA 1 ?_;exact hR _ _ ⟨(s,x.2),⟨hz,hx.2⟩,vP1 hI _,rfl⟩
theorem qC0 (hI:II @I) (e:List (List T)) (he:okN e=true):Dr @I 47 [⟨.one,[.ro false e]⟩] (fun _:Int=>True) (fun s=>litI (I s)):=by
 intro b u hb hu;have hl:0 < e.length:=by rw[okN,Bool.and_eq_true] at he;simpa using he.1
 have c1:=yL0 hI (Int.ofNat (I e.length)) b u hb hu;refine qN hI tyK Tryz.func47 12 [.tmp 4] ?_;unhygienic intros
 have e1:len e=I e.length:=by rw[hI.e];cases hO;rfl
 have hget:∀x:Int,0<=x->x < Int.ofNat e.length->idx (I x) (I e.length)/\get e (nat (I x))=e[x.toNat]!/\x.toNat < e.length:=by
  intro x h0 h1;have h2:x.toNat < e.length:=by simp only[Int.ofNat_eq_natCast] at h1;omega
  rw[hI.e,hI.e];cases hO;exact ⟨⟨h0,h1⟩,by simp[Ops.std,h2],h2⟩
 refine qB 1 ?_
 repeat' first|refine qA 1 ?_|refine qJe (nN [0]) fun x hx=>?_|refine qp ?_ ?_|refine qk (fun h=>?_) fun h=>?_|fail
 have hx1:=hget x.1 hx.1.1 (by have:=hx.1.2;rw[hI.e] at this;exact this (by simp only[Int.ofNat_eq_natCast];omega))
 obtain ⟨s,hs⟩:=nD1 he hx1.2.2;have hix:=hx1.1;have e2:=hx1.2.1.trans hs;have hall:all e 1:=by cases hO;exact tL1 he
 refine qA 1 ?_;exact hR _ _ ⟨(s,x.2),⟨trivial,hx.2⟩,QD0 hI _,rfl⟩
variable {I:∀{α:Type},α->α}
theorem wZ0 {α:Type} {P:Program} {f:FuncId} {args:List AV} {bx:List (Option (List A))} {W:α->Prop} {r:α->AV} {b:α->List (Option (List A))} (h:ACl P f args bx (fun res bx=>∃x,W x/\res.roC=r x/\bx=b x)):ACl P f args bx (fun res bx=>∃x,W x/\res=r x/\bx=b x):=
 acI h.ro fun _ _ ⟨_,⟨x,h1,h2,h3⟩,e⟩=>⟨x,h1,by rw[e,h2],h3⟩
theorem pG0 (hI:II @I) (n:Int):ACl Tryz.prog 49 [litI n] [] (fun res bx=>res=⟨.agg,[.lit (.int .i64 1),.lit (.int .i64 n),.lit (.string ⟨⟨[]⟩⟩),.ro true []]⟩/\bx=[]):=by
 refine yM0 ?_;refine qN hI tyK Tryz.func49 5 [.cell 2 26] ?_;unhygienic intros
 refine qB 0 ?_
 repeat' first|refine qA 0 ?_|refine qp ?_ ?_|refine qk (fun h=>?_) fun h=>?_|fail
 exact hR _ _ ⟨rfl,rfl⟩
theorem PC0 (hI:II @I) (s:ByteArray):ACl Tryz.prog 121 [litS s] [] (fun res bx=>res=⟨.agg,[.lit (.int .i64 3),.lit (.int .i64 0),.lit (.string s),.ro true []]⟩/\bx=[]):=by
 refine yM0 ?_;refine qN hI tyK Tryz.func121 5 [.cell 2 26] ?_;unhygienic intros
 refine qB 0 ?_
 repeat' first|refine qA 0 ?_|refine qp ?_ ?_|refine qk (fun h=>?_) fun h=>?_|fail
 exact hR _ _ ⟨rfl,rfl⟩
theorem qB0 (hI:II @I) (k:Int) (e:List (List T)):ACl Tryz.prog 48 [litI k,⟨.one,[.ro true e]⟩] [] (fun res bx=>res=⟨.agg,[.lit (.int .i64 k),.lit (.int .i64 0),.lit (.string ⟨⟨[]⟩⟩),.ro true e]⟩/\bx=[]):=by
 refine yM0 ?_;refine qN hI tyK Tryz.func48 8 [.cell 4 26] ?_;unhygienic intros
 refine qB 0 ?_
 repeat' first|refine qA 0 ?_|refine qp ?_ ?_|refine qk (fun h=>?_) fun h=>?_|fail
 exact hR _ _ ⟨rfl,rfl⟩
theorem mF1 (hI:II @I) (k n:Int) (s:ByteArray) (els:List (List T)) (l:List Ex) (h:els=l.map Ex.t):(⟨.agg,[.lit (.int .i64 k),.lit (.int .i64 n),.lit (.string s),.ro true els]⟩:AV)=eA @I (.mk k n s l):=by simp only[eA,hI.e,h];rfl
theorem PD0 (hI:II @I):Dr @I 82 [] (fun e:Ex=>e.sz<=50) (fun e=>eA @I e):=by
 intro b u hb hu;refine wZ0 ?_;have c1:=yL0 hI;have c2:=qC0 hI;have c3:=tT0 hI;have c4:=pG0 hI;have c5:=PC0 hI;have c6:=qB0 hI
 dsimp only [Dr] at c1 c2 c3
 refine qN hI tyK Tryz.func82 37 [.cell 2 26] ?_;unhygienic intros
 refine qB 1 ?_
 repeat' first|refine qA 1 ?_|refine qJe (nN [0]) fun x hx=>?_|refine qJ (nN []) ?_|refine qJ (nS []) ?_|refine qJe (nN []) fun x hx=>?_|refine qp ?_ ?_|refine qk (fun h=>?_) fun h=>?_<;>try(exfalso;omega)|fail
 all_goals have hz:∀y:ByteArray×Cu,y.1.size<=40/\y.2.i<=b.length->y.1.size<=40:=fun y h=>h.1
 all_goals first
  | exact hR _ _ ⟨(.mk _ _ _ [],x.2),⟨by simp only[Ex.sz,Ex.szs,hI.e];first|(have:=hx.1;simp;omega) | decide|(simp;omega),hx.2⟩,mF1 hI _ _ _ [] [] rfl,rfl⟩
  | exact hR _ _ ⟨(.mk _ _ _ [.mk 1 x.1 ⟨⟨[]⟩⟩ []],x.2),⟨by simp[Ex.sz,Ex.szs];decide,hx.2⟩,mF1 hI _ _ _ _ [.mk 1 x.1 ⟨⟨[]⟩⟩ []] (by simp only[hI.e];simp[Ex.t_mk]),rfl⟩
  | trace_state
end Go.Gv
