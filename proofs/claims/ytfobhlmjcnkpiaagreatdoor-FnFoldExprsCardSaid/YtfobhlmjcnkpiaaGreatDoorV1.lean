/- Part V1 of the proof: contracts of functions of the program, each walked once. -/
import Derived.Test.YtfobhlmjcnkpiaaGreatDoorD8
import Derived.Test.YtfobhlmjcnkpiaaGreatDoorN1
import Derived.Test.YtfobhlmjcnkpiaaGreatDoorR1
set_option linter.all false
namespace Go.Gv
open Go.Av Go.Proofs
set_option maxRecDepth 10000
set_option maxHeartbeats 8000000
variable {I:∀{α:Type},α->α}
structure Rd where
 i:Nat
 bad:Bool
 deep:Int
 deriving Inhabited
def dInc (d:Int):Int:=Ops.std.bin .add .i64 d 1
def dDec (d:Int):Int:=Ops.std.bin .sub .i64 d 1
theorem bY0 {d:Int} (h:0<=d/\d<=100):dInc d=d+1:=zW0 (x:=d+1) (by omega)
theorem FN0 {d:Int} (h:0<=d/\d<=100):dDec d=d - 1:=zW0 (x:=d - 1) (by omega)
def Rd.adv (r:Rd):Rd:=⟨r.i+1,r.bad,r.deep⟩
def Rd.fail (r:Rd):Rd:=⟨r.i,true,r.deep⟩
def Rd.inc (r:Rd):Rd:=⟨r.i,r.bad,dInc r.deep⟩
def Rd.dec (r:Rd):Rd:=⟨r.i,r.bad,dDec r.deep⟩
section
variable (l:List Vl)
def pSee (r:Rd) (k:Int) (s:ByteArray):Prop:=r.bad=false/\r.i < l.length/\l[r.i]!.k=k/\l[r.i]!.s=s
open Classical in
noncomputable def Rd.or (r:Rd) (p:Prop):Rd:=if p then r.fail else r
open Classical in
noncomputable def zB0 (r:Rd) (s:ByteArray):Rd:=if pSee l r 5 s then r.adv else r.fail
open Classical in
noncomputable def gU0 (r:Rd) (s:ByteArray):Rd:=if pSee l r 2 s then r.adv else r.fail
open Classical in
noncomputable def xL0 (r:Rd) (k:Int):Vl×Rd:=if r.bad=false/\r.i < l.length/\l[r.i]!.k=k then (l[r.i]!,r.adv) else (⟨0,0,⟨⟨[]⟩⟩⟩,r.fail)
open Classical in
noncomputable def wB0 (r:Rd):ByteArray×Rd:=((xL0 l r 2).1.s,if xU0 (xL0 l r 2).1.s then (xL0 l r 2).2 else (xL0 l r 2).2.fail)
open Classical in
noncomputable def yY0 (F:Rd->Ex×Rd):Nat->Rd->List Ex×Rd
 | 0,r=>([],r)
 | n+1,r=>if r.bad=true then ([],r) else if pSee l (F r).2 5 ⟨⟨[44]⟩⟩ then ((F r).1::(yY0 F n (F r).2.adv).1,(yY0 F n (F r).2.adv).2) else ([(F r).1],(F r).2)
open Classical in
noncomputable def wV0 (F:Rd->Ex×Rd) (r:Rd) (n:Int):List Ex×Rd:=
 if pSee l (zB0 l r ⟨⟨[40]⟩⟩) 5 ⟨⟨[41]⟩⟩ then ([],(zB0 l r ⟨⟨[40]⟩⟩).adv.or (0 < n))
 else ((yY0 l F (l.length+2) (zB0 l r ⟨⟨[40]⟩⟩)).1,(zB0 l (yY0 l F (l.length+2) (zB0 l r ⟨⟨[40]⟩⟩)).2 ⟨⟨[41]⟩⟩).or (0<=n/\¬((yY0 l F (l.length+2) (zB0 l r ⟨⟨[40]⟩⟩)).1.length:Int)=n))
open Classical in
noncomputable def xZ0 (F:Rd->Ex×Rd) (r:Rd):Ex×Rd:=
 if pSee l (F r).2 2 ⟨⟨[105,110]⟩⟩ then (.mk 9 0 (wB0 l (F r).2.adv).1 [(F r).1],zB0 l (wB0 l (F r).2.adv).2 ⟨⟨[41]⟩⟩)
 else if pSee l (F r).2 5 ⟨⟨[126]⟩⟩ then (.mk 10 0 (xL0 l (F r).2.adv 4).1.s [(F r).1],zB0 l (xL0 l (F r).2.adv 4).2 ⟨⟨[41]⟩⟩)
 else (.mk 6 0 (xL0 l (F r).2 5).1.s [(F r).1,(F (xL0 l (F r).2 5).2).1],zB0 l (F (xL0 l (F r).2 5).2).2 ⟨⟨[41]⟩⟩)
noncomputable def gV0 (F:Rd->Ex×Rd) (r:Rd):Ex×Rd:=
 let a:=F (zB0 l r ⟨⟨[40]⟩⟩)
 let s:=xL0 l (zB0 l a.2 ⟨⟨[126]⟩⟩) 4
 let b:=F (zB0 l s.2 ⟨⟨[44]⟩⟩)
 (.mk 18 0 s.1.s [a.1,b.1],zB0 l b.2 ⟨⟨[41]⟩⟩)
open Classical in
noncomputable def vH0 (F:Rd->Ex×Rd) (r:Rd):Ex×Rd:=
 let s:=xL0 l r 2
 if s.1.s=⟨⟨[110,114]⟩⟩ then (.mk 14 0 ⟨⟨[]⟩⟩ [],s.2)
 else if s.1.s=⟨⟨[110,102]⟩⟩ then (.mk 15 0 ⟨⟨[]⟩⟩ [],s.2)
 else if s.1.s=⟨⟨[108,101,110,103,116,104]⟩⟩ then (.mk 12 0 ⟨⟨[]⟩⟩ (wV0 l F s.2 1).1,(wV0 l F s.2 1).2)
 else if s.1.s=⟨⟨[115,117,98,115,116,114]⟩⟩ then (.mk 13 0 ⟨⟨[]⟩⟩ (wV0 l F s.2 3).1,(wV0 l F s.2 3).2)
 else if s.1.s=⟨⟨[105,110,100,101,120]⟩⟩ then (.mk 16 0 ⟨⟨[]⟩⟩ (wV0 l F s.2 2).1,(wV0 l F s.2 2).2)
 else if s.1.s=⟨⟨[117,112,112,101,114]⟩⟩ then (.mk 17 0 ⟨⟨[]⟩⟩ (wV0 l F s.2 1).1,(wV0 l F s.2 1).2)
 else if s.1.s=⟨⟨[103,115,117,98]⟩⟩ then gV0 l F s.2
 else if pSee l s.2 5 ⟨⟨[40]⟩⟩ then (.mk 11 0 s.1.s (wV0 l F s.2 (-1)).1,(wV0 l F s.2 (-1)).2)
 else if pSee l s.2 5 ⟨⟨[91]⟩⟩ then (.mk 4 0 s.1.s [(F s.2.adv).1],zB0 l (F s.2.adv).2 ⟨⟨[93]⟩⟩)
 else (.mk 3 0 s.1.s [],s.2)
open Classical in
noncomputable def nJ0 (F:Rd->Ex×Rd) (r:Rd):Ex×Rd:=
 if pSee l r 5 ⟨⟨[40]⟩⟩ then xZ0 l F r.adv
 else if pSee l r 5 ⟨⟨[36]⟩⟩ then (.mk 5 0 ⟨⟨[]⟩⟩ [(F r.adv).1],(F r.adv).2)
 else if pSee l r 5 ⟨⟨[33]⟩⟩ then (.mk 7 0 ⟨⟨[]⟩⟩ [(F r.adv).1],(F r.adv).2)
 else if pSee l r 5 ⟨⟨[45]⟩⟩ then (.mk 8 0 ⟨⟨[]⟩⟩ [(F r.adv).1],(F r.adv).2)
 else if l[r.i]!.k=1 then (.mk 1 (xL0 l r 1).1.n ⟨⟨[]⟩⟩ [],(xL0 l r 1).2)
 else if l[r.i]!.k=3 then (.mk 2 0 (xL0 l r 3).1.s [],(xL0 l r 3).2)
 else vH0 l F r
open Classical in
noncomputable def wQ0:Nat->Rd->Ex×Rd
 | 0,r=>(.mk 0 0 ⟨⟨[]⟩⟩ [],r.inc.fail)
 | f+1,r=>if r.bad=true\/l.length<=r.i then (.mk 0 0 ⟨⟨[]⟩⟩ [],r.inc.fail) else ((nJ0 l (wQ0 f) r.inc).1,(nJ0 l (wQ0 f) r.inc).2.dec)
variable {l}
def JD (d:Int) (r:Rd):Prop:=r.bad=true\/r.deep=d
structure LeR (l:List Vl) (d:Int) (r r':Rd):Prop where
 w:r.i<=l.length->r'.i<=l.length
 i:r.i<=r'.i
 b:r.bad=true->r'.bad=true
 j:JD d r->JD d r'
theorem LeR.refl (d:Int) (r:Rd):LeR l d r r:=⟨id,Nat.le_refl _,id,id⟩
theorem LeR.tr {d:Int} {r r' r2:Rd} (h:LeR l d r r') (h':LeR l d r' r2):LeR l d r r2:=⟨fun q=>h'.w (h.w q),Nat.le_trans h.i h'.i,fun q=>h'.b (h.b q),fun q=>h'.j (h.j q)⟩
theorem rN0 {d:Int} {r:Rd} (h:JD d r):JD d r.adv:=h
theorem pT1 {r:Rd} {k:Int} {s:ByteArray} (h:pSee l r k s):r.i < l.length:=h.2.1
theorem xM0 (d:Int) (r:Rd) (h:r.i < l.length:=by first | exact pT1 (by assumption) | fail):LeR l d r r.adv:=⟨fun _=>h,Nat.le_succ _,id,id⟩
theorem nL0 (d:Int) (r:Rd):LeR l d r r.fail:=⟨id,Nat.le_refl _,fun _=>rfl,fun _=>.inl rfl⟩
theorem tV1 (d:Int) (r:Rd) (p:Prop):LeR l d r (r.or p):=by unfold Rd.or;split;exact nL0 d r;exact LeR.refl d r
theorem zC0 (d:Int) (r:Rd) (s:ByteArray):LeR l d r (zB0 l r s):=by unfold zB0;split;exact xM0 d r;exact nL0 d r
theorem GC0 (d:Int) (r:Rd) (s:ByteArray):LeR l d r (gU0 l r s):=by unfold gU0;split;exact xM0 d r;exact nL0 d r
theorem le_next (d:Int) (r:Rd) (k:Int):LeR l d r (xL0 l r k).2:=by
 unfold xL0;split
 ·rename_i q;exact xM0 d r q.2.1
 ·exact nL0 d r
theorem wW0 (d:Int) (r:Rd):LeR l d r (wB0 l r).2:=by
 unfold wB0;dsimp only;split
 ·exact le_next d r 2
 ·exact (le_next d r 2).tr (nL0 d _)
variable {F:Rd->Ex×Rd} {d:Int} (hF:∀r,LeR l d r (F r).2)
include hF
theorem bP0:∀(n:Nat) (r:Rd),LeR l d r (yY0 l F n r).2
 | 0,r=>LeR.refl d r
 | n+1,r=>by
  rw[yY0]
  split
  ·exact LeR.refl d r
  ·split
   ·exact ((hF r).tr (xM0 d _)).tr (bP0 n _)
   ·exact hF r
theorem tW1 (r:Rd) (n:Int):LeR l d r (wV0 l F r n).2:=by
 unfold wV0
 split
 ·exact ((zC0 d r _).tr (xM0 d _)).tr (tV1 d _ _)
 ·exact (((zC0 d r _).tr (bP0 hF _ _)).tr (zC0 d _ _)).tr (tV1 d _ _)
theorem GD0 (r:Rd):LeR l d r (xZ0 l F r).2:=by
 unfold xZ0
 split
 ·exact (((hF r).tr (xM0 d _)).tr (wW0 d _)).tr (zC0 d _ _)
 ·split
  ·exact (((hF r).tr (xM0 d _)).tr (le_next d _ _)).tr (zC0 d _ _)
  ·exact (((hF r).tr (le_next d _ _)).tr (hF _)).tr (zC0 d _ _)
theorem tX1 (r:Rd):LeR l d r (gV0 l F r).2:=(((((zC0 d r _).tr (hF _)).tr (zC0 d _ _)).tr (le_next d _ _)).tr ((zC0 d _ _).tr (hF _))).tr (zC0 d _ _)
theorem GJ0 (r:Rd):LeR l d r (vH0 l F r).2:=by
 have h:=le_next (l:=l) d r 2;unfold vH0
 dsimp only
 repeat' split
 all_goals first | exact h | exact h.tr (tW1 hF _ _) | exact h.tr (tX1 hF _) | exact ((h.tr (xM0 d _)).tr (hF _)).tr (zC0 d _ _)
theorem tU1 (r:Rd):LeR l d r (nJ0 l F r).2:=by
 unfold nJ0
 repeat' split
 all_goals first | exact (xM0 d r).tr (GD0 hF _) | exact (xM0 d r).tr (hF _) | exact le_next d r _ | exact GJ0 hF r
omit hF
theorem UJ0:∀(f:Nat),f<=20->∀r,LeR l (20 - f) r (wQ0 l f r).2
 | 0,_,r=>⟨id,Nat.le_refl _,fun _=>rfl,fun _=>.inl rfl⟩
 | f+1,hf,r=>by
  rw[wQ0]
  split
  ·exact ⟨id,Nat.le_refl _,fun _=>rfl,fun _=>.inl rfl⟩
  ·rename_i hn
   have h:=tU1 (l:=l) (fun r=>UJ0 f (by omega) r) r.inc
   refine ⟨h.w,h.i,fun q=>absurd (.inl q) hn,fun q=>?_⟩;have hd:r.deep=20 - ((f+1:Nat):Int):=q.resolve_left fun q=>hn (.inl q);have q1:JD (20 - (f:Int)) r.inc:=.inr (by show dInc r.deep=_;rw[bY0 (by omega)];omega)
   rcases h.j q1 with q2 | q2
   ·exact .inl q2
   ·refine .inr ?_
    show dDec _=_
    rw[q2,FN0 (by omega)];omega
theorem UH0 {r:Rd} {s:ByteArray} (h:(zB0 l r s).bad=false):zB0 l r s=r.adv:=by
 unfold zB0 at h |-
 split at h
 ·rename_i q;rw[if_pos q]
 ·exact absurd h (by simp[Rd.fail])
end
variable {I:∀{α:Type},α->α}
@[simp,reducible] def rdB (I:∀{α:Type},α->α) (l:List Vl) (r:Rd):Option (List A):=some [.ro true (I (l.map Vl.t)),.lit (.int .i64 (Int.ofNat (I r.i))),.lit (.bool (I r.bad)),.lit (.int .i64 (I r.deep))]
@[simp,reducible] def tkA (I:∀{α:Type},α->α) (t:Vl):AV:=⟨.agg,[.lit (.int .i64 (I t.k)),.lit (.int .i64 (I t.n)),.lit (.string (I t.s))]⟩
abbrev RdC (I:∀{α:Type},α->α) (l:List Vl) (f:FuncId) (args:List AV) (r:Rd) (res:AV) (r':Rd):Prop:=ACl Tryz.prog f (⟨.one,[.ptr 0 0]⟩::args) [rdB @I l r] (fun rs bx=>rs=res/\bx=[rdB @I l r'])
section
variable (hI:II @I) (l:List Vl) (hl:l.length<=1048576)
include hI hl
theorem vJ1 (r:Rd) (k:Int) (s:ByteArray):RdC @I l 155 [litI k,litS s] r (litB (I (bB (pSee l r k s)))) r:=by
 refine qN hI tyK Tryz.func155 54 [.tmp 6] ?_;unhygienic intros
 refine qB 1 ?_
 repeat' first|refine qA 1 ?_|refine qp ?_ ?_|refine qk (fun h=>?_) fun h=>?_|fail
 all_goals (refine hR _ _ ⟨liP hI ?_,rfl⟩;(try simp only[F.k1,F.k2,F.k3,F.k4,F.k5,F.k6,F.k7,F.k8,F.k9,F.k10,F.k11,F.k12,F.k13,xT0,hI.e,Int.ofNat_eq_natCast])<;>(clear F hR;(try clear c1);(try clear c2);(try clear c3);(try clear c4);(try clear c5);(try clear c6);(try clear c7);(try clear c8);(try clear c9);first|(simp_all [-List.length_eq_zero_iff,IffW,pSee];done)|(simp_all [-List.length_eq_zero_iff,IffW,pSee];omega)|(simp_all [-List.length_eq_zero_iff,IffW,pSee];grind)))
theorem JN0 {r:Rd} {k:Int} {s:ByteArray} (h:pSee l r k s):RdC @I l 155 [litI k,litS s] r (litB true) r:=by
 have:=vJ1 hI l hl r k s;rwa[show bB (pSee l r k s)=true by rw[xT0];exact h,hI.e true] at this
theorem NP0 {r:Rd} {k:Int} {s:ByteArray} (h:¬pSee l r k s):RdC @I l 155 [litI k,litS s] r (litB false) r:=by
 have:=vJ1 hI l hl r k s;rwa[show bB (pSee l r k s)=false by rw[<-Bool.not_eq_true,xT0];exact h,hI.e false] at this
theorem is_t {r r':Rd} {k:Int} {s:ByteArray} (h:pSee l r k s) (e:r'=r.adv):RdC @I l 132 [litI k,litS s] r (litB true) r':=by
 have c1:=JN0 hI l hl h;have hlt:=h.2.1;subst e;refine qN hI tyK Tryz.func132 19 [.tmp 6] ?_;unhygienic intros
 refine qB 1 ?_
 repeat' first|refine qA 1 ?_|refine qJ (nN [0]) ?_|refine qp ?_ ?_|refine qk (fun h=>?_) fun h=>?_|fail
 exact hR _ _ ⟨rfl,rfl⟩
theorem is_f {r:Rd} {k:Int} {s:ByteArray} (h:¬pSee l r k s):RdC @I l 132 [litI k,litS s] r (litB false) r:=by
 have c1:=NP0 hI l hl h;refine qN hI tyK Tryz.func132 19 [.tmp 6] ?_;unhygienic intros
 refine qB 1 ?_
 repeat' first|refine qA 1 ?_|refine qJ (nN [0]) ?_|refine qp ?_ ?_|refine qk (fun h=>?_) fun h=>?_|fail
 exact hR _ _ ⟨rfl,rfl⟩
theorem zK0 {r r':Rd} {s:ByteArray} (e:r'=zB0 l r s):RdC @I l 157 [litS s] r ⟨.tup [],[]⟩ r':=by
 by_cases h:pSee l r 5 s
 ·have q1:r'=r.adv:=by rw[e,zB0,if_pos h]
  have c1:=is_t hI l hl h q1;refine qN hI tyK Tryz.func157 11 [] ?_;unhygienic intros
  refine qB 1 ?_
  repeat' first|refine qA 1 ?_|refine qJ (nN [0]) ?_|refine qp ?_ ?_|refine qk (fun h=>?_) fun h=>?_|fail
  exact hR _ _ ⟨rfl,rfl⟩
 ·have q1:r'=r.fail:=by rw[e,zB0,if_neg h]
  have c1:=is_f hI l hl h;subst q1;refine qN hI tyK Tryz.func157 11 [] ?_;unhygienic intros
  refine qB 1 ?_
  repeat' first|refine qA 1 ?_|refine qJ (nN [0]) ?_|refine qp ?_ ?_|refine qk (fun h=>?_) fun h=>?_|fail
  exact hR _ _ ⟨rfl,by simp only[rdB,Rd.fail,hI.e]⟩
theorem uY1 {r r':Rd} {s:ByteArray} (e:r'=gU0 l r s):RdC @I l 220 [litS s] r ⟨.tup [],[]⟩ r':=by
 by_cases h:pSee l r 2 s
 ·have q1:r'=r.adv:=by rw[e,gU0,if_pos h]
  have c1:=is_t hI l hl h q1;refine qN hI tyK Tryz.func220 11 [] ?_;unhygienic intros
  refine qB 1 ?_
  repeat' first|refine qA 1 ?_|refine qJ (nN [0]) ?_|refine qp ?_ ?_|refine qk (fun h=>?_) fun h=>?_|fail
  exact hR _ _ ⟨rfl,rfl⟩
 ·have q1:r'=r.fail:=by rw[e,gU0,if_neg h]
  have c1:=is_f hI l hl h;subst q1;refine qN hI tyK Tryz.func220 11 [] ?_;unhygienic intros
  refine qB 1 ?_
  repeat' first|refine qA 1 ?_|refine qJ (nN [0]) ?_|refine qp ?_ ?_|refine qk (fun h=>?_) fun h=>?_|fail
  exact hR _ _ ⟨rfl,by simp only[rdB,Rd.fail,hI.e]⟩
theorem rT0 {r:Rd} {k:Int} {x:Vl×Rd} (e:x=xL0 l r k):RdC @I l 174 [litI k] r (tkA @I x.1) x.2:=by
 by_cases h:r.bad=false/\r.i < l.length/\l[r.i]!.k=k
 ·have e0:x=(l[r.i]!,r.adv):=by rw[e,xL0,if_pos h]
  subst e0;obtain ⟨h1,h2,h3⟩:=h;refine qN hI tyK Tryz.func174 58 [.cell 4 160] ?_;unhygienic intros
  have e1:bin .sub .i64 (Int.ofNat (I (r.i+1))) 1=Int.ofNat (I r.i):=by
   simp only[hI.e];cases hO;exact (zW0 (x:=Int.ofNat (r.i+1) - 1) (by simp only[Int.ofNat_eq_natCast];omega)).trans (by simp only[Int.ofNat_eq_natCast];omega)
  refine qB 1 ?_
  repeat' first|refine qA 1 ?_|refine qp ?_ ?_|refine qk (fun h=>?_) fun h=>?_|fail
  all_goals first | exact absurd (h1.symm.trans (by assumption)) (by decide)|(exfalso;omega) | exact absurd h3 (by assumption) | exact hR _ _ ⟨rfl,rfl⟩
 ·have e0:x=(⟨0,0,⟨⟨[]⟩⟩⟩,r.fail):=by rw[e,xL0,if_neg h]
  subst e0;refine qN hI tyK Tryz.func174 58 [.cell 4 160] ?_;unhygienic intros
  refine qB 1 ?_
  repeat' first|refine qA 1 ?_|refine qp ?_ ?_|refine qk (fun h=>?_) fun h=>?_|fail
  all_goals first | exact absurd (show r.bad=false/\r.i < l.length/\l[r.i]!.k=k from ⟨Bool.eq_false_iff.2 (by assumption),by omega,Classical.not_not.1 (by assumption)⟩) (by assumption) | exact hR _ _ ⟨by simp only[tkA,hI.e],by simp only[rdB,Rd.fail,hI.e]⟩
end
variable {I:∀{α:Type},α->α}
theorem Ex.t_of (e:Ex):e.t=[.lit (.int .i64 e.k),.lit (.int .i64 e.n),.lit (.string e.s),.sl (e.l.map Ex.t)]:=by cases e;rw[Ex.t_mk];rfl
theorem mR1 {f:FuncId} {a:AV} {q:Prop} (h:ACl Tryz.prog f [a] [] (fun res bx=>∃b:Bool,(b=true↔q)/\res=litB b/\bx=[])) (hq:q):ACl Tryz.prog f [a] [] (fun res bx=>res=litB true/\bx=[]):=
 acI h fun _ _ ⟨b,hb,e,e'⟩=>⟨by rw[e,hb.2 hq],e'⟩
theorem mT1 {f:FuncId} {a:AV} {q:Prop} (h:ACl Tryz.prog f [a] [] (fun res bx=>∃b:Bool,(b=true↔q)/\res=litB b/\bx=[])) (hq:¬q):ACl Tryz.prog f [a] [] (fun res bx=>res=litB false/\bx=[]):=
 acI h fun _ _ ⟨b,hb,e,e'⟩=>⟨by rw[e,Bool.eq_false_iff.2 fun r=>hq (hb.1 r)],e'⟩
theorem HR0 {l:List Vl} (hM:∀t∈l,t.s.size<=200) (r:Rd) (k:Int):(xL0 l r k).1.s.size<=200:=by
 unfold xL0;split
 ·rename_i q;exact hM _ (zD0 q.2.1)
 ·exact Nat.zero_le _
theorem or_B (hI:II @I) (l:List Vl) (r:Rd) (p:Prop) (v:Bool) (h:v=true↔r.bad=true\/p):[some [A.ro true (I (l.map Vl.t)),.lit (.int .i64 (Int.ofNat (I r.i))),.lit (.bool v),.lit (.int .i64 (I r.deep))]]=[rdB @I l (r.or p)]:=by
 unfold Rd.or
 split
 ·rename_i q;rw[h.2 (.inr q)];simp only[rdB,Rd.fail,hI.e]
 ·rename_i q
  have e:v=r.bad:=by rw[Bool.eq_iff_iff,h];exact ⟨fun h=>h.resolve_right q,.inl⟩
  rw[e];simp only[rdB,hI.e]
section
variable (hI:II @I) (l:List Vl) (hl:l.length<=1048576) (hM:∀t∈l,t.s.size<=200)
include hI hl
include hM in
theorem nG0 {r:Rd} {x:ByteArray×Rd} (e:x=wB0 l r):RdC @I l 156 [] r (litS (I x.1)) x.2:=by
 have hz:=HR0 hM r 2;obtain ⟨t,ht⟩:∃t,t=xL0 l r 2:=⟨_,rfl⟩;have c1:=rT0 hI l hl ht;rw[<-ht] at hz;have c0:=xR0 (I t.1.s) (by rw[hI.e];omega)
 rw[hI.e] at c0
 by_cases hn:xU0 t.1.s
 ·have q1:x=(t.1.s,t.2):=by rw[e,wB0,<-ht,if_pos hn]
  subst q1;have c2:=mR1 c0 hn;rw[<-hI.e t.1.s] at c2;clear c0 hz;refine qN hI tyK Tryz.func156 14 [.tmp 2] ?_;unhygienic intros
  refine qB 1 ?_
  repeat' first|refine qA 1 ?_|refine qJ (nN [0]) ?_|refine qJ (nN []) ?_|refine qp ?_ ?_|refine qk (fun h=>?_) fun h=>?_|fail
  exact hR _ _ ⟨rfl,by simp only[rdB,Rd.fail,hI.e]⟩
 ·have q1:x=(t.1.s,t.2.fail):=by rw[e,wB0,<-ht,if_neg hn]
  subst q1;have c2:=mT1 c0 hn;rw[<-hI.e t.1.s] at c2;clear c0 hz;refine qN hI tyK Tryz.func156 14 [.tmp 2] ?_;unhygienic intros
  refine qB 1 ?_
  repeat' first|refine qA 1 ?_|refine qJ (nN [0]) ?_|refine qJ (nN []) ?_|refine qp ?_ ?_|refine qk (fun h=>?_) fun h=>?_|fail
  exact hR _ _ ⟨rfl,by simp only[rdB,Rd.fail,hI.e]⟩
structure kC0 (I:∀{α:Type},α->α) (l:List Vl) (d:Int) (ff:Rd->Ex×Rd):Prop where
 le:∀r,LeR l d r (ff r).2
 c:∀(r:Rd) (x:Ex×Rd),JD d r->x=ff r->RdC @I l 159 [] r (eA @I x.1) x.2
variable {d:Int} {ff:Rd->Ex×Rd} (hF:kC0 @I l d ff)
include hF
theorem tC1 {r:Rd} (hj:JD d r) {n:Int} {x:List Ex×Rd} (e:x=wV0 l ff r n):RdC @I l 221 [litI n] r ⟨.one,[.ro true (I (x.1.map Ex.t))]⟩ x.2:=by
 refine yM0 ?_;obtain ⟨r1,h1⟩:∃r1,r1=zB0 l r ⟨⟨[40]⟩⟩:=⟨_,rfl⟩;have hj1:JD d r1:=by rw[h1];exact (zC0 d r _).j hj
 have c1:=zK0 hI l hl h1
 by_cases hs:pSee l r1 5 ⟨⟨[41]⟩⟩
 ·obtain ⟨r2,h2⟩:∃r2,r2=r1.adv:=⟨_,rfl⟩
  have c2:=is_t hI l hl hs h2;have q1:x=([],r2.or (0 < n)):=by rw[e,wV0,<-h1,if_pos hs,<-h2]
  subst q1;refine qN hI tyK Tryz.func221 59 [.tmp 4] ?_;unhygienic intros
  refine qB 1 ?_
  repeat' first|refine qA 1 ?_|refine qJ (nN [0]) ?_|refine qJ (nN [0]) ?_|refine qp ?_ ?_|refine qk (fun h=>?_) fun h=>?_|fail
  all_goals (refine hR _ _ ⟨by simp only[AV.roC,A.roC,List.map,hI.e,erD],or_B hI l r2 _ _ ?_⟩;(try rw[F.k5]);(try simp only[hI.e] at *);clear F hR hseg;simp_all<;>omega)
 ·have c2:=is_f hI l hl hs
  obtain ⟨y,hy⟩:∃y,y=yY0 l ff (l.length+2) r1:=⟨_,rfl⟩;have e0:x=(y.1,(zB0 l y.2 ⟨⟨[41]⟩⟩).or (0<=n/\¬(y.1.length:Int)=n)):=by rw[e,wV0,<-h1,if_neg hs,<-hy]
  have hi1:r1.bad=true\/(r1.i<=l.length/\l.length < r1.i+(l.length+2)):=by
   by_cases hb:r1.bad=true
   ·exact .inl hb
   ·have hbf:r1.bad=false:=Bool.eq_false_iff.2 hb
    have h2:=UH0 (l:=l) (r:=r) (s:=⟨⟨[40]⟩⟩) (by rw[<-h1];exact hbf)
    refine .inr ⟨?_,by omega⟩
    unfold zB0 at h1
    split at h1
    ·rename_i q;rw[h1];exact q.2.1
    ·rw[h1] at hbf;exact absurd hbf (by simp[Rd.fail])
  refine qN hI tyK Tryz.func221 59 [.tmp 4] ?_;unhygienic intros
  refine qB 1 ?_
  repeat' first|refine qA 1 ?_|refine qJ (nN [0]) ?_|refine qJ (nN [0]) ?_|refine qp ?_ ?_|refine qk (fun h=>?_) fun h=>?_|fail
  clear c1 c2;refine qLf 1 [0,1,5,6] (kkS 5 4) (fun a:List Ex×Bool×Rd×Nat=>⟨vag 59 [(0,⟨.one,[.ptr 0 0]⟩),(1,litI n),(5,⟨.one,[.ow (0,0) false 4 (I (a.1.map Ex.t))]⟩),(6,litB a.2.1)],[rdB @I l a.2.2.1],1⟩)
   (fun a=>JD d a.2.2.1/\a.1.length+a.2.2.2<=l.length+2/\(a.2.1=true->a.2.2.1.bad=true\/(a.2.2.1.i<=l.length/\l.length < a.2.2.1.i+a.2.2.2))/\y=(if a.2.1=true then (a.1++(yY0 l ff a.2.2.2 a.2.2.1).1,(yY0 l ff a.2.2.2 a.2.2.1).2) else (a.1,a.2.2.1))) (fun a=>a.2.2.2) ?_ fun a ha=>?_
  ·cbv
   exact ⟨([],true,r1,l.length+2),by simp only[hI.e];rfl,hj1,by simp,fun _=>hi1,by simp[hy]⟩
  obtain ⟨acc,b,rc,m⟩:=a;obtain ⟨hjc,hlen,hin,hyv⟩:=ha;simp only at hjc hlen hin hyv |-;have hacc:acc.length<=1048580:=by omega
  cases b
  ·simp only[Bool.false_eq_true,if_false] at hyv
   obtain ⟨r3,h3⟩:∃r3,r3=zB0 l rc ⟨⟨[41]⟩⟩:=⟨_,rfl⟩;have c1:=zK0 hI l hl h3;have q1:x=(acc,r3.or (0<=n/\¬(acc.length:Int)=n)):=by rw[e0,hyv,h3]
   clear e e0 hyv hy hin;refine qB 1 ?_
   (repeat' first|refine qA 1 ?_|refine qJ (nN [0]) ?_|refine qp ?_ ?_|refine qk (fun h=>?_) fun h=>?_|fail)
   all_goals first | exact absurd (by assumption) (by decide) | skip
   all_goals (refine hR _ _ ⟨by rw[q1];rfl,?_⟩;rw[q1];refine or_B hI l r3 _ _ ?_;(try rw[F.k2]);(try simp only[hI.e] at *);clear F hR hseg;simp_all<;>omega)
  ·simp only[if_true] at hyv
   by_cases hbad:rc.bad=true
   ·have hp:yY0 l ff m rc=([],rc):=by cases m<;>simp[yY0,hbad]
    rw[hp] at hyv;simp only[List.append_nil] at hyv;obtain ⟨r3,h3⟩:∃r3,r3=zB0 l rc ⟨⟨[41]⟩⟩:=⟨_,rfl⟩;have c1:=zK0 hI l hl h3;have q1:x=(acc,r3.or (0<=n/\¬(acc.length:Int)=n)):=by rw[e0,hyv,h3]
    clear e e0 hyv hy hin;refine qB 1 ?_
    (repeat' first|refine qA 1 ?_|refine qJ (nN [0]) ?_|refine qp ?_ ?_|refine qk (fun h=>?_) fun h=>?_|fail)
    all_goals first | exact absurd hbad (by assumption) | skip
    all_goals (refine hR _ _ ⟨by rw[q1];rfl,?_⟩;rw[q1];refine or_B hI l r3 _ _ ?_;(try rw[F.k2]);(try simp only[hI.e] at *);clear F hR hseg;simp_all<;>omega)
   ·have hbf:rc.bad=false:=Bool.eq_false_iff.2 hbad
    have hin:=(hin rfl).resolve_left hbad;obtain ⟨m,rfl⟩:∃m',m=m' + 1:=⟨m - 1,by omega⟩
    rw[yY0,if_neg hbad] at hyv;obtain ⟨z,hzz⟩:∃z,z=ff rc:=⟨_,rfl⟩;have c1:=hF.c rc z hjc hzz;have hle:=hF.le rc;rw[<-hzz] at hle hyv;have hjz:JD d z.2:=hle.j hjc;have hlei:=hle.i
    by_cases hsc:pSee l z.2 5 ⟨⟨[44]⟩⟩
    ·obtain ⟨r4,h4⟩:∃r4,r4=z.2.adv:=⟨_,rfl⟩
     have c2:=is_t hI l hl hsc h4;rw[if_pos hsc,<-h4] at hyv;have hlt:=hsc.2.1;have hi4:r4.i=z.2.i+1:=by rw[h4];rfl
     have hj4:JD d r4:=by rw[h4];exact rN0 hjz
     clear hzz hle e e0 hsc h4;refine qB 1 ?_
     (repeat' first|refine qA 1 ?_|refine qJ (nN [0]) ?_|refine qJ (nN [0]) ?_|refine qp ?_ ?_|refine qk (fun h=>?_) fun h=>?_|fail)
     all_goals first
      | exact absurd (Classical.not_not.1 (by assumption)) hbad
      | exact ⟨(acc++[z.1],true,r4,m),by (try simp only[A.reset,xV0,hI.e]);rfl,⟨hj4,by simp only[List.length_append,List.length_cons,List.length_nil];omega,fun _=>.inr ⟨by simp only;omega,by simp only;omega⟩,by simp only[if_true];rw[hyv];simp⟩,by simp only;omega⟩
    ·have c2:=is_f hI l hl hsc
     rw[if_neg hsc] at hyv;clear hzz hle e e0 hsc;refine qB 1 ?_
     (repeat' first|refine qA 1 ?_|refine qJ (nN [0]) ?_|refine qJ (nN [0]) ?_|refine qp ?_ ?_|refine qk (fun h=>?_) fun h=>?_|fail)
     all_goals first
      | exact absurd (Classical.not_not.1 (by assumption)) hbad
      | exact ⟨(acc++[z.1],false,z.2,m),by (try simp only[A.reset,xV0,hI.e]);rfl,⟨hjz,by simp only[List.length_append,List.length_cons,List.length_nil];omega,fun q=>absurd q (by simp),by simp only[Bool.false_eq_true,if_false];rw[hyv]⟩,by simp only;omega⟩
end
end Go.Gv
