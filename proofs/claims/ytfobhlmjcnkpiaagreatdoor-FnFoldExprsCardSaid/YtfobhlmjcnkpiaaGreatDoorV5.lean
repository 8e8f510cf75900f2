/- Part V5 of the proof: contracts of functions of the program, each walked once. -/
import Derived.Test.YtfobhlmjcnkpiaaGreatDoorV4
import Derived.Test.YtfobhlmjcnkpiaaGreatDoorR1
set_option linter.all false
namespace Go.Gv
open Go.Av Go.Proofs
set_option maxRecDepth 10000
set_option maxHeartbeats 8000000
variable {I:∀{α:Type},α->α}
theorem GG0 {l:List Vl} (d:Int):∀(n:Nat) (r:Rd),LeR l d r (tB0 l n r).2
 | 0,r=>LeR.refl d r
 | n+1,r=>by
  rw[tB0]
  split
  ·exact LeR.refl d r
  ·split
   ·exact ((wW0 d r).tr (xM0 d _)).tr (GG0 d n _)
   ·exact wW0 d r
theorem nK1 {l:List Vl} {bb:Rd->List Sm×Rd} {d:Int} (hB:∀r,LeR l d r (bb r).2) (r:Rd):LeR l d r (pFn l bb r).2:=by
 unfold pFn
 dsimp only
 have h1:=(wW0 (l:=l) d r).tr (zC0 (l:=l) d _ ⟨⟨[40]⟩⟩)
 split
 ·exact (h1.tr (zC0 d _ _)).tr (hB _)
 ·exact ((h1.tr (GG0 d _ _)).tr (zC0 d _ _)).tr (hB _)
theorem GF0 {l:List Vl} {ff:Rd->Ex×Rd} {bb:Rd->List Sm×Rd} {d:Int} (hF:∀r,LeR l d r (ff r).2) (hB:∀r,LeR l d r (bb r).2) (r:Rd):LeR l d r (rW0 l ff bb r).2:=by
 unfold rW0
 repeat' split
 all_goals first | exact (xM0 d r).tr (hB _) | exact hB r | exact (hF r).tr (hB _)
theorem tT1 {l:List Vl} {ff:Rd->Ex×Rd} {bb:Rd->List Sm×Rd} {d:Int} (hF:∀r,LeR l d r (ff r).2) (hb:∀r,(bb r).2.bad=false->r.i < (bb r).2.i) {r:Rd} (h:(rW0 l ff bb r).2.bad=false):r.i < (rW0 l ff bb r).2.i:=by
 unfold rW0 at h |-
 repeat' split
 all_goals simp only[*,if_true,if_false] at h
 all_goals first
  | exact Nat.lt_trans (Nat.lt_succ_self _) (hb _ h)
  | exact hb _ h
  | exact Nat.lt_of_le_of_lt (hF r).i (hb _ h)
theorem QJ0 {l:List Vl} {gg:Rd->Fu×Rd} {d:Int} (hG:∀r,LeR l d r (gg r).2):∀(n:Nat) (r:Rd),LeR l d r (pFns l gg n r).2
 | 0,r=>LeR.refl d r
 | n+1,r=>by
  rw[pFns]
  split
  ·exact ((xM0 d r).tr (hG _)).tr (QJ0 hG n _)
  ·exact LeR.refl d r
theorem bN0 {l:List Vl} {gg:Rd->Ru×Rd} {d:Int} (hG:∀r,LeR l d r (gg r).2):∀(n:Nat) (r:Rd),LeR l d r (wA0 l gg n r).2
 | 0,r=>LeR.refl d r
 | n+1,r=>by
  rw[wA0]
  split
  ·exact (hG r).tr (bN0 hG n _)
  ·exact LeR.refl d r
theorem mE1 (l:List Fu) (f:Fu):l.map Fu.t++[[.lit (.string f.name),.sl (f.params.map strT),.sl (f.a.map Sm.t)]]=(l++[f]).map Fu.t:=by rw[List.map_append,List.map_singleton];rfl
theorem pU1 (l:List Ru) (r:Ru):l.map Ru.t++[[.lit (.int .i64 r.k),.lit (.int .i64 r.p.k),.lit (.int .i64 r.p.n),.lit (.string r.p.s),.sl (r.p.l.map Ex.t),.sl (r.a.map Sm.t)]]=(l++[r]).map Ru.t:=by
 rw[List.map_append,List.map_singleton];obtain ⟨k,⟨pk,pn,ps,pl⟩,a⟩:=r;rw[Ru.t,Ex.t_mk];rfl
section
variable (hI:II @I) (l:List Vl) (hl:l.length<=2000) (hT:∀t∈l,t.s.size<=200)
include hI hl hT
end
end Go.Gv
