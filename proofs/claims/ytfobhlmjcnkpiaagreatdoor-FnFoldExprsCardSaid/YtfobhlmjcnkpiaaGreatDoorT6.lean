/- Part T6 of the proof: contracts of functions of the program, each walked once. -/
import Derived.Test.YtfobhlmjcnkpiaaGreatDoorT5
import Derived.Test.YtfobhlmjcnkpiaaGreatDoorD9
set_option linter.all false
namespace Go.Gv
open Go.Av Go.Proofs
set_option maxRecDepth 10000
set_option maxHeartbeats 8000000
variable {I:∀{α:Type},α->α}
def jJ0 (l:List Ru):List A:=(l.map Ru.w).flatten.map oA
theorem nE1 {a:List Sm} (h:a≠[]):oA (.own (a.map Sm.t))=.ow (0,0) true 6 (a.map Sm.t):=by
 cases a with
 | nil=>exact absurd rfl h
 | cons y l=>simp only[oA,List.map,List.headD_cons,Sm.t_len]
theorem nE0 {r:Ru} {l:List Ru} (h:r.a≠[]):jJ0 (r::l)=[.lit (.int .i64 r.k),.lit (.int .i64 r.p.k),.lit (.int .i64 r.p.n),.lit (.string r.p.s),.ro true (r.p.l.map Ex.t),.ow (0,0) true 6 (r.a.map Sm.t)]++jJ0 l:=by
 simp only[jJ0,List.map_cons,List.flatten_cons,List.map_append]
 congr 1
 simp only[Ru.w,List.map,nE1 h]
 rfl
theorem RR0:∀{l:List Ru},(∀r∈l,r.a≠[])->(jJ0 l).map A.roC=(l.map Ru.t).flatten.map (tA true)
 | [],_=>rfl
 | r::l,h=>by
  rw[nE0 (h r List.mem_cons_self),List.map_append,RR0 fun r hr=>h r (List.mem_cons_of_mem _ hr)]
  show _=List.map (tA true) ((r.t::l.map Ru.t).flatten)
  rw[List.flatten_cons,List.map_append]
  congr 1
  rw[Ru.tI (I:=@id) rfl];simp only[List.map,A.roC,tA,erD,Sm.er_map,id]
theorem Ru.no_own (r:Ru):∀a,T.own a∉r.t:=by
 intro a;rw[Ru.tI (I:=@id) rfl];simp
theorem yF1 (hI:II @I) {j n:Nat} {c:A} {cells:List A} {r:Ru} {rest:List Ru} {fns:List Fu} {b0 bx:List (Option (List A))} (hn:n=rest.length+1) (hj:1<=j) (hbx:bx[j]?=some (some cells)) (hcs:cells.map A.roC=((r::rest).map Ru.t).flatten.map (tA true)) (hc:c.roC=.ro true (I (fns.map Fu.t))) (hb:(bx.take 1).map (wM0 1)=b0) :
  kA1 1 (I ((r::rest).map Ru.t)) (I (fns.map Fu.t)) b0 ⟨.agg,[.bsl j 6 n,c]⟩ bx:=by
 refine ⟨j,6,n,c,cells,[],rfl,?_,hj,by rw[List.append_nil];exact hbx,?_,?_,hc,hb⟩
 ·rw[hn,hI.e];simp
 ·rw[hI.e];exact hcs
 ·rw[hI.e]
  intro e he a;obtain ⟨r',_,rfl⟩:=List.mem_map.1 he;exact Ru.no_own r' a
theorem MP0 (hI:II @I) (b:List Int) (u:Cu) (hb:b.length<=1048576) (hu:u.i<=b.length):ACl Tryz.prog 53 [⟨.one,[.ptr 0 0]⟩] [cuB @I b u] (fun res bx=>∃x:(Ru×List Ru)×List Fu×Cu,((x.1.2.length<=2/\Ru.szs (x.1.1::x.1.2)<=825000/\∀r∈x.1.1::x.1.2,r.a≠[])/\(x.2.1.length=2/\Fu.szs x.2.1<=90200)/\x.2.2.i<=b.length)/\res=⟨.agg,[.bsl 1 6 (I (x.1.2.length+1)),.ow (0,0) false 3 (I (x.2.1.map Fu.t))]⟩/\
  bx=[cuB @I b x.2.2,some (.lit (.int .i64 (I x.1.1.k))::.lit (.int .i64 (I x.1.1.p.k))::.lit (.int .i64 (I x.1.1.p.n))::.lit (.string (I x.1.1.p.s))::.ro true (I (x.1.1.p.l.map Ex.t))::.ow (0,0) true 6 (I (x.1.1.a.map Sm.t))::I (jJ0 x.1.2))]):=by
 have h:=wX1 (els:=fun x:(List Ru×List Fu)×Cu=>I (x.1.1.map Ru.w)) (c:=fun x=>.ow (0,0) false 3 (I (x.1.2.map Fu.t))) (b:=fun x=>[cuB @I b x.2]) (WU0 hI b u hb hu) (fun x hx=>by
   rw[hI.e];intro q;have:=congrArg List.length q;rw[List.length_map] at this;have:=hx.1.1.1;simp only[List.length_nil] at *;omega) (fun x hx e he a ha=>by
   rw[hI.e] at he;obtain ⟨r,hr,rfl⟩:=List.mem_map.1 he;simp only[Ru.w,List.mem_cons,List.not_mem_nil,or_false,reduceCtorEq,false_or,T.own.injEq] at ha;rw[ha];intro q;exact hx.1.1.2.2.2 r hr (List.map_eq_nil_iff.1 q))
 refine acI h fun _ _ ⟨⟨⟨rules,fns⟩,cu⟩,⟨⟨⟨q1,q2,q3,q4⟩,q5⟩,q6⟩,h2,h3⟩=>?_;simp only at q1 q2 q3 q4 q5 q6 h2 h3;cases rules with
 | nil=>simp at q1
 | cons r rest=>
  refine ⟨((r,rest),fns,cu),⟨⟨by simp only[List.length_cons] at q2 |-;omega,by simp only[List.length_cons] at q2 q3 |-;omega,q4⟩,q5,q6⟩,?_,?_⟩
  ·rw[h2];simp only[hI.e,List.length_map,List.length_cons];rfl
  ·rw[h3];simp only[hI.e]
   show [cuB @I b cu]++[some (jJ0 (r::rest))]=_
   rw[nE0 (q4 r List.mem_cons_self)];rfl
end Go.Gv
