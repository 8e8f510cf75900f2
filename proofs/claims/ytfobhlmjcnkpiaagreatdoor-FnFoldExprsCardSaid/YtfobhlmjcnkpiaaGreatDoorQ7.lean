/- Part Q7 of the proof: contracts of functions of the program, each walked once. -/
import Derived.Test.YtfobhlmjcnkpiaaGreatDoorQ6
import Derived.Test.YtfobhlmjcnkpiaaGreatDoorN3
set_option linter.all false
namespace Go.Gv
open Go.Av Go.Proofs
set_option maxRecDepth 10000
set_option maxHeartbeats 8000000
variable {I:∀{α:Type},α->α}
theorem mJ1 {f:FuncId} {a:AV} {q:Prop} (h:ACl Tryz.prog f [a] [] (fun res bx=>∃b:Bool,(b=true↔q)/\res=litB b/\bx=[])) (hq:q):ACl Tryz.prog f [a] [] (fun res bx=>res=litB true/\bx=[]):=
 acI h fun _ _ ⟨b,hb,e,e'⟩=>⟨by rw[e,hb.2 hq],e'⟩
theorem mK1 {f:FuncId} {a:AV} {q:Prop} (h:ACl Tryz.prog f [a] [] (fun res bx=>∃b:Bool,(b=true↔q)/\res=litB b/\bx=[])) (hq:¬q):ACl Tryz.prog f [a] [] (fun res bx=>res=litB false/\bx=[]):=
 acI h fun _ _ ⟨b,hb,e,e'⟩=>⟨by rw[e,Bool.eq_false_iff.2 fun r=>hq (hb.1 r)],e'⟩
theorem qW1 {e:Ex} (h:qH0 e):e.k=0/\e.n=0/\e.s=⟨⟨[]⟩⟩/\e.l=[]:=by rw[h];exact ⟨rfl,rfl,rfl,rfl⟩
theorem mX0 (hI:II @I) (ff:Ex->Ex) (p:Pg) (c1:ACl Tryz.prog 37 [pA @I p] [] (fun res bx=>res=litB true/\bx=[])) (h1:p.rules.length<=1048576) (h2:p.fns.length<=1048576) (h3:∀f∈p.fns,f.params.length<=1048576) (hz:∀r∈p.rules,¬r.k=4->qH0 r.p) (ih1:∀r∈p.rules,r.k=4->FbE @I 28 ff r.p) (ih2:∀r∈p.rules,FbS @I 39 ff r.a) (ih3:∀f∈p.fns,FbS @I 39 ff f.a):ACl Tryz.prog 14 [pA @I p] [] (fun res bx=>res=pA @I (Pg.mp ff p)/\bx=[]):=by
 refine yM0 ?_;refine qN hI tyK Tryz.func14 90 [.cell 2 32] ?_;unhygienic intros
 refine qB 0 ?_
 repeat' first|refine qA 0 ?_|refine qJ (nN []) ?_|refine qp ?_ ?_|refine qk (fun h=>?_) fun h=>?_|fail
 refine qLf 3 [1,2,3,4] (kkB 2 0 6) (fun i:Nat=>⟨vag 90 [(1,⟨.one,[.ptr 0 0]⟩),(2,⟨.one,[.ptr 1 0]⟩),(3,⟨.one,[.ptr 2 0]⟩),(4,litI (Int.ofNat (I i)))],[some (pA @I p).cs,some [.nil,.nil],some [.ow (0,0) false 6 (I (((p.rules.take i).map (Ru.mp ff)).map Ru.t)),.nil]],1⟩) (fun i=>i<=p.rules.length) (fun i=>p.rules.length - i) ?_ fun i hi=>?_
 ·cbv
  exact ⟨0,by simp only[hI.e];rfl,by omega⟩
 clear c1
 by_cases hh:i < p.rules.length
 ·have cf:=ih1 _ (zD0 hh)
  have c2:=ih2 _ (zD0 hh);have hzr:=hz _ (zD0 hh);have hlt:((p.rules.take i).map (Ru.mp ff)).length<=1048576:=by rw[List.length_map,List.length_take];omega
  generalize hr:p.rules[i]! = r at *;have e2:=hr
  by_cases h4:r.k=4
  ·have c1:=cf h4
   have e1:app (I (((p.rules.take i).map (Ru.mp ff)).map Ru.t)) [[.lit (.int .i64 (I r.k)),.lit (.int .i64 (I (ff r.p).k)),.lit (.int .i64 (I (ff r.p).n)),.lit (.string (I (ff r.p).s)),.sl (I ((ff r.p).l.map Ex.t)),.sl (I ((r.a.map (Sm.mp ff)).map Sm.t))]]=I (((p.rules.take (i+1)).map (Ru.mp ff)).map Ru.t):=by
    simp only[hI.e];cases hO;rw[zZ0 hh,hr,List.map_append (f:=Ru.mp ff),List.map_singleton,<-qM1];rw[show (Ru.mp ff r).p=(ff r.p) by unfold Ru.mp;dsimp only;rw[if_pos h4]];rfl
   refine qB 0 ?_
   (repeat' first|refine qA 0 ?_|refine qJ (nN []) ?_|refine qp ?_ ?_|refine qk (fun h=>?_) fun h=>?_|fail)
   all_goals first | exact absurd hh (by assumption) | exact absurd h4 (by assumption) | exact ⟨i+1,by (try simp only[A.reset,hI.e]);rfl,by omega,by omega⟩
  ·have hzr:=qW1 (hzr h4)
   have e1:app (I (((p.rules.take i).map (Ru.mp ff)).map Ru.t)) [[.lit (.int .i64 (I r.k)),.lit (.int .i64 0),.lit (.int .i64 0),.lit (.string ⟨⟨[]⟩⟩),.sl [],.sl (I ((r.a.map (Sm.mp ff)).map Sm.t))]]=I (((p.rules.take (i+1)).map (Ru.mp ff)).map Ru.t):=by
    simp only[hI.e];cases hO;rw[zZ0 hh,hr,List.map_append (f:=Ru.mp ff),List.map_singleton,<-qM1];rw[show (Ru.mp ff r).p=r.p by unfold Ru.mp;dsimp only;rw[if_neg h4],hzr.1,hzr.2.1,hzr.2.2.1,hzr.2.2.2];rfl
   clear cf;refine qB 0 ?_
   (repeat' first|refine qA 0 ?_|refine qJ (nN []) ?_|refine qp ?_ ?_|refine qk (fun h=>?_) fun h=>?_|fail)
   all_goals first | exact absurd hh (by assumption) | exact absurd (by assumption) h4 | exact ⟨i+1,by (try simp only[A.reset,hI.e]);rfl,by omega,by omega⟩
 ·have e1:I (((p.rules.take i).map (Ru.mp ff)).map Ru.t)=I ((p.rules.map (Ru.mp ff)).map Ru.t):=by rw[List.take_of_length_le (by omega)]
  refine qB 0 ?_
  repeat' first|refine qA 0 ?_|refine qJ (nN []) ?_|refine qp ?_ ?_|refine qk (fun h=>?_) fun h=>?_|fail
  ·exact absurd h hh
  clear e1;refine qLf 3 [1,2,3,6] (kkB 2 1 3) (fun j:Nat=>⟨vag 90 [(1,⟨.one,[.ptr 0 0]⟩),(2,⟨.one,[.ptr 1 0]⟩),(3,⟨.one,[.ptr 2 0]⟩),(6,litI (Int.ofNat (I j)))],[some (pA @I p).cs,some [.nil,.nil],some [.ow (0,0) false 6 (I ((p.rules.map (Ru.mp ff)).map Ru.t)),.ow (0,0) false 3 (I (((p.fns.take j).map (Fu.mp ff)).map Fu.t))]],1⟩) (fun j=>j<=p.fns.length) (fun j=>p.fns.length - j) ?_ fun j hj=>?_
  ·cbv
   exact ⟨0,by simp only[hI.e];rfl,by omega⟩
  by_cases hh2:j < p.fns.length
  ·have c1:=ih3 _ (zD0 hh2)
   have hlt:((p.fns.take j).map (Fu.mp ff)).length<=1048576:=by rw[List.length_map,List.length_take];omega
   have hfp:=h3 _ (zD0 hh2);generalize hr:p.fns[j]! = r at *;have e2:=hr;have e1:app (I (((p.fns.take j).map (Fu.mp ff)).map Fu.t)) [[.lit (.string (I r.name)),.sl (I (r.params.map strT)),.sl (I ((r.a.map (Sm.mp ff)).map Sm.t))]]=I (((p.fns.take (j+1)).map (Fu.mp ff)).map Fu.t):=by
    simp only[hI.e];cases hO;rw[zZ0 hh2,hr,List.map_append (f:=Fu.mp ff),List.map_singleton,<-mW1];rfl
   refine qB 0 ?_
   (repeat' first|refine qA 0 ?_|refine qJ (nN []) ?_|refine qp ?_ ?_|refine qk (fun h=>?_) fun h=>?_|fail)
   all_goals first | exact absurd hh2 (by assumption) | exact ⟨j+1,by (try simp only[A.reset,hI.e]);rfl,by omega,by omega⟩
  ·have e1:I (((p.fns.take j).map (Fu.mp ff)).map Fu.t)=I ((p.fns.map (Fu.mp ff)).map Fu.t):=by rw[List.take_of_length_le (by omega)]
   refine qB 0 ?_
   (repeat' first|refine qA 0 ?_|refine qJ (nN []) ?_|refine qp ?_ ?_|refine qk (fun h=>?_) fun h=>?_|fail)
   ·exact absurd (by assumption) hh2
   ·exact hR _ _ ⟨rfl,rfl⟩
variable {I:∀{α:Type},α->α}
theorem dA0 {p:Pg} (hg:p.good):(∀r∈p.rules,¬r.k=4->qH0 r.p)/\(∀r∈p.rules,r.k=4->r.p.good)/\(∀r∈p.rules,∀x∈r.a,x.ok)/\∀f∈p.fns,∀x∈f.a,x.ok:=by
 obtain ⟨h1,h2,_,_⟩:=hg;refine ⟨fun r hr hk=>?_,fun r hr hk=>?_,fun r hr x hx=>?_,fun f hf x hx=>?_⟩
 ·rcases h1 r hr with q | q
  ·exact q.2.1
  ·exact absurd q.1 hk
 ·rcases h1 r hr with q | q
  ·omega
  ·exact q.2.1
 ·rcases h1 r hr with q | q
  ·exact (q.2.2.1 x hx).1
  ·exact (q.2.2.1 x hx).1
 ·obtain ⟨i,hi,rfl⟩:=List.mem_iff_getElem.1 hf
  have q:=h2 i _ (List.getElem?_eq_getElem hi);exact (q.2.2.2.1 x hx).1
theorem Sm.ok.inv {e:Sm} (h:e.ok):(∀x∈e.x,x.good)/\(∀y∈e.a,y.ok)/\∀y∈e.b,y.ok:=by
 cases e with
 | mk k s t x a b=>exact ⟨(smok_iff.1 h).1.1,fun y hy=>(smok_iff.1 h).2 y (List.mem_append_left _ hy),fun y hy=>(smok_iff.1 h).2 y (List.mem_append_right _ hy)⟩
theorem GZ0 {e:Ex} (h:e.good):e.fold=e.fd:=by rw[Ex.fold,if_pos h]
theorem rC0 (hI:II @I) (e:Ex) (h:e.good):FbE @I 28 Ex.fold e:=by
 have:=XM0 hI e h.1
 show ACl Tryz.prog 28 [eA @I e] [] (fun res bx=>res=eA @I e.fold/\bx=[])
 rw[GZ0 h];exact this
theorem fU0 (hI:II @I):∀l:List Sm,l.length<=1048576->(∀x∈l,x.sz<=1048576)->(∀x∈l,x.ok)->FbS @I 39 Ex.fold l:=by
 have key:∀e:Sm,e.sz<=1048576->e.ok->FbS @I 39 Ex.fold e.a/\FbS @I 39 Ex.fold e.b:=by
  refine Sm.ind fun e ih hz hok=>?_;obtain ⟨h1,h2,h3⟩:=Sm.sz_inv hz;obtain ⟨g1,g2,g3⟩:=hok.inv;have k1:=fun x hx=>ih x (List.mem_append_left _ hx) (h2.2 x hx) (g2 x hx);have k2:=fun x hx=>ih x (List.mem_append_right _ hx) (h3.2 x hx) (g3 x hx);exact ⟨uP0 hI Ex.fold e.a h2.1 (fun x hx e' he=>rC0 hI e' ((g2 x hx).inv.1 e' he)) (fun x hx=>(Sm.sz_inv (h2.2 x hx)).1.1) (fun x hx=>(k1 x hx).1) (fun x hx=>(k1 x hx).2),
   uP0 hI Ex.fold e.b h3.1 (fun x hx e' he=>rC0 hI e' ((g3 x hx).inv.1 e' he)) (fun x hx=>(Sm.sz_inv (h3.2 x hx)).1.1) (fun x hx=>(k2 x hx).1) (fun x hx=>(k2 x hx).2)⟩
 exact fun l hl hz hok=>uP0 hI Ex.fold l hl (fun x hx e' he=>rC0 hI e' ((hok x hx).inv.1 e' he)) (fun x hx=>(Sm.sz_inv (hz x hx)).1.1) (fun x hx=>(key x (hz x hx) (hok x hx)).1) (fun x hx=>(key x (hz x hx) (hok x hx)).2)
theorem rD0 (hI:II @I) (e:Ex) (h:e.sz<=1048576):FbE @I 27 (fun e=>e) e:=XN0 hI e h
theorem rM0 (hI:II @I):∀l:List Sm,l.length<=1048576->(∀x∈l,x.sz<=1048576)->CbS @I l:=by
 have key:∀e:Sm,e.sz<=1048576->CbS @I e.a/\CbS @I e.b:=by
  refine Sm.ind fun e ih hz=>?_;obtain ⟨h1,h2,h3⟩:=Sm.sz_inv hz;have k1:=fun x hx=>ih x (List.mem_append_left _ hx) (h2.2 x hx);have k2:=fun x hx=>ih x (List.mem_append_right _ hx) (h3.2 x hx);exact ⟨wK0 hI e.a h2.1 (fun x hx e' he=>rD0 hI e' ((Sm.sz_inv (h2.2 x hx)).1.2 e' he)) (fun x hx=>(Sm.sz_inv (h2.2 x hx)).1.1) (fun x hx=>(k1 x hx).1) (fun x hx=>(k1 x hx).2),
   wK0 hI e.b h3.1 (fun x hx e' he=>rD0 hI e' ((Sm.sz_inv (h3.2 x hx)).1.2 e' he)) (fun x hx=>(Sm.sz_inv (h3.2 x hx)).1.1) (fun x hx=>(k2 x hx).1) (fun x hx=>(k2 x hx).2)⟩
 exact fun l hl hz=>wK0 hI l hl (fun x hx e' he=>rD0 hI e' ((Sm.sz_inv (hz x hx)).1.2 e' he)) (fun x hx=>(Sm.sz_inv (hz x hx)).1.1) (fun x hx=>(key x (hz x hx)).1) (fun x hx=>(key x (hz x hx)).2)
theorem xG1 (hI:II @I) (p:Pg) (hz:p.sz<=1048576):ACl Tryz.prog 38 [pA @I p] [] (fun res bx=>res=pA @I p/\bx=[]):=by
 obtain ⟨⟨h1,h2⟩,h3,h4⟩:=Pg.sz_inv hz;exact TE0 hI p h1 h3 (fun f hf=>(Fu.sz_inv (h4 f hf)).1) (fun r hr=>rD0 hI r.p (Ru.sz_inv (h2 r hr)).1)
  (fun r hr=>by have:=(Ru.sz_inv (h2 r hr)).2;exact rM0 hI r.a (by omega) fun x hx=>by have:=Sm.szs_mem hx;omega)
  (fun f hf=>by have:=(Fu.sz_inv (h4 f hf)).2;exact rM0 hI f.a (by omega) fun x hx=>by have:=Sm.szs_mem hx;omega)
theorem nA1 (hI:II @I) (p:Pg):agT p.t=pA @I p:=by rw[HF0];simp only[pA,hI.e]
theorem GY0 {p:Pg} (h:p.good):p.fold=Pg.mp Ex.fold p:=by rw[Pg.fold,if_pos h]
theorem QR0 {p:Pg} (h:¬p.good):p.fold=p:=by rw[Pg.fold,if_neg h]
theorem TP0 (hI:II @I) (p:Pg) (hz:p.sz<=1048576):ACl Tryz.prog 14 [pA @I p] [] (fun res bx=>res=pA @I p.fold/\bx=[]):=by
 have c0:=pN0 p hz;rw[nA1 hI] at c0;obtain ⟨⟨h1,h2⟩,h3,h4⟩:=Pg.sz_inv hz
 by_cases hg:p.good
 ·have c1:=mJ1 c0 hg
  obtain ⟨g1,g2,g3,g4⟩:=dA0 hg;rw[GY0 hg];exact mX0 hI Ex.fold p c1 h1 h3 (fun f hf=>(Fu.sz_inv (h4 f hf)).1) g1 (fun r hr hk=>rC0 hI r.p (g2 r hr hk))
   (fun r hr=>by have:=(Ru.sz_inv (h2 r hr)).2;exact fU0 hI r.a (by omega) (fun x hx=>by have:=Sm.szs_mem hx;omega) (g3 r hr))
   (fun f hf=>by have:=(Fu.sz_inv (h4 f hf)).2;exact fU0 hI f.a (by omega) (fun x hx=>by have:=Sm.szs_mem hx;omega) (g4 f hf))
 ·have c1:=mK1 c0 hg
  have c2:=xG1 hI p hz;rw[QR0 hg];clear c0;refine qN hI tyK Tryz.func14 90 [.cell 2 32] ?_;unhygienic intros
  refine qB 0 ?_
  repeat' first|refine qA 0 ?_|refine qJ (nN []) ?_|refine qp ?_ ?_|refine qk (fun h=>?_) fun h=>?_|fail
  exact hR _ _ ⟨rfl,rfl⟩
theorem GU0 {α:Type} {f g:α->List T} (h:∀x,gzC (f x) (g x)):∀l:List α,fzE (l.map f) (l.map g)
 | []=>trivial
 | a::l=>⟨h a,GU0 h l⟩
theorem fz_ru (r:Ru):gzC r.o r.z:=by
 rw[Ru.o_eq,Ru.z];refine ⟨.inl rfl,.inl rfl,.inl rfl,.inl rfl,?_,.inr ?_,trivial⟩
 ·split
  ·exact .inr (by rw[T.er,Ex.map_erR])
  ·exact .inl rfl
 ·rw[T.er,Sm.map_erR]
theorem fz_fu (f:Fu):gzC f.o f.z:=⟨.inl rfl,.inl rfl,.inr (by rw[T.er,Sm.map_erR]),trivial⟩
theorem TQ0 (hI:II @I) (p:Pg) (hz:p.sz<=1048576):ACl Tryz.prog 13 [pA @I p] [] (fun res bx=>res=pO @I p.fold/\bx=[]):=by
 have c0:=ZW0 p hz;rw[nA1 hI] at c0;obtain ⟨⟨h1,h2⟩,h3,h4⟩:=Pg.sz_inv hz;have c3:=MC0 hI p hz
 by_cases hg:p.good
 ·have c1:=mJ1 c0 hg
  obtain ⟨g1,g2,g3,g4⟩:=dA0 hg;rw[GY0 hg];have c4:=mX1 (cs:=[.ow (0,0) true 6 (I (p.rules.map Ru.o)),.ow (0,0) true 3 (I (p.fns.map Fu.o))]) (ds:=[.ow (0,0) true 6 (I (p.rules.map Ru.z)),.ow (0,0) true 3 (I (p.fns.map Fu.z))])
   ⟨⟨_,by simp only[hI.e];exact GU0 fz_ru _,rfl⟩,⟨_,by simp only[hI.e];exact GU0 fz_fu _,rfl⟩,trivial⟩ c3
  exact mY0 hI Ex.fold p c4 c1 h1 h3 (fun f hf=>(Fu.sz_inv (h4 f hf)).1) g1 (fun r hr _=>vL0 hI r.p (Ru.sz_inv (h2 r hr)).1)
   (fun r hr=>by have:=(Ru.sz_inv (h2 r hr)).2;exact jY0 hI r.a (by omega) (fun x hx=>by have:=Sm.szs_mem hx;omega))
   (fun f hf=>by have:=(Fu.sz_inv (h4 f hf)).2;exact jY0 hI f.a (by omega) (fun x hx=>by have:=Sm.szs_mem hx;omega))
 ·have c1:=mK1 c0 hg
  rw[QR0 hg];clear c0;refine qN hI tyK Tryz.func13 60 [.cell 2 32] ?_;unhygienic intros
  refine qB 0 ?_
  repeat' first|refine qA 0 ?_|refine qJ (nN []) ?_|refine qp ?_ ?_|refine qk (fun h=>?_) fun h=>?_|fail
  all_goals exact hR _ _ ⟨rfl,rfl⟩
end Go.Gv
