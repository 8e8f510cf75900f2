/- Part Q6 of the proof: contracts of functions of the program, each walked once. -/
import Derived.Test.YtfobhlmjcnkpiaaGreatDoorQ4
import Derived.Test.YtfobhlmjcnkpiaaGreatDoorN1
import Derived.Test.YtfobhlmjcnkpiaaGreatDoorQ5
import Derived.Test.YtfobhlmjcnkpiaaGreatDoorQ1
import Derived.Test.YtfobhlmjcnkpiaaGreatDoorR1
import Derived.Test.YtfobhlmjcnkpiaaGreatDoorN5
import Derived.Test.YtfobhlmjcnkpiaaGreatDoorD9
set_option linter.all false
namespace Go.Gv
open Go.Av Go.Proofs
set_option maxRecDepth 10000
set_option maxHeartbeats 8000000
variable {I:∀{α:Type},α->α}
theorem nT0 {k n:Int} {s:ByteArray} {N:Nat} (h:vR0 k n s N):s.size<=200/\N<=4:=by
 obtain ⟨_,h⟩:=h;have hw:∀{s:ByteArray},xU0 s->s.size<=200:=fun h=>by have:=h.1.2.2;omega
 have he:(ofL []:ByteArray).size<=200:=by decide
 have ho:∀{s:ByteArray},s∈operS->s.size<=200:=fun h=>by
  simp only[operS,List.mem_cons,List.not_mem_nil,or_false] at h;rcases h with rfl | rfl | rfl | rfl | rfl | rfl | rfl | rfl | rfl | rfl | rfl | rfl | rfl | rfl<;>decide
 rcases h with h | h | h | h | h | h | h | h | h | h | h | h | h | h | h | h | h | h
 ·exact ⟨h.2.2.2.1 ▸ he,by omega⟩
 ·exact ⟨h.2.1.2,by omega⟩
 ·exact ⟨hw h.2.1,by omega⟩
 ·exact ⟨hw h.2.1,by omega⟩
 ·exact ⟨h.2.1 ▸ he,by omega⟩
 ·exact ⟨ho h.2.1,by omega⟩
 ·exact ⟨h.2.1 ▸ he,by omega⟩
 ·exact ⟨h.2.1 ▸ he,by omega⟩
 ·exact ⟨hw h.2.1,by omega⟩
 ·exact ⟨h.2.1.2,by omega⟩
 ·exact ⟨hw h.2.1,by omega⟩
 ·exact ⟨h.2.1 ▸ he,by omega⟩
 ·exact ⟨h.2.1 ▸ he,by omega⟩
 ·exact ⟨h.2.1 ▸ he,by omega⟩
 ·exact ⟨h.2.1 ▸ he,by omega⟩
 ·exact ⟨h.2.1 ▸ he,by omega⟩
 ·exact ⟨h.2.1 ▸ he,by omega⟩
 ·exact ⟨h.2.1.2,by omega⟩
theorem opN_n (s:ByteArray) (x y:Int):(opN s x y).n<=2147483647:=by
 have hb:∀b,b2i b<=2147483647:=fun b=>by cases b<;>decide
 have h4:(0:Int)<=2147483647:=by decide
 unfold opN
 repeat' split
 all_goals first | exact hb _ | exact (pG1 _).2 | exact h4
theorem opN_s (s:ByteArray) {x y:Int} (hx:0<=x/\x<=2147483647) (hy:0<=y/\y<=2147483647):(opN s x y).s.size<=42:=by
 have hz:(⟨⟨[]⟩⟩:ByteArray).size<=42:=by decide
 have h1:=xE0 x (by omega)
 have h2:=xE0 y (by omega)
 have h3:(numT x++numT y).size=(numT x).size+(numT y).size:=ByteArray.size_append;unfold opN
 repeat' split
 all_goals first | exact hz|(show (numT x++numT y).size<=42;omega)
theorem KT0 (s:ByteArray) {x y:Int} (hx:0<=x/\x<=2147483647) (hy:0<=y/\y<=2147483647):(valN s x y).n<=2147483647/\(valN s x y).s.size<=42:=by
 have hb:∀b,b2i b<=2147483647:=fun b=>by cases b<;>decide
 have hz:(⟨⟨[]⟩⟩:ByteArray).size<=42:=by decide
 by_cases h1:s=⟨⟨[38,38]⟩⟩
 ·rw[valN,if_pos h1];exact ⟨hb _,hz⟩
 by_cases h2:s=⟨⟨[124,124]⟩⟩
 ·rw[valN,if_neg h1,if_pos h2];exact ⟨hb _,hz⟩
 rw[valN,if_neg h1,if_neg h2];exact ⟨opN_n s x y,opN_s s hx hy⟩
theorem FG0 {e:Ex} (h:FdIn e) (hz:∀x∈e.l,x.s.size<=200):fd1 e=e\/(∃n:Int,0<=n/\n<=2147483647/\fd1 e=.mk 1 n ⟨⟨[]⟩⟩ [])\/∃s:ByteArray,s.size<=42/\fd1 e=.mk 2 0 s []:=by
 by_cases h6:e.k=6
 ·have h2:=h.l2 h6
  have hr0:=h.r _ (zD0 (l:=e.l) (i:=0) (by omega))
  have hr1:=h.r _ (zD0 (l:=e.l) (i:=1) (by omega))
  rw[xN1 h6,binF]
  split
  ·rename_i q
   have hv:=KT0 e.s (hr0 q.1) (hr1 q.2.1);rw[nE]
   split
   ·rename_i q1;exact .inr (.inl ⟨_,q1.2,hv.1,rfl⟩)
   ·split
    ·exact .inr (.inr ⟨_,hv.2,rfl⟩)
    ·exact .inl rfl
  ·exact .inl rfl
 by_cases hk:e.k=7\/e.k=12
 ·have h1:=h.l1 hk
  have hr:=h.r _ (zD0 (l:=e.l) (i:=0) (by omega))
  have hs:=hz _ (zD0 (l:=e.l) (i:=0) (by omega))
  by_cases h7:e.k=7
  ·by_cases hx:e.l[0]!.k=1
   ·rw[xM1 h7 hx];exact .inr (.inl ⟨_,nY0 _,by generalize bB _=b;cases b<;>decide,rfl⟩)
   ·exact .inl (nU0 h6 (fun _=>hx) (fun q=>by omega))
  ·have h12:e.k=12:=by omega
   by_cases hx:e.l[0]!.k=1
   ·rw[xL1 h12 hx]
    have:=xE0 e.l[0]!.n (by have:=hr hx;omega)
    exact .inr (.inl ⟨_,Int.natCast_nonneg _,by (try simp only[Int.ofNat_eq_natCast]);omega,rfl⟩)
   by_cases hx2:e.l[0]!.k=2
   ·rw[xK1 h12 hx2]
    exact .inr (.inl ⟨_,Int.natCast_nonneg _,by (try simp only[Int.ofNat_eq_natCast]);omega,rfl⟩)
   ·exact .inl (nU0 h6 (fun q=>absurd q h7) (fun _ q=>q.elim hx hx2))
 ·exact .inl (nU0 h6 (fun q=>absurd (.inl q) hk) (fun q=>absurd (.inr q) hk))
theorem Ex.indQ {p:Ex->Prop} (h:∀e,(∀x∈e.l,p x)->p e):∀e,p e:=by
 have key:∀n e,Ex.parts e<=n->p e:=by
  intro n
  induction n with
  | zero=>intro e he;have:=Ex.parts_pos e;omega
  | succ n ih=>
   intro e he;refine h e fun x hx=>ih x ?_;cases e with
   | mk k m s l=>
    obtain ⟨a,b,rfl⟩:=List.append_of_mem (show x∈l from hx)
    rw[Ex.parts,Ex.partss_app,Ex.partss] at he;omega
 exact fun e=>key _ e (Nat.le_refl _)
theorem Ex.sz_eq (e:Ex):e.sz=e.s.size+e.l.length+Ex.szs e.l:=by cases e;rw[Ex.sz];rfl
theorem Ex.parts_eq (e:Ex):e.parts=1+Ex.partss e.l:=by cases e;rw[Ex.parts];rfl
theorem vF1 {f:Ex->Ex}:∀l:List Ex,(∀x∈l,(f x).sz<=204 * x.parts)->Ex.szs (l.map f)<=204 * Ex.partss l
 | [],_=>by simp[Ex.szs]
 | a::l,h=>by
  have h1:=h a (by simp)
  have h2:=vF1 l (fun x hx=>h x (by simp[hx]))
  rw[List.map_cons,Ex.szs,Ex.partss];omega
theorem FE0 {e:Ex} (h:vR0 e.k e.n e.s e.l.length) (ih:∀x∈e.l,InR x.fd/\x.fd.s.size<=200):FdIn (e.with (e.l.map Ex.fd)):=by
 have hl:(e.with (e.l.map Ex.fd)).l=e.l.map Ex.fd:=rfl;refine ⟨fun q=>?_,fun q=>?_,fun x hx=>?_,fun x hx=>?_⟩
 ·have q:e.k=6:=q
  obtain ⟨_,h⟩:=h;rw[hl,List.length_map];omega
 ·have q:e.k=7\/e.k=12:=q
  obtain ⟨_,h⟩:=h;rw[hl,List.length_map];omega
 ·obtain ⟨y,hy,rfl⟩:=List.mem_map.1 hx
  exact (ih y hy).1
 ·obtain ⟨y,hy,rfl⟩:=List.mem_map.1 hx
  have:=(ih y hy).2;omega
theorem bW0:∀e:Ex,e.ok->InR e.fd/\e.fd.s.size<=200/\e.fd.sz<=204 * e.parts:=by
 refine Ex.indQ fun e ih hok=>?_;obtain ⟨hh,hc⟩:=(Ex.ok_eq e).1 hok;have ih':=fun x hx=>ih x hx (hc x hx);have hin:=FE0 hh fun x hx=>⟨(ih' x hx).1,(ih' x hx).2.1⟩;have hsm:=nT0 hh;have hp:=Ex.parts_eq e;have hsz:=vF1 (f:=Ex.fd) e.l fun x hx=>(ih' x hx).2.2;rw[Ex.fd_eq];rcases FG0 hin (fun x hx=>by obtain ⟨y,hy,rfl⟩:=List.mem_map.1 hx;exact (ih' y hy).2.1) with q | ⟨n,h1,h2,q⟩ | ⟨s,h1,q⟩
 ·rw[q]
  refine ⟨fun hk=>?_,hsm.1,?_⟩
  ·have hk:e.k=1:=hk
   obtain ⟨_,h⟩:=hh
   show 0<=e.n/\e.n<=2147483647
   omega
  ·rw[Ex.sz_eq]
   show e.s.size+(e.l.map Ex.fd).length+Ex.szs (e.l.map Ex.fd)<=_
   rw[List.length_map];omega
 ·rw[q];exact ⟨fun _=>⟨h1,h2⟩,(by decide:(⟨⟨[]⟩⟩:ByteArray).size<=200),by rw[Ex.sz_eq];simp[Ex.s,Ex.l,Ex.szs,ByteArray.size]⟩
 ·rw[q];refine ⟨fun hk=>by simp[Ex.k] at hk,by show s.size<=200;omega,?_⟩
  rw[Ex.sz_eq];simp only[Ex.s,Ex.l,Ex.szs,List.length_nil];omega
theorem Ex.ok.ok_l {e:Ex} (h:e.ok):∀x∈e.l,x.ok:=((Ex.ok_eq e).1 h).2
theorem fdIn {e:Ex} (h:e.ok):FdIn (e.with (e.l.map Ex.fd)):=FE0 ((Ex.ok_eq e).1 h).1 fun x hx=>⟨(bW0 x (h.ok_l x hx)).1,(bW0 x (h.ok_l x hx)).2.1⟩
open Classical in
noncomputable def Ex.fold (e:Ex):Ex:=if e.good then e.fd else e
theorem bV0 {e:Ex} (h:e.sz<=1048576):e.fold.sz<=1048576:=by
 unfold Ex.fold
 split
 ·rename_i q;have:=(bW0 e q.1).2.2;have:=q.2.1;omega
 ·exact h
theorem XN0 (hI:II @I):∀e:Ex,e.sz<=1048576->ACl Tryz.prog 27 [eA @I e] [] (fun res bx=>res=eA @I e/\bx=[]):=by
 refine Ex.indQ fun e ih hz=>?_;have h:=Ex.sz3 hz;exact WT0 hI e h.2.1 fun x hx=>ih x hx (h.2.2 x hx)
theorem nP0 (hI:II @I):∀e:Ex,e.sz<=1048576->ACl Tryz.prog 21 [eA @I e] [] (fun res bx=>res=eO @I e/\bx=[]):=by
 refine Ex.indQ fun e ih hz=>?_;have h:=Ex.sz3 hz;exact ZP0 hI e (rQ0 hI e.l h.2.1 fun x hx=>ih x hx (h.2.2 x hx))
theorem XM0 (hI:II @I):∀e:Ex,e.ok->ACl Tryz.prog 28 [eA @I e] [] (fun res bx=>res=eA @I e.fd/\bx=[]):=by
 refine Ex.indQ fun e ih hok=>?_;exact WR0 hI e (by have:=(nT0 ((Ex.ok_eq e).1 hok).1).2;omega) (fdIn hok) fun x hx=>ih x hx (hok.ok_l x hx)
theorem TR0 (hI:II @I) (e:Ex) (hz:e.sz<=1048576):ACl Tryz.prog 10 [eA @I e] [] (fun res bx=>res=eA @I e.fold/\bx=[]):=by
 have c1:=gA0 hI e hz;have c2:=XN0 hI e hz;have c3:=XM0 hI e
 by_cases hg:e.good
 ·have c3:=c3 hg.1
  have e1:e.fold=e.fd:=by rw[Ex.fold,if_pos hg]
  rw[e1];refine qN hI tyK Tryz.func10 10 [.cell 2 26] ?_;unhygienic intros
  refine qB 0 ?_
  repeat' first|refine qA 0 ?_|refine qJ (nN []) ?_|refine qp ?_ ?_|refine qk (fun h=>?_) fun h=>?_|fail
  ·exact absurd hg h
  ·exact hR _ _ ⟨rfl,rfl⟩
 ·have e1:e.fold=e:=by rw[Ex.fold,if_neg hg]
  rw[e1];clear c3;refine qN hI tyK Tryz.func10 10 [.cell 2 26] ?_;unhygienic intros
  refine qB 0 ?_
  repeat' first|refine qA 0 ?_|refine qJ (nN []) ?_|refine qp ?_ ?_|refine qk (fun h=>?_) fun h=>?_|fail
  ·exact hR _ _ ⟨rfl,rfl⟩
  ·exact absurd hg h
variable {I:∀{α:Type},α->α}
theorem wE1 (hI:II @I) (e:Ex) (hl:e.l.length<=1048576) (hf:FdIn e):ACl Tryz.prog 52 [eO @I e] [] (fun res bx=>res=eO @I (fd1 e)/\bx=[]):=by
 by_cases h6:e.k=6
 ·exact DJ0 hI e hl hf h6
 by_cases h7:e.k=7\/e.k=12
 ·exact DH0 hI e hl hf h7
 ·exact DK0 hI e hl hf h6 (fun q=>h7 (.inl q)) (fun q=>h7 (.inr q))
theorem GL0 (hI:II @I):∀e:Ex,e.ok->ACl Tryz.prog 22 [eA @I e] [] (fun res bx=>res=eO @I e.fd/\bx=[]):=by
 refine Ex.indQ fun e ih hok=>?_;have hl:=(nT0 ((Ex.ok_eq e).1 hok).1).2;exact WX0 hI e (by omega) (wE1 hI _ (by show (e.l.map Ex.fd).length<=_;rw[List.length_map];omega) (fdIn hok)) fun x hx=>ih x hx (hok.ok_l x hx)
theorem vL0 (hI:II @I) (e:Ex) (hz:e.sz<=1048576):ACl Tryz.prog 6 [eA @I e] [] (fun res bx=>res=eO @I e.fold/\bx=[]):=by
 have c1:=gB0 hI e hz;have c2:=nP0 hI e hz;have c3:=GL0 hI e
 by_cases hg:e.good
 ·have c3:=c3 hg.1
  have e1:e.fold=e.fd:=by rw[Ex.fold,if_pos hg]
  rw[e1];refine qN hI tyK Tryz.func6 10 [.cell 2 26] ?_;unhygienic intros
  refine qB 0 ?_
  repeat' first|refine qA 0 ?_|refine qJ (nN []) ?_|refine qp ?_ ?_|refine qk (fun h=>?_) fun h=>?_|fail
  ·exact absurd hg h
  ·exact hR _ _ ⟨rfl,rfl⟩
 ·have e1:e.fold=e:=by rw[Ex.fold,if_neg hg]
  rw[e1];clear c3;refine qN hI tyK Tryz.func6 10 [.cell 2 26] ?_;unhygienic intros
  refine qB 0 ?_
  repeat' first|refine qA 0 ?_|refine qJ (nN []) ?_|refine qp ?_ ?_|refine qk (fun h=>?_) fun h=>?_|fail
  ·exact hR _ _ ⟨rfl,rfl⟩
  ·exact absurd hg h
variable {I:∀{α:Type},α->α}
theorem UM0 (hI:II @I) (l:List Ex) (hl:l.length<=1048576) (h:∀e∈l,e.sz<=1048576):CpX @I l:=rQ0 hI l hl fun e he=>nP0 hI e (h e he)
theorem jZ0 (hI:II @I):∀l:List Sm,l.length<=1048576->(∀x∈l,x.sz<=1048576)->CpS @I l:=by
 have key:∀e:Sm,e.sz<=1048576->CpX @I e.x/\CpS @I e.a/\CpS @I e.b:=by
  refine Sm.ind fun e ih hz=>?_;obtain ⟨h1,h2,h3⟩:=Sm.sz_inv hz;have k1:=fun x hx=>ih x (List.mem_append_left _ hx) (h2.2 x hx);have k2:=fun x hx=>ih x (List.mem_append_right _ hx) (h3.2 x hx);exact ⟨UM0 hI e.x h1.1 h1.2,vW0 hI e.a h2.1 (fun x hx=>(k1 x hx).1) (fun x hx=>(k1 x hx).2.1) (fun x hx=>(k1 x hx).2.2),vW0 hI e.b h3.1 (fun x hx=>(k2 x hx).1) (fun x hx=>(k2 x hx).2.1) (fun x hx=>(k2 x hx).2.2)⟩
 exact fun l hl hz=>vW0 hI l hl (fun x hx=>(key x (hz x hx)).1) (fun x hx=>(key x (hz x hx)).2.1) (fun x hx=>(key x (hz x hx)).2.2)
theorem jY0 (hI:II @I):∀l:List Sm,l.length<=1048576->(∀x∈l,x.sz<=1048576)->FdS @I Ex.fold l:=by
 have key:∀e:Sm,e.sz<=1048576->FdS @I Ex.fold e.a/\FdS @I Ex.fold e.b:=by
  refine Sm.ind fun e ih hz=>?_;obtain ⟨h1,h2,h3⟩:=Sm.sz_inv hz;have k1:=fun x hx=>ih x (List.mem_append_left _ hx) (h2.2 x hx);have k2:=fun x hx=>ih x (List.mem_append_right _ hx) (h3.2 x hx);exact ⟨vV0 hI Ex.fold e.a h2.1 (fun x hx e' he=>vL0 hI e' ((Sm.sz_inv (h2.2 x hx)).1.2 e' he)) (fun x hx=>(Sm.sz_inv (h2.2 x hx)).1.1) (fun x hx=>(k1 x hx).1) (fun x hx=>(k1 x hx).2),
   vV0 hI Ex.fold e.b h3.1 (fun x hx e' he=>vL0 hI e' ((Sm.sz_inv (h3.2 x hx)).1.2 e' he)) (fun x hx=>(Sm.sz_inv (h3.2 x hx)).1.1) (fun x hx=>(k2 x hx).1) (fun x hx=>(k2 x hx).2)⟩
 exact fun l hl hz=>vV0 hI Ex.fold l hl (fun x hx e' he=>vL0 hI e' ((Sm.sz_inv (hz x hx)).1.2 e' he)) (fun x hx=>(Sm.sz_inv (hz x hx)).1.1) (fun x hx=>(key x (hz x hx)).1) (fun x hx=>(key x (hz x hx)).2)
theorem MC0 (hI:II @I) (p:Pg) (hz:p.sz<=1048576):ACl Tryz.prog 34 [pA @I p] [] (fun res bx=>res=pO @I p/\bx=[]):=by
 obtain ⟨⟨h1,h2⟩,h3,h4⟩:=Pg.sz_inv hz;exact ZN0 hI p h1 h3 (fun f hf=>(Fu.sz_inv (h4 f hf)).1) (fun r hr=>nP0 hI r.p (Ru.sz_inv (h2 r hr)).1)
  (fun r hr=>by have:=(Ru.sz_inv (h2 r hr)).2;exact jZ0 hI r.a (by omega) fun x hx=>by have:=Sm.szs_mem hx;omega)
  (fun f hf=>by have:=(Fu.sz_inv (h4 f hf)).2;exact jZ0 hI f.a (by omega) fun x hx=>by have:=Sm.szs_mem hx;omega)
mutual
theorem Sm.o_erR:∀e:Sm,erC e.o=e.t
 | .mk k s t x a b=>by rw[Sm.o.eq_1,Sm.t.eq_1];simp only[erC,T.er,Ex.map_erR];rw[Sm.os_erR a,Sm.os_erR b]
theorem Sm.os_erR:∀l:List Sm,erE (Sm.os l)=Sm.ts l
 | []=>rfl
 | e::l=>by rw[Sm.os.eq_2,Sm.ts.eq_2,erE,Sm.o_erR e,Sm.os_erR l]
end
theorem Sm.map_erR (l:List Sm):erE (l.map Sm.o)=l.map Sm.t:=by rw[<-Sm.os_map,Sm.os_erR,Sm.ts_map]
open Classical in
noncomputable def Pg.fold (p:Pg):Pg:=if p.good then Pg.mp Ex.fold p else p
variable {I:∀{α:Type},α->α}
theorem Sm.bd_mp (ff:Ex->Ex) (hff:∀e:Ex,e.sz<=1048576->(ff e).sz<=1048576):∀e:Sm,e.Bd->(Sm.mp ff e).Bd:=by
 refine Sm.ind fun e ih h=>?_;obtain ⟨h1,h2,h3⟩:=h.inv;rw[Sm.mp_eq];refine .mk (by rw[List.length_map];exact h1.1) (fun x hx=>?_) (by rw[List.length_map];exact h2.1) (by rw[List.length_map];exact h3.1) (fun y hy=>?_)
 ·obtain ⟨z,hz,rfl⟩:=List.mem_map.1 hx;exact hff z (h1.2 z hz)
 ·rcases List.mem_append.1 hy with hy | hy
  ·obtain ⟨z,hz,rfl⟩:=List.mem_map.1 hy;exact ih z (List.mem_append_left _ hz) (h2.2 z hz)
  ·obtain ⟨z,hz,rfl⟩:=List.mem_map.1 hy;exact ih z (List.mem_append_right _ hz) (h3.2 z hz)
theorem Pg.fold_bd {p:Pg} (hz:p.sz<=1048576):p.fold.Bd:=by
 have h:=Pg.bd_of hz;unfold Pg.fold
 split
 ·refine ⟨by show (p.rules.map (Ru.mp Ex.fold)).length<=_;rw[List.length_map];exact h.r,fun r hr=>?_,by show (p.fns.map (Fu.mp Ex.fold)).length<=_;rw[List.length_map];exact h.f,fun f hf=>?_⟩
  ·obtain ⟨x,hx,rfl⟩:=List.mem_map.1 (show r∈p.rules.map (Ru.mp Ex.fold) from hr)
   have q:=h.r' x hx;refine ⟨?_,by show (x.a.map _).length<=_;rw[List.length_map];exact q.l,fun y hy=>?_⟩
   ·show (Ru.mp Ex.fold x).p.sz<=_
    unfold Ru.mp
    dsimp only
    split
    ·exact bV0 q.p
    ·exact q.p
   ·obtain ⟨z,hz,rfl⟩:=List.mem_map.1 (show y∈x.a.map (Sm.mp Ex.fold) from hy)
    exact Sm.bd_mp _ (fun _=>bV0) z (q.a z hz)
  ·obtain ⟨x,hx,rfl⟩:=List.mem_map.1 (show f∈p.fns.map (Fu.mp Ex.fold) from hf)
   have q:=h.f' x hx;refine ⟨q.p,by show (x.a.map _).length<=_;rw[List.length_map];exact q.l,fun y hy=>?_⟩
   obtain ⟨z,hz,rfl⟩:=List.mem_map.1 (show y∈x.a.map (Sm.mp Ex.fold) from hy)
   exact Sm.bd_mp _ (fun _=>bV0) z (q.a z hz)
 ·exact h
variable {I:∀{α:Type},α->α}
open Classical in
noncomputable def Ru.z (r:Ru):List T:=[.lit (.int .i64 r.k),.lit (.int .i64 r.p.k),.lit (.int .i64 r.p.n),.lit (.string r.p.s),if r.k=4 then .sl (r.p.l.map Ex.t) else .own (r.p.l.map Ex.o),.sl (r.a.map Sm.t)]
def Fu.z (f:Fu):List T:=[.lit (.string f.name),.own (f.params.map strT),.sl (f.a.map Sm.t)]
def mixP {α:Type} (f g:α->List T) (l:List α) (i:Nat):List (List T):=(l.take i).map f++(l.drop i).map g
section
variable {α:Type} [Inhabited α] (f g:α->List T)
theorem RZ0 {l:List α} {i:Nat} (h:l.length<=i):mixP f g l i=l.map f:=by rw[mixP,List.take_of_length_le h,List.drop_of_length_le h];simp
theorem RY0 (l:List α) (i:Nat):(mixP f g l i).length=l.length:=by simp[mixP];omega
theorem HT0 {l:List α} {i:Nat} (h:i < l.length):(mixP f g l i).getD i []=g l[i]!:=by
 have h1:((l.take i).map f).length=i:=by simp;omega
 rw[List.getD_eq_getElem?_getD,mixP,List.getElem?_append_right (by omega),h1,Nat.sub_self,List.getElem?_map,List.getElem?_drop,Nat.add_zero,List.getElem?_eq_getElem h]
 simp[h]
theorem RX0 {l:List α} {i:Nat} (h:i < l.length) (z:List T) (hz:z=f l[i]!):(mixP f g l i).set i z=mixP f g l (i+1):=by
 have h1:((l.take i).map f).length=i:=by simp;omega
 rw[hz,mixP,mixP,zZ0 h,List.set_append,if_neg (by omega),h1,Nat.sub_self,mV1 h,List.map_cons,List.set_cons_zero,List.map_append,List.append_assoc]
 rfl
end
def LsQ:Prop:=(∀(n:Nat) (a:T) (l:List T),List.take (n+1) (a::l)=a::List.take n l)/\(∀l:List T,List.take 0 l=[])/\(∀(n:Nat) (a:T) (l:List T),List.drop (n+1) (a::l)=List.drop n l)/\(∀l:List T,List.drop 0 l=l)/\(∀(a:T) (l m:List T),List.append (a::l) m=a::List.append l m)/\(∀m:List T,List.append [] m=m)
theorem lsQ:LsQ:=⟨fun _ _ _=>rfl,fun _=>rfl,fun _ _ _=>rfl,fun _=>rfl,fun _ _ _=>rfl,fun _=>rfl⟩
noncomputable def Ru.f (ff:Ex->Ex) (r:Ru):List T:=(Ru.mp ff r).o
noncomputable def Fu.f (ff:Ex->Ex) (r:Fu):List T:=(Fu.mp ff r).o
theorem mY0 (hI:II @I) (ff:Ex->Ex) (p:Pg) (c1:ACl Tryz.prog 34 [pA @I p] [] (fun res bx=>res=⟨.agg,[.ow (0,0) true 6 (I (p.rules.map Ru.z)),.ow (0,0) true 3 (I (p.fns.map Fu.z))]⟩/\bx=[])) (c2:ACl Tryz.prog 35 [pA @I p] [] (fun res bx=>res=litB true/\bx=[])) (h1:p.rules.length<=1048576) (h2:p.fns.length<=1048576) (h3:∀f∈p.fns,f.params.length<=1048576) (hz:∀r∈p.rules,¬r.k=4->qH0 r.p) (ih1:∀r∈p.rules,r.k=4->FdE @I 6 ff r.p) (ih2:∀r∈p.rules,FdS @I ff r.a) (ih3:∀f∈p.fns,FdS @I ff f.a):ACl Tryz.prog 13 [pA @I p] [] (fun res bx=>res=pO @I (Pg.mp ff p)/\bx=[]):=by
 refine qN hI tyK Tryz.func13 60 [.cell 2 32] ?_;unhygienic intros
 refine qB 0 ?_
 repeat' first|refine qA 0 ?_|refine qJ (nN []) ?_|refine qp ?_ ?_|refine qk (fun h=>?_) fun h=>?_|fail
 clear c1 c2;refine qLs 3 [1,2,3,16,17] kk0 15 (fun i:Nat=>⟨vag 60 [(1,⟨.one,[.ptr 0 0]⟩),(2,⟨.one,[.ptr 1 0]⟩),(3,⟨.one,[.ptr 2 0]⟩),(15,⟨.one,[.sref (.box 2) 0 (0,0) 0 (I p.rules.length)]⟩),(16,litI (Int.ofNat (I p.rules.length))),(17,litI (Int.ofNat (I i)))],[some (pA @I p).cs,some [.nil,.nil],some [.ow (0,0) true 6 (I (mixP (Ru.f ff) Ru.z p.rules i)),.ow (0,0) true 3 (I (p.fns.map Fu.z))]],2⟩) (fun i=>i<=p.rules.length) (fun i=>p.rules.length - i) ?_ fun i hi=>?_
 ·cbv
  exact ⟨0,by simp only[hI.e];rfl,by omega⟩
 by_cases hh:i < p.rules.length
 ·have cf:=ih1 _ (zD0 hh)
  have c2:=ih2 _ (zD0 hh);have hzr:=hz _ (zD0 hh);have hm:=HT0 (Ru.f ff) Ru.z hh;have hs:=fun z=>RX0 (Ru.f ff) Ru.z hh z;have hl:=RY0 (Ru.f ff) Ru.z p.rules i;generalize hr:p.rules[i]! = r at *;generalize mixP (Ru.f ff) Ru.z p.rules i=E at *;have hix:idx (Int.ofNat (nadd 0 (nat (Int.ofNat (I i))))) (I p.rules.length):=F.n15 i _ hh
  by_cases h4:r.k=4
  ·have c1:=cf h4
   obtain ⟨E',hE'⟩:∃E',E'=E.set i [.lit (.int .i64 r.k),.lit (.int .i64 r.p.k),.lit (.int .i64 r.p.n),.lit (.string r.p.s),.sl (r.p.l.map Ex.t),.own ((r.a.map (Sm.mp ff)).map Sm.o)]:=⟨_,rfl⟩;have e1:len (I E)=I p.rules.length/\len (I E')=I p.rules.length:=by
    simp only[hI.e];cases hO;exact ⟨hl,by show E'.length=_;rw[hE',List.length_set];exact hl⟩
   have e2:get (I E) (nadd 0 (nat (Int.ofNat (I i))))=[.lit (.int .i64 (I r.k)),.lit (.int .i64 (I r.p.k)),.lit (.int .i64 (I r.p.n)),.lit (.string (I r.p.s)),.sl (I (r.p.l.map Ex.t)),.sl (I (r.a.map Sm.t))]/\get (I E') (nadd 0 (nat (Int.ofNat (I i))))=[.lit (.int .i64 (I r.k)),.lit (.int .i64 (I r.p.k)),.lit (.int .i64 (I r.p.n)),.lit (.string (I r.p.s)),.sl (I (r.p.l.map Ex.t)),.own (I ((r.a.map (Sm.mp ff)).map Sm.o))]:=by
    simp only[hI.e];cases hO;have ei:(0+(Int.ofNat i).toNat)=i:=by simp
    refine ⟨?_,?_⟩
    ·show E.getD (0+(Int.ofNat i).toNat) []=_
     rw[ei,hm,Ru.z,if_pos h4]
    ·show E'.getD (0+(Int.ofNat i).toNat) []=_
     rw[ei,hE'];simp[hl,hh]
   have e3:set (I E) (nadd 0 (nat (Int.ofNat (I i)))) [.lit (.int .i64 (I r.k)),.lit (.int .i64 (I r.p.k)),.lit (.int .i64 (I r.p.n)),.lit (.string (I r.p.s)),.sl (I (r.p.l.map Ex.t)),.own (I ((r.a.map (Sm.mp ff)).map Sm.o))]=I E'/\set (I E') (nadd 0 (nat (Int.ofNat (I i)))) [.lit (.int .i64 (I r.k)),.lit (.int .i64 (I (ff r.p).k)),.lit (.int .i64 (I (ff r.p).n)),.lit (.string (I (ff r.p).s)),.own (I ((ff r.p).l.map Ex.o)),.own (I ((r.a.map (Sm.mp ff)).map Sm.o))]=I (mixP (Ru.f ff) Ru.z p.rules (i+1)):=by
    simp only[hI.e];cases hO;have ei:(0+(Int.ofNat i).toNat)=i:=by simp
    refine ⟨?_,?_⟩
    ·show E.set (0+(Int.ofNat i).toNat) _=_
     rw[ei,hE']
    ·show E'.set (0+(Int.ofNat i).toNat) _=_
     rw[ei,hE',List.set_set,<-hs _ (by rw[Ru.f,Ru.o_eq,show (Ru.mp ff r).p=ff r.p by unfold Ru.mp;dsimp only;rw[if_pos h4]])];rfl
   have o1:one (I E) (nadd 0 (nat (Int.ofNat (I i)))) 6:=by
    have q:=e2.1;simp only[hI.e] at q |-;cases hO;exact ⟨by simp[hl,hh],by have:=congrArg List.length q;exact this⟩
   have o2:one (I E') (nadd 0 (nat (Int.ofNat (I i)))) 6:=by
    have q:=e2.2;simp only[hI.e] at q |-;cases hO;exact ⟨by simp[hE',hl,hh],by have:=congrArg List.length q;exact this⟩
   have e1:=And.intro e1 lsQ;unfold LsQ at e1;clear hm hs hE' cf;refine qB 0 ?_
   (repeat' first|refine qA 0 ?_|refine qJ (nN []) ?_|refine qp ?_ ?_|refine qk (fun h=>?_) fun h=>?_|fail)
   all_goals first | exact absurd hh (by assumption) | exact absurd h4 (by assumption) | exact ⟨i+1,by (try simp only[A.reset,hI.e]);rfl,by omega,by omega⟩
  ·obtain ⟨E',hE'⟩:∃E',E'=mixP (Ru.f ff) Ru.z p.rules (i+1):=⟨_,rfl⟩
   have e1:len (I E)=I p.rules.length:=by simp only[hI.e];cases hO;exact hl
   have e2:get (I E) (nadd 0 (nat (Int.ofNat (I i))))=[.lit (.int .i64 (I r.k)),.lit (.int .i64 (I r.p.k)),.lit (.int .i64 (I r.p.n)),.lit (.string (I r.p.s)),.own (I (r.p.l.map Ex.o)),.sl (I (r.a.map Sm.t))]:=by
    simp only[hI.e];cases hO
    show E.getD (0+(Int.ofNat i).toNat) []=_
    rw[show (0+(Int.ofNat i).toNat)=i by simp,hm,Ru.z,if_neg h4]
   have e3:set (I E) (nadd 0 (nat (Int.ofNat (I i)))) [.lit (.int .i64 (I r.k)),.lit (.int .i64 (I r.p.k)),.lit (.int .i64 (I r.p.n)),.lit (.string (I r.p.s)),.own (I (r.p.l.map Ex.o)),.own (I ((r.a.map (Sm.mp ff)).map Sm.o))]=I E':=by
    simp only[hI.e];cases hO
    show E.set (0+(Int.ofNat i).toNat) _=_
    rw[show (0+(Int.ofNat i).toNat)=i by simp,hE',<-hs _ (by rw[Ru.f,Ru.o_eq,show (Ru.mp ff r).p=r.p by unfold Ru.mp;dsimp only;rw[if_neg h4]])];rfl
   have o1:one (I E) (nadd 0 (nat (Int.ofNat (I i)))) 6:=by
    have q:=e2;simp only[hI.e] at q |-;cases hO;exact ⟨by simp[hl,hh],by have:=congrArg List.length q;exact this⟩
   have e1:=And.intro e1 lsQ;unfold LsQ at e1;clear hm hs cf;refine qB 0 ?_
   (repeat' first|refine qA 0 ?_|refine qJ (nN []) ?_|refine qp ?_ ?_|refine qk (fun h=>?_) fun h=>?_|fail)
   all_goals first | exact absurd hh (by assumption) | exact absurd (by assumption) h4 | exact ⟨i+1,by (try simp only[A.reset,hI.e]);(try rw[hE']);rfl,by omega,by omega⟩
 ·have e1:I (mixP (Ru.f ff) Ru.z p.rules i)=I (p.rules.map (Ru.f ff)):=by rw[RZ0 _ _ (by omega)]
  refine qB 0 ?_
  repeat' first|refine qA 0 ?_|refine qJ (nN []) ?_|refine qp ?_ ?_|refine qk (fun h=>?_) fun h=>?_|fail
  all_goals first | exact absurd (by assumption) hh | skip
  clear e1;refine qLs 3 [1,2,3,44,45] kk0 43 (fun j:Nat=>⟨vag 60 [(1,⟨.one,[.ptr 0 0]⟩),(2,⟨.one,[.ptr 1 0]⟩),(3,⟨.one,[.ptr 2 0]⟩),(43,⟨.one,[.sref (.box 2) 1 (0,0) 0 (I p.fns.length)]⟩),(44,litI (Int.ofNat (I p.fns.length))),(45,litI (Int.ofNat (I j)))],[some (pA @I p).cs,some [.nil,.nil],some [.ow (0,0) true 6 (I (p.rules.map (Ru.f ff))),.ow (0,0) true 3 (I (mixP (Fu.f ff) Fu.z p.fns j))]],2⟩) (fun j=>j<=p.fns.length) (fun j=>p.fns.length - j) ?_ fun j hj=>?_
  ·cbv
   exact ⟨0,by simp only[hI.e];rfl,by omega⟩
  by_cases hh2:j < p.fns.length
  ·have c2:=ih3 _ (zD0 hh2)
   have hm:=HT0 (Fu.f ff) Fu.z hh2;have hs:=fun z=>RX0 (Fu.f ff) Fu.z hh2 z;have hl:=RY0 (Fu.f ff) Fu.z p.fns j;generalize hr:p.fns[j]! = r at *;generalize mixP (Fu.f ff) Fu.z p.fns j=E at *;have hix:idx (Int.ofNat (nadd 0 (nat (Int.ofNat (I j))))) (I p.fns.length):=F.n15 j _ hh2;obtain ⟨E',hE'⟩:∃E',E'=mixP (Fu.f ff) Fu.z p.fns (j+1):=⟨_,rfl⟩;have e1:len (I E)=I p.fns.length:=by simp only[hI.e];cases hO;exact hl
   have e2:get (I E) (nadd 0 (nat (Int.ofNat (I j))))=[.lit (.string (I r.name)),.own (I (r.params.map strT)),.sl (I (r.a.map Sm.t))]:=by
    simp only[hI.e];cases hO
    show E.getD (0+(Int.ofNat j).toNat) []=_
    rw[show (0+(Int.ofNat j).toNat)=j by simp,hm,Fu.z]
   have e3:set (I E) (nadd 0 (nat (Int.ofNat (I j)))) [.lit (.string (I r.name)),.own (I (r.params.map strT)),.own (I ((r.a.map (Sm.mp ff)).map Sm.o))]=I E':=by
    simp only[hI.e];cases hO
    show E.set (0+(Int.ofNat j).toNat) _=_
    rw[show (0+(Int.ofNat j).toNat)=j by simp,hE',<-hs _ (by rw[Fu.f,Fu.o_eq])];rfl
   have o1:one (I E) (nadd 0 (nat (Int.ofNat (I j)))) 3:=by
    have q:=e2;simp only[hI.e] at q |-;cases hO;exact ⟨by simp[hl,hh2],by have:=congrArg List.length q;exact this⟩
   have e1:=And.intro e1 lsQ;unfold LsQ at e1;clear hm hs;refine qB 0 ?_
   (repeat' first|refine qA 0 ?_|refine qJ (nN []) ?_|refine qp ?_ ?_|refine qk (fun h=>?_) fun h=>?_|fail)
   all_goals first | exact absurd hh2 (by assumption) | exact ⟨j+1,by (try simp only[A.reset,hI.e]);(try rw[hE']);rfl,by omega,by omega⟩
  ·have e1:I (mixP (Fu.f ff) Fu.z p.fns j)=I (p.fns.map (Fu.f ff)):=by rw[RZ0 _ _ (by omega)]
   refine qB 0 ?_
   (repeat' first|refine qA 0 ?_|refine qJ (nN []) ?_|refine qp ?_ ?_|refine qk (fun h=>?_) fun h=>?_|fail)
   all_goals first | exact absurd (by assumption) hh2 | skip
   have m1:p.rules.map (Ru.f ff)=(Pg.mp ff p).rules.map Ru.o:=by rw[Pg.mp,List.map_map];rfl
   have m2:p.fns.map (Fu.f ff)=(Pg.mp ff p).fns.map Fu.o:=by rw[Pg.mp,List.map_map];rfl
   exact hR _ _ ⟨by rw[m1,m2],rfl⟩
variable {I:∀{α:Type},α->α}
theorem qM1 (l:List Ru) (r:Ru):l.map Ru.t++[[.lit (.int .i64 r.k),.lit (.int .i64 r.p.k),.lit (.int .i64 r.p.n),.lit (.string r.p.s),.sl (r.p.l.map Ex.t),.sl (r.a.map Sm.t)]]=(l++[r]).map Ru.t:=by
 rw[List.map_append,List.map_singleton];obtain ⟨k,⟨pk,pn,ps,pl⟩,a⟩:=r;rw[Ru.t,Ex.t_mk];rfl
theorem mW1 (l:List Fu) (f:Fu):l.map Fu.t++[[.lit (.string f.name),.sl (f.params.map strT),.sl (f.a.map Sm.t)]]=(l++[f]).map Fu.t:=by rw[List.map_append,List.map_singleton];rfl
theorem TE0 (hI:II @I) (p:Pg) (h1:p.rules.length<=1048576) (h2:p.fns.length<=1048576) (h3:∀f∈p.fns,f.params.length<=1048576) (ih1:∀r∈p.rules,FbE @I 27 (fun e=>e) r.p) (ih2:∀r∈p.rules,CbS @I r.a) (ih3:∀f∈p.fns,CbS @I f.a):ACl Tryz.prog 38 [pA @I p] [] (fun res bx=>res=pA @I p/\bx=[]):=by
 refine yM0 ?_;refine qN hI tyK Tryz.func38 63 [.cell 2 32] ?_;unhygienic intros
 refine qB 0 ?_
 repeat' first|refine qA 0 ?_|refine qJ (nN []) ?_|refine qp ?_ ?_|refine qk (fun h=>?_) fun h=>?_|fail
 refine qLf 3 [1,2,3,4] (kkB 2 0 6) (fun i:Nat=>⟨vag 63 [(1,⟨.one,[.ptr 0 0]⟩),(2,⟨.one,[.ptr 1 0]⟩),(3,⟨.one,[.ptr 2 0]⟩),(4,litI (Int.ofNat (I i)))],[some (pA @I p).cs,some [.nil,.nil],some [.ow (0,0) false 6 (I ((p.rules.take i).map Ru.t)),.nil]],1⟩) (fun i=>i<=p.rules.length) (fun i=>p.rules.length - i) ?_ fun i hi=>?_
 ·cbv
  exact ⟨0,by simp only[hI.e];rfl,by omega⟩
 by_cases hh:i < p.rules.length
 ·have c1:=ih1 _ (zD0 hh)
  have c2:=ih2 _ (zD0 hh);have hlt:(p.rules.take i).length<=1048576:=by rw[List.length_take];omega
  generalize hr:p.rules[i]! = r at *;have e1:I ((p.rules.take i++[r]).map Ru.t)=I ((p.rules.take (i+1)).map Ru.t):=by rw[zZ0 hh,hr]
  have e2:=hr;have e3:app (I ((p.rules.take i).map Ru.t)) [[.lit (.int .i64 (I r.k)),.lit (.int .i64 (I r.p.k)),.lit (.int .i64 (I r.p.n)),.lit (.string (I r.p.s)),.sl (I (r.p.l.map Ex.t)),.sl (I (r.a.map Sm.t))]]=I ((p.rules.take (i+1)).map Ru.t):=by
   simp only[hI.e];cases hO;rw[zZ0 hh,hr];exact qM1 _ _
  refine qB 0 ?_
  repeat' first|refine qA 0 ?_|refine qJ (nN []) ?_|refine qp ?_ ?_|refine qk (fun h=>?_) fun h=>?_|fail
  all_goals first | exact absurd hh (by assumption) | exact ⟨i+1,by (try simp only[A.reset,hI.e]);rfl,by omega,by omega⟩
 ·have e1:I ((p.rules.take i).map Ru.t)=I (p.rules.map Ru.t):=by rw[List.take_of_length_le (by omega)]
  refine qB 0 ?_
  repeat' first|refine qA 0 ?_|refine qJ (nN []) ?_|refine qp ?_ ?_|refine qk (fun h=>?_) fun h=>?_|fail
  ·exact absurd h hh
  clear e1;refine qLf 3 [1,2,3,6] (kkB 2 1 3) (fun j:Nat=>⟨vag 63 [(1,⟨.one,[.ptr 0 0]⟩),(2,⟨.one,[.ptr 1 0]⟩),(3,⟨.one,[.ptr 2 0]⟩),(6,litI (Int.ofNat (I j)))],[some (pA @I p).cs,some [.nil,.nil],some [.ow (0,0) false 6 (I (p.rules.map Ru.t)),.ow (0,0) false 3 (I ((p.fns.take j).map Fu.t))]],1⟩) (fun j=>j<=p.fns.length) (fun j=>p.fns.length - j) ?_ fun j hj=>?_
  ·cbv
   exact ⟨0,by simp only[hI.e];rfl,by omega⟩
  by_cases hh2:j < p.fns.length
  ·have c1:=ih3 _ (zD0 hh2)
   have hlt:(p.fns.take j).length<=1048576:=by rw[List.length_take];omega
   have hfp:=h3 _ (zD0 hh2);generalize hr:p.fns[j]! = r at *;have e1:I ((p.fns.take j++[r]).map Fu.t)=I ((p.fns.take (j+1)).map Fu.t):=by rw[zZ0 hh2,hr]
   have e2:=hr;have e3:app (I ((p.fns.take j).map Fu.t)) [[.lit (.string (I r.name)),.sl (I (r.params.map strT)),.sl (I (r.a.map Sm.t))]]=I ((p.fns.take (j+1)).map Fu.t):=by
    simp only[hI.e];cases hO;rw[zZ0 hh2,hr];exact mW1 _ _
   refine qB 0 ?_
   (repeat' first|refine qA 0 ?_|refine qJ (nN []) ?_|refine qp ?_ ?_|refine qk (fun h=>?_) fun h=>?_|fail)
   all_goals first | exact absurd hh2 (by assumption) | exact ⟨j+1,by (try simp only[A.reset,hI.e]);rfl,by omega,by omega⟩
  ·have e1:I ((p.fns.take j).map Fu.t)=I (p.fns.map Fu.t):=by rw[List.take_of_length_le (by omega)]
   refine qB 0 ?_
   (repeat' first|refine qA 0 ?_|refine qJ (nN []) ?_|refine qp ?_ ?_|refine qk (fun h=>?_) fun h=>?_|fail)
   ·exact absurd (by assumption) hh2
   ·exact hR _ _ ⟨rfl,rfl⟩
end Go.Gv
