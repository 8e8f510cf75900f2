/- Part PQ5 of the proof: contracts of functions of the program, each walked once. -/
import Derived.Test.YtnmkmfancgcaeaaGreatDoorPQ3
import Derived.Test.YtnmkmfancgcaeaaGreatDoorPN3
import Derived.Test.YtnmkmfancgcaeaaGreatDoorPQ4
set_option linter.all false
namespace Go.Gv
open Go.Av Go.Proofs
set_option maxRecDepth 10000
set_option maxHeartbeats 8000000
variable {I:∀{α:Type},α->α}
theorem pE0 {k n:Int} {s:ByteArray} {N:Nat} (h:vL0 k n s N):s.size<=200/\N<=4:=by
 obtain ⟨_,h⟩:=h;have hw:∀{s:ByteArray},xE0 s->s.size<=200:=fun h=>by have:=h.1.2.2;omega
 have he:(ofL []:ByteArray).size<=200:=by decide
 have ho:∀{s:ByteArray},s∈operS->s.size<=200:=fun h=>by
  simp only[operS,List.mem_cons,List.not_mem_nil,or_false] at h;rcases h with rfl | rfl | rfl | rfl | rfl | rfl | rfl | rfl | rfl | rfl | rfl | rfl | rfl | rfl<;>decide
 rcases h with h | h | h | h | h | h | h | h | h | h | h | h | h | h | h | h | h | h
 ·exact ⟨h.2.2.2.1 ▸ he,by omega⟩
 ·exact ⟨h.2.1.2,by omega⟩
 ·exact ⟨hw h.2.1,by omega⟩
 ·exact ⟨hw h.2.1,by omega⟩
 ·exact ⟨h.2.1 ▸ he,by omega⟩
 ·exact ⟨ho h.2.1,by omega⟩
 ·exact ⟨h.2.1 ▸ he,by omega⟩
 ·exact ⟨h.2.1 ▸ he,by omega⟩
 ·exact ⟨hw h.2.1,by omega⟩
 ·exact ⟨h.2.1.2,by omega⟩
 ·exact ⟨hw h.2.1,by omega⟩
 ·exact ⟨h.2.1 ▸ he,by omega⟩
 ·exact ⟨h.2.1 ▸ he,by omega⟩
 ·exact ⟨h.2.1 ▸ he,by omega⟩
 ·exact ⟨h.2.1 ▸ he,by omega⟩
 ·exact ⟨h.2.1 ▸ he,by omega⟩
 ·exact ⟨h.2.1 ▸ he,by omega⟩
 ·exact ⟨h.2.1.2,by omega⟩
theorem opN_n (s:ByteArray) (x y:Int):(opN s x y).n<=2147483647:=by
 have hb:∀b,b2i b<=2147483647:=fun b=>by cases b<;>decide
 have h4:(0:Int)<=2147483647:=by decide
 unfold opN
 repeat' split
 all_goals first | exact hb _ | exact (wB1 _).2 | exact h4
theorem opN_s (s:ByteArray) {x y:Int} (hx:0<=x/\x<=2147483647) (hy:0<=y/\y<=2147483647):(opN s x y).s.size<=42:=by
 have hz:(⟨⟨[]⟩⟩:ByteArray).size<=42:=by decide
 have h1:=xL0 x (by omega)
 have h2:=xL0 y (by omega)
 have h3:(numT x++numT y).size=(numT x).size+(numT y).size:=ByteArray.size_append;unfold opN
 repeat' split
 all_goals first | exact hz|(show (numT x++numT y).size<=42;omega)
theorem zF1 (s:ByteArray) {x y:Int} (hx:0<=x/\x<=2147483647) (hy:0<=y/\y<=2147483647):(valN s x y).n<=2147483647/\(valN s x y).s.size<=42:=by
 have hb:∀b,b2i b<=2147483647:=fun b=>by cases b<;>decide
 have hz:(⟨⟨[]⟩⟩:ByteArray).size<=42:=by decide
 by_cases h1:s=⟨⟨[38,38]⟩⟩
 ·rw[valN,if_pos h1];exact ⟨hb _,hz⟩
 by_cases h2:s=⟨⟨[124,124]⟩⟩
 ·rw[valN,if_neg h1,if_pos h2];exact ⟨hb _,hz⟩
 rw[valN,if_neg h1,if_neg h2];exact ⟨opN_n s x y,opN_s s hx hy⟩
theorem ZT0 {e:Ex} (h:FdIn e) (hz:∀x∈e.l,x.s.size<=200):fd1 e=e\/(∃n:Int,0<=n/\n<=2147483647/\fd1 e=.mk 1 n ⟨⟨[]⟩⟩ [])\/∃s:ByteArray,s.size<=42/\fd1 e=.mk 2 0 s []:=by
 by_cases h6:e.k=6
 ·have h2:=h.l2 h6
  have hr0:=h.r _ (zB0 (l:=e.l) (i:=0) (by omega))
  have hr1:=h.r _ (zB0 (l:=e.l) (i:=1) (by omega))
  rw[yM1 h6,binF]
  split
  ·rename_i q
   have hv:=zF1 e.s (hr0 q.1) (hr1 q.2.1);rw[nE]
   split
   ·rename_i q1;exact .inr (.inl ⟨_,q1.2,hv.1,rfl⟩)
   ·split
    ·exact .inr (.inr ⟨_,hv.2,rfl⟩)
    ·exact .inl rfl
  ·exact .inl rfl
 by_cases hk:e.k=7\/e.k=12
 ·have h1:=h.l1 hk
  have hr:=h.r _ (zB0 (l:=e.l) (i:=0) (by omega))
  have hs:=hz _ (zB0 (l:=e.l) (i:=0) (by omega))
  by_cases h7:e.k=7
  ·by_cases hx:e.l[0]!.k=1
   ·rw[yL1 h7 hx];exact .inr (.inl ⟨_,jK0 _,by generalize bB _=b;cases b<;>decide,rfl⟩)
   ·exact .inl (ZU0 h6 (fun _=>hx) (fun q=>by omega))
  ·have h12:e.k=12:=by omega
   by_cases hx:e.l[0]!.k=1
   ·rw[yK1 h12 hx]
    have:=xL0 e.l[0]!.n (by have:=hr hx;omega)
    exact .inr (.inl ⟨_,Int.natCast_nonneg _,by (try simp only[Int.ofNat_eq_natCast]);omega,rfl⟩)
   by_cases hx2:e.l[0]!.k=2
   ·rw[yJ1 h12 hx2]
    exact .inr (.inl ⟨_,Int.natCast_nonneg _,by (try simp only[Int.ofNat_eq_natCast]);omega,rfl⟩)
   ·exact .inl (ZU0 h6 (fun q=>absurd q h7) (fun _ q=>q.elim hx hx2))
 ·exact .inl (ZU0 h6 (fun q=>absurd (.inl q) hk) (fun q=>absurd (.inr q) hk))
theorem Ex.indQ {p:Ex->Prop} (h:∀e,(∀x∈e.l,p x)->p e):∀e,p e:=by
 have key:∀n e,Ex.parts e<=n->p e:=by
  intro n
  induction n with
  | zero=>intro e he;have:=Ex.parts_pos e;omega
  | succ n ih=>
   intro e he;refine h e fun x hx=>ih x ?_;cases e with
   | mk k m s l=>
    obtain ⟨a,b,rfl⟩:=List.append_of_mem (show x∈l from hx)
    rw[Ex.parts,Ex.partss_app,Ex.partss] at he;omega
 exact fun e=>key _ e (Nat.le_refl _)
theorem Ex.sz_eq (e:Ex):e.sz=e.s.size+e.l.length+Ex.szs e.l:=by cases e;rw[Ex.sz];rfl
theorem Ex.parts_eq (e:Ex):e.parts=1+Ex.partss e.l:=by cases e;rw[Ex.parts];rfl
theorem DK0 {f:Ex->Ex}:∀l:List Ex,(∀x∈l,(f x).sz<=204 * x.parts)->Ex.szs (l.map f)<=204 * Ex.partss l
 | [],_=>by simp[Ex.szs]
 | a::l,h=>by
  have h1:=h a (by simp)
  have h2:=DK0 l (fun x hx=>h x (by simp[hx]))
  rw[List.map_cons,Ex.szs,Ex.partss];omega
theorem KF0 {e:Ex} (h:vL0 e.k e.n e.s e.l.length) (ih:∀x∈e.l,InR x.fd/\x.fd.s.size<=200):FdIn (e.with (e.l.map Ex.fd)):=by
 have hl:(e.with (e.l.map Ex.fd)).l=e.l.map Ex.fd:=rfl;refine ⟨fun q=>?_,fun q=>?_,fun x hx=>?_,fun x hx=>?_⟩
 ·have q:e.k=6:=q
  obtain ⟨_,h⟩:=h;rw[hl,List.length_map];omega
 ·have q:e.k=7\/e.k=12:=q
  obtain ⟨_,h⟩:=h;rw[hl,List.length_map];omega
 ·obtain ⟨y,hy,rfl⟩:=List.mem_map.1 hx
  exact (ih y hy).1
 ·obtain ⟨y,hy,rfl⟩:=List.mem_map.1 hx
  have:=(ih y hy).2;omega
theorem nU0:∀e:Ex,e.ok->InR e.fd/\e.fd.s.size<=200/\e.fd.sz<=204 * e.parts:=by
 refine Ex.indQ fun e ih hok=>?_;obtain ⟨hh,hc⟩:=(Ex.ok_eq e).1 hok;have ih':=fun x hx=>ih x hx (hc x hx);have hin:=KF0 hh fun x hx=>⟨(ih' x hx).1,(ih' x hx).2.1⟩;have hsm:=pE0 hh;have hp:=Ex.parts_eq e;have hsz:=DK0 (f:=Ex.fd) e.l fun x hx=>(ih' x hx).2.2;rw[Ex.fd_eq];rcases ZT0 hin (fun x hx=>by obtain ⟨y,hy,rfl⟩:=List.mem_map.1 hx;exact (ih' y hy).2.1) with q | ⟨n,h1,h2,q⟩ | ⟨s,h1,q⟩
 ·rw[q]
  refine ⟨fun hk=>?_,hsm.1,?_⟩
  ·have hk:e.k=1:=hk
   obtain ⟨_,h⟩:=hh
   show 0<=e.n/\e.n<=2147483647
   omega
  ·rw[Ex.sz_eq]
   show e.s.size+(e.l.map Ex.fd).length+Ex.szs (e.l.map Ex.fd)<=_
   rw[List.length_map];omega
 ·rw[q];exact ⟨fun _=>⟨h1,h2⟩,(by decide:(⟨⟨[]⟩⟩:ByteArray).size<=200),by rw[Ex.sz_eq];simp[Ex.s,Ex.l,Ex.szs,ByteArray.size]⟩
 ·rw[q];refine ⟨fun hk=>by simp[Ex.k] at hk,by show s.size<=200;omega,?_⟩
  rw[Ex.sz_eq];simp only[Ex.s,Ex.l,Ex.szs,List.length_nil];omega
theorem Ex.ok.ok_l {e:Ex} (h:e.ok):∀x∈e.l,x.ok:=((Ex.ok_eq e).1 h).2
theorem fdIn {e:Ex} (h:e.ok):FdIn (e.with (e.l.map Ex.fd)):=KF0 ((Ex.ok_eq e).1 h).1 fun x hx=>⟨(nU0 x (h.ok_l x hx)).1,(nU0 x (h.ok_l x hx)).2.1⟩
open Classical in
noncomputable def Ex.fold (e:Ex):Ex:=if e.good then e.fd else e
theorem WG0 {e:Ex} (h:e.sz<=1048576):e.fold.sz<=1048576:=by
 unfold Ex.fold
 split
 ·rename_i q;have:=(nU0 e q.1).2.2;have:=q.2.1;omega
 ·exact h
theorem MN0 (hI:II @I):∀e:Ex,e.sz<=1048576->ACl Tryz.prog 21 [eA @I e] [] (fun res bx=>res=eA @I e/\bx=[]):=by
 refine Ex.indQ fun e ih hz=>?_;have h:=Ex.sz3 hz;exact YN0 hI e h.2.1 fun x hx=>ih x hx (h.2.2 x hx)
theorem pB0 (hI:II @I):∀e:Ex,e.sz<=1048576->ACl Tryz.prog 25 [eA @I e] [] (fun res bx=>res=eO @I e/\bx=[]):=by
 refine Ex.indQ fun e ih hz=>?_;have h:=Ex.sz3 hz;exact dK0 hI e (tX0 hI e.l h.2.1 fun x hx=>ih x hx (h.2.2 x hx))
theorem MM0 (hI:II @I):∀e:Ex,e.ok->ACl Tryz.prog 22 [eA @I e] [] (fun res bx=>res=eA @I e.fd/\bx=[]):=by
 refine Ex.indQ fun e ih hok=>?_;exact YM0 hI e (by have:=(pE0 ((Ex.ok_eq e).1 hok).1).2;omega) (fdIn hok) fun x hx=>ih x hx (hok.ok_l x hx)
variable {I:∀{α:Type},α->α}
theorem FL0 (hI:II @I) (e:Ex) (hl:e.l.length<=1048576) (hf:FdIn e):ACl Tryz.prog 56 [eO @I e] [] (fun res bx=>res=eO @I (fd1 e)/\bx=[]):=by
 by_cases h6:e.k=6
 ·exact JE0 hI e hl hf h6
 by_cases h7:e.k=7\/e.k=12
 ·exact JD0 hI e hl hf h7
 ·exact JF0 hI e hl hf h6 (fun q=>h7 (.inl q)) (fun q=>h7 (.inr q))
theorem MP0 (hI:II @I):∀e:Ex,e.ok->ACl Tryz.prog 26 [eA @I e] [] (fun res bx=>res=eO @I e.fd/\bx=[]):=by
 refine Ex.indQ fun e ih hok=>?_;have hl:=(pE0 ((Ex.ok_eq e).1 hok).1).2;exact YT0 hI e (by omega) (FL0 hI _ (by show (e.l.map Ex.fd).length<=_;rw[List.length_map];omega) (fdIn hok)) fun x hx=>ih x hx (hok.ok_l x hx)
theorem uB0 (hI:II @I) (e:Ex) (hz:e.sz<=1048576):ACl Tryz.prog 8 [eA @I e] [] (fun res bx=>res=eO @I e.fold/\bx=[]):=by
 have c1:=XC0 hI e hz;have c2:=pB0 hI e hz;have c3:=MP0 hI e
 by_cases hg:e.good
 ·have c3:=c3 hg.1
  have e1:e.fold=e.fd:=by rw[Ex.fold,if_pos hg]
  rw[e1];refine qN hI tyK Tryz.func8 10 [.cell 2 28] ?_;unhygienic intros
  refine qB 0 ?_
  repeat' first|refine qA 0 ?_|refine qJ (nN []) ?_|refine qp ?_ ?_|refine qk (fun h=>?_) fun h=>?_|fail
  ·exact absurd hg h
  ·exact hR _ _ ⟨rfl,rfl⟩
 ·have e1:e.fold=e:=by rw[Ex.fold,if_neg hg]
  rw[e1];clear c3;refine qN hI tyK Tryz.func8 10 [.cell 2 28] ?_;unhygienic intros
  refine qB 0 ?_
  repeat' first|refine qA 0 ?_|refine qJ (nN []) ?_|refine qp ?_ ?_|refine qk (fun h=>?_) fun h=>?_|fail
  ·exact hR _ _ ⟨rfl,rfl⟩
  ·exact absurd hg h
end Go.Gv
