/- Part PP4 of the proof: contracts of functions of the program, each walked once. -/
import Derived.Test.YtnmkmfancgcaeaaGreatDoorPP1
import Derived.Test.YtnmkmfancgcaeaaGreatDoorPQ9
import Derived.Test.YtnmkmfancgcaeaaGreatDoorPR3
set_option linter.all false
namespace Go.Gv
open Go.Av Go.Proofs
set_option maxRecDepth 10000
set_option maxHeartbeats 8000000
variable {I:∀{α:Type},α->α}
theorem Sm.bd_mp (ff:Ex->Ex) (hff:∀e:Ex,e.sz<=1048576->(ff e).sz<=1048576):∀e:Sm,e.Bd->(Sm.mp ff e).Bd:=by
 refine Sm.ind fun e ih h=>?_;obtain ⟨h1,h2,h3⟩:=h.inv;rw[Sm.mp_eq];refine .mk (by rw[List.length_map];exact h1.1) (fun x hx=>?_) (by rw[List.length_map];exact h2.1) (by rw[List.length_map];exact h3.1) (fun y hy=>?_)
 ·obtain ⟨z,hz,rfl⟩:=List.mem_map.1 hx;exact hff z (h1.2 z hz)
 ·rcases List.mem_append.1 hy with hy | hy
  ·obtain ⟨z,hz,rfl⟩:=List.mem_map.1 hy;exact ih z (List.mem_append_left _ hz) (h2.2 z hz)
  ·obtain ⟨z,hz,rfl⟩:=List.mem_map.1 hy;exact ih z (List.mem_append_right _ hz) (h3.2 z hz)
theorem Pg.fold_bd {p:Pg} (hz:p.sz<=1048576):p.fold.Bd:=by
 have h:=Pg.bd_of hz;unfold Pg.fold
 split
 ·refine ⟨by show (p.rules.map (Ru.mp Ex.fold)).length<=_;rw[List.length_map];exact h.r,fun r hr=>?_,by show (p.fns.map (Fu.mp Ex.fold)).length<=_;rw[List.length_map];exact h.f,fun f hf=>?_⟩
  ·obtain ⟨x,hx,rfl⟩:=List.mem_map.1 (show r∈p.rules.map (Ru.mp Ex.fold) from hr)
   have q:=h.r' x hx;refine ⟨?_,by show (x.a.map _).length<=_;rw[List.length_map];exact q.l,fun y hy=>?_⟩
   ·show (Ru.mp Ex.fold x).p.sz<=_
    unfold Ru.mp
    dsimp only
    split
    ·exact WG0 q.p
    ·exact q.p
   ·obtain ⟨z,hz,rfl⟩:=List.mem_map.1 (show y∈x.a.map (Sm.mp Ex.fold) from hy)
    exact Sm.bd_mp _ (fun _=>WG0) z (q.a z hz)
  ·obtain ⟨x,hx,rfl⟩:=List.mem_map.1 (show f∈p.fns.map (Fu.mp Ex.fold) from hf)
   have q:=h.f' x hx;refine ⟨q.p,by show (x.a.map _).length<=_;rw[List.length_map];exact q.l,fun y hy=>?_⟩
   obtain ⟨z,hz,rfl⟩:=List.mem_map.1 (show y∈x.a.map (Sm.mp Ex.fold) from hy)
   exact Sm.bd_mp _ (fun _=>WG0) z (q.a z hz)
 ·exact h
theorem fY0 {α β:Type} {f:α->Nat} {g:β->Nat} {h:α->β}:∀l:List α,(∀x∈l,g (h x)<=f x)->cs g (l.map h)<=cs f l
 | [],_=>by simp[cs]
 | a::l,hl=>by
  have h1:=hl a (by simp)
  have h2:=fY0 (f:=f) (g:=g) l fun x hx=>hl x (by simp[hx])
  simp only[cs,List.map_cons,List.sum_cons] at h2 |-;omega
theorem fd_mk:∀e:Ex,e.ok->e.fd.mk'<=e.mk':=by
 refine Ex.indQ fun e ih hok=>?_;obtain ⟨hh,hc⟩:=(Ex.ok_eq e).1 hok;have hin:=fdIn hok;have h0:=fY0 (f:=Ex.mk') (g:=Ex.mk') (h:=Ex.fd) e.l fun x hx=>ih x hx (hc x hx);have h1:=Ex.mk'_eq e;rw[Ex.fd_eq];rcases ZT0 hin (fun x hx=>by obtain ⟨y,hy,rfl⟩:=List.mem_map.1 hx;exact (nU0 y (hc y hy)).2.1) with q | ⟨n,_,_,q⟩ | ⟨s,_,q⟩
 ·rw[q,Ex.mk'_eq];show 3+cs Ex.mk' (e.l.map Ex.fd)<=_;omega
 ·rw[q,Ex.mk'_eq];show 3+cs Ex.mk' []<=_;simp only[cs,List.map_nil,List.sum_nil];omega
 ·rw[q,Ex.mk'_eq];show 3+cs Ex.mk' []<=_;simp only[cs,List.map_nil,List.sum_nil];omega
theorem fold_mk (e:Ex):e.fold.mk'<=e.mk':=by
 unfold Ex.fold
 split
 ·rename_i q;exact fd_mk e q.1
 ·exact Nat.le_refl _
theorem wZ1:∀e:Sm,(Sm.mp Ex.fold e).mk'<=e.mk':=by
 refine Sm.ind fun e ih=>?_;have h1:=fY0 (f:=Ex.mk') (g:=Ex.mk') (h:=Ex.fold) e.x fun x _=>fold_mk x;have h2:=fY0 (f:=Sm.mk') (g:=Sm.mk') (h:=Sm.mp Ex.fold) e.a fun x hx=>ih x (List.mem_append_left _ hx);have h3:=fY0 (f:=Sm.mk') (g:=Sm.mk') (h:=Sm.mp Ex.fold) e.b fun x hx=>ih x (List.mem_append_right _ hx);rw[Sm.mk'_eq e,Sm.mk'_eq,Sm.mp_eq]
 show 3+cs Ex.mk' (e.x.map Ex.fold)+cs Sm.mk' (e.a.map (Sm.mp Ex.fold))+cs Sm.mk' (e.b.map (Sm.mp Ex.fold))<=_
 omega
mutual
theorem wM1:∀e:Sm,e.mk'<=3+3 * e.sz
 | .mk k s t x a b=>by
  have h1:=fN0 x;have h2:=mK0 a;have h3:=mK0 b;rw[Sm.mk'.eq_1,Sm.mks'_eq,Sm.mks'_eq,Sm.sz];omega
theorem mK0:∀l:List Sm,cs Sm.mk' l<=3 * (l.length+Sm.szs l)
 | []=>by simp[cs]
 | e::l=>by
  have h1:=wM1 e;have h2:=mK0 l;rw[show cs Sm.mk' (e::l)=e.mk' + cs Sm.mk' l by simp[cs],Sm.szs,List.length_cons];omega
end
theorem NG0:∀l:List Ru,cs Ru.mk' l<=4 * (l.length+Ru.szs l)
 | []=>by simp[cs]
 | r::l=>by
  have h1:=vA1 r.p;have h2:=mK0 r.a;have h3:=NG0 l;rw[show cs Ru.mk' (r::l)=r.mk' + cs Ru.mk' l by simp[cs],show Ru.szs (r::l)=r.sz+Ru.szs l by simp[Ru.szs],List.length_cons,Ru.mk'_eq,Ru.sz];omega
theorem KN0:∀l:List ByteArray,cs str1 l=l.length
 | []=>rfl
 | a::l=>by have:=KN0 l;rw[show cs str1 (a::l)=1+cs str1 l by simp[cs,str1],List.length_cons];omega
theorem KC0:∀l:List Fu,cs Fu.mk' l<=4 * (l.length+Fu.szs l)
 | []=>by simp[cs]
 | r::l=>by
  have h1:=KN0 r.params;have h2:=mK0 r.a;have h3:=KC0 l;rw[show cs Fu.mk' (r::l)=r.mk' + cs Fu.mk' l by simp[cs],show Fu.szs (r::l)=r.sz+Fu.szs l by simp[Fu.szs],List.length_cons,Fu.mk'_eq,Fu.sz];omega
abbrev Pg.mk' (p:Pg):Nat:=cs Ru.mk' p.rules+cs Fu.mk' p.fns
theorem Pg.mk_le {p:Pg} (h:p.sz<=1048576):1+p.mk'<=1000000000:=by
 have h1:=NG0 p.rules;have h2:=KC0 p.fns;rw[Pg.sz] at h
 show 1+(cs Ru.mk' p.rules+cs Fu.mk' p.fns)<=_
 omega
theorem Pg.fold_mk {p:Pg} (h:p.sz<=1048576):1+p.fold.mk'<=1000000000:=by
 have h0:=Pg.mk_le h;unfold Pg.fold
 split
 ·have h1:=fY0 (f:=Ru.mk') (g:=Ru.mk') (h:=Ru.mp Ex.fold) p.rules fun r _=>by
   have q1:=fY0 (f:=Sm.mk') (g:=Sm.mk') (h:=Sm.mp Ex.fold) r.a fun x _=>wZ1 x;have q2:=Go.Gv.fold_mk r.p;rw[Ex.mk'_eq,Ex.mk'_eq] at q2;rw[Ru.mk'_eq,Ru.mk'_eq];unfold Ru.mp
   dsimp only
   split<;>omega
  have h2:=fY0 (f:=Fu.mk') (g:=Fu.mk') (h:=Fu.mp Ex.fold) p.fns fun f _=>by
   have q1:=fY0 (f:=Sm.mk') (g:=Sm.mk') (h:=Sm.mp Ex.fold) f.a fun x _=>wZ1 x;rw[Fu.mk'_eq,Fu.mk'_eq]
   show 1+cs str1 f.params+cs Sm.mk' (f.a.map (Sm.mp Ex.fold))<=_
   omega
  show 1+(cs Ru.mk' (p.rules.map (Ru.mp Ex.fold))+cs Fu.mk' (p.fns.map (Fu.mp Ex.fold)))<=_
  simp only[Pg.mk'] at h0;omega
 ·exact h0
variable {I:∀{α:Type},α->α}
open Go.RowKit
mutual
theorem Sm.o_fr:∀e:Sm,frC e.o=true
 | .mk k s t x a b=>by rw[Sm.o.eq_1];simp only[frC,fr,Ex.map_fr x,Sm.os_fr a,Sm.os_fr b];rfl
theorem Sm.os_fr:∀l:List Sm,frE (Sm.os l)=true
 | []=>rfl
 | e::l=>by rw[Sm.os.eq_2,frE,Sm.o_fr e,Sm.os_fr l];rfl
end
theorem Sm.map_fr (l:List Sm):frE (l.map Sm.o)=true:=by rw[<-Sm.os_map,Sm.os_fr]
theorem DL0:∀l:List ByteArray,frE (l.map strT)=true
 | []=>rfl
 | _::l=>by rw[List.map_cons,frE,DL0 l];rfl
theorem Ru.map_fr:∀l:List Ru,frE (l.map Ru.o)=true
 | []=>rfl
 | r::l=>by rw[List.map_cons,frE,Ru.map_fr l,Ru.o_eq];simp only[frC,fr,Ex.map_fr,Sm.map_fr];rfl
theorem Fu.map_fr:∀l:List Fu,frE (l.map Fu.o)=true
 | []=>rfl
 | r::l=>by rw[List.map_cons,frE,Fu.map_fr l,Fu.o_eq];simp only[frC,fr,DL0,Sm.map_fr];rfl
theorem PX0:∀l:List ByteArray,erE (l.map strT)=l.map strT
 | []=>rfl
 | s::l=>by rw[List.map_cons,erE,PX0 l];rfl
theorem Ru.map_erR:∀l:List Ru,erE (l.map Ru.o)=l.map Ru.t
 | []=>rfl
 | r::l=>by rw[List.map_cons,List.map_cons,erE,Ru.map_erR l,Ru.o_eq];simp only[erC,T.er,Ex.map_erR,Sm.map_erR];obtain ⟨k,⟨pk,pn,ps,pl⟩,a⟩:=r;rw[Ru.t,Ex.t_mk];rfl
theorem Fu.map_erR:∀l:List Fu,erE (l.map Fu.o)=l.map Fu.t
 | []=>rfl
 | r::l=>by rw[List.map_cons,List.map_cons,erE,Fu.map_erR l,Fu.o_eq];simp only[erC,T.er,PX0,Sm.map_erR];rfl
abbrev pI (p:Pg):AV:=pA @id p
@[reducible] def pV (u u':Value):Value:=.agg #[u,u']
theorem agg_pg {E:Go.Av.Env} {c d:A} {v:Value} {own:List Nat} (h:RepV E ⟨.agg,[c,d]⟩ v own):∃u u' o o',v=pV u u'/\own=o++o'/\RepA E c u o/\RepA E d u' o':=by
 obtain ⟨ha,u0,us0,p0,q0,h1,rfl,h2,u1,us1,p1,q1,rfl,rfl,h3,h4⟩:=h;have h5:us1=[]:=h4.1;have h6:q1=[]:=h4.2;subst h5 h6;have ha:zZ0 v=true:=ha;cases v<;>simp[zZ0] at ha
 rename_i cs _hh;refine ⟨u0,u1,p0,p1,?_,by simp,h2,h3⟩
 show Value.agg cs=Value.agg _
 congr 1
 exact Array.toList_inj.1 (by simpa [flat] using h1)
def OwnP (w:World) (p:Pg) (u u':Value) (o:List Nat):Prop:=∃o1 o2,o=o1++o2/\RepL NoS w (.own (p.rules.map Ru.o)) u o1/\RepL NoS w (.own (p.fns.map Fu.o)) u' o2/\o.Nodup
theorem OwnP.lt {w:World} {p:Pg} {u u':Value} {o:List Nat} (h:OwnP w p u u' o):∀b∈o,b < w.heap.size:=by
 obtain ⟨o1,o2,rfl,h1,h2,_⟩:=h;exact fun b hb=>(List.mem_append.1 hb).elim (RepL.lt _ _ _ h1 b) (RepL.lt _ _ _ h2 b)
theorem OwnP.keeps {w w':World} {p:Pg} {u u':Value} {o O:List Nat} (h:OwnP w p u u' o) (hk:Keeps O w w') (ho:∀b∈o,b∉O):OwnP w' p u u' o:=by
 have hlt:=h.lt;obtain ⟨o1,o2,rfl,h1,h2,h3⟩:=h;exact ⟨o1,o2,rfl,RepL.mono (fun _ h=>h) (fun _ h=>h.elim) _ _ _ (fun b hb=>hk.block b (hlt b (by simp[hb])) (ho b (by simp[hb]))) h1,RepL.mono (fun _ h=>h) (fun _ h=>h.elim) _ _ _ (fun b hb=>hk.block b (hlt b (by simp[hb])) (ho b (by simp[hb]))) h2,h3⟩
theorem wU1 {w:World} {p:Pg} {u u':Value} {S:Nat->Prop} (hS:∀b,S b->b < w.heap.size) (h:RepS S w (.sl (p.rules.map Ru.t)) u) (h':RepS S w (.sl (p.fns.map Fu.t)) u'):RepV (EA w) (pI p) (pV u u') []:=by
 have g:=RepS.mono (S':=All w) hS (fun _ _=>rfl) _ _ h;have g':=RepS.mono (S':=All w) hS (fun _ _=>rfl) _ _ h';exact ⟨rfl,_,_,[],[],rfl,rfl,⟨g,rfl⟩,_,_,[],[],rfl,rfl,⟨g',rfl⟩,rfl,rfl⟩
theorem OwnP.read {w:World} {p:Pg} {u u':Value} {o:List Nat} (h:OwnP w p u u' o):RepV (EA w) (pI p) (pV u u') []:=by
 have hlt:=h.lt;obtain ⟨o1,o2,rfl,h1,h2,h3⟩:=h;have a1:=RepL.toS (S':=All w) (fun b hb=>hb.elim) _ _ _ (fun b hb=>hlt b (by simp[hb])) h1
 have a2:=RepL.toS (S':=All w) (fun b hb=>hb.elim) _ _ _ (fun b hb=>hlt b (by simp[hb])) h2
 simp only[T.er,Ru.map_erR,Fu.map_erR] at a1 a2;exact wU1 (fun _ h=>h) a1 a2
structure RdP (n:Nat) (w:World) (p:Pg) (u u':Value):Prop where
 r:RepS (fun b=>b < n) w (.sl (p.rules.map Ru.t)) u
 r':RepS (fun b=>b < n) w (.sl (p.fns.map Fu.t)) u'
 lt:n<=w.heap.size
theorem RdP.keeps {n:Nat} {w w':World} {p:Pg} {u u':Value} {O:List Nat} (h:RdP n w p u u') (hk:Keeps O w w') (hO:∀b∈O,n<=b):RdP n w' p u u':=
 ⟨RepS.mono (fun _ h=>h) (fun b hb=>hk.block b (Nat.lt_of_lt_of_le hb h.lt) (fun q=>by have:=hO b q;omega)) _ _ h.r,RepS.mono (fun _ h=>h) (fun b hb=>hk.block b (Nat.lt_of_lt_of_le hb h.lt) (fun q=>by have:=hO b q;omega)) _ _ h.r',Nat.le_trans h.lt hk.size⟩
theorem RdP.read {n:Nat} {w:World} {p:Pg} {u u':Value} (h:RdP n w p u u'):RepV (EA w) (pI p) (pV u u') []:=wU1 (fun b hb=>Nat.lt_of_lt_of_le hb h.lt) h.r h.r'
theorem zB1 {f:FuncId} {args:List AV} {p:Pg} (h:ACl Tryz.prog f args [] (fun res bx=>res=pO @id p/\bx=[])) {w:World} (hg:GdW w) {vals:Array Value} (hv:RpS (EA w) args vals.toList []) :
  Calls Tryz.prog f vals w fun r w'=>∃ad n c ad' n' c' o,r=.returned (pV (.slice ad n c) (.slice ad' n' c'))/\Keeps [] w w'/\OwnP w' p (.slice ad n c) (.slice ad' n' c') o/\∀b∈o,w.heap.size<=b:=by
 refine (fZ0 h w hg vals hv).mono ?_;rintro r w' ⟨v,rfl,hk,res,bx',S',bl',o,⟨rfl,_⟩,hr,hnd,hf,hS⟩;obtain ⟨u,u',o1,o2,rfl,rfl,a1,a2⟩:=agg_pg hr;have b1:=fr_L (S':=NoS) (.own (p.rules.map Ru.o)) _ _ (Ru.map_fr _) (wW1 a1);have b2:=fr_L (S':=NoS) (.own (p.fns.map Fu.o)) _ _ (Fu.map_fr _) (wW1 a2);obtain ⟨ad,cap,rfl,-⟩:=xK0 b1;obtain ⟨ad',cap',rfl,-⟩:=xK0 b2;exact ⟨_,_,_,_,_,_,o1++o2,rfl,hk,⟨o1,o2,rfl,b1,b2,hnd⟩,hf⟩
theorem DE0 (p:Pg) (hz:p.sz<=1048576) {w:World} (hg:GdW w) {v:Value} (hv:RepV (EA w) (pI p) v []):Calls Tryz.prog 14 #[v] w fun r w'=>∃ad n c ad' n' c' o,r=.returned (pV (.slice ad n c) (.slice ad' n' c'))/\Keeps [] w w'/\OwnP w' p (.slice ad n c) (.slice ad' n' c') o/\∀b∈o,w.heap.size<=b:=
 zB1 (wG1 (I:=@id) rfl p hz) hg (sl1 hv slots_nil)
theorem RG0 (p:Pg) (hz:p.sz<=1048576) {w:World} (hg:GdW w) {v:Value} (hv:RepV (EA w) (pI p) v []):Calls Tryz.prog 15 #[v] w fun r w'=>∃ad n c ad' n' c' o,r=.returned (pV (.slice ad n c) (.slice ad' n' c'))/\Keeps [] w w'/\OwnP w' p.fold (.slice ad n c) (.slice ad' n' c') o/\∀b∈o,w.heap.size<=b:=
 zB1 (VP0 (I:=@id) rfl p hz) hg (sl1 hv slots_nil)
theorem DF0 (p:Pg) (hz:p.sz<=1048576) {w:World} (hg:GdW w) {v:Value} (hv:RepV (EA w) (pI p) v []):Calls Tryz.prog 13 #[v] w fun r w'=>∃ad n c ad' n' c',r=.returned (pV (.slice ad n c) (.slice ad' n' c'))/\Keeps [] w w'/\RdP w'.heap.size w' p.fold (.slice ad n c) (.slice ad' n' c'):=by
 refine (fZ0 (VN0 (I:=@id) rfl p hz) w hg #[v] (sl1 hv slots_nil)).mono ?_;rintro r w' ⟨v,rfl,hk,res,bx',S',bl',o,⟨rfl,_⟩,hr,hnd,hf,hS⟩;obtain ⟨u,u',o1,o2,rfl,rfl,a1,a2⟩:=agg_pg hr;obtain ⟨ad,cap,rfl,-⟩:=a1.1;obtain ⟨ad',cap',rfl,-⟩:=a2.1;exact ⟨_,_,_,_,_,_,rfl,hk,RepS.mono (fun b hb=>(hS b hb).1) (fun _ _=>rfl) _ _ a1.1,RepS.mono (fun b hb=>(hS b hb).1) (fun _ _=>rfl) _ _ a2.1,Nat.le_refl _⟩
structure Bx2 (w:World) (B:Nat) (a b:Value):Prop where
 lt:B < w.heap.size
 c0:w.cell? ⟨B,0,none⟩=some a
 c1:w.cell? ⟨B,1,none⟩=some b
theorem Bx2.keeps {w w':World} {B:Nat} {a b:Value} {O:List Nat} (h:Bx2 w B a b) (hk:Keeps O w w') (hB:B∉O):Bx2 w' B a b:=by
 have e:=hk.block B h.lt hB;exact ⟨Nat.lt_of_lt_of_le h.lt hk.size,by rw[cell?_congr e];exact h.c0,by rw[cell?_congr e];exact h.c1⟩
theorem Bx2.al (w:World) (a b:Value) (t:TypeId):Bx2 (w.alloc (.cells #[a,b] t)) w.heap.size a b:=⟨by rw[World.size_alloc];omega,by rw[World.cell?_alloc_new];rfl,by rw[World.cell?_alloc_new];rfl⟩
abbrev Pg.mkd (k:Nat) (p:Pg):Pg:=⟨mapK Ru.mq Ru.mk' k p.rules,mapK Fu.mq Fu.mk' (k+cs Ru.mk' p.rules) p.fns⟩
theorem xW1 (p:Pg) (hp:p.Bd) {w:World} (hG:GdW w) {u u':Value} {o:List Nat} (h:OwnP w p u u' o) (hGo:∀x∈glb,x∉o) (k:Nat) (hk:k+p.mk'<=1000000000) :
  Calls Tryz.prog 17 #[pV u u',.int .i64 k] w fun r w'=>r=.returned (.int .i64 ((k+p.mk':Nat):Int))/\Keeps o w w'/\OwnP w' (p.mkd k) u u' o:=by
 have hM:=HF0 p.rules hp.r hp.r';have hN:=xT1 p.fns hp.f hp.f';obtain ⟨o1,o2,rfl,h1,h2,hnd⟩:=h;obtain ⟨ad,cap,rfl,-⟩:=xK0 h1;obtain ⟨ad',cap',rfl,-⟩:=xK0 h2;have hdj:=List.nodup_append.1 hnd;have ka:=xG0 w (.cells #[.slice ad (p.rules.map Ru.o).length cap,.slice ad' (p.fns.map Fu.o).length cap'] 42);have bA:=Bx2.al w (.slice ad (p.rules.map Ru.o).length cap) (.slice ad' (p.fns.map Fu.o).length cap') 42
 have c0:=bA.c0;have hA1:=RepL.mono (S':=NoS) (fun _ h=>h) (fun _ h=>h.elim) _ _ _ (fun b hb=>ka.block b (RepL.lt _ _ _ h1 b hb) (by simp)) h1
 have hA2:=RepL.mono (S':=NoS) (fun _ h=>h) (fun _ h=>h.elim) _ _ _ (fun b hb=>ka.block b (RepL.lt _ _ _ h2 b hb) (by simp)) h2
 have gA:=hG.keeps ka (by simp)
 have l1:=RepL.lt _ _ _ h1;generalize (p.rules.map Ru.o).length=N at *;generalize (p.fns.map Fu.o).length=N' at *
 go_enter Tryz.func17,Tryz.ntmps17
 go_wp2_with (first
  | (go_at_call 43;have hq:=k2;refine (hN _ _ o2 (k+cs Ru.mk' p.rules) r2b hdj.2.1 g2 (fun x hx q=>hGo x hx (by simp[q])) (by simp only[Pg.mk'] at hk;omega)).mono ?_;rintro r w3 ⟨rfl,k3,r3⟩)
  | (go_at_call 42;refine (hM _ _ o1 k hA1 hdj.1 gA (fun x hx q=>hGo x hx (by simp[q])) (by simp only[Pg.mk'] at hk;omega)).mono ?_;rintro r w2 ⟨rfl,k2,r2⟩;have b2:=bA.keeps k2 (fun q=>by have:=l1 _ q;omega);have c1:=b2.c1;have c0:=b2.c0;have r2b:=RepL.mono (S':=NoS) (fun _ h=>h) (fun _ h=>h.elim) _ _ _ (fun b hb=>k2.block b (RepL.lt _ _ _ hA2 b hb) (fun q=>hdj.2.2 b q b hb rfl)) hA2;have g2:=gA.keeps k2 (fun x hx q=>hGo x hx (by simp[q]))))
 go_ret
 refine ⟨by show Ending.returned (.int .i64 _)=Ending.returned (.int .i64 _);congr 2;simp only[Pg.mk'];omega,Keeps.tr (Keeps.mono' ka (by simp)) (Keeps.tr (Keeps.mono' k2 (by intro x hx;simp[hx])) (Keeps.mono' k3 (by intro x hx;simp[hx]))),o1,o2,rfl,?_,r3,hnd⟩
 exact RepL.mono (fun _ h=>h) (fun _ h=>h.elim) _ _ _ (fun b hb=>k3.block b (RepL.lt _ _ _ r2 b hb) (fun q=>hdj.2.2 b hb b q rfl)) r2
theorem RE0 (p:Pg) (hp:p.Bd) (hm:1+p.mk'<=1000000000) {w:World} (hG:GdW w) {u u':Value} {o:List Nat} (h:OwnP w p u u' o) (hGo:∀x∈glb,x∉o) :
  Calls Tryz.prog 17 #[pV u u',.int .i64 1] w fun r w'=>∃n:Nat,n=1+p.mk'/\r=.returned (.int .i64 n)/\Keeps o w w'/\OwnP w' (p.mkd 1) u u' o:=by
 refine (xW1 p hp hG h hGo 1 hm).mono ?_;rintro r w' ⟨rfl,k,h⟩;exact ⟨_,rfl,rfl,k,h⟩
theorem QU0 (hI:II @I) (p:Pg) (hp:p.Bd) (k:Nat) (hk:k+p.mk'<=1000000000):ACl Tryz.prog 18 [pA @I (p.mkd k),litI (Int.ofNat (I k))] [] (fun res bx=>res=litI (Int.ofNat (I (k+p.mk')))/\bx=[]):=by
 simp only[Pg.mk'] at hk;have c1:=He_Ru hI p.rules hp.r hp.r' k (by omega)
 have c2:=He_Fu hI p.fns hp.f hp.f' (k+cs Ru.mk' p.rules) (by omega)
 have e1:k+p.mk'=k+cs Ru.mk' p.rules+cs Fu.mk' p.fns:=by simp only[Pg.mk'];omega
 rw[e1];clear e1
 show ACl Tryz.prog 18 [⟨.agg,[.ro true (I ((mapK Ru.mq Ru.mk' k p.rules).map Ru.t)),.ro true (I ((mapK Fu.mq Fu.mk' (k+cs Ru.mk' p.rules) p.fns).map Fu.t))]⟩,litI (Int.ofNat (I k))] [] _
 refine qN hI tyK Tryz.func18 18 [.tmp 4] ?_;unhygienic intros
 refine qB 0 ?_
 repeat' first|refine qA 0 ?_|refine qJ (nN []) ?_|refine qp ?_ ?_|refine qk (fun h=>?_) fun h=>?_|fail
 all_goals first | exact absurd h (by omega) | exact hR _ _ ⟨rfl,rfl⟩
theorem RF0 (p:Pg) (hp:p.Bd) (hm:1+p.mk'<=1000000000) {w:World} (hG:GdW w) {u u':Value} {o:List Nat} (h:OwnP w (p.mkd 1) u u' o) {n:Nat} (hn:n=1+p.mk') :
  Calls Tryz.prog 18 #[pV u u',.int .i64 1] w fun r w'=>r=.returned (.int .i64 n)/\Keeps [] w w':=by
 have h1:=QU0 (I:=@id) rfl p hp 1 hm;have h2:=uW1 h1 hG (vals:=#[pV u u',.int .i64 1]) (sl1 h.read (sli slots_nil));rw[hn];exact h2
end Go.Gv
