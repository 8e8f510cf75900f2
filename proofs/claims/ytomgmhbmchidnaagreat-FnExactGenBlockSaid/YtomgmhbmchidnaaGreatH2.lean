/- Part H2 of the proof: contracts of functions of the program, each walked once. -/
import Derived.Test.YtomgmhbmchidnaaGreatH1
import Derived.Test.YtomgmhbmchidnaaGreatU2
import Derived.Test.YtomgmhbmchidnaaGreatG4
set_option linter.all false
namespace Go.Gv
open Go.Av Go.Proofs
set_option maxRecDepth 10000
set_option maxHeartbeats 8000000
variable {I:∀{α:Type},α->α}
section
variable {S:Type} {fT:FuncId} {kz:Nat} {L:S->List (List T)} {step:S->Ex->S} {G:Nat->S->Prop}
@[simp,reducible] def bxO (I:∀{α:Type},α->α) {S:Type} (kz:Nat) (L:S->List (List T)) (s:S):Option (List A):=some [.ow (0,0) false kz (I (L s))]
theorem wT1 (hI:II @I) (ht:Tell @I fT kz L step G) (y:Sm) (hy:y.x.length<=1048576) (hx:∀e∈y.x,e.Sh) (s:S) (n:Nat) (hg:G (n+Ex.partss y.x) s) :
  ACl Tryz.prog 152 [sA @I y,⟨.one,[.ptr 1 0]⟩] [bxO @I kz L s,some [.fn fT [(0,0)]]] (fun res bx=>res=⟨.tup [],[]⟩/\bx=[bxO @I kz L (y.x.foldl (fE step) s),some [.fn fT [(0,0)]]]):=by
 refine qN hI tyK Tryz.func152 16 [] ?_;unhygienic intros
 refine qB 2 ?_;refine qLf 3 [1,6,7,8] kk0 (fun i:Nat=>⟨vag 16 [(1,⟨.one,[.ptr 1 0]⟩),(6,⟨.one,[.ro true (I (y.x.map Ex.t))]⟩),(7,litI (Int.ofNat (I y.x.length))),(8,litI (Int.ofNat (I i)))],[bxO @I kz L ((y.x.take i).foldl (fE step) s),some [.fn fT [(0,0)]],some (sA @I y).cs],1⟩) (fun i=>i<=y.x.length) (fun i=>y.x.length - i) ?_ fun i hi=>?_
 ·cbv
  exact ⟨0,by simp[hI.e];rfl,by omega⟩
 have c2:=fun (hh:i < y.x.length)=>dQ0 hI ht _ (hx _ (zB0 hh)) _ n (UM0 ht.nx ht.le s hh hg);refine qB 2 ?_
 repeat' first|refine qA 2 ?_|refine qJ (nN [0]) ?_|refine qp ?_ ?_|refine qk (fun h=>?_) fun h=>?_|fail
 ·exact ⟨i+1,by (try simp only[A.reset,zD0,hI.e,List.append_assoc,Bool.or_false,zC0,xW0 (fE step) s h]);rfl,by omega,by omega⟩
 ·have ht:y.x.take i=y.x:=List.take_of_length_le (by omega)
  rw[ht];exact hR _ _ ⟨rfl,rfl⟩
abbrev StQ (I:∀{α:Type},α->α) {S:Type} (fT:FuncId) (kz:Nat) (L:S->List (List T)) (step:S->Ex->S) (G:Nat->S->Prop) (l:List Sm):Prop:=∀(s:S) (n:Nat),G (n+Sm.partss l) s->
 ACl Tryz.prog 82 [smA @I l,⟨.one,[.fn 152 [(1,0)]]⟩] [bxO @I kz L s,some [.fn fT [(0,0)]]] (fun res bx=>res=⟨.tup [],[]⟩/\bx=[bxO @I kz L (fB step s l),some [.fn fT [(0,0)]]])
theorem xX1 (nx:∀e s n,G (n+1) s->G n (step s e)) (le:∀s n m,m<=n->G n s->G m s) (s:S) {l:List Sm} {i:Nat} (hi:i < l.length) {n:Nat} (h:G (n+Sm.partss l) s):G (n+(l[i]!).parts) ((l.take i).foldl (fM step) s):=by
 rw[<-UQ0];refine fB_G nx s _ _ (le _ _ _ ?_ h);have h1:=congrArg Sm.partss (List.take_append_drop (i+1) l);rw[Sm.partss_app,yP0 hi,Sm.partss_app,Sm.partss_one] at h1;omega
theorem uD0 (hI:II @I) (ht:Tell @I fT kz L step G) (l:List Sm) (hm:l.length<=1048576) (hx:∀y∈l,y.Sh) (ih:∀y∈l,StQ @I fT kz L step G y.a/\StQ @I fT kz L step G y.b):StQ @I fT kz L step G l:=by
 intro s n hg;rw[UQ0];refine qN hI tyK Tryz.func82 24 [] ?_;unhygienic intros
 refine qB 2 ?_;refine qLf 2 [1,6,7,8] kk0 (fun i:Nat=>⟨vag 24 [(1,⟨.one,[.fn 152 [(1,0)]]⟩),(6,smA @I l),(7,litI (Int.ofNat (I l.length))),(8,litI (Int.ofNat (I i)))],[bxO @I kz L ((l.take i).foldl (fM step) s),some [.fn fT [(0,0)]]],1⟩) (fun i=>i<=l.length) (fun i=>l.length - i) ?_ fun i hi=>?_
 ·cbv
  exact ⟨0,by simp[hI.e];rfl,by omega⟩
 have hgi:=fun (hh:i < l.length)=>xX1 ht.nx ht.le s hh hg;generalize hq:(l.take i).foldl (fM step) s=q at hgi |-;have hpp:=fun (hh:i < l.length)=>show (l[i]!).parts=Ex.partss (l[i]!).x+Sm.partss (l[i]!).a+Sm.partss (l[i]!).b by cases l[i]!;rw[Sm.parts];rfl
 have g0:=fun (hh:i < l.length)=>show G (n+Sm.partss (l[i]!).b+Sm.partss (l[i]!).a+Ex.partss (l[i]!).x) q by have:=hgi hh;rw[hpp hh] at this;rwa[show n+(Ex.partss (l[i]!).x+Sm.partss (l[i]!).a+Sm.partss (l[i]!).b)=n+Sm.partss (l[i]!).b+Sm.partss (l[i]!).a+Ex.partss (l[i]!).x by omega] at this
 have g1:=fun (hh:i < l.length)=>show G (n+Sm.partss (l[i]!).b+Sm.partss (l[i]!).a) ((l[i]!).x.foldl (fE step) q) by rw[<-rY0];exact fL_G ht.nx q _ _ (g0 hh)
 have c1:=fun (hh:i < l.length)=>wT1 hI ht (l[i]!) (hx _ (zB0 hh)).lx (hx _ (zB0 hh)).ex q _ (g0 hh);have c2:=fun (hh:i < l.length)=>(ih _ (zB0 hh)).1 _ _ (g1 hh);have c3:=fun (hh:i < l.length)=>(ih _ (zB0 hh)).2 _ _ (fB_G ht.nx _ _ _ (g1 hh));refine qB 2 ?_
 repeat' first|refine qA 2 ?_|refine qJ (nN [0,1]) ?_|refine qp ?_ ?_|refine qk (fun h=>?_) fun h=>?_|fail
 ·exact ⟨i+1,by (try simp only[A.reset,zD0,hI.e,List.append_assoc,Bool.or_false,zC0,xW0 (fM step) s h,hq,fM_eq]);rfl,by omega,by omega⟩
 ·have ht:l.take i=l:=List.take_of_length_le (by omega)
  rw[ht] at hq;subst hq;exact hR _ _ ⟨rfl,rfl⟩
end
variable {I:∀{α:Type},α->α}
section
variable {S:Type} {fT:FuncId} {kz:Nat} {L:S->List (List T)} {step:S->Ex->S} {G:Nat->S->Prop}
theorem KF0 (hI:II @I) (ht:Tell @I fT kz L step G) (l:List Sm) (hm:l.length<=1048576) (hx:∀y∈l,y.Sh):StQ @I fT kz L step G l:=by
 have key:∀y:Sm,y.Sh->StQ @I fT kz L step G y.a/\StQ @I fT kz L step G y.b:=by
  refine Sm.ind fun y ih hy=>?_;obtain ⟨_,_,_,la,lb,hs⟩:=hy;have ha:=fun z (hz:z∈y.a)=>hs z (List.mem_append_left _ hz);have hb:=fun z (hz:z∈y.b)=>hs z (List.mem_append_right _ hz);exact ⟨uD0 hI ht y.a la ha fun z hz=>ih z (List.mem_append_left _ hz) (ha z hz),uD0 hI ht y.b lb hb fun z hz=>ih z (List.mem_append_right _ hz) (hb z hz)⟩
 exact uD0 hI ht l hm hx fun y hy=>key y (hx y hy)
structure Pa.Sh (x:Pa):Prop where
 lw:x.when_.length<=1
 w:∀e∈x.when_,e.Sh
 ll:x.l.length<=1048576
 l:∀y∈x.l,y.Sh
def Pa.parts (x:Pa):Nat:=Ex.partss x.when_+Sm.partss x.l
theorem TH0 (hI:II @I) (ht:Tell @I fT kz L step G) (x:Pa) (hx:x.Sh) (s:S) (n:Nat) (hg:G (n+x.parts) s) :
  ACl Tryz.prog 79 [paA @I x,⟨.one,[.fn fT [(0,0)]]⟩] [bxO @I kz L s] (fun res bx=>res=⟨.tup [],[]⟩/\bx=[bxO @I kz L (fP step s x)]):=by
 have hlw:=hx.lw;have g0:G (n+Sm.partss x.l+Ex.partss x.when_) s:=by rw[Pa.parts] at hg;rwa[show n+(Ex.partss x.when_+Sm.partss x.l)=n+Sm.partss x.l+Ex.partss x.when_ by omega] at hg
 have g1:G (n+Sm.partss x.l) (x.when_.foldl (fE step) s):=by rw[<-rY0];exact fL_G ht.nx s _ _ g0
 refine qN hI tyK Tryz.func79 21 [] ?_;unhygienic intros
 refine qB 1 ?_;refine qLf 3 [2,3,7,8,9] kk0 (fun i:Nat=>⟨vag 21 [(2,⟨.one,[.ptr 1 0]⟩),(3,⟨.one,[.ptr 2 0]⟩),(7,⟨.one,[.ro true (I (x.when_.map Ex.t))]⟩),(8,litI (Int.ofNat (I x.when_.length))),(9,litI (Int.ofNat (I i)))],[bxO @I kz L ((x.when_.take i).foldl (fE step) s),some (paA @I x).cs,some [.fn fT [(0,0)]]],1⟩) (fun i=>i<=x.when_.length) (fun i=>x.when_.length - i) ?_ fun i hi=>?_
 ·cbv
  exact ⟨0,by simp[hI.e];rfl,by omega⟩
 have c1:=fun (hh:i < x.when_.length)=>dQ0 hI ht _ (hx.w _ (zB0 hh)) _ _ (UM0 ht.nx ht.le s hh g0);have c2:=KF0 hI ht x.l hx.ll hx.l _ _ g1
 by_cases h:i < x.when_.length
 ·clear c2
  refine qB 1 ?_
  repeat' first|refine qA 1 ?_|refine qJ (nN [0]) ?_|refine qp ?_ ?_|refine qk (fun h=>?_) fun h=>?_|fail
  ·exact ⟨i+1,by (try simp only[A.reset,zD0,hI.e,List.append_assoc,Bool.or_false,zC0,xW0 (fE step) s h]);rfl,by omega,by omega⟩
  ·omega
 ·have hw:x.when_.take i=x.when_:=List.take_of_length_le (by omega)
  rw[hw];clear c1;refine qB 1 ?_
  repeat' first|refine qA 1 ?_|refine qJ (nN [0,2]) ?_|refine qp ?_ ?_|refine qk (fun h=>?_) fun h=>?_|fail
  ·omega
  ·exact hR _ _ ⟨rfl,rfl⟩
theorem UN0 (nx:∀e s n,G (n+1) s->G n (step s e)):∀(l:List Pa) (s:S) (n:Nat),G (n+(l.map Pa.parts).sum) s->G n (l.foldl (fP step) s)
 | [],s,n,h=>h
 | x::l,s,n,h=>by
  rw[List.map_cons,List.sum_cons,Pa.parts,show n+(Ex.partss x.when_+Sm.partss x.l+(l.map Pa.parts).sum)=n+(l.map Pa.parts).sum+Sm.partss x.l+Ex.partss x.when_ by omega] at h
  rw[List.foldl_cons,fP];refine UN0 nx l _ n (fB_G nx _ _ _ ?_);rw[<-rY0];exact fL_G nx _ _ _ h
theorem xW1 (nx:∀e s n,G (n+1) s->G n (step s e)) (le:∀s n m,m<=n->G n s->G m s) (s:S) {l:List Pa} {i:Nat} (hi:i < l.length) {n:Nat} (h:G (n+(l.map Pa.parts).sum) s):G (n+(l[i]!).parts) ((l.take i).foldl (fP step) s):=by
 refine UN0 nx _ s _ (le _ _ _ ?_ h);have h1:=congrArg (fun l=>(List.map Pa.parts l).sum) (List.take_append_drop (i+1) l);simp only[List.map_append,List.sum_append,yP0 hi,List.map_cons,List.map_nil,List.sum_cons,List.sum_nil] at h1;omega
theorem dP0 (hI:II @I) (ht:Tell @I fT kz L step G) (p:Pg) (hz:p.sz<=1048576) (hx:∀x∈Pa.of p,x.Sh) (hl:(Pa.of p).length<=1048576) (s:S) (n:Nat) (hg:G (n+((Pa.of p).map Pa.parts).sum) s) :
  ACl Tryz.prog 155 [pA @I p,⟨.one,[.fn fT [(0,0)]]⟩] [bxO @I kz L s] (fun res bx=>res=⟨.tup [],[]⟩/\bx=[bxO @I kz L ((Pa.of p).foldl (fP step) s)]):=by
 have c1:=tZ0 hI p hz;have e1:=Pa.tI hI;generalize Pa.of p=l at *;generalize Pa.t=pt at *;refine qN hI tyK Tryz.func155 17 [] ?_;unhygienic intros
 have hall:all (I (l.map pt)) 4:=F.n2 _ _ _ (by intro x;rw[e1];rfl)
 refine qB 1 ?_
 repeat' first|refine qA 1 ?_|refine qJ (nN []) ?_|refine qp ?_ ?_|refine qk (fun h=>?_) fun h=>?_|fail
 refine qLf 2 [1,7,8,9] kk0 (fun i:Nat=>⟨vag 17 [(1,⟨.one,[.fn fT [(0,0)]]⟩),(7,⟨.one,[.ro true (I (l.map pt))]⟩),(8,litI (Int.ofNat (I l.length))),(9,litI (Int.ofNat (I i)))],[bxO @I kz L ((l.take i).foldl (fP step) s),some (pA @I p).cs],1⟩) (fun i=>i<=l.length) (fun i=>l.length - i) ?_ fun i hi=>?_
 ·cbv
  exact ⟨0,by simp[hI.e];rfl,by omega⟩
 have c2:=fun (hh:i < l.length)=>TH0 hI ht _ (hx _ (zB0 hh)) _ n (xW1 ht.nx ht.le s hh hg);clear c1;refine qB 1 ?_
 repeat' first|refine qA 1 ?_|refine qJ (nN [0]) ?_|refine qp ?_ ?_|refine qk (fun h=>?_) fun h=>?_|fail
 ·exact ⟨i+1,by (try simp only[A.reset,zD0,hI.e,List.append_assoc,Bool.or_false,zC0,xW0 (fP step) s h]);rfl,by omega,by omega⟩
 ·have ht:l.take i=l:=List.take_of_length_le (by omega)
  rw[ht];exact hR _ _ ⟨rfl,rfl⟩
end
variable {I:∀{α:Type},α->α}
theorem RE0 (hI:II @I) (st:Bool) (l:List ByteArray) (s:ByteArray) (hl:l.length<=1099511627776) :
  ACl Tryz.prog 149 [⟨.one,[.ro st (I (l.map strT))]⟩,litS s] [] (fun res bx=>res=litB (I (decide (0<=ixOf l s)))/\bx=[]):=by
 have c1:=fun st=>rC0 hI st l s hl;refine qN hI tyK Tryz.func149 9 [.tmp 4] ?_;unhygienic intros
 refine qB 0 ?_
 repeat' first|refine qA 0 ?_|refine qJ (nN []) ?_|refine qp ?_ ?_|refine qk (fun h=>?_) fun h=>?_|fail
 all_goals (refine hR _ _ ⟨?_,?_⟩<;>(simp[-List.getElem!_eq_getElem?_getD,hI.e,F.d1,F.d2,F.d3,F.d4,F.d5,F.d6,F.d7,F.d8,litI,litS,litB];done))
theorem RD0 (hI:II @I) (st:Bool) (l:List Vl) (k n:Int) (s:ByteArray) (hl:l.length<=1099511627776) :
  ACl Tryz.prog 157 [⟨.one,[.ro st (I (l.map Vl.t))]⟩,⟨.agg,[.lit (.int .i64 k),.lit (.int .i64 n),.lit (.string s)]⟩] [] (fun res bx=>res=litB (I (decide (0<=ixOf l (⟨k,n,s⟩:Vl))))/\bx=[]):=by
 have c1:=fun st=>PP0 hI st l k n s hl;refine qN hI tyK Tryz.func157 9 [.tmp 4] ?_;unhygienic intros
 refine qB 0 ?_
 repeat' first|refine qA 0 ?_|refine qJ (nN []) ?_|refine qp ?_ ?_|refine qk (fun h=>?_) fun h=>?_|fail
 all_goals (refine hR _ _ ⟨?_,?_⟩<;>(simp[-List.getElem!_eq_getElem?_getD,hI.e,F.d1,F.d2,F.d3,F.d4,F.d5,F.d6,F.d7,F.d8,litI,litS,litB];done))
theorem tZ1 {α:Type} [DecidableEq α] {l:List α} {a:α}:0<=ixOf l a↔a∈l:=by
 rw[ixOf];split
 ·exact ⟨fun _=>(by assumption),fun _=>by omega⟩
 ·exact ⟨fun h=>absurd h (by omega),fun h=>absurd h (by assumption)⟩
theorem uC1 {α:Type} [DecidableEq α] {l:List α} {a:α}:ixOf l a < 0↔a∉l:=by rw[<-tZ1];omega
def stC (s:List Vl) (e:Ex):List Vl:=if e.k=1 then addV s ⟨1,e.n,⟨⟨[]⟩⟩⟩ else if e.k=2 then addV s ⟨2,0,e.s⟩ else s
def stR (s:List ByteArray) (e:Ex):List ByteArray:=if e.k=10\/e.k=18 then addB s e.s else s
theorem RG0 (hI:II @I) (e:Ex) (s:List Vl) (hs:s.length+1<=137438953472) :
  ACl Tryz.prog 156 [eA @I e,⟨.one,[.ptr 0 0]⟩] [some [.ow (0,0) false 3 (I (s.map Vl.t))]] (fun res bx=>res=⟨.tup [],[]⟩/\bx=[some [.ow (0,0) false 3 (I ((stC s e).map Vl.t))]]):=by
 have c1:=mY0 hI;have c2:=uK1 hI;have c3:=fun k n t=>RD0 hI false s k n t (by omega)
 refine qN hI tyK Tryz.func156 31 [] ?_;unhygienic intros
 refine qB 1 ?_
 repeat' first|refine qA 1 ?_|refine qJ (nN []) ?_|refine qJ (nN [0]) ?_|refine qp ?_ ?_|refine qk (fun h=>?_) fun h=>?_|fail
 all_goals (clear c1 c2 c3;refine hR _ _ ⟨rfl,?_⟩;simp_all [stC,addV,tZ1,uC1,hI.e])
theorem KL0 (hI:II @I) (e:Ex) (s:List ByteArray) (hs:s.length+1<=137438953472) :
  ACl Tryz.prog 158 [eA @I e,⟨.one,[.ptr 0 0]⟩] [some [.ow (0,0) false 1 (I (s.map strT))]] (fun res bx=>res=⟨.tup [],[]⟩/\bx=[some [.ow (0,0) false 1 (I ((stR s e).map strT))]]):=by
 have c3:=fun t=>RE0 hI false s t (by omega)
 refine qN hI tyK Tryz.func158 23 [] ?_;unhygienic intros
 refine qB 1 ?_
 repeat' first|refine qA 1 ?_|refine qJ (nN []) ?_|refine qJ (nN [0]) ?_|refine qp ?_ ?_|refine qk (fun h=>?_) fun h=>?_|fail
 all_goals (clear c3;refine hR _ _ ⟨rfl,?_⟩;simp_all [stR,addB,tZ1,uC1,hI.e])
theorem uY1 (s:List Vl) (e:Ex):(stC s e).length<=s.length+1:=by
 unfold stC addV
 repeat' split
 all_goals first | omega | simp
theorem uX1 (s:List ByteArray) (e:Ex):(stR s e).length<=s.length+1:=by
 unfold stR addB
 repeat' split
 all_goals first | omega | simp
theorem tellC (hI:II @I):Tell @I 156 3 (fun s:List Vl=>s.map Vl.t) stC (fun n s=>s.length+n<=137438953472):=
 ⟨rfl,fun e s n _ h=>RG0 hI e s (by omega),fun e s n h=>by have h1:=uY1 s e;have h:s.length+(n+1)<=137438953472:=h;show (stC s e).length+n<=_;omega,fun s n m h1 h2=>by have h2:s.length+n<=137438953472:=h2;show s.length+m<=_;omega⟩
theorem tellR (hI:II @I):Tell @I 158 1 (fun s:List ByteArray=>s.map strT) stR (fun n s=>s.length+n<=137438953472):=
 ⟨rfl,fun e s n _ h=>KL0 hI e s (by omega),fun e s n h=>by have h1:=uX1 s e;have h:s.length+(n+1)<=137438953472:=h;show (stR s e).length+n<=_;omega,fun s n m h1 h2=>by have h2:s.length+n<=137438953472:=h2;show s.length+m<=_;omega⟩
variable {I:∀{α:Type},α->α}
theorem WX0 (hI:II @I) (p:Pg) (hz:p.sz<=1048576):ACl Tryz.prog 76 [pA @I p] [] (fun res bx=>∃b:Bool,(b=true↔p.good)/\res=litB b/\bx=[]):=by
 simp only[pA,hI.e];exact pE0 p hz
theorem Pg.good.pa {p:Pg} (h:p.good) (hz:p.sz<=1048576):(∀x∈Pa.of p,x.Sh)/\(Pa.of p).length<=1048576/\((Pa.of p).map Pa.parts).sum<=4194304:=by
 have hs:=h.sh hz;refine ⟨fun x hx=>?_,by have:=Pa.lnO p;omega,?_⟩
 ·rw[Pa.of,List.mem_append,List.mem_map,List.mem_map] at hx
  rcases hx with ⟨f,hf,rfl⟩ | ⟨r,hr,rfl⟩
  ·exact ⟨by simp[Pa.fu],by simp[Pa.fu],(hs.f f hf).1,(hs.f f hf).2⟩
  ·have h1:=hs.r r hr
   refine ⟨by simp only[Pa.ru];split<;>simp,fun e he=>?_,h1.1.1,h1.1.2⟩
   simp only[Pa.ru] at he
   split at he
   ·simp at he;subst he;exact h1.2 (by assumption)
   ·simp at he
 ·have h2:=hs.sz
  rw[Pg.parts] at h2;have e1:(Pa.parts ∘ Pa.fu)=fun f:Fu=>Sm.partss f.a:=by funext f;simp[Pa.parts,Pa.fu,Ex.partss]
  have e2:(Pa.parts ∘ Pa.ru)=Ru.parts:=by
   funext r
   simp only[Function.comp,Pa.parts,Pa.ru,Ru.parts]
   split<;>simp[Ex.partss]
  rw[Pa.of,List.map_append,List.sum_append,List.map_map,List.map_map,e1,e2];rw[Ru.partss,Fu.partss] at h2;omega
theorem nH1 (s:Po) (k n:Int) (t:ByteArray) (l:List Ex):pS s k n t=(stC s.1 (.mk k n t l),stR s.2 (.mk k n t l)):=by
 unfold pS stC stR
 show (if k=1 then (addV s.1 ⟨1,n,⟨⟨[]⟩⟩⟩,s.2) else if k=2 then (addV s.1 ⟨2,0,t⟩,s.2) else if k=10\/k=18 then (s.1,addB s.2 t) else s)=(if k=1 then addV s.1 ⟨1,n,⟨⟨[]⟩⟩⟩ else if k=2 then addV s.1 ⟨2,0,t⟩ else s.1,if k=10\/k=18 then addB s.2 t else s.2)
 by_cases h1:k=1
 ·subst h1;simp
 by_cases h2:k=2
 ·subst h2;simp
 ·rw[if_neg h1,if_neg h2,if_neg h1,if_neg h2];split<;>rfl
mutual
theorem vZ1 (s:Po):∀e,pE s e=(fE stC s.1 e,fE stR s.2 e)
 | .mk k n t l=>by rw[pE,nH1 s k n t l,HT0,fE,fE]
theorem HT0 (s:Po):∀l,pL s l=(fL stC s.1 l,fL stR s.2 l)
 | []=>rfl
 | e::l=>by rw[pL,vZ1 s e,HT0,fL,fL]
end
mutual
theorem nK1 (s:Po):∀e,pM s e=(fM stC s.1 e,fM stR s.2 e)
 | .mk _ _ _ x a b=>by rw[pM,HT0,YY0,YY0,fM,fM]
theorem YY0 (s:Po):∀l,pB s l=(fB stC s.1 l,fB stR s.2 l)
 | []=>rfl
 | e::l=>by rw[pB,nK1 s e,YY0,fB,fB]
end
theorem nL1 (l:List Fu):∀s:Po,l.foldl pF s=((l.map Pa.fu).foldl (fP stC) s.1,(l.map Pa.fu).foldl (fP stR) s.2):=by
 induction l with
 | nil=>exact fun _=>rfl
 | cons f l ih=>intro s;rw[List.foldl_cons,ih,pF,YY0];rfl
theorem nJ1 (l:List Ru):∀s:Po,l.foldl pR s=((l.map Pa.ru).foldl (fP stC) s.1,(l.map Pa.ru).foldl (fP stR) s.2):=by
 induction l with
 | nil=>exact fun _=>rfl
 | cons r l ih=>
  intro s;rw[List.foldl_cons,ih,pR,YY0];simp only[List.map_cons,List.foldl_cons,fP,Pa.ru]
  split
  ·rw[vZ1];rfl
  ·rfl
theorem bJ0 (p:Pg):p.pool=((Pa.of p).foldl (fP stC) po0.1,(Pa.of p).foldl (fP stR) []):=by
 rw[Pg.pool,nL1,nJ1,Pa.of,List.foldl_append,List.foldl_append];rfl
theorem nT0 {E:Go.Av.Env} {k:Nat}:∀{cs:List (Option (List A))} {bs own:List Nat},RpB E cs bs own->RpB E (cs.map fun o=>o.map (List.map (A.owC k))) bs own
 | [],bs,own,h=>h
 | c::cs,bs,own,h=>by
  obtain ⟨b,bs',o1,o2,rfl,rfl,h3,h4⟩:=h;refine ⟨b,bs',o1,o2,rfl,rfl,?_,nT0 h4⟩;cases c with
  | none=>exact h3
  | some cs=>
   obtain ⟨o,arr,ty,e1,e2,e3⟩:=h3;exact ⟨o,arr,ty,e1,e2,RpA.owC e3⟩
theorem qQ1 {P:Program} {f:FuncId} {args:List AV} {bx:List (Option (List A))} {R:AV->List (Option (List A))->Prop} (k:Nat) (h:ACl P f args (bx.map fun o=>o.map (List.map (A.owC k))) R):ACl P f args bx R:=
 fun w vals S L bl O1 O2 h1 h2=>h w vals S L bl O1 O2 h1 (nT0 h2)
theorem KQ0 (hI:II @I) (p:Pg) (hg:p.good) (hz:p.sz<=1048576):ACl Tryz.prog 87 [pA @I p] [] (fun res bx=>res=⟨.one,[.ro true (I (p.pool.1.map Vl.t))]⟩/\bx=[]):=by
 rw[bJ0];refine dU0 ?_;obtain ⟨h1,h2,h3⟩:=hg.pa hz;have c1:=WX0 hI p hz;have c2:=mY0 hI;have c3:=dP0 hI (tellC hI) p hz h1 h2 po0.1 0 (by show 3+_<=_;omega)
 have e1:[[T.lit (.int .i64 0),.lit (.int .i64 0),.lit (.string ⟨⟨[]⟩⟩)],[.lit (.int .i64 1),.lit (.int .i64 0),.lit (.string ⟨⟨[]⟩⟩)],[.lit (.int .i64 1),.lit (.int .i64 1),.lit (.string ⟨⟨[]⟩⟩)]]=I (po0.1.map Vl.t):=by rw[hI.e];rfl
 refine qN hI tyK Tryz.func87 15 [.tmp 2] ?_;unhygienic intros
 refine qB 0 ?_
 repeat' first|refine qA 0 ?_|refine qJe (nN []) fun x hx=>?_|refine qJ (nN []) ?_|refine qJ (nN [1]) ?_|refine qp ?_ ?_|refine qk (fun h=>?_) fun h=>?_|fail
 ·exact absurd hg (fun q=>by simp_all)
 ·exact hR _ _ ⟨rfl,rfl⟩
theorem DY0 (hI:II @I) (p:Pg) (hg:p.good) (hz:p.sz<=1048576):ACl Tryz.prog 88 [pA @I p] [] (fun res bx=>res=⟨.one,[.ro true (I (p.pool.2.map strT))]⟩/\bx=[]):=by
 rw[bJ0];refine dU0 ?_;obtain ⟨h1,h2,h3⟩:=hg.pa hz;have c1:=WX0 hI p hz;have c4:=dP0 hI (tellR hI) p hz h1 h2 [] 0 (by show 0+_<=_;omega)
 rw[show bxO @I 1 (fun s:List ByteArray=>s.map strT) []=some [.ow (0,0) false 1 []] by simp[hI.e]] at c4
 have c3:ACl Tryz.prog 155 [pA @I p,⟨.one,[.fn 158 [(0,0)]]⟩] [some [.nil]] _:=qQ1 1 c4;clear c4;refine qN hI tyK Tryz.func88 11 [.tmp 2] ?_;unhygienic intros
 refine qB 0 ?_
 repeat' first|refine qA 0 ?_|refine qJe (nN []) fun x hx=>?_|refine qJ (nN []) ?_|refine qJ (nN [1]) ?_|refine qp ?_ ?_|refine qk (fun h=>?_) fun h=>?_|fail
 ·exact absurd hg (fun q=>by simp_all)
 ·exact hR _ _ ⟨rfl,rfl⟩
end Go.Gv
