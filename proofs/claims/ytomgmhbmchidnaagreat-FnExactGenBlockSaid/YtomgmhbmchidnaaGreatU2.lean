/- Part U2 of the proof: contracts of functions of the program, each walked once. -/
import Derived.Test.YtomgmhbmchidnaaGreatU1
import Derived.Test.YtomgmhbmchidnaaGreatD8
import Derived.Test.YtomgmhbmchidnaaGreatB1
import Derived.Test.YtomgmhbmchidnaaGreatD14
import Derived.Test.YtomgmhbmchidnaaGreatD6
import Derived.Shelf.Sort.Plain
import Derived.Shelf.Slices.In.SortNone
import Derived.Shelf.Slices.CompactS
import Derived.WalkKit
import Derived.Test.YtomgmhbmchidnaaGreatN7
set_option linter.all false
namespace Go.Gv
open Go.Av Go.Proofs
set_option maxRecDepth 10000
set_option maxHeartbeats 8000000
variable {I:∀{α:Type},α->α}
theorem uK0 {α:Type} {a b:List α} {n:Nat} (h:(a++b).length<=n):a.length<=n:=by rw[List.length_append] at h;omega
theorem Ex.z1_eq {α:Type} (z:Ex->List α) (e:Ex):Ex.z1 z e=z e++Ex.zl z e.l:=by cases e;rw[Ex.z1];rfl
theorem Sm.z1_eq {α:Type} (z:Sm->List α) (y:Sm):Sm.z1 z y=z y++(Sm.zl z y.a++Sm.zl z y.b):=by cases y;rw[Sm.z1];rfl
theorem Ex.zl_at {α:Type} {z:Ex->List α} {l:List Ex} {i:Nat} (h:i < l.length):Ex.zl z (l.take (i+1))=Ex.zl z (l.take i)++Ex.z1 z l[i]!:=by rw[yP0 h,Ex.zl_app,Ex.zl_one]
theorem Sm.zl_at {α:Type} {z:Sm->List α} {l:List Sm} {i:Nat} (h:i < l.length):Sm.zl z (l.take (i+1))=Sm.zl z (l.take i)++(z l[i]!++(Sm.zl z (l[i]!).a++Sm.zl z (l[i]!).b)):=by rw[yP0 h,Sm.zl_app,Sm.zl_one,Sm.z1_eq]
theorem Ex.zl_le {α:Type} {z:Ex->List α} {l:List Ex} {i n:Nat} {s:List α} (h:i < l.length) (hs:(s++Ex.zl z l).length<=n):(s++Ex.zl z (l.take i)++Ex.z1 z l[i]!).length<=n:=by
 rw[<-List.take_append_drop (i+1) l,Ex.zl_app,Ex.zl_at h] at hs;simp only[List.length_append] at *;omega
theorem Sm.zl_le3 {α:Type} {z:Sm->List α} {l:List Sm} {i n:Nat} {s:List α} (h:i < l.length) (hs:(s++Sm.zl z l).length<=n):(s++Sm.zl z (l.take i)++z l[i]!).length<=n/\(s++Sm.zl z (l.take i)++z l[i]!++Sm.zl z (l[i]!).a).length<=n/\(s++Sm.zl z (l.take i)++z l[i]!++Sm.zl z (l[i]!).a++Sm.zl z (l[i]!).b).length<=n:=by
 rw[<-List.take_append_drop (i+1) l,Sm.zl_app,Sm.zl_at h] at hs;simp only[List.length_append] at *;omega
theorem Sm.indl {P:List Sm->Prop} (h:∀l,(∀y∈l,P y.a/\P y.b)->P l):∀l,P l:=by
 have key:∀y:Sm,P y.a/\P y.b:=Sm.ind fun y ih=>⟨h _ fun z hz=>ih z (List.mem_append_left _ hz),h _ fun z hz=>ih z (List.mem_append_right _ hz)⟩;exact fun l=>h l fun y _=>key y
@[simp,reducible] def paA (I:∀{α:Type},α->α) (x:Pa):AV:=⟨.agg,[.ro true (I (x.params.map strT)),.ro true (I (x.when_.map Ex.t)),.ro true (I (x.l.map Sm.t)),.lit (.int .i64 (I x.rule))]⟩
@[simp,reducible] def bV (I:∀{α:Type},α->α) (x:Pa) (s:List ByteArray):List (Option (List A)):=[some [.fn 159 [(1,0),(2,0)]],some (paA @I x).cs,some [.ow (0,0) false 1 (I (s.map strT))]]
@[simp,reducible] def bVx (I:∀{α:Type},α->α) (x:Pa) (s:List ByteArray):List (Option (List A)):=[some [.fn 159 [(1,0),(2,0)]],some (paA @I x).cs,some [.ow (0,0) false 1 (I (s.map strT))],some [.fn 160 [(0,0)]]]
@[simp,reducible] def bTx (I:∀{α:Type},α->α) (s:List ByteArray):List (Option (List A)):=[some [.ow (0,0) false 1 (I (s.map strT))],some [.fn 163 [(0,0)]]]
@[simp,reducible] def bCx (I:∀{α:Type},α->α) (p:Pg) (s:List Bool):List (Option (List A)):=[some [.lit (.bool (I (s.all id)))],some (pA @I p).cs,some [.fn 80 [(0,0),(1,0)]]]
@[simp,reducible] def bT (I:∀{α:Type},α->α) (s:List ByteArray):List (Option (List A)):=[some [.ow (0,0) false 1 (I (s.map strT))]]
@[simp,reducible] def bC (I:∀{α:Type},α->α) (p:Pg) (s:List Bool):List (Option (List A)):=[some [.lit (.bool (I (s.all id)))],some (pA @I p).cs]
@[simp,reducible] def bD (I:∀{α:Type},α->α) (x:Pa) (s:List Bool):List (Option (List A)):=[some [.lit (.bool (I (s.all id)))],some (paA @I x).cs]
abbrev rU (b:List (Option (List A))):AV->List (Option (List A))->Prop:=fun res bx=>res=⟨.tup [],[]⟩/\bx=b
def vK1 (p:Pg) (e:Ex):Prop:=e.k=11->qF0 p e
noncomputable def zvP (x:Pa) (e:Ex):List ByteArray:=(zv e).filter fun s=>bB (s∉x.params)
noncomputable def zvQ (x:Pa) (y:Sm):List ByteArray:=(zvS y).filter fun s=>bB (s∉x.params)
noncomputable def zkP (p:Pg) (e:Ex):List Bool:=[bB (vK1 p e)]
noncomputable def zpP (x:Pa) (y:Sm):List Bool:=[bB (PlOk x.rule y)]
section
variable (hI:II @I)
include hI
abbrev GEV (I:∀{α:Type},α->α) (x:Pa):Prop:=zP0 Tryz.prog 160=true/\∀e s,e.sz<=1048576->(s++zvP x e).length<=137438953472->ACl Tryz.prog 160 [eA @I e,⟨.one,[.ptr 0 0]⟩] (bV @I x (s)) (rU (bV @I x (s++zvP x e)))
section
variable {x:Pa} (ht:GEV @I x)
include hI ht
theorem eeV:∀e:Ex,e.sz<=1048576->∀s,(s++Ex.z1 (zvP x) e).length<=137438953472->ACl Tryz.prog 151 [eA @I e,⟨.one,[.fn 160 [(0,0)]]⟩] (bV @I x (s)) (rU (bV @I x (s++Ex.z1 (zvP x) e))):=by
 refine Ex.ind fun e ih hz s hs=>?_;obtain ⟨hl,hx⟩:=Ex.sz_l hz;rw[Ex.z1_eq,<-List.append_assoc] at hs |-;have hen:=ht.1;have c1:=ht.2 e s hz (uK0 hs);refine qN hI tyK Tryz.func151 20 [] ?_;unhygienic intros
 refine qB 3 ?_
 repeat' first|refine qA 3 ?_|refine qJ (nN [0,1,2]) ?_|refine qp ?_ ?_|refine qk (fun h=>?_) fun h=>?_|fail
 refine qLf 4 [1,10,11,12] kk0 (fun i:Nat=>⟨vag 20 [(1,⟨.one,[.fn 160 [(0,0)]]⟩),(10,⟨.one,[.ro true (I (e.l.map Ex.t))]⟩),(11,litI (Int.ofNat (I e.l.length))),(12,litI (Int.ofNat (I i)))],bV @I x (s++zvP x e++Ex.zl (zvP x) (e.l.take i))++[some (eA @I e).cs],1⟩) (fun i=>i<=e.l.length) (fun i=>e.l.length - i) ?_ fun i hi=>?_
 ·cbv
  exact ⟨0,by simp[hI.e,Ex.zl];rfl,by omega⟩
 have c2:=fun (hh:i < e.l.length)=>ih _ (zB0 hh) (hx _ (zB0 hh)) _ (Ex.zl_le hh hs);clear c1;refine qB 3 ?_
 repeat' first|refine qA 3 ?_|refine qJ (nN [0,1,2]) ?_|refine qp ?_ ?_|refine qk (fun h=>?_) fun h=>?_|fail
 ·exact ⟨i+1,by (try simp only[A.reset,zD0,hI.e,List.append_assoc,Bool.or_false,zC0,Ex.zl_at h,List.append_assoc]);rfl,by omega,by omega⟩
 ·rw[List.take_of_length_le (by omega)]
  exact hR _ _ ⟨rfl,rfl⟩
theorem exV (y:Sm) (hz:y.sz<=1048576) (s) (hs:(s++Ex.zl (zvP x) y.x).length<=137438953472):ACl Tryz.prog 152 [sA @I y,⟨.one,[.ptr 3 0]⟩] (bVx @I x (s)) (rU (bVx @I x (s++Ex.zl (zvP x) y.x))):=by
 obtain ⟨hl,hx,_⟩:=Sm.sz_l hz;refine qN hI tyK Tryz.func152 16 [] ?_;unhygienic intros
 refine qB 4 ?_;refine qLf 5 [1,6,7,8] kk0 (fun i:Nat=>⟨vag 16 [(1,⟨.one,[.ptr 3 0]⟩),(6,⟨.one,[.ro true (I (y.x.map Ex.t))]⟩),(7,litI (Int.ofNat (I y.x.length))),(8,litI (Int.ofNat (I i)))],bVx @I x (s++Ex.zl (zvP x) (y.x.take i))++[some (sA @I y).cs],1⟩) (fun i=>i<=y.x.length) (fun i=>y.x.length - i) ?_ fun i hi=>?_
 ·cbv
  exact ⟨0,by simp[hI.e,Ex.zl];rfl,by omega⟩
 have c2:=fun (hh:i < y.x.length)=>eeV hI ht _ (hx _ (zB0 hh)) _ (Ex.zl_le hh hs);refine qB 4 ?_
 repeat' first|refine qA 4 ?_|refine qJ (nN [0,1,2]) ?_|refine qp ?_ ?_|refine qk (fun h=>?_) fun h=>?_|fail
 ·exact ⟨i+1,by (try simp only[A.reset,zD0,hI.e,List.append_assoc,Bool.or_false,zC0,Ex.zl_at h,List.append_assoc]);rfl,by omega,by omega⟩
 ·rw[List.take_of_length_le (by omega)]
  exact hR _ _ ⟨rfl,rfl⟩
end
abbrev GSVx (I:∀{α:Type},α->α) (x:Pa):Prop:=zP0 Tryz.prog 152=true/\∀y s,y.sz<=1048576->(s++(fun y=>Ex.zl (zvP x) y.x) y).length<=137438953472->ACl Tryz.prog 152 [sA @I y,⟨.one,[.ptr 3 0]⟩] (bVx @I x (s)) (rU (bVx @I x (s++(fun y=>Ex.zl (zvP x) y.x) y)))
abbrev QSVx (I:∀{α:Type},α->α) (x:Pa) (l:List Sm):Prop:=∀s,(s++Sm.zl (fun y=>Ex.zl (zvP x) y.x) l).length<=137438953472->ACl Tryz.prog 82 [smA @I l,⟨.one,[.fn 152 [(3,0)]]⟩] (bVx @I x (s)) (rU (bVx @I x (s++Sm.zl (fun y=>Ex.zl (zvP x) y.x) l)))
theorem esVx {x:Pa} (ht:GSVx @I x):∀l:List Sm,l.length<=1048576->(∀y∈l,y.sz<=1048576)->QSVx @I x l:=by
 refine Sm.indl fun l ih hl hz s hs=>?_;have hen:=ht.1;refine qN hI tyK Tryz.func82 24 [] ?_;unhygienic intros
 refine qB 4 ?_;refine qLf 4 [1,6,7,8] kk0 (fun i:Nat=>⟨vag 24 [(1,⟨.one,[.fn 152 [(3,0)]]⟩),(6,smA @I l),(7,litI (Int.ofNat (I l.length))),(8,litI (Int.ofNat (I i)))],bVx @I x (s++Sm.zl (fun y=>Ex.zl (zvP x) y.x) (l.take i)),1⟩) (fun i=>i<=l.length) (fun i=>l.length - i) ?_ fun i hi=>?_
 ·cbv
  exact ⟨0,by simp[hI.e,Sm.zl];rfl,by omega⟩
 have hb:=fun (hh:i < l.length)=>Sm.zl_le3 hh hs;have hh2:=fun (hh:i < l.length)=>Sm.sz_l (hz _ (zB0 hh));have c1:=fun (hh:i < l.length)=>ht.2 _ _ (hz _ (zB0 hh)) (hb hh).1;have c2:=fun (hh:i < l.length)=>(ih _ (zB0 hh)).1 (hh2 hh).2.2.1 (fun z hz=>(hh2 hh).2.2.2.2 z (List.mem_append_left _ hz)) _ (hb hh).2.1;have c3:=fun (hh:i < l.length)=>(ih _ (zB0 hh)).2 (hh2 hh).2.2.2.1 (fun z hz=>(hh2 hh).2.2.2.2 z (List.mem_append_right _ hz)) _ (hb hh).2.2
 refine qB 4 ?_
 repeat' first|refine qA 4 ?_|refine qJ (nN [0,1,2,3]) ?_|refine qp ?_ ?_|refine qk (fun h=>?_) fun h=>?_|fail
 ·exact ⟨i+1,by (try simp only[A.reset,zD0,hI.e,List.append_assoc,Bool.or_false,zC0,Sm.zl_at h,List.append_assoc]);rfl,by omega,by omega⟩
 ·rw[List.take_of_length_le (by omega)]
  exact hR _ _ ⟨rfl,rfl⟩
theorem peV {x:Pa} (ht:GEV @I x) (w:Pa) (hw:w.okW) (s) (hs:(s++Ex.zl (zvP x) w.when_++Sm.zl (fun y=>Ex.zl (zvP x) y.x) w.l).length<=137438953472) :
  ACl Tryz.prog 79 [paA @I w,⟨.one,[.fn 160 [(0,0)]]⟩] (bV @I x (s)) (rU (bV @I x (s++Ex.zl (zvP x) w.when_++Sm.zl (fun y=>Ex.zl (zvP x) y.x) w.l))):=by
 obtain ⟨h1,h2,h3,h4,_⟩:=hw;have hes:=esVx hI ⟨rfl,fun y s hz hs=>exV hI ht y hz s hs⟩ w.l h3 h4 _ hs;refine qN hI tyK Tryz.func79 21 [] ?_;unhygienic intros
 refine qB 3 ?_;refine qLf 5 [2,3,7,8,9] kk0 (fun i:Nat=>⟨vag 21 [(2,⟨.one,[.ptr 3 0]⟩),(3,⟨.one,[.ptr 4 0]⟩),(7,⟨.one,[.ro true (I (w.when_.map Ex.t))]⟩),(8,litI (Int.ofNat (I w.when_.length))),(9,litI (Int.ofNat (I i)))],bV @I x (s++Ex.zl (zvP x) (w.when_.take i))++[some (paA @I w).cs,some [.fn 160 [(0,0)]]],1⟩) (fun i=>i<=w.when_.length) (fun i=>w.when_.length - i) ?_ fun i hi=>?_
 ·cbv
  exact ⟨0,by simp[hI.e,Ex.zl];rfl,by omega⟩
 by_cases h:i < w.when_.length
 ·have c1:=eeV hI ht _ (h2 _ (zB0 h)) _ (Ex.zl_le h (uK0 hs))
  clear hes;refine qB 3 ?_
  repeat' first|refine qA 3 ?_|refine qJ (nN [0,1,2]) ?_|refine qp ?_ ?_|refine qk (fun h=>?_) fun h=>?_<;>try(exfalso;omega)|fail
  ·exact ⟨i+1,by (try simp only[A.reset,zD0,hI.e,List.append_assoc,Bool.or_false,zC0,Ex.zl_at h,List.append_assoc]);rfl,by omega,by omega⟩
 ·rw[List.take_of_length_le (by omega)]
  have c1:=hes;clear hes;refine qB 3 ?_
  repeat' first|refine qA 3 ?_|refine qJ (nN [0,1,2,4]) ?_|refine qp ?_ ?_|refine qk (fun h=>?_) fun h=>?_<;>try(exfalso;omega)|fail
  ·exact hR _ _ ⟨rfl,rfl⟩
abbrev GSV (I:∀{α:Type},α->α) (x:Pa):Prop:=zP0 Tryz.prog 161=true/\∀y s,y.sz<=1048576->(s++(zvQ x) y).length<=137438953472->ACl Tryz.prog 161 [sA @I y,⟨.one,[.ptr 0 0]⟩] (bV @I x (s)) (rU (bV @I x (s++(zvQ x) y)))
abbrev QSV (I:∀{α:Type},α->α) (x:Pa) (l:List Sm):Prop:=∀s,(s++Sm.zl (zvQ x) l).length<=137438953472->ACl Tryz.prog 82 [smA @I l,⟨.one,[.fn 161 [(0,0)]]⟩] (bV @I x (s)) (rU (bV @I x (s++Sm.zl (zvQ x) l)))
theorem esV {x:Pa} (ht:GSV @I x):∀l:List Sm,l.length<=1048576->(∀y∈l,y.sz<=1048576)->QSV @I x l:=by
 refine Sm.indl fun l ih hl hz s hs=>?_;have hen:=ht.1;refine qN hI tyK Tryz.func82 24 [] ?_;unhygienic intros
 refine qB 3 ?_;refine qLf 3 [1,6,7,8] kk0 (fun i:Nat=>⟨vag 24 [(1,⟨.one,[.fn 161 [(0,0)]]⟩),(6,smA @I l),(7,litI (Int.ofNat (I l.length))),(8,litI (Int.ofNat (I i)))],bV @I x (s++Sm.zl (zvQ x) (l.take i)),1⟩) (fun i=>i<=l.length) (fun i=>l.length - i) ?_ fun i hi=>?_
 ·cbv
  exact ⟨0,by simp[hI.e,Sm.zl];rfl,by omega⟩
 have hb:=fun (hh:i < l.length)=>Sm.zl_le3 hh hs;have hh2:=fun (hh:i < l.length)=>Sm.sz_l (hz _ (zB0 hh));have c1:=fun (hh:i < l.length)=>ht.2 _ _ (hz _ (zB0 hh)) (hb hh).1;have c2:=fun (hh:i < l.length)=>(ih _ (zB0 hh)).1 (hh2 hh).2.2.1 (fun z hz=>(hh2 hh).2.2.2.2 z (List.mem_append_left _ hz)) _ (hb hh).2.1;have c3:=fun (hh:i < l.length)=>(ih _ (zB0 hh)).2 (hh2 hh).2.2.2.1 (fun z hz=>(hh2 hh).2.2.2.2 z (List.mem_append_right _ hz)) _ (hb hh).2.2
 refine qB 3 ?_
 repeat' first|refine qA 3 ?_|refine qJ (nN [0,1,2]) ?_|refine qp ?_ ?_|refine qk (fun h=>?_) fun h=>?_|fail
 ·exact ⟨i+1,by (try simp only[A.reset,zD0,hI.e,List.append_assoc,Bool.or_false,zC0,Sm.zl_at h,List.append_assoc]);rfl,by omega,by omega⟩
 ·rw[List.take_of_length_le (by omega)]
  exact hR _ _ ⟨rfl,rfl⟩
abbrev GET (I:∀{α:Type},α->α):Prop:=zP0 Tryz.prog 163=true/\∀e s,e.sz<=1048576->(s++zt e).length<=137438953472->ACl Tryz.prog 163 [eA @I e,⟨.one,[.ptr 0 0]⟩] (bT @I (s)) (rU (bT @I (s++zt e)))
section
variable (ht:GET @I)
include hI ht
theorem eeT:∀e:Ex,e.sz<=1048576->∀s,(s++Ex.z1 (zt) e).length<=137438953472->ACl Tryz.prog 151 [eA @I e,⟨.one,[.fn 163 [(0,0)]]⟩] (bT @I (s)) (rU (bT @I (s++Ex.z1 (zt) e))):=by
 refine Ex.ind fun e ih hz s hs=>?_;obtain ⟨hl,hx⟩:=Ex.sz_l hz;rw[Ex.z1_eq,<-List.append_assoc] at hs |-;have hen:=ht.1;have c1:=ht.2 e s hz (uK0 hs);refine qN hI tyK Tryz.func151 20 [] ?_;unhygienic intros
 refine qB 1 ?_
 repeat' first|refine qA 1 ?_|refine qJ (nN [0]) ?_|refine qp ?_ ?_|refine qk (fun h=>?_) fun h=>?_|fail
 refine qLf 2 [1,10,11,12] kk0 (fun i:Nat=>⟨vag 20 [(1,⟨.one,[.fn 163 [(0,0)]]⟩),(10,⟨.one,[.ro true (I (e.l.map Ex.t))]⟩),(11,litI (Int.ofNat (I e.l.length))),(12,litI (Int.ofNat (I i)))],bT @I (s++zt e++Ex.zl (zt) (e.l.take i))++[some (eA @I e).cs],1⟩) (fun i=>i<=e.l.length) (fun i=>e.l.length - i) ?_ fun i hi=>?_
 ·cbv
  exact ⟨0,by simp[hI.e,Ex.zl];rfl,by omega⟩
 have c2:=fun (hh:i < e.l.length)=>ih _ (zB0 hh) (hx _ (zB0 hh)) _ (Ex.zl_le hh hs);clear c1;refine qB 1 ?_
 repeat' first|refine qA 1 ?_|refine qJ (nN [0]) ?_|refine qp ?_ ?_|refine qk (fun h=>?_) fun h=>?_|fail
 ·exact ⟨i+1,by (try simp only[A.reset,zD0,hI.e,List.append_assoc,Bool.or_false,zC0,Ex.zl_at h,List.append_assoc]);rfl,by omega,by omega⟩
 ·rw[List.take_of_length_le (by omega)]
  exact hR _ _ ⟨rfl,rfl⟩
theorem exT (y:Sm) (hz:y.sz<=1048576) (s) (hs:(s++Ex.zl (zt) y.x).length<=137438953472):ACl Tryz.prog 152 [sA @I y,⟨.one,[.ptr 1 0]⟩] (bTx @I (s)) (rU (bTx @I (s++Ex.zl (zt) y.x))):=by
 obtain ⟨hl,hx,_⟩:=Sm.sz_l hz;refine qN hI tyK Tryz.func152 16 [] ?_;unhygienic intros
 refine qB 2 ?_;refine qLf 3 [1,6,7,8] kk0 (fun i:Nat=>⟨vag 16 [(1,⟨.one,[.ptr 1 0]⟩),(6,⟨.one,[.ro true (I (y.x.map Ex.t))]⟩),(7,litI (Int.ofNat (I y.x.length))),(8,litI (Int.ofNat (I i)))],bTx @I (s++Ex.zl (zt) (y.x.take i))++[some (sA @I y).cs],1⟩) (fun i=>i<=y.x.length) (fun i=>y.x.length - i) ?_ fun i hi=>?_
 ·cbv
  exact ⟨0,by simp[hI.e,Ex.zl];rfl,by omega⟩
 have c2:=fun (hh:i < y.x.length)=>eeT hI ht _ (hx _ (zB0 hh)) _ (Ex.zl_le hh hs);refine qB 2 ?_
 repeat' first|refine qA 2 ?_|refine qJ (nN [0]) ?_|refine qp ?_ ?_|refine qk (fun h=>?_) fun h=>?_|fail
 ·exact ⟨i+1,by (try simp only[A.reset,zD0,hI.e,List.append_assoc,Bool.or_false,zC0,Ex.zl_at h,List.append_assoc]);rfl,by omega,by omega⟩
 ·rw[List.take_of_length_le (by omega)]
  exact hR _ _ ⟨rfl,rfl⟩
end
abbrev GSTx (I:∀{α:Type},α->α):Prop:=zP0 Tryz.prog 152=true/\∀y s,y.sz<=1048576->(s++(fun y=>Ex.zl (zt) y.x) y).length<=137438953472->ACl Tryz.prog 152 [sA @I y,⟨.one,[.ptr 1 0]⟩] (bTx @I (s)) (rU (bTx @I (s++(fun y=>Ex.zl (zt) y.x) y)))
abbrev QSTx (I:∀{α:Type},α->α) (l:List Sm):Prop:=∀s,(s++Sm.zl (fun y=>Ex.zl (zt) y.x) l).length<=137438953472->ACl Tryz.prog 82 [smA @I l,⟨.one,[.fn 152 [(1,0)]]⟩] (bTx @I (s)) (rU (bTx @I (s++Sm.zl (fun y=>Ex.zl (zt) y.x) l)))
theorem esTx (ht:GSTx @I):∀l:List Sm,l.length<=1048576->(∀y∈l,y.sz<=1048576)->QSTx @I l:=by
 refine Sm.indl fun l ih hl hz s hs=>?_;have hen:=ht.1;refine qN hI tyK Tryz.func82 24 [] ?_;unhygienic intros
 refine qB 2 ?_;refine qLf 2 [1,6,7,8] kk0 (fun i:Nat=>⟨vag 24 [(1,⟨.one,[.fn 152 [(1,0)]]⟩),(6,smA @I l),(7,litI (Int.ofNat (I l.length))),(8,litI (Int.ofNat (I i)))],bTx @I (s++Sm.zl (fun y=>Ex.zl (zt) y.x) (l.take i)),1⟩) (fun i=>i<=l.length) (fun i=>l.length - i) ?_ fun i hi=>?_
 ·cbv
  exact ⟨0,by simp[hI.e,Sm.zl];rfl,by omega⟩
 have hb:=fun (hh:i < l.length)=>Sm.zl_le3 hh hs;have hh2:=fun (hh:i < l.length)=>Sm.sz_l (hz _ (zB0 hh));have c1:=fun (hh:i < l.length)=>ht.2 _ _ (hz _ (zB0 hh)) (hb hh).1;have c2:=fun (hh:i < l.length)=>(ih _ (zB0 hh)).1 (hh2 hh).2.2.1 (fun z hz=>(hh2 hh).2.2.2.2 z (List.mem_append_left _ hz)) _ (hb hh).2.1;have c3:=fun (hh:i < l.length)=>(ih _ (zB0 hh)).2 (hh2 hh).2.2.2.1 (fun z hz=>(hh2 hh).2.2.2.2 z (List.mem_append_right _ hz)) _ (hb hh).2.2
 refine qB 2 ?_
 repeat' first|refine qA 2 ?_|refine qJ (nN [0,1]) ?_|refine qp ?_ ?_|refine qk (fun h=>?_) fun h=>?_|fail
 ·exact ⟨i+1,by (try simp only[A.reset,zD0,hI.e,List.append_assoc,Bool.or_false,zC0,Sm.zl_at h,List.append_assoc]);rfl,by omega,by omega⟩
 ·rw[List.take_of_length_le (by omega)]
  exact hR _ _ ⟨rfl,rfl⟩
theorem peT (ht:GET @I) (w:Pa) (hw:w.okW) (s) (hs:(s++Ex.zl (zt) w.when_++Sm.zl (fun y=>Ex.zl (zt) y.x) w.l).length<=137438953472) :
  ACl Tryz.prog 79 [paA @I w,⟨.one,[.fn 163 [(0,0)]]⟩] (bT @I (s)) (rU (bT @I (s++Ex.zl (zt) w.when_++Sm.zl (fun y=>Ex.zl (zt) y.x) w.l))):=by
 obtain ⟨h1,h2,h3,h4,_⟩:=hw;have hes:=esTx hI ⟨rfl,fun y s hz hs=>exT hI ht y hz s hs⟩ w.l h3 h4 _ hs;refine qN hI tyK Tryz.func79 21 [] ?_;unhygienic intros
 refine qB 1 ?_;refine qLf 3 [2,3,7,8,9] kk0 (fun i:Nat=>⟨vag 21 [(2,⟨.one,[.ptr 1 0]⟩),(3,⟨.one,[.ptr 2 0]⟩),(7,⟨.one,[.ro true (I (w.when_.map Ex.t))]⟩),(8,litI (Int.ofNat (I w.when_.length))),(9,litI (Int.ofNat (I i)))],bT @I (s++Ex.zl (zt) (w.when_.take i))++[some (paA @I w).cs,some [.fn 163 [(0,0)]]],1⟩) (fun i=>i<=w.when_.length) (fun i=>w.when_.length - i) ?_ fun i hi=>?_
 ·cbv
  exact ⟨0,by simp[hI.e,Ex.zl];rfl,by omega⟩
 by_cases h:i < w.when_.length
 ·have c1:=eeT hI ht _ (h2 _ (zB0 h)) _ (Ex.zl_le h (uK0 hs))
  clear hes;refine qB 1 ?_
  repeat' first|refine qA 1 ?_|refine qJ (nN [0]) ?_|refine qp ?_ ?_|refine qk (fun h=>?_) fun h=>?_<;>try(exfalso;omega)|fail
  ·exact ⟨i+1,by (try simp only[A.reset,zD0,hI.e,List.append_assoc,Bool.or_false,zC0,Ex.zl_at h,List.append_assoc]);rfl,by omega,by omega⟩
 ·rw[List.take_of_length_le (by omega)]
  have c1:=hes;clear hes;refine qB 1 ?_
  repeat' first|refine qA 1 ?_|refine qJ (nN [0,2]) ?_|refine qp ?_ ?_|refine qk (fun h=>?_) fun h=>?_<;>try(exfalso;omega)|fail
  ·exact hR _ _ ⟨rfl,rfl⟩
abbrev GST (I:∀{α:Type},α->α):Prop:=zP0 Tryz.prog 164=true/\∀y s,y.sz<=1048576->(s++(ztS) y).length<=137438953472->ACl Tryz.prog 164 [sA @I y,⟨.one,[.ptr 0 0]⟩] (bT @I (s)) (rU (bT @I (s++(ztS) y)))
abbrev QST (I:∀{α:Type},α->α) (l:List Sm):Prop:=∀s,(s++Sm.zl (ztS) l).length<=137438953472->ACl Tryz.prog 82 [smA @I l,⟨.one,[.fn 164 [(0,0)]]⟩] (bT @I (s)) (rU (bT @I (s++Sm.zl (ztS) l)))
theorem esT (ht:GST @I):∀l:List Sm,l.length<=1048576->(∀y∈l,y.sz<=1048576)->QST @I l:=by
 refine Sm.indl fun l ih hl hz s hs=>?_;have hen:=ht.1;refine qN hI tyK Tryz.func82 24 [] ?_;unhygienic intros
 refine qB 1 ?_;refine qLf 1 [1,6,7,8] kk0 (fun i:Nat=>⟨vag 24 [(1,⟨.one,[.fn 164 [(0,0)]]⟩),(6,smA @I l),(7,litI (Int.ofNat (I l.length))),(8,litI (Int.ofNat (I i)))],bT @I (s++Sm.zl (ztS) (l.take i)),1⟩) (fun i=>i<=l.length) (fun i=>l.length - i) ?_ fun i hi=>?_
 ·cbv
  exact ⟨0,by simp[hI.e,Sm.zl];rfl,by omega⟩
 have hb:=fun (hh:i < l.length)=>Sm.zl_le3 hh hs;have hh2:=fun (hh:i < l.length)=>Sm.sz_l (hz _ (zB0 hh));have c1:=fun (hh:i < l.length)=>ht.2 _ _ (hz _ (zB0 hh)) (hb hh).1;have c2:=fun (hh:i < l.length)=>(ih _ (zB0 hh)).1 (hh2 hh).2.2.1 (fun z hz=>(hh2 hh).2.2.2.2 z (List.mem_append_left _ hz)) _ (hb hh).2.1;have c3:=fun (hh:i < l.length)=>(ih _ (zB0 hh)).2 (hh2 hh).2.2.2.1 (fun z hz=>(hh2 hh).2.2.2.2 z (List.mem_append_right _ hz)) _ (hb hh).2.2
 refine qB 1 ?_
 repeat' first|refine qA 1 ?_|refine qJ (nN [0]) ?_|refine qp ?_ ?_|refine qk (fun h=>?_) fun h=>?_|fail
 ·exact ⟨i+1,by (try simp only[A.reset,zD0,hI.e,List.append_assoc,Bool.or_false,zC0,Sm.zl_at h,List.append_assoc]);rfl,by omega,by omega⟩
 ·rw[List.take_of_length_le (by omega)]
  exact hR _ _ ⟨rfl,rfl⟩
abbrev GEC (I:∀{α:Type},α->α) (p:Pg):Prop:=zP0 Tryz.prog 80=true/\∀e s,e.sz<=1048576->(s++zkP p e).length<=137438953472->ACl Tryz.prog 80 [eA @I e,⟨.one,[.ptr 0 0]⟩,⟨.one,[.ptr 1 0]⟩] (bC @I p (s)) (rU (bC @I p (s++zkP p e)))
section
variable {p:Pg} (ht:GEC @I p)
include hI ht
theorem eeC:∀e:Ex,e.sz<=1048576->∀s,(s++Ex.z1 (zkP p) e).length<=137438953472->ACl Tryz.prog 151 [eA @I e,⟨.one,[.fn 80 [(0,0),(1,0)]]⟩] (bC @I p (s)) (rU (bC @I p (s++Ex.z1 (zkP p) e))):=by
 refine Ex.ind fun e ih hz s hs=>?_;obtain ⟨hl,hx⟩:=Ex.sz_l hz;rw[Ex.z1_eq,<-List.append_assoc] at hs |-;have hen:=ht.1;have c1:=ht.2 e s hz (uK0 hs);refine qN hI tyK Tryz.func151 20 [] ?_;unhygienic intros
 refine qB 2 ?_
 repeat' first|refine qA 2 ?_|refine qJ (nN [0,1]) ?_|refine qp ?_ ?_|refine qk (fun h=>?_) fun h=>?_|fail
 refine qLf 3 [1,10,11,12] kk0 (fun i:Nat=>⟨vag 20 [(1,⟨.one,[.fn 80 [(0,0),(1,0)]]⟩),(10,⟨.one,[.ro true (I (e.l.map Ex.t))]⟩),(11,litI (Int.ofNat (I e.l.length))),(12,litI (Int.ofNat (I i)))],bC @I p (s++zkP p e++Ex.zl (zkP p) (e.l.take i))++[some (eA @I e).cs],1⟩) (fun i=>i<=e.l.length) (fun i=>e.l.length - i) ?_ fun i hi=>?_
 ·cbv
  exact ⟨0,by simp[hI.e,Ex.zl];rfl,by omega⟩
 have c2:=fun (hh:i < e.l.length)=>ih _ (zB0 hh) (hx _ (zB0 hh)) _ (Ex.zl_le hh hs);clear c1;refine qB 2 ?_
 repeat' first|refine qA 2 ?_|refine qJ (nN [0,1]) ?_|refine qp ?_ ?_|refine qk (fun h=>?_) fun h=>?_|fail
 ·exact ⟨i+1,by (try simp only[A.reset,zD0,hI.e,List.append_assoc,Bool.or_false,zC0,Ex.zl_at h,List.append_assoc]);rfl,by omega,by omega⟩
 ·rw[List.take_of_length_le (by omega)]
  exact hR _ _ ⟨rfl,rfl⟩
theorem exC (y:Sm) (hz:y.sz<=1048576) (s) (hs:(s++Ex.zl (zkP p) y.x).length<=137438953472):ACl Tryz.prog 152 [sA @I y,⟨.one,[.ptr 2 0]⟩] (bCx @I p (s)) (rU (bCx @I p (s++Ex.zl (zkP p) y.x))):=by
 obtain ⟨hl,hx,_⟩:=Sm.sz_l hz;refine qN hI tyK Tryz.func152 16 [] ?_;unhygienic intros
 refine qB 3 ?_;refine qLf 4 [1,6,7,8] kk0 (fun i:Nat=>⟨vag 16 [(1,⟨.one,[.ptr 2 0]⟩),(6,⟨.one,[.ro true (I (y.x.map Ex.t))]⟩),(7,litI (Int.ofNat (I y.x.length))),(8,litI (Int.ofNat (I i)))],bCx @I p (s++Ex.zl (zkP p) (y.x.take i))++[some (sA @I y).cs],1⟩) (fun i=>i<=y.x.length) (fun i=>y.x.length - i) ?_ fun i hi=>?_
 ·cbv
  exact ⟨0,by simp[hI.e,Ex.zl];rfl,by omega⟩
 have c2:=fun (hh:i < y.x.length)=>eeC hI ht _ (hx _ (zB0 hh)) _ (Ex.zl_le hh hs);refine qB 3 ?_
 repeat' first|refine qA 3 ?_|refine qJ (nN [0,1]) ?_|refine qp ?_ ?_|refine qk (fun h=>?_) fun h=>?_|fail
 ·exact ⟨i+1,by (try simp only[A.reset,zD0,hI.e,List.append_assoc,Bool.or_false,zC0,Ex.zl_at h,List.append_assoc]);rfl,by omega,by omega⟩
 ·rw[List.take_of_length_le (by omega)]
  exact hR _ _ ⟨rfl,rfl⟩
end
abbrev GSCx (I:∀{α:Type},α->α) (p:Pg):Prop:=zP0 Tryz.prog 152=true/\∀y s,y.sz<=1048576->(s++(fun y=>Ex.zl (zkP p) y.x) y).length<=137438953472->ACl Tryz.prog 152 [sA @I y,⟨.one,[.ptr 2 0]⟩] (bCx @I p (s)) (rU (bCx @I p (s++(fun y=>Ex.zl (zkP p) y.x) y)))
abbrev QSCx (I:∀{α:Type},α->α) (p:Pg) (l:List Sm):Prop:=∀s,(s++Sm.zl (fun y=>Ex.zl (zkP p) y.x) l).length<=137438953472->ACl Tryz.prog 82 [smA @I l,⟨.one,[.fn 152 [(2,0)]]⟩] (bCx @I p (s)) (rU (bCx @I p (s++Sm.zl (fun y=>Ex.zl (zkP p) y.x) l)))
theorem esCx {p:Pg} (ht:GSCx @I p):∀l:List Sm,l.length<=1048576->(∀y∈l,y.sz<=1048576)->QSCx @I p l:=by
 refine Sm.indl fun l ih hl hz s hs=>?_;have hen:=ht.1;refine qN hI tyK Tryz.func82 24 [] ?_;unhygienic intros
 refine qB 3 ?_;refine qLf 3 [1,6,7,8] kk0 (fun i:Nat=>⟨vag 24 [(1,⟨.one,[.fn 152 [(2,0)]]⟩),(6,smA @I l),(7,litI (Int.ofNat (I l.length))),(8,litI (Int.ofNat (I i)))],bCx @I p (s++Sm.zl (fun y=>Ex.zl (zkP p) y.x) (l.take i)),1⟩) (fun i=>i<=l.length) (fun i=>l.length - i) ?_ fun i hi=>?_
 ·cbv
  exact ⟨0,by simp[hI.e,Sm.zl];rfl,by omega⟩
 have hb:=fun (hh:i < l.length)=>Sm.zl_le3 hh hs;have hh2:=fun (hh:i < l.length)=>Sm.sz_l (hz _ (zB0 hh));have c1:=fun (hh:i < l.length)=>ht.2 _ _ (hz _ (zB0 hh)) (hb hh).1;have c2:=fun (hh:i < l.length)=>(ih _ (zB0 hh)).1 (hh2 hh).2.2.1 (fun z hz=>(hh2 hh).2.2.2.2 z (List.mem_append_left _ hz)) _ (hb hh).2.1;have c3:=fun (hh:i < l.length)=>(ih _ (zB0 hh)).2 (hh2 hh).2.2.2.1 (fun z hz=>(hh2 hh).2.2.2.2 z (List.mem_append_right _ hz)) _ (hb hh).2.2
 refine qB 3 ?_
 repeat' first|refine qA 3 ?_|refine qJ (nN [0,1,2]) ?_|refine qp ?_ ?_|refine qk (fun h=>?_) fun h=>?_|fail
 ·exact ⟨i+1,by (try simp only[A.reset,zD0,hI.e,List.append_assoc,Bool.or_false,zC0,Sm.zl_at h,List.append_assoc]);rfl,by omega,by omega⟩
 ·rw[List.take_of_length_le (by omega)]
  exact hR _ _ ⟨rfl,rfl⟩
theorem peC {p:Pg} (ht:GEC @I p) (w:Pa) (hw:w.okW) (s) (hs:(s++Ex.zl (zkP p) w.when_++Sm.zl (fun y=>Ex.zl (zkP p) y.x) w.l).length<=137438953472) :
  ACl Tryz.prog 79 [paA @I w,⟨.one,[.fn 80 [(0,0),(1,0)]]⟩] (bC @I p (s)) (rU (bC @I p (s++Ex.zl (zkP p) w.when_++Sm.zl (fun y=>Ex.zl (zkP p) y.x) w.l))):=by
 obtain ⟨h1,h2,h3,h4,_⟩:=hw;have hes:=esCx hI ⟨rfl,fun y s hz hs=>exC hI ht y hz s hs⟩ w.l h3 h4 _ hs;refine qN hI tyK Tryz.func79 21 [] ?_;unhygienic intros
 refine qB 2 ?_;refine qLf 4 [2,3,7,8,9] kk0 (fun i:Nat=>⟨vag 21 [(2,⟨.one,[.ptr 2 0]⟩),(3,⟨.one,[.ptr 3 0]⟩),(7,⟨.one,[.ro true (I (w.when_.map Ex.t))]⟩),(8,litI (Int.ofNat (I w.when_.length))),(9,litI (Int.ofNat (I i)))],bC @I p (s++Ex.zl (zkP p) (w.when_.take i))++[some (paA @I w).cs,some [.fn 80 [(0,0),(1,0)]]],1⟩) (fun i=>i<=w.when_.length) (fun i=>w.when_.length - i) ?_ fun i hi=>?_
 ·cbv
  exact ⟨0,by simp[hI.e,Ex.zl];rfl,by omega⟩
 by_cases h:i < w.when_.length
 ·have c1:=eeC hI ht _ (h2 _ (zB0 h)) _ (Ex.zl_le h (uK0 hs))
  clear hes;refine qB 2 ?_
  repeat' first|refine qA 2 ?_|refine qJ (nN [0,1]) ?_|refine qp ?_ ?_|refine qk (fun h=>?_) fun h=>?_<;>try(exfalso;omega)|fail
  ·exact ⟨i+1,by (try simp only[A.reset,zD0,hI.e,List.append_assoc,Bool.or_false,zC0,Ex.zl_at h,List.append_assoc]);rfl,by omega,by omega⟩
 ·rw[List.take_of_length_le (by omega)]
  have c1:=hes;clear hes;refine qB 2 ?_
  repeat' first|refine qA 2 ?_|refine qJ (nN [0,1,3]) ?_|refine qp ?_ ?_|refine qk (fun h=>?_) fun h=>?_<;>try(exfalso;omega)|fail
  ·exact hR _ _ ⟨rfl,rfl⟩
abbrev GSC (I:∀{α:Type},α->α) (x:Pa):Prop:=zP0 Tryz.prog 83=true/\∀y s,y.sz<=1048576->(s++(zpP x) y).length<=137438953472->ACl Tryz.prog 83 [sA @I y,⟨.one,[.ptr 0 0]⟩,⟨.one,[.ptr 1 0]⟩] (bD @I x (s)) (rU (bD @I x (s++(zpP x) y)))
abbrev QSC (I:∀{α:Type},α->α) (x:Pa) (l:List Sm):Prop:=∀s,(s++Sm.zl (zpP x) l).length<=137438953472->ACl Tryz.prog 82 [smA @I l,⟨.one,[.fn 83 [(0,0),(1,0)]]⟩] (bD @I x (s)) (rU (bD @I x (s++Sm.zl (zpP x) l)))
theorem esC {x:Pa} (ht:GSC @I x):∀l:List Sm,l.length<=1048576->(∀y∈l,y.sz<=1048576)->QSC @I x l:=by
 refine Sm.indl fun l ih hl hz s hs=>?_;have hen:=ht.1;refine qN hI tyK Tryz.func82 24 [] ?_;unhygienic intros
 refine qB 2 ?_;refine qLf 2 [1,6,7,8] kk0 (fun i:Nat=>⟨vag 24 [(1,⟨.one,[.fn 83 [(0,0),(1,0)]]⟩),(6,smA @I l),(7,litI (Int.ofNat (I l.length))),(8,litI (Int.ofNat (I i)))],bD @I x (s++Sm.zl (zpP x) (l.take i)),1⟩) (fun i=>i<=l.length) (fun i=>l.length - i) ?_ fun i hi=>?_
 ·cbv
  exact ⟨0,by simp[hI.e,Sm.zl];rfl,by omega⟩
 have hb:=fun (hh:i < l.length)=>Sm.zl_le3 hh hs;have hh2:=fun (hh:i < l.length)=>Sm.sz_l (hz _ (zB0 hh));have c1:=fun (hh:i < l.length)=>ht.2 _ _ (hz _ (zB0 hh)) (hb hh).1;have c2:=fun (hh:i < l.length)=>(ih _ (zB0 hh)).1 (hh2 hh).2.2.1 (fun z hz=>(hh2 hh).2.2.2.2 z (List.mem_append_left _ hz)) _ (hb hh).2.1;have c3:=fun (hh:i < l.length)=>(ih _ (zB0 hh)).2 (hh2 hh).2.2.2.1 (fun z hz=>(hh2 hh).2.2.2.2 z (List.mem_append_right _ hz)) _ (hb hh).2.2
 refine qB 2 ?_
 repeat' first|refine qA 2 ?_|refine qJ (nN [0,1]) ?_|refine qp ?_ ?_|refine qk (fun h=>?_) fun h=>?_|fail
 ·exact ⟨i+1,by (try simp only[A.reset,zD0,hI.e,List.append_assoc,Bool.or_false,zC0,Sm.zl_at h,List.append_assoc]);rfl,by omega,by omega⟩
 ·rw[List.take_of_length_le (by omega)]
  exact hR _ _ ⟨rfl,rfl⟩
end
open Go.Av Go.Proofs Go.Shelf Go.RowKit
def mE1 (xr xf:List (List T)) (fns:List Fu) (L:Nat) (σ:AS):Prop:=
 ∃(i:Nat) (out:List (List T)),σ=⟨vag 50 [(1,⟨.one,[.ptr 0 0]⟩),(3,⟨.one,[.ow (0,0) false 4 out]⟩),(10,⟨.one,[.ro true xf]⟩),(11,litI (Int.ofNat fns.length)),(12,litI (Int.ofNat i))],
  [some [.ro true xr,.ro true xf]],1⟩/\
  i<=fns.length/\out=(fns.take i).map (fun f=>(Pa.fu f).t)/\L=fns.length - i
def mD1 (xr xf:List (List T)) (outF:List (List T)) (rules:List Ru) (L:Nat) (σ:AS):Prop:=
 ∃(i:Nat) (out:List (List T)),σ=⟨vag 50 [(1,⟨.one,[.ptr 0 0]⟩),(3,⟨.one,[.ow (0,0) false 4 out]⟩),(26,⟨.one,[.ro true xr]⟩),(27,litI (Int.ofNat rules.length)),(28,litI (Int.ofNat i))],
  [some [.ro true xr,.ro true xf]],1⟩/\
  i<=rules.length/\out=outF++(rules.take i).map (fun f=>(Pa.ru f).t)/\L=rules.length - i
theorem FU0 (p:Pg) (hz:p.sz<=1048576):ACl Tryz.prog 78 [agT p.t] [] (fun res bx=>∃els,els=(Pa.of p).map Pa.t/\res=⟨.one,[.ow (0,0) false 4 els]⟩/\bx=[]):=by
 obtain ⟨rules,fns⟩:=p;simp only[Pg.sz] at hz;simp only[agT,Pg.t,List.map,tA,Pa.of];obtain ⟨xr,hxr⟩:=qX (rules.map Ru.t);obtain ⟨xf,hxf⟩:=qX (fns.map Fu.t);obtain ⟨res,hres⟩:=qX ((fns.map Pa.fu++rules.map Pa.ru).map Pa.t);rw[<-hxr,<-hxf];simp only[<-hres];refine qF tyK Tryz.func78 50 [.tmp 2] ?_;unhygienic intros
 obtain ⟨N,hN⟩:=qX rules.length;have hlr:len xr=N:=lnO hO (by simp[hxr,hN])
 have har:all xr 6:=alO hO (by subst hxr;simp[Ru.t_len])
 obtain ⟨M,hM2⟩:=qX fns.length;have hlf:len xf=M:=lnO hO (by simp[hxf,hM2])
 have haf:all xf 3:=alO hO (by subst hxf;simp[Fu.t_len])
 have happ:∀a b,app a b=a++b:=by intro a b;cases hO;rfl
 revert hK K;refine qW 0 ?_;intro K hK;simp only[hlf];refine qL 1 [1,3,10,11,12] (fun r _=>if r=.slot 3 then some 4 else none) (mE1 xr xf fns) ?_ ?_
 ·cbv
  exact ⟨_,0,[],by rw[<-hM2];cbv,by simp,by simp,rfl⟩
 rintro L σ ⟨i,out,rfl,g1,g2,rfl⟩;rw[<-hM2];revert hK K;refine qW 0 ?_;intro K hK;refine nC rfl (fun h4=>?_) (fun h4=>?_)
 ·have hlt:i < M:=qv4
  obtain ⟨y,hy,hy',ht,e1⟩:=mpA hO hxf (hM2 ▸ hlt);obtain ⟨name,params,a⟩:=y;replace e1:get xf (nat (Int.ofNat i))=[T.lit (.string name),.sl (strs params),.sl (a.map Sm.t)]:=e1;have hout:(fns.take (i+1)).map (fun f=>(Pa.fu f).t)=out++[[.sl (strs params),.sl [],.sl (a.map Sm.t),.lit (.int .i64 0)]]:=by
   rw[ht,List.map_append,<-g2];rfl
  have hol:out.length<=1048576:=by rw[g2];simp;omega
  generalize strs params=xp at e1 hout;generalize a.map Sm.t=xa at e1 hout;revert hK K;refine qW 0 ?_;intro K hK
  repeat (simp only[e1];cbv)
  refine ndC (hlf ▸ ixN hO hlt) (ndC haf (ndN ?_));revert hK K;refine qW 0 ?_;intro K hK;refine ndC (alO hO (by simp)) (ndC (tL0 hO (by simp;omega) (by simp;omega)) (ndN ?_))
  obtain ⟨out2,ho2⟩:=qX ((fns.take (i+1)).map (fun f=>(Pa.fu f).t));rw[<-ho2] at hout;simp only[happ,<-hout];revert hK K;refine qW 0 ?_;intro K hK;have e:bin .add .i64 (Int.ofNat i) 1=_:=iSc hO (by omega)
  try cbv
  rw[e];exact ⟨M - (i+1),by omega,i+1,out2,by rw[<-hM2];cbv,by omega,ho2,by rw[hM2]⟩
 ·have hge:i=M:=qw4
  have e2:fns.take i=fns:=List.take_of_length_le (by omega)
  rw[e2] at g2;have hof:out.length=M:=by rw[g2];simp[hM2]
  revert hK K;refine qW 0 ?_;intro K hK;simp only[hlr];refine qL 1 [1,3,26,27,28] (fun r _=>if r=.slot 3 then some 4 else none) (mD1 xr xf out rules) ?_ ?_
  ·cbv
   exact ⟨_,0,out,by rw[<-hN];cbv,by simp,by simp,rfl⟩
  rintro L σ ⟨j,outj,rfl,j1,j2,rfl⟩;rw[<-hN];revert hK K;refine qW 0 ?_;intro K hK;refine nC rfl (fun h6=>?_) (fun h6=>?_)
  ·have hjt:j < N:=qv6
   obtain ⟨y,hy,hy',ht,e1⟩:=mpA hO hxr (hN ▸ hjt);have hol:outj.length<=2097152:=by rw[j2];simp;omega
   obtain ⟨k,⟨pk,pn,ps,pl⟩,a⟩:=y;have hout:out++(rules.take (j+1)).map (fun f=>(Pa.ru f).t)=outj++[[.sl [],.sl ((if k=4 then [Ex.mk pk pn ps pl] else []).map Ex.t),.sl (a.map Sm.t),.lit (.int .i64 k)]]:=by
    rw[ht,List.map_append,<-List.append_assoc,<-j2];rfl
   simp only[Ru.t,Ex.t_mk,List.cons_append,List.nil_append] at e1;obtain ⟨xpl,hxpl⟩:=qX (pl.map Ex.t);rw[<-hxpl] at e1;generalize a.map Sm.t=xa at e1 hout;obtain ⟨out2,ho2⟩:=qX (out++(rules.take (j+1)).map (fun f=>(Pa.ru f).t));rw[<-ho2] at hout;revert hK K;refine qW 0 ?_;intro K hK
   repeat (simp only[e1];cbv)
   refine ndC (hlr ▸ ixN hO hjt) (ndC har (ndN ?_));revert hK K;refine qW 0 ?_;intro K hK;refine nC rfl (fun h7=>?_) (fun h7=>?_)
   ·have hk:k=4:=qv7
    rw[if_pos hk,List.map_cons,List.map_nil,Ex.t_mk,<-hxpl] at hout;revert hK K;refine qW 0 ?_;intro K hK;refine ndC (alO hO (by simp)) (ndC (tL0 hO (by simp;omega) (by simp;omega)) (ndN ?_))
    simp only[happ,<-hout];revert hK K;refine qW 0 ?_;intro K hK;have e:bin .add .i64 (Int.ofNat j) 1=_:=iSc hO (by omega)
    try cbv
    rw[e];exact ⟨N - (j+1),by omega,j+1,out2,by rw[<-hN];cbv,by omega,ho2,by rw[hN]⟩
   ·have hk:k≠4:=qv7
    rw[if_neg hk,List.map_nil] at hout;revert hK K;refine qW 0 ?_;intro K hK;refine ndC (alO hO (by simp)) (ndC (tL0 hO (by simp;omega) (by simp;omega)) (ndN ?_))
    simp only[happ,<-hout];revert hK K;refine qW 0 ?_;intro K hK;have e:bin .add .i64 (Int.ofNat j) 1=_:=iSc hO (by omega)
    try cbv
    rw[e];exact ⟨N - (j+1),by omega,j+1,out2,by rw[<-hN];cbv,by omega,ho2,by rw[hN]⟩
  ·have hge:j=N:=qw6
   have e4:rules.take j=rules:=List.take_of_length_le (by omega)
   rw[e4] at j2;have e5:outj=res:=by
    rw[hres,List.map_append,j2,g2,List.map_map,List.map_map];rfl
   subst e5;revert hK K;refine qW 0 ?_;intro K hK;exact hR _ _ ⟨_,rfl,rfl,rfl⟩
open Go.Av Go.Proofs Go.Shelf Go.RowKit Go.Sort
set_option maxRecDepth 100000
set_option maxHeartbeats 4000000
def tA1:Go.Shelf.Ren:=⟨fun n=>match n with | 190=>201 | 125=>221 | 258=>220 | 128=>242 | 129=>243 | 302=>233 | 303=>234 | 304=>235 | 305=>236 | 306=>237 | 307=>238 | 308=>239 | 309=>240 | 310=>241 | 333=>264 | 329=>265 | 330=>266 | 334=>267 | 335=>268 | 336=>269 | 344=>281 | n=>n,
 fun n=>match n with | 31=>71 | 9=>9 | 3=>3 | 46=>212 | 51=>261 | 53=>263 | 4=>4 | 183=>253 | 182=>252 | 131=>258 | 5=>5 | 218=>278 | 222=>282 | 228=>289 | 229=>290 | n=>n,fun n=>n⟩
def rN1:Go.Shelf.Ren:=⟨fun n=>match n with | 194=>202 | n=>n,fun n=>match n with | 31=>71 | 9=>9 | 3=>3 | 4=>4 | n=>n,fun n=>n⟩
theorem QA0:Lays.n190 Tryz.prog tA1:=by
 constructor
 all_goals first | rfl|(intro w;rfl)
theorem PH0:Lays.n194 Tryz.prog rN1:=by
 constructor
 all_goals first | rfl|(intro w;rfl)
theorem asc_B (b o cap:Nat) (zs:List (List UInt8)) (w:World) (hH:Holds encStr w b o zs.toArray) (hbs:b < w.heap.size) (hl:zs.length<=1073741824) (hc:zs.length<=cap) :
  Calls Tryz.prog 162 #[.slice (some ⟨b,o,none⟩) zs.length cap] w fun e w'=>e=.returned (.slice (some ⟨b,o,none⟩) (Lib.compact (srt zs)).length cap)/\∃n os q,w'=ascW w b o n q os zs:=by
 have hsort:Calls Tryz.prog 201 #[.slice (some ⟨b,o,none⟩) zs.length cap] w fun e w'=>e=.returned (.tuple #[])/\∃n os,w'=grow (putRow encStr (Sort.ahead w n) b o (srt zs).toArray) os:=Any.slices_Sort_string QA0 b o cap zs w hH hbs (by omega)
 have hcomp:∀n os,Calls Tryz.prog 202 #[.slice (some ⟨b,o,none⟩) zs.length cap] (grow (putRow encStr (Sort.ahead w n) b o (srt zs).toArray) os) fun e w'=>e=.returned (.slice (some ⟨b,o,none⟩) (Lib.compact (srt zs)).length cap)/\∃q,w'=ascW w b o n q os zs:=by
  intro n os;have hH2:Holds encStr (grow (putRow encStr (Sort.ahead w n) b o (srt zs).toArray) os) b o (srt zs).toArray:=
   holds_grow encStr _ os b o _ (by simpa using hbs) (holds_putRow encStr _ b o zs.toArray _ (holds_ahead encStr w n b o _ hH) (by simp[uP0]))
  have h:=Any.slices_Compact_string PH0 b o cap (srt zs) _ hH2 (by rw[uP0];omega) (by rw[uP0];omega)
  rw[uP0] at h;exact h
 generalize hN:zs.length=N at *;clear hH hN
 go_enter Tryz.func162,Tryz.ntmps162
 go_wp2_with (first
  | (go_at_call 201;refine hsort.mono ?_;rintro e w1 ⟨rfl,n,os,rfl⟩;have hcomp:=hcomp n os)
  | (go_at_call 202;refine hcomp.mono ?_;rintro e w2 ⟨rfl,q,rfl⟩))
 go_ret
 exact ⟨rfl,n,os,q,rfl⟩
theorem asc_A (ad:Option Addr) (w:World):Calls Tryz.prog 162 #[.slice ad 0 0] w fun e w'=>e=.returned (.slice ad 0 0)/\w'=w:=by
 have hsort:Calls Tryz.prog 201 #[.slice ad 0 0] w fun e w'=>e=.returned (.tuple #[])/\w'=w:=calls_of_every_depth fun D=>AnyS.slices_Sort_string_none_in QA0 D ad 0 w;have hcomp:Calls Tryz.prog 202 #[.slice ad 0 0] w fun e w'=>e=.returned (.slice ad 0 0)/\w'=w:=Any.slices_Compact_string_empty PH0 ad 0 w
 go_enter Tryz.func162,Tryz.ntmps162
 go_wp2_with (first
  | (go_at_call 201;refine hsort.mono ?_;rintro e w1 ⟨rfl,rfl⟩)
  | (go_at_call 202;refine hcomp.mono ?_;rintro e w2 ⟨rfl,rfl⟩))
 go_ret
 exact ⟨rfl,rfl⟩
theorem TZ0 (y:List ByteArray) (els:List (List T)) (he:els=strs y) (hy:y.length<=1073741824) :
  ACl Tryz.prog 162 [⟨.one,[.ow (0,0) false 1 els]⟩] [] (fun res bx=>∃els',els'=strs (srtB y)/\res=⟨.one,[.ow (0,0) false 1 els']⟩/\bx=[]):=
 KY0 asc_A asc_B y els he hy
variable {I:∀{α:Type},α->α}
def Ex.subs (l:List Ex):List Ex:=Ex.zl (fun e=>[e]) l
def Sm.subs (l:List Sm):List Sm:=Sm.zl (fun e=>[e]) l
section
variable {α:Type}
mutual
theorem Ex.z1_flat (z:Ex->List α):∀e,Ex.z1 z e=(Ex.z1 (fun e=>[e]) e).flatMap z
 | .mk k n s l=>by rw[Ex.z1,Ex.z1,Ex.zl_flat z l,List.flatMap_append];simp
theorem Ex.zl_flat (z:Ex->List α):∀l,Ex.zl z l=(Ex.zl (fun e=>[e]) l).flatMap z
 | []=>rfl
 | e::l=>by rw[Ex.zl,Ex.zl,Ex.z1_flat z e,Ex.zl_flat z l,List.flatMap_append]
end
mutual
theorem Sm.z1_flat (z:Sm->List α):∀e,Sm.z1 z e=(Sm.z1 (fun e=>[e]) e).flatMap z
 | .mk k s t x a b=>by rw[Sm.z1,Sm.z1,Sm.zl_flat z a,Sm.zl_flat z b,List.flatMap_append,List.flatMap_append];simp
theorem Sm.zl_flat (z:Sm->List α):∀l,Sm.zl z l=(Sm.zl (fun e=>[e]) l).flatMap z
 | []=>rfl
 | e::l=>by rw[Sm.zl,Sm.zl,Sm.z1_flat z e,Sm.zl_flat z l,List.flatMap_append]
end
theorem Ex.zl_mem {z:Ex->List α} {l:List Ex} {c:α}:c∈Ex.zl z l↔∃e∈Ex.subs l,c∈z e:=by rw[Ex.zl_flat,List.mem_flatMap];rfl
theorem Sm.zl_mem {z:Sm->List α} {l:List Sm} {c:α}:c∈Sm.zl z l↔∃e∈Sm.subs l,c∈z e:=by rw[Sm.zl_flat,List.mem_flatMap];rfl
mutual
theorem Ex.z1_len {z:Ex->List α} (h:∀e,(z e).length<=1):∀e,(Ex.z1 z e).length<=e.parts
 | .mk k n s l=>by rw[Ex.z1,List.length_append,Ex.parts];have:=h (.mk k n s l);have:=Ex.zl_len h l;omega
theorem Ex.zl_len {z:Ex->List α} (h:∀e,(z e).length<=1):∀l,(Ex.zl z l).length<=Ex.partss l
 | []=>by simp[Ex.zl]
 | e::l=>by rw[Ex.zl,List.length_append,Ex.partss];have:=Ex.z1_len h e;have:=Ex.zl_len h l;omega
end
mutual
theorem Sm.z1_len {z:Sm->List α} {w:Sm->Nat} (h:∀e,(z e).length<=w e):∀e,(Sm.z1 z e).length<=Sm.w1 w e
 | .mk k s t x a b=>by rw[Sm.z1,List.length_append,List.length_append,Sm.w1];have:=h (.mk k s t x a b);have:=Sm.zl_len h a;have:=Sm.zl_len h b;omega
theorem Sm.zl_len {z:Sm->List α} {w:Sm->Nat} (h:∀e,(z e).length<=w e):∀l,(Sm.zl z l).length<=Sm.wl w l
 | []=>by simp[Sm.zl]
 | e::l=>by rw[Sm.zl,List.length_append,Sm.wl];have:=Sm.z1_len h e;have:=Sm.zl_len h l;omega
end
def Pa.zx (z:Ex->List α) (x:Pa):List α:=Ex.zl z x.when_++Sm.zl (fun y=>Ex.zl z y.x) x.l
def Pa.all (z:Ex->List α) (v:Sm->List α) (x:Pa):List α:=x.zx z++Sm.zl v x.l
theorem Pa.all_len {z:Ex->List α} {v:Sm->List α} (h:∀e,(z e).length<=1) (h2:∀e,(v e).length<=1) (x:Pa):(x.all z v).length<=x.w:=by
 have h1:=Ex.zl_len h x.when_;have h3:=Sm.zl_len (w:=fun y=>Ex.partss y.x) (z:=fun y=>Ex.zl z y.x) (fun y=>Ex.zl_len h y.x) x.l;have h4:=Sm.zl_len h2 x.l;rw[Sm.wl_parts] at h3;rw[Pa.all,Pa.zx,List.length_append,List.length_append,Pa.w];omega
theorem mW0 {f:Pa->List α} (h:∀x,(f x).length<=x.w) (q:List Pa):(q.flatMap f).length<=Pa.ws q:=by
 induction q with
 | nil=>simp
 | cons x q ih=>rw[List.flatMap_cons,List.length_append,Pa.ws,List.map_cons,List.sum_cons];rw[Pa.ws] at ih;have:=h x;omega
theorem bZ0 {f:Pa->List α} {l:List Pa} [Inhabited Pa] {i:Nat} (h:i < l.length):(l.take (i+1)).flatMap f=(l.take i).flatMap f++f l[i]!:=by rw[yP0 h];simp
theorem bY0 {f:Pa->List α} {l:List Pa} [Inhabited Pa] {i n:Nat} (h:i < l.length) (hs:(l.flatMap f).length<=n):((l.take i).flatMap f++f l[i]!).length<=n:=by
 rw[<-bZ0 h];rw[<-List.take_append_drop (i+1) l,List.flatMap_append,List.length_append] at hs;omega
end
instance:Inhabited Pa:=⟨⟨[],[],[],0⟩⟩
theorem Pa.tI (hI:II @I) (x:Pa):x.t=[.sl (I (x.params.map strT)),.sl (I (x.when_.map Ex.t)),.sl (I (x.l.map Sm.t)),.lit (.int .i64 (I x.rule))]:=by simp only[hI.e];rfl
theorem tZ0 (hI:II @I) (p:Pg) (hz:p.sz<=1048576):ACl Tryz.prog 78 [pA @I p] [] (fun res bx=>res=⟨.one,[.ro true (I ((Pa.of p).map Pa.t))]⟩/\bx=[]):=by
 refine dU0 ?_;rw[<-pA_I hI,hI.e];refine acI (FU0 p hz) ?_;rintro res bx ⟨els,rfl,rfl,rfl⟩;exact ⟨rfl,rfl⟩
theorem pB1 (e:Ex):zv e=if e.k=3 then [e.s] else []:=by cases e;rfl
theorem pC1 (e:Ex):zt e=if e.k=4\/e.k=9 then [e.s] else []:=by cases e;rfl
theorem vN1 (y:Sm):zvS y=if y.k=2\/y.k=7 then [y.s] else []:=by cases y;rfl
theorem vP1 (y:Sm):ztS y=(if y.k=3\/y.k=11 then [y.s] else [])++(if y.k=7 then [y.tt] else []):=by cases y;rfl
theorem boxB (hI:II @I) {b c:Bool} {l:List (Option (List A))} (h:b=c):some [A.lit (.bool b)]::l=some [A.lit (.bool (I c))]::l:=by rw[h,hI.e]
theorem vG1 {r:Int} {y:Sm}:PlOk r y↔(y.k=8->r=3\/r=4)/\(y.k=10->r=0):=by cases y;rfl
noncomputable abbrev tV (q:List Pa):List ByteArray:=q.flatMap fun x=>x.all (zvP x) (zvQ x)
abbrev tT (q:List Pa):List ByteArray:=q.flatMap fun x=>x.all zt ztS
theorem JM0 (p:Pg) (hz:p.sz<=1048576):(tV (Pa.of p)).length<=8388608:=Nat.le_trans (mW0 (fun x=>Pa.all_len (fun e=>by rw[zvP,pB1];split<;>simp[List.filter];split<;>simp) (fun y=>by rw[zvQ,vN1];split<;>simp[List.filter];split<;>simp) x) _) (by have:=Pa.ws_of p;omega)
theorem JN0 (p:Pg) (hz:p.sz<=1048576):(tT (Pa.of p)).length<=8388608:=Nat.le_trans (mW0 (fun x=>Pa.all_len (fun e=>by rw[pC1];split<;>simp) (fun y=>by rw[vP1];(repeat' split)<;>first | omega|(simp;done)) x) _) (by have:=Pa.ws_of p;omega)
theorem yU1 (y:List ByteArray):(srtB y).length<=y.length:=by
 unfold srtB;rw[List.length_map];have:=nF0 (y.map (·.data.toList))
 simpa using this
section
variable (hI:II @I)
include hI
theorem uM1 (y:List ByteArray) (hy:y.length<=1073741824):ACl Tryz.prog 162 [⟨.one,[.ow (0,0) false 1 (I (y.map strT))]⟩] [] (fun res bx=>res=⟨.one,[.ow (0,0) false 1 (I ((srtB y).map strT))]⟩/\bx=[]):=by
 simp only[hI.e];exact acI (TZ0 y _ rfl hy) fun _ _ ⟨_,h1,h2,h3⟩=>⟨by rw[h2,h1];rfl,h3⟩
theorem mU1 (x:Pa) (hp:x.params.length<=1048576) (n:ByteArray) (s:List ByteArray) (hs:s.length<=137438953472):ACl Tryz.prog 159 [litS n,⟨.one,[.ptr 0 0]⟩,⟨.one,[.ptr 1 0]⟩] [some (paA @I x).cs,some [.ow (0,0) false 1 (I (s.map strT))]] (fun res bx=>res=⟨.tup [],[]⟩/\bx=[some (paA @I x).cs,some [.ow (0,0) false 1 (I ((s++[n].filter fun s=>bB (s∉x.params)).map strT))]]):=by
 have c1:=QB.of hI (xJ0 x.params (I (x.params.map strT)) n (by rw[hI.e];rfl) (by omega))
 refine qN hI tyK Tryz.func159 13 [] ?_;unhygienic intros
 refine qB 2 ?_
 repeat' first|refine qA 2 ?_|refine qJ (nN []) ?_|refine qp ?_ ?_|refine qk (fun h=>?_) fun h=>?_|fail
 all_goals (refine hR _ _ ⟨rfl,?_⟩;simp_all [bB])
theorem gV (x:Pa) (hp:x.params.length<=1048576):GEV @I x:=⟨rfl,fun e s hz hs=>by
 have hs:=uK0 hs;have c1:=mU1 hI x hp (I e.s) s hs;refine qN hI tyK Tryz.func160 10 [] ?_;unhygienic intros
 refine qB 3 ?_
 repeat' first|refine qA 3 ?_|refine qJ (nN [1,2]) ?_|refine qp ?_ ?_|refine qk (fun h=>?_) fun h=>?_|fail
 all_goals (refine hR _ _ ⟨rfl,?_⟩;simp_all [zvP,pB1,hI.e])⟩
theorem gVS (x:Pa) (hp:x.params.length<=1048576):GSV @I x:=⟨rfl,fun e s hz hs=>by
 have hs:=uK0 hs;have c1:=mU1 hI x hp (I e.s) s hs;refine qN hI tyK Tryz.func161 15 [] ?_;unhygienic intros
 refine qB 3 ?_
 repeat' first|refine qA 3 ?_|refine qJ (nN [1,2]) ?_|refine qp ?_ ?_|refine qk (fun h=>?_) fun h=>?_<;>try(exfalso;omega)|fail
 all_goals (refine hR _ _ ⟨rfl,?_⟩;simp_all [zvQ,vN1,hI.e])⟩
theorem gT:GET @I:=⟨rfl,fun e s hz hs=>by
 have hs:=uK0 hs;refine qN hI tyK Tryz.func163 16 [] ?_;unhygienic intros
 refine qB 1 ?_
 repeat' first|refine qA 1 ?_|refine qp ?_ ?_|refine qk (fun h=>?_) fun h=>?_<;>try(exfalso;omega)|fail
 all_goals (refine hR _ _ ⟨rfl,?_⟩;simp_all [pC1,hI.e])⟩
theorem gTS:GST @I:=⟨rfl,fun e s hz hs=>by
 have hs:=uK0 hs;refine qN hI tyK Tryz.func164 20 [] ?_;unhygienic intros
 refine qB 1 ?_
 repeat' first|refine qA 1 ?_|refine qp ?_ ?_|refine qk (fun h=>?_) fun h=>?_<;>try(exfalso;omega)|fail
 all_goals (refine hR _ _ ⟨rfl,?_⟩;simp_all [vP1,hI.e])⟩
theorem rW1 (p:Pg) (hz:p.sz<=1048576):ACl Tryz.prog 76 [pA @I p] [] (fun res bx=>res=litB (I (bB p.good))/\bx=[]):=by
 rw[<-pA_I hI];exact QB.of hI (pE0 p hz)
theorem DU0 (p:Pg) (hz:p.sz<=1048576):ACl Tryz.prog 89 [pA @I p] [] (fun res bx=>res=⟨.one,[.ro true (I ((@ite _ p.good (Classical.propDecidable _) (srtB (tV (Pa.of p))) []).map strT))]⟩/\bx=[]):=by
 refine dU0 ?_;have c1:=rW1 hI p hz;have c2:=tZ0 hI p hz;have hok:=fun x hx=>Pa.ok_of hz (x:=x) hx;have hlq:=Pa.lnO p;have hle:=JM0 p hz;have c3:=uM1 hI (tV (Pa.of p)) (by omega)
 generalize Pa.of p=q at *;have e1:=Pa.tI hI;generalize hpt:Pa.t=pt at *;refine qN hI tyK Tryz.func89 28 [.tmp 2] ?_;unhygienic intros
 have hall:all (I (q.map pt)) 4:=F.n2 _ _ _ (by intro x;rw[e1];rfl)
 refine qB 0 ?_
 repeat' first|refine qA 0 ?_|refine qJ (nN []) ?_|refine qp ?_ ?_|refine qk (fun h=>?_) fun h=>?_|fail
 ·exact hR _ _ ⟨by simp[h,AV.roC,A.roC,hI.e],rfl⟩
 ·refine qLf 2 [1,3,11,12,13] (kkB 1 0 1) (fun i:Nat=>⟨vag 28 [(1,⟨.one,[.ptr 0 0]⟩),(3,⟨.one,[.ptr 1 0]⟩),(11,⟨.one,[.ro true (I (q.map pt))]⟩),(12,litI (Int.ofNat (I q.length))),(13,litI (Int.ofNat (I i)))],[some (pA @I p).cs,some [.ow (0,0) false 1 (I ((tV (q.take i)).map strT))]],1⟩) (fun i=>i<=q.length) (fun i=>q.length - i) ?_ fun i hi=>?_
  ·cbv
   exact ⟨0,by simp[hI.e];rfl,by omega⟩
  have hx:=fun (hh:i < q.length)=>hok _ (zB0 hh);have hl:=fun (hh:i < q.length)=>bY0 hh (Nat.le_trans hle (by decide:8388608<=137438953472))
  have c4:=fun (hh:i < q.length)=>peV hI (gV hI (q[i]!) (hx hh).2.2.2.2) _ (hx hh) (tV (q.take i)) (uK0 (by have:=hl hh;rw[Pa.all,Pa.zx,<-List.append_assoc,<-List.append_assoc] at this;exact this))
  have c5:=fun (hh:i < q.length)=>esV hI (gVS hI (q[i]!) (hx hh).2.2.2.2) (q[i]!).l (hx hh).2.2.1 (hx hh).2.2.2.1 (tV (q.take i)++Ex.zl (zvP q[i]!) (q[i]!).when_++Sm.zl (fun y=>Ex.zl (zvP q[i]!) y.x) (q[i]!).l) (by have:=hl hh;rw[Pa.all,Pa.zx,<-List.append_assoc,<-List.append_assoc] at this;exact this)
  clear c1 c2;refine qB 0 ?_
  repeat' first|refine qA 0 ?_|refine qJ (nN [3,2,1]) ?_|refine qJ (nM []) ?_|refine qp ?_ ?_|refine qk (fun h=>?_) fun h=>?_|fail
  ·exact ⟨i+1,by (try simp only[A.reset,zD0,hI.e,List.append_assoc,Bool.or_false,zC0,bZ0 h,Pa.all,Pa.zx,List.append_assoc]);rfl,by omega,by omega⟩
  ·have hq:q.take i=q:=List.take_of_length_le (by omega)
   rw[hq]
   (repeat' first|refine qA 0 ?_|refine qJ (nM []) ?_|refine qp ?_ ?_|refine qk (fun h=>?_) fun h=>?_|fail)
   exact hR _ _ ⟨by simp_all [AV.roC,A.roC,erD,hI.e],rfl⟩
theorem WV0 (p:Pg) (hz:p.sz<=1048576):ACl Tryz.prog 90 [pA @I p] [] (fun res bx=>res=⟨.one,[.ro true (I ((@ite _ p.good (Classical.propDecidable _) (srtB (tT (Pa.of p))) []).map strT))]⟩/\bx=[]):=by
 refine dU0 ?_;have c1:=rW1 hI p hz;have c2:=tZ0 hI p hz;have hok:=fun x hx=>Pa.ok_of hz (x:=x) hx;have hlq:=Pa.lnO p;have hle:=JN0 p hz;have c3:=uM1 hI (tT (Pa.of p)) (by omega)
 generalize Pa.of p=q at *;have e1:=Pa.tI hI;generalize hpt:Pa.t=pt at *;refine qN hI tyK Tryz.func90 26 [.tmp 2] ?_;unhygienic intros
 have hall:all (I (q.map pt)) 4:=F.n2 _ _ _ (by intro x;rw[e1];rfl)
 refine qB 0 ?_
 repeat' first|refine qA 0 ?_|refine qJ (nN []) ?_|refine qp ?_ ?_|refine qk (fun h=>?_) fun h=>?_|fail
 ·exact hR _ _ ⟨by simp[h,AV.roC,A.roC,hI.e],rfl⟩
 ·refine qLf 2 [1,3,10,11,12] (kkB 1 0 1) (fun i:Nat=>⟨vag 26 [(1,⟨.one,[.ptr 0 0]⟩),(3,⟨.one,[.ptr 1 0]⟩),(10,⟨.one,[.ro true (I (q.map pt))]⟩),(11,litI (Int.ofNat (I q.length))),(12,litI (Int.ofNat (I i)))],[some (pA @I p).cs,some [.ow (0,0) false 1 (I ((tT (q.take i)).map strT))]],1⟩) (fun i=>i<=q.length) (fun i=>q.length - i) ?_ fun i hi=>?_
  ·cbv
   exact ⟨0,by simp[hI.e];rfl,by omega⟩
  have hx:=fun (hh:i < q.length)=>hok _ (zB0 hh);have hl:=fun (hh:i < q.length)=>bY0 hh (Nat.le_trans hle (by decide:8388608<=137438953472))
  have c4:=fun (hh:i < q.length)=>peT hI (gT hI) _ (hx hh) (tT (q.take i)) (uK0 (by have:=hl hh;rw[Pa.all,Pa.zx,<-List.append_assoc,<-List.append_assoc] at this;exact this))
  have c5:=fun (hh:i < q.length)=>esT hI (gTS hI) (q[i]!).l (hx hh).2.2.1 (hx hh).2.2.2.1 (tT (q.take i)++Ex.zl (zt) (q[i]!).when_++Sm.zl (fun y=>Ex.zl (zt) y.x) (q[i]!).l) (by have:=hl hh;rw[Pa.all,Pa.zx,<-List.append_assoc,<-List.append_assoc] at this;exact this)
  clear c1 c2;refine qB 0 ?_
  repeat' first|refine qA 0 ?_|refine qJ (nN [1]) ?_|refine qJ (nM []) ?_|refine qp ?_ ?_|refine qk (fun h=>?_) fun h=>?_|fail
  ·exact ⟨i+1,by (try simp only[A.reset,zD0,hI.e,List.append_assoc,Bool.or_false,zC0,bZ0 h,Pa.all,Pa.zx,List.append_assoc]);rfl,by omega,by omega⟩
  ·have hq:q.take i=q:=List.take_of_length_le (by omega)
   rw[hq]
   (repeat' first|refine qA 0 ?_|refine qJ (nM []) ?_|refine qp ?_ ?_|refine qk (fun h=>?_) fun h=>?_|fail)
   exact hR _ _ ⟨by simp_all [AV.roC,A.roC,erD,hI.e],rfl⟩
variable (p:Pg) (hz:p.sz<=1048576)
include hz
theorem DK0 (s:ByteArray):ACl Tryz.prog 122 [pA @I p,litS s] [] (fun res bx=>∃r:Int,(FnAtP p.fns s r∧-1<=r/\(0<=r->r.toNat < p.fns.length))/\res=litI (I r)/\bx=[]):=by
 rw[Pg.sz] at hz;simp only[pA,hI.e];exact acI (DL0 _ _ p.fns rfl s (by omega)) fun _ _ ⟨r,h1,h2,h3⟩=>⟨r,⟨h1,UP0 h1⟩,h2,h3⟩
theorem DQ0 (e:Ex) (hl:e.l.length<=1048576):ACl Tryz.prog 81 [pA @I p,eA @I e] [] (fun res bx=>res=litB (I (bB (vK1 p e)))/\bx=[]):=by
 have c1:=DK0 hI p hz (I e.s);have hf:∀f∈p.fns,f.params.length<=1048576:=fun f hf=>by have:=Fu.szs_mem hf;rw[Pg.sz] at hz;rw[Fu.sz] at this;omega
 refine qN hI tyK Tryz.func81 28 [.tmp 4] ?_;unhygienic intros
 refine qB 0 ?_
 repeat' first|refine qA 0 ?_|refine qJe (nN []) fun x hx=>?_|refine qp ?_ ?_|refine qk (fun h=>?_) fun h=>?_|fail
 ·exact hR _ _ ⟨liP hI ⟨fun _ q=>absurd q h,fun _=>rfl⟩,rfl⟩
 all_goals (have hq:=PJ0 (p:=p) (e:=e) (by rw[<-hI.e e.s];exact hx.1);refine hR _ _ ⟨liP hI ?_,rfl⟩;first|(simp_all [vK1,F.k4,hI.e,Int.ofNat_eq_natCast];done)|(simp_all [vK1,F.k4,hI.e];omega))
theorem gC:GEC @I p:=⟨rfl,fun e s he hs=>by
 have c1:=DQ0 hI p hz e (Ex.sz_l he).1;refine qN hI tyK Tryz.func80 10 [] ?_;unhygienic intros
 refine qB 2 ?_
 repeat' first|refine qA 2 ?_|refine qJ (nN []) ?_|refine qp ?_ ?_|refine qk (fun h=>?_) fun h=>?_|fail
 all_goals (refine hR _ _ ⟨rfl,boxB hI ?_⟩;rw[zkP,List.all_append];simp_all [hI.e])⟩
omit hz
theorem gCS (x:Pa):GSC @I x:=⟨rfl,fun y s he hs=>by
 refine qN hI tyK Tryz.func83 30 [] ?_;unhygienic intros
 refine qB 2 ?_
 repeat' first|refine qA 2 ?_|refine qJ (nN []) ?_|refine qp ?_ ?_|refine qk (fun h=>?_) fun h=>?_<;>try(exfalso;omega)|fail
 all_goals (refine hR _ _ ⟨rfl,boxB hI ?_⟩;rw[zpP,List.all_append];first|(simp_all;done)|(rw[show s.all id=true from ‹_›,Bool.true_and,List.all_cons,List.all_nil,Bool.and_true];exact qP1 (by simp_all [vG1,F.k1,hI.e])))⟩
end
theorem pH1 {x:Pa} {s:ByteArray}:s∈(Ex.zl zv x.when_++Sm.zl (fun y=>Ex.zl zv y.x) x.l)++Sm.zl zvS x.l↔s∈Ex.vss x.when_\/s∈Sm.vss x.l:=by
 rw[List.mem_append,List.mem_append,Ex.zl_vs,<-Sm.ml_vs,or_assoc];exact or_congr_right Or.comm
theorem pK1 {x:Pa} {s:ByteArray}:s∈(Ex.zl zt x.when_++Sm.zl (fun y=>Ex.zl zt y.x) x.l)++Sm.zl ztS x.l↔s∈Ex.tbs x.when_\/s∈Sm.tbs x.l:=by
 rw[List.mem_append,List.mem_append,Ex.zl_tb,<-Sm.ml_tb,or_assoc];exact or_congr_right Or.comm
theorem all_V {x:Pa} {s:ByteArray}:s∈x.all (zvP x) (zvQ x)↔(s∈Ex.vss x.when_\/s∈Sm.vss x.l)/\s∉x.params:=by
 rw[<-pH1,Pa.all,Pa.zx];simp only[List.mem_append,Ex.zl_mem,Sm.zl_mem,zvP,zvQ,List.mem_filter,uF0]
 grind
theorem vR1 (p:Pg):VN0 p (@ite _ p.good (Classical.propDecidable _) (srtB (tV (Pa.of p))) []):=by
 refine ⟨fun h=>?_,fun h=>by rw[if_neg h]⟩
 rw[if_pos h];refine ⟨RZ0 _,fun s=>?_⟩;rw[bD0,tV,List.mem_flatMap];simp only[all_V];exact Pa.vP_of p s
theorem RU0 (p:Pg):pQ0 p (@ite _ p.good (Classical.propDecidable _) (srtB (tT (Pa.of p))) []):=by
 refine ⟨fun h=>?_,fun h=>by rw[if_neg h]⟩
 rw[if_pos h];refine ⟨RZ0 _,fun s=>?_⟩;rw[bD0,tT,List.mem_flatMap];simp only[Pa.all,Pa.zx,pK1];exact Pa.tP_of p s
theorem bR0 {p:Prop} {y:List ByteArray} {n:Nat} (h:y.length<=n):(@ite _ p (Classical.propDecidable _) (srtB y) []).length<=n:=by split;exact Nat.le_trans (yU1 y) h;exact Nat.zero_le _
theorem ZK0 (p:Pg) (hz:p.sz<=1048576):ACl Tryz.prog 89 [agT p.t] [] (fun res bx=>∃vs els,VN0 p vs/\vs.length<=8388608/\els=strs vs/\res=⟨.one,[.ro true els]⟩/\bx=[]):=by
 rw[pA_I (I:=@id) rfl];exact acI (DU0 (I:=@id) rfl p hz) fun _ _ ⟨h1,h2⟩=>⟨_,_,vR1 p,bR0 (JM0 p hz),rfl,h1,h2⟩
theorem hV0 (p:Pg) (hz:p.sz<=1048576):ACl Tryz.prog 90 [agT p.t] [] (fun res bx=>∃vs els,pQ0 p vs/\vs.length<=8388608/\els=strs vs/\res=⟨.one,[.ro true els]⟩/\bx=[]):=by
 rw[pA_I (I:=@id) rfl];exact acI (WV0 (I:=@id) rfl p hz) fun _ _ ⟨h1,h2⟩=>⟨_,_,RU0 p,bR0 (JN0 p hz),rfl,h1,h2⟩
variable {I:∀{α:Type},α->α}
def TkP (p:Pg) (ts:List ByteArray) (s:ByteArray):Prop:=s∈ts\/IsFn p.fns s
def FtP (p:Pg) (ts:List ByteArray) (f:Fu):Prop:=f.name∈ts\/∃s∈f.params,TkP p ts s
def TwQ (p:Pg) (vs ts:List ByteArray):Prop:=(∃s∈vs,TkP p ts s)\/∃f∈p.fns,FtP p ts f
theorem TwQ.iff {p:Pg} {vs ts:List ByteArray} (hg:p.good) (hV:VN0 p vs) (hT:pQ0 p ts):TwQ p vs ts↔BothS p:=by
 have h1:=(hV.1 hg).2;have h2:=(hT.1 hg).2;have hv:∀s,s∈vs↔VPof p s:=h1;have ht:∀s,s∈ts↔TPof p s:=h2;unfold TwQ BothS FtP TkP
 constructor
 ·rintro (⟨s,hs,h⟩ | ⟨f,hf,h | ⟨s,hs,h⟩⟩)
  ·exact .inl ⟨s,(hv s).1 hs,h.imp (ht s).1 id⟩
  ·exact .inr (.inl ⟨f.name,(ht _).1 h,f,hf,rfl⟩)
  ·exact .inr (.inr ⟨f,hf,s,hs,h.imp (ht s).1 id⟩)
 ·rintro (⟨s,hs,h⟩ | ⟨s,hs,f,hf,rfl⟩ | ⟨f,hf,s,hs,h⟩)
  ·exact .inl ⟨s,(hv s).2 hs,h.imp (ht s).2 id⟩
  ·exact .inr ⟨f,hf,.inl ((ht _).2 hs)⟩
  ·exact .inr ⟨f,hf,.inr ⟨s,hs,h.imp (ht s).2 id⟩⟩
section
variable (hI:II @I) (p:Pg) (hz:p.sz<=1048576) (ts:List ByteArray) (ht:ts.length<=8388608)
include hI hz ht
theorem c_tk (s:ByteArray):ACl Tryz.prog 148 [litS s,⟨.one,[.ptr 0 0]⟩,⟨.one,[.ptr 1 0]⟩] [some [.ro true (I (ts.map strT))],some (pA @I p).cs] (fun res bx=>res=litB (I (bB (TkP p ts s)))/\bx=[some [.ro true (I (ts.map strT))],some (pA @I p).cs]):=by
 have c1:=QB.of hI (xJ0 ts (I (ts.map strT)) s (by rw[hI.e];rfl) (by omega))
 have c2:=DK0 hI p hz s;refine qN hI tyK Tryz.func148 14 [.tmp 4] ?_;unhygienic intros
 refine qB 2 ?_
 repeat' first|refine qA 2 ?_|refine qJ (nN []) ?_|refine qJe (nN []) fun x hx=>?_|refine qp ?_ ?_|refine qk (fun h=>?_) fun h=>?_|fail
 ·exact hR _ _ ⟨liP hI ⟨fun _=>.inl h,fun _=>rfl⟩,rfl⟩
 ·exact hR _ _ ⟨liP hI (by rw[F.k6,hI.e,hx.1.ge];exact ⟨.inr,fun q=>q.elim (absurd · h) id⟩),rfl⟩
theorem mP1 (l:List ByteArray) (hl:l.length<=8388608):ACl Tryz.prog 199 [⟨.one,[.ro true (I (l.map strT))]⟩,⟨.one,[.fn 148 [(0,0),(1,0)]]⟩] [some [.ro true (I (ts.map strT))],some (pA @I p).cs] (fun res bx=>∃r:Int,(0<=r↔∃s∈l,TkP p ts s)/\res=litI (I r)/\bx=[some [.ro true (I (ts.map strT))],some (pA @I p).cs]):=by
 have hen:zP0 Tryz.prog 148=true:=rfl;have c1:=c_tk hI p hz ts ht;refine qN hI tyK Tryz.func199 19 [.tmp 4] ?_;unhygienic intros
 refine qB 2 ?_;refine qLf 2 [0,1,7,8] kk0 (fun i:Nat=>⟨vag 19 [(0,⟨.one,[.ro true (I (l.map strT))]⟩),(1,⟨.one,[.fn 148 [(0,0),(1,0)]]⟩),(7,litI (Int.ofNat (I l.length))),(8,litI (Int.ofNat (I i)))],[some [.ro true (I (ts.map strT))],some (pA @I p).cs],1⟩) (fun i=>i<=l.length/\∀s∈l.take i,¬TkP p ts s) (fun i=>l.length - i) ?_ fun i hi=>?_
 ·cbv
  exact ⟨0,by simp[hI.e];rfl,by simp,by simp⟩
 refine qB 2 ?_
 repeat' first|refine qA 2 ?_|refine qJ (nN [0,1]) ?_|refine qp ?_ ?_|refine qk (fun h=>?_) fun h=>?_|fail
 ·exact hR _ _ ⟨Int.ofNat i,⟨fun _=>⟨_,zB0 ‹_›,h⟩,fun _=>Int.natCast_nonneg i⟩,by simp only[hI.e],rfl⟩
 ·exact ⟨i+1,by (try simp only[A.reset,zD0,hI.e,List.append_assoc,Bool.or_false,zC0]);rfl,⟨by omega,vX0 ‹_› hi.2 h⟩,by omega⟩
 ·rw[List.take_of_length_le (by omega)] at hi
  exact hR _ _ ⟨-1,⟨fun h=>by omega,fun ⟨s,h1,h2⟩=>absurd h2 (hi.2 s h1)⟩,by simp only[hI.e],rfl⟩
theorem mT1 (l:List ByteArray) (hl:l.length<=8388608):ACl Tryz.prog 150 [⟨.one,[.ro true (I (l.map strT))]⟩,⟨.one,[.fn 148 [(0,0),(1,0)]]⟩] [some [.ro true (I (ts.map strT))],some (pA @I p).cs] (fun res bx=>res=litB (I (bB (∃s∈l,TkP p ts s)))/\bx=[some [.ro true (I (ts.map strT))],some (pA @I p).cs]):=by
 have c1:=mP1 hI p hz ts ht l hl;refine qN hI tyK Tryz.func150 9 [.tmp 4] ?_;unhygienic intros
 refine qB 2 ?_
 repeat' first|refine qA 2 ?_|refine qJe (nN [0,1]) fun x hx=>?_|refine qp ?_ ?_|refine qk (fun h=>?_) fun h=>?_|fail
 exact hR _ _ ⟨liP hI (by rw[F.k6,hI.e,hx]),rfl⟩
end
theorem rR1 (hI:II @I) (p:Pg) (hz:p.sz<=1048576) (hg:p.good):ACl Tryz.prog 77 [pA @I p] [] (fun res bx=>res=litB (I (bB (BothS p)))/\bx=[]):=by
 have c1:=DU0 hI p hz;have c2:=WV0 hI p hz;have hv:=bR0 (p:=p.good) (JM0 p hz);have ht:=bR0 (p:=p.good) (JN0 p hz);have hb0:=TwQ.iff hg (vR1 p) (RU0 p);have hfz:∀f∈p.fns,f.params.length<=1048576:=fun f hf=>by have:=Fu.szs_mem hf;rw[Pg.sz] at hz;rw[Fu.sz] at this;omega
 have hfl:p.fns.length<=1048576:=by rw[Pg.sz] at hz;omega
 generalize (@ite _ p.good (Classical.propDecidable _) (srtB (tV (Pa.of p))) [])=vs at *;generalize (@ite _ p.good (Classical.propDecidable _) (srtB (tT (Pa.of p))) [])=ts at *;have hen:zP0 Tryz.prog 148=true:=rfl;have c3:=c_tk hI p hz ts ht;refine qN hI tyK Tryz.func77 41 [.tmp 2] ?_;unhygienic intros
 refine qB 0 ?_
 repeat' first|refine qA 0 ?_|refine qJ (nN []) ?_|refine qp ?_ ?_|refine qk (fun h=>?_) fun h=>?_|fail
 refine qLf 2 [1,3,4,13,14,15] kk0 (fun i:Nat=>⟨vag 41 [(1,⟨.one,[.ptr 0 0]⟩),(3,⟨.one,[.ptr 1 0]⟩),(4,⟨.one,[.fn 148 [(1,0),(0,0)]]⟩),(13,⟨.one,[.ro true (I (vs.map strT))]⟩),(14,litI (Int.ofNat (I vs.length))),(15,litI (Int.ofNat (I i)))],[some (pA @I p).cs,some [.ro true (I (ts.map strT))]],1⟩) (fun i=>i<=vs.length/\∀s∈vs.take i,¬TkP p ts s) (fun i=>vs.length - i) ?_ fun i hi=>?_
 ·cbv
  exact ⟨0,by simp[hI.e];rfl,by simp,by simp⟩
 refine qB 0 ?_
 repeat' first|refine qA 0 ?_|refine qJ (nN [1,0]) ?_|refine qp ?_ ?_|refine qk (fun h=>?_) fun h=>?_|fail
 ·exact hR _ _ ⟨liP hI ⟨fun _=>hb0.1 (.inl ⟨_,zB0 ‹_›,h⟩),fun _=>rfl⟩,rfl⟩
 ·exact ⟨i+1,by (try simp only[A.reset,zD0,hI.e,List.append_assoc,Bool.or_false,zC0]);rfl,⟨by omega,vX0 ‹_› hi.2 h⟩,by omega⟩
 rw[List.take_of_length_le (by omega)] at hi
 have hn:=hi.2;clear hi;refine qLf 2 [1,3,4,24,25,26] kk0 (fun i:Nat=>⟨vag 41 [(1,⟨.one,[.ptr 0 0]⟩),(3,⟨.one,[.ptr 1 0]⟩),(4,⟨.one,[.fn 148 [(1,0),(0,0)]]⟩),(24,⟨.one,[.ro true (I (p.fns.map Fu.t))]⟩),(25,litI (Int.ofNat (I p.fns.length))),(26,litI (Int.ofNat (I i)))],[some (pA @I p).cs,some [.ro true (I (ts.map strT))]],1⟩) (fun i=>i<=p.fns.length/\∀f∈p.fns.take i,¬FtP p ts f) (fun i=>p.fns.length - i) ?_ fun i hi=>?_
 ·cbv
  exact ⟨0,by simp[hI.e];rfl,by simp,by simp⟩
 clear c1 c2 c3;have c1:=fun s=>QB.of hI (xJ0 ts (I (ts.map strT)) s (by rw[hI.e];rfl) (by omega))
 have c2:=fun (hh:i < p.fns.length)=>mT1 hI p hz ts ht (p.fns[i]!).params (by have:=hfz _ (zB0 hh);omega)
 refine qB 0 ?_
 repeat' first|refine qA 0 ?_|refine qJ (nN []) ?_|refine qJ (nN [1,0]) ?_|refine qp ?_ ?_|refine qk (fun h=>?_) fun h=>?_|fail
 ·exact hR _ _ ⟨liP hI ⟨fun _=>hb0.1 (.inr ⟨_,zB0 ‹_›,.inl h⟩),fun _=>rfl⟩,rfl⟩
 ·exact hR _ _ ⟨liP hI ⟨fun _=>hb0.1 (.inr ⟨_,zB0 ‹_›,.inr h⟩),fun _=>rfl⟩,rfl⟩
 ·exact ⟨i+1,by (try simp only[A.reset,zD0,hI.e,List.append_assoc,Bool.or_false,zC0]);rfl,⟨by omega,vX0 ‹_› hi.2 fun q=>q.elim (by assumption) h⟩,by omega⟩
 ·rw[List.take_of_length_le (by omega)] at hi
  exact hR _ _ ⟨liP hI ⟨fun q=>by simp at q,fun q=>absurd (hb0.2 q) fun q=>q.elim (fun ⟨s,h1,h2⟩=>hn s h1 h2) fun ⟨f,h1,h2⟩=>hi.2 f h1 h2⟩,rfl⟩
variable {I:∀{α:Type},α->α}
theorem mN1 {x:Pa} {e:Ex}:e∈Ex.zl zc x.when_++Sm.zl (fun y=>Ex.zl zc y.x) x.l↔e∈Ex.cls x.when_\/e∈Sm.cls x.l:=by
 rw[List.mem_append,Ex.zl_cl,Sm.ml_cl]
theorem zc_eq (e:Ex):zc e=if e.k=11 then [e] else []:=by cases e;rfl
noncomputable abbrev tC (p:Pg) (q:List Pa):List Bool:=q.flatMap fun x=>x.zx (zkP p)
noncomputable abbrev tP (q:List Pa):List Bool:=q.flatMap fun x=>Sm.zl (zpP x) x.l
theorem pP1 (p:Pg) (q:List Pa):(tC p q).all id=true↔Pa.cP (qF0 p) q:=by
 unfold Pa.cP;simp only[<-mN1];simp only[tC,Pa.zx,List.all_eq_true,List.mem_flatMap,List.mem_append,Ex.zl_mem,Sm.zl_mem,zkP,zc_eq,List.mem_singleton,id]
 constructor
 ·intro h x hx e he
  have h2:=fun b hb=>h b ⟨x,hx,hb⟩;rcases he with ⟨e',h3,h4⟩ | ⟨y,h3,e',h5,h4⟩<;>(split at h4<;>simp at h4;subst h4;rename_i hk)
  ·exact (uF0 _).mp (h2 _ (.inl ⟨e,h3,rfl⟩)) hk
  ·exact (uF0 _).mp (h2 _ (.inr ⟨y,h3,e,h5,rfl⟩)) hk
 ·rintro h b ⟨x,hx,⟨e,h3,rfl⟩ | ⟨y,h3,e,h5,rfl⟩⟩<;>rw[uF0]<;>intro hk
  ·exact h x hx e (.inl ⟨e,h3,by simp[hk]⟩)
  ·exact h x hx e (.inr ⟨y,h3,e,h5,by simp[hk]⟩)
theorem pN1 (q:List Pa):(tP q).all id=true↔Pa.kP q:=by
 unfold Pa.kP;simp only[<-Sm.ml_ks];simp only[tP,List.all_eq_true,List.mem_flatMap,Sm.zl_mem,zpP,List.mem_singleton,id]
 constructor
 ·rintro h x hx c ⟨y,hy,rfl⟩;exact (uF0 _).mp (h _ ⟨x,hx,c,hy,rfl⟩)
 ·rintro h b ⟨x,hx,y,hy,rfl⟩;rw[uF0];exact h x hx y ⟨y,hy,rfl⟩
theorem zC1 (hI:II @I) (p:Pg) (hz:p.sz<=1048576):ACl Tryz.prog 37 [pA @I p] [] (fun res bx=>∃r:Int,CheckIs p r/\res=litI r/\bx=[]):=by
 have c1:=rW1 hI p hz;have c2:=tZ0 hI p hz;have c3:=fun (hg:¬¬p.good)=>rR1 hI p hz (Classical.not_not.1 hg);have hok:=fun x hx=>Pa.ok_of hz (x:=x) hx;have hlq:=Pa.lnO p;have hC':=(pP1 p (Pa.of p)).trans (Pa.cP_of p);have hP':=fun hg=>(pN1 (Pa.of p)).trans (Pa.kP_of p hg);have hle:(tC p (Pa.of p)).length<=8388608:=Nat.le_trans (mW0 (fun x=>by have:=Pa.all_len (z:=zkP p) (v:=zpP x) (fun e=>by simp[zkP]) (fun y=>by simp[zpP]) x;rw[Pa.all,List.length_append] at this;omega) _) (by have:=Pa.ws_of p;omega)
 have hle2:(tP (Pa.of p)).length<=8388608:=Nat.le_trans (mW0 (fun x=>by have:=Pa.all_len (z:=zkP p) (v:=zpP x) (fun e=>by simp[zkP]) (fun y=>by simp[zpP]) x;rw[Pa.all,List.length_append] at this;omega) _) (by have:=Pa.ws_of p;omega)
 generalize Pa.of p=q at *;have e1:=Pa.tI hI;generalize hpt:Pa.t=pt at *;refine qN hI tyK Tryz.func37 33 [.tmp 2] ?_;unhygienic intros
 have hall:all (I (q.map pt)) 4:=F.n2 _ _ _ (by intro x;rw[e1];rfl)
 refine qB 0 ?_
 repeat' first|refine qA 0 ?_|refine qJ (nN []) ?_|refine qp ?_ ?_|refine qk (fun h=>?_) fun h=>?_|fail
 ·exact hR _ _ ⟨1,.inl ⟨h,rfl⟩,rfl,rfl⟩
 ·exact hR _ _ ⟨2,.inr (.inl ⟨Classical.not_not.1 ‹_›,h,rfl⟩),rfl,rfl⟩
 rename_i hg;refine qLf 3 [1,3,4,13,14,15] kk0 (fun i:Nat=>⟨vag 33 [(1,⟨.one,[.ptr 0 0]⟩),(3,⟨.one,[.ptr 1 0]⟩),(4,⟨.one,[.ptr 2 0]⟩),(13,⟨.one,[.ro true (I (q.map pt))]⟩),(14,litI (Int.ofNat (I q.length))),(15,litI (Int.ofNat (I i)))],[some (pA @I p).cs,some [.lit (.bool (I ((tC p (q.take i)).all id)))],some [.lit (.bool (I ((tP (q.take i)).all id)))]],1⟩) (fun i=>i<=q.length) (fun i=>q.length - i) ?_ fun i hi=>?_
 ·cbv
  exact ⟨0,by simp[hI.e];rfl,by omega⟩
 have hx:=fun (hh:i < q.length)=>hok _ (zB0 hh);have c4:=fun (hh:i < q.length)=>peC hI (gC hI p hz) _ (hx hh) (tC p (q.take i)) (by have:=bY0 hh (Nat.le_trans hle (by decide:8388608<=137438953472));rw[Pa.zx,<-List.append_assoc] at this;exact this)
 have c5:=fun (hh:i < q.length)=>esC hI (gCS hI q[i]!) (q[i]!).l (hx hh).2.2.1 (hx hh).2.2.2.1 (tP (q.take i)) (bY0 hh (Nat.le_trans hle2 (by decide:8388608<=137438953472)))
 clear c1 c2 c3;refine qB 0 ?_
 repeat' first|refine qA 0 ?_|refine qJ (nN [1,0]) ?_|refine qJ (nN [2,3]) ?_|refine qp ?_ ?_|refine qk (fun h=>?_) fun h=>?_|fail
 ·exact ⟨i+1,by (try simp only[A.reset,zD0,hI.e,List.append_assoc,Bool.or_false,zC0,bZ0 h,Pa.zx,List.append_assoc]);rfl,by omega,by omega⟩
 all_goals
  rw[List.take_of_length_le (by omega)] at *
  have hg':=Classical.not_not.1 hg;have hP2:=hP' hg'
 ·exact hR _ _ ⟨3,.inr (.inr (.inl ⟨hg',‹_›,fun q=>h (hC'.2 q),rfl⟩)),rfl,rfl⟩
 ·exact hR _ _ ⟨4,.inr (.inr (.inr (.inl ⟨hg',‹_›,hC'.1 (Classical.not_not.1 ‹_›),Classical.not_not.1 fun q=>h (hP2.2 q),rfl⟩))),rfl,rfl⟩
 ·exact hR _ _ ⟨0,.inr (.inr (.inr (.inr ⟨hg',‹_›,hC'.1 (Classical.not_not.1 ‹_›),hP2.1 (Classical.not_not.1 h),rfl⟩))),rfl,rfl⟩
end Go.Gv
