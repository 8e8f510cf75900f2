/- Part W7 of the proof: contracts of functions of the program, each walked once. -/
import Derived.Test.YtjeejieaalnbeaaGreatW1
import Derived.Test.YtjeejieaalnbeaaGreatR1
import Derived.Test.YtjeejieaalnbeaaGreatT1
import Derived.Test.YtjeejieaalnbeaaGreatK2
import Derived.Test.YtjeejieaalnbeaaGreatQ1
set_option linter.all false
namespace Go.Gv
open Go.Av Go.Proofs Go.Shelf Go.RowKit
set_option maxRecDepth 10000
set_option maxHeartbeats 8000000
abbrev TSVx (L:Tl ByteArray (List (List T))) (z:Sm->List ByteArray) (w:Sm->Nat) (pt wt lt:List (List T)) (ru:Int):Prop:=∀(x:Sm) (v:(List (List T))),x.sz<=1048576->L.G v (w x)->ACl Tryz.prog 134 [agT x.t,⟨.one,[.ptr 3 0]⟩] [some [.ro true pt,.ro true wt,.ro true lt,.lit (.int .i64 ru)],some [.ow (0,0) 1 v],some [.fn 83 [(0,0),(1,0)]],some [.fn 85 [(2,0)]]] (fun res bx=>∃v',L.P (z x) (w x) v v'/\res=⟨.tup [],[]⟩/\bx=[some [.ro true pt,.ro true wt,.ro true lt,.lit (.int .i64 ru)],some [.ow (0,0) 1 v'],some [.fn 83 [(0,0),(1,0)]],some [.fn 85 [(2,0)]]])
abbrev ESVx (L:Tl ByteArray (List (List T))) (z:Sm->List ByteArray) (w:Sm->Nat) (pt wt lt:List (List T)) (ru:Int) (l:List Sm):Prop:=∀(al:List (List T)) (v:(List (List T))),al=l.map Sm.t->L.G v (Sm.wl w l)->ACl Tryz.prog 80 [⟨.one,[.ro true al]⟩,⟨.one,[.fn 134 [(3,0)]]⟩] [some [.ro true pt,.ro true wt,.ro true lt,.lit (.int .i64 ru)],some [.ow (0,0) 1 v],some [.fn 83 [(0,0),(1,0)]],some [.fn 85 [(2,0)]]] (fun res bx=>∃v',L.P (Sm.zl z l) (Sm.wl w l) v v'/\res=⟨.tup [],[]⟩/\bx=[some [.ro true pt,.ro true wt,.ro true lt,.lit (.int .i64 ru)],some [.ow (0,0) 1 v'],some [.fn 83 [(0,0),(1,0)]],some [.fn 85 [(2,0)]]])
def invESVx (L:Tl ByteArray (List (List T))) (z:Sm->List ByteArray) (w:Sm->Nat) (pt wt lt:List (List T)) (ru:Int) (al:List (List T)) (l:List Sm) (v:(List (List T))) (N:Nat) (σ:AS):Prop:=
 ∃(i:Nat) (v':(List (List T))),σ=⟨vag 24 [(1,⟨.one,[.fn 134 [(3,0)]]⟩),(6,⟨.one,[.ro true al]⟩),(7,litI (Int.ofNat l.length)),(8,litI (Int.ofNat i))],[some [.ro true pt,.ro true wt,.ro true lt,.lit (.int .i64 ru)],some [.ow (0,0) 1 v'],some [.fn 83 [(0,0),(1,0)]],some [.fn 85 [(2,0)]]],1⟩/\i<=l.length/\L.P (Sm.zl z (l.take i)) (Sm.wl w (l.take i)) v v'/\N=l.length - i
theorem esVx_step (L:Tl ByteArray (List (List T))) (z:Sm->List ByteArray) (w:Sm->Nat) (pt wt lt:List (List T)) (ru:Int) (tell:TSVx L z w pt wt lt ru) (l:List Sm) (hl:l.length<=1048576) (hz:∀y∈l,y.sz<=1048576) (ih:∀k s t x a b,Sm.mk k s t x a b∈l->ESVx L z w pt wt lt ru a/\ESVx L z w pt wt lt ru b):ESVx L z w pt wt lt ru l:=by
 intro al v hal hg;refine qF tysF_ok Tryz.func80 24 [] ?_;unhygienic intros;obtain ⟨N,hN⟩:=qX l.length;have lx:len al=N:=lnO hO (by simp[hal,hN])
 have hall:all al 6:=alO hO (by rw[hal];simp[Sm.t_len])
 rw[<-hN] at hl;revert hK K;refine qW4 ?_;intro K hK;simp only[lx];refine qL 4 [1,6,7,8] kk0 (invESVx L z w pt wt lt ru al l v) ?_ ?_
 ·cbv
  exact ⟨_,0,v,by rw[<-hN];cbv,by simp,L.nil (L.mono (Nat.zero_le _) hg),rfl⟩
 rintro m σ ⟨i,v2,rfl,g1,hP2,rfl⟩;rw[<-hN] at g1 |-
 by_cases hlt:i < N
 ·have c1:cmp .lss (Int.ofNat i) (Int.ofNat N)=true:=by cases hO;simp[Ops.std,sCm,hlt]
  have e:bin .add .i64 (Int.ofNat i) 1=_:=iSc hO (by omega)
  have hidx:idx (Int.ofNat i) (len al):=lx ▸ ixN hO hlt;obtain ⟨y,hxm,hx,htk,e1⟩:=mpA hO hal (hN ▸ hlt);have hpp:Sm.wl w (l.take (i+1))=Sm.wl w (l.take i)+Sm.w1 w y:=by rw[htk,Sm.wl_app,Sm.wl_one]
  have hpl:Sm.wl w (l.take (i+1))<=Sm.wl w l:=by
   have:=Sm.wl_app w (l.take (i+1)) (l.drop (i+1));rw[List.take_append_drop] at this;omega
  have hzz:Sm.zl z (l.take (i+1))=Sm.zl z (l.take i)++Sm.z1 z y:=by rw[htk,Sm.zl_app,Sm.zl_one]
  have hG:L.G v2 (Sm.w1 w y):=L.go (L.mono (by omega) hg) hP2
  obtain ⟨k',s',t',x',a',b'⟩:=y;obtain ⟨ihA,ihB⟩:=ih k' s' t' x' a' b' hxm;have hw1:Sm.w1 w (Sm.mk k' s' t' x' a' b')=w (Sm.mk k' s' t' x' a' b')+(Sm.wl w a' + Sm.wl w b'):=by rw[Sm.w1]
  have hz1:Sm.z1 z (Sm.mk k' s' t' x' a' b')=z (Sm.mk k' s' t' x' a' b')++(Sm.zl z a'++Sm.zl z b'):=by rw[Sm.z1]
  rw[hw1] at hG hpp;rw[hz1] at hzz;have h1:=tell (Sm.mk k' s' t' x' a' b') v2 (hz _ hxm) (L.mono (by omega) hG)
  have h2:=fun v (h:L.G v (Sm.wl w a'))=>ihA _ v rfl h;have h3:=fun v (h:L.G v (Sm.wl w b'))=>ihB _ v rfl h;have go2:=fun v3 (h:L.P (z (Sm.mk k' s' t' x' a' b')) (w (Sm.mk k' s' t' x' a' b')) v2 v3)=>L.go hG h;clear hw1 hz1;generalize z (Sm.mk k' s' t' x' a' b')=z0 at *;generalize w (Sm.mk k' s' t' x' a' b')=w0 at *;simp only[agT,Sm.t_mk,List.map,tA] at h1 e1;generalize x'.map Ex.t=xl' at h1 e1;generalize a'.map Sm.t=al' at h1 e1 h2
  generalize b'.map Sm.t=bl' at h1 e1 h3;refine qU ?_
  repeat' first|(revert hK K;refine qV4 ?_;intro K hK)|(refine GFork.mk (fun _=>qQ ?_) fun _=>qQ ?_)|(simp only[c1,e1];try cbv)|(with_reducible refine ndC ?h ?_;case h=>first | exact hidx | exact hall)|(refine qg [0,1,2,3] ?_;refine qC ?_;refine qD hP h1 ?_;rintro res bx ⟨v3,hP3,rfl,rfl⟩;refine qC ?_)|(refine qg [0,1,2,3] ?_;refine qC ?_;refine qD hP ((h2 v3 (L.mono (Nat.le_add_right _ _) (go2 v3 hP3)))) ?_;rintro res bx ⟨v4,hP4,rfl,rfl⟩;refine qC ?_)|(refine qg [0,1,2,3] ?_;refine qC ?_;refine qD hP ((h3 v4 (L.go (go2 v3 hP3) hP4))) ?_;rintro res bx ⟨v5,hP5,rfl,rfl⟩;refine qC ?_)
  rw[e];exact ⟨N - (i+1),by omega,i+1,v5,by rw[<-hN];cbv,by omega,by rw[hzz,hpp];exact L.trans hP2 (L.trans hP3 (L.trans hP4 hP5)),by rw[hN]⟩
 ·have hie:i=N:=by omega
  have c1:cmp .lss (Int.ofNat i) (Int.ofNat N)=false:=by cases hO;simp[Ops.std,sCm];omega
  rw[hie,hN,List.take_length] at hP2;refine qU ?_
  repeat' first|(revert hK K;refine qV4 ?_;intro K hK)|(refine GFork.mk (fun _=>qQ ?_) fun _=>qQ ?_)|(simp only[c1];try cbv)
  exact hR _ _ ⟨v2,hP2,rfl,rfl⟩
theorem esVx (L:Tl ByteArray (List (List T))) (z:Sm->List ByteArray) (w:Sm->Nat) (pt wt lt:List (List T)) (ru:Int) (tell:TSVx L z w pt wt lt ru) (l:List Sm) (hl:l.length<=1048576) (hz:∀y∈l,y.sz<=1048576):ESVx L z w pt wt lt ru l:=by
 obtain ⟨m,hm⟩:∃m,SizeOf.sizeOf l=m:=⟨_,rfl⟩
 induction m using Nat.strongRecOn generalizing l with
 | ind m ih=>
  subst hm;refine esVx_step L z w pt wt lt ru tell l hl hz fun k s t x a b hy=>?_;obtain ⟨_,_,_,_,h1,h2,h3⟩:=ssz_inv (hz _ hy);have h4:=List.sizeOf_lt_of_mem hy;simp only[Sm.mk.sizeOf_spec] at h4;exact ⟨ih (SizeOf.sizeOf a) (by omega) a h1 (fun y hy=>h3 y (List.mem_append_left _ hy)) rfl,ih (SizeOf.sizeOf b) (by omega) b h2 (fun y hy=>h3 y (List.mem_append_right _ hy)) rfl⟩
def invX1Vx (L:Tl ByteArray (List (List T))) (z:Ex->List ByteArray) (pt wt lt:List (List T)) (ru:Int) (cs:List A) (xl:List (List T)) (l:List Ex) (v:(List (List T))) (N:Nat) (σ:AS):Prop:=
 ∃(i:Nat) (v':(List (List T))),σ=⟨vag 16 [(1,⟨.one,[.ptr 3 0]⟩),(6,⟨.one,[.ro true xl]⟩),(7,litI (Int.ofNat l.length)),(8,litI (Int.ofNat i))],[some [.ro true pt,.ro true wt,.ro true lt,.lit (.int .i64 ru)],some [.ow (0,0) 1 v'],some [.fn 83 [(0,0),(1,0)]],some [.fn 85 [(2,0)]],some cs],1⟩/\i<=l.length/\L.P (Ex.zl z (l.take i)) (Ex.partss (l.take i)) v v'/\N=l.length - i
theorem txVx (L:Tl ByteArray (List (List T))) (z:Ex->List ByteArray) (pt wt lt:List (List T)) (ru:Int) (tell:TEV L z pt wt lt ru):TSVx L (fun y=>Ex.zl z y.x) (fun y=>Ex.partss y.x) pt wt lt ru:=by
 intro y v hys hg;obtain ⟨k,s,t,l,a,b⟩:=y;simp only[Sm.x] at hg |-;obtain ⟨_,_,hll,hwl,_,_,_⟩:=ssz_inv hys;have ih:=fun x (hx:x∈l)=>eeV L z pt wt lt ru tell x (hwl x hx);obtain ⟨xl,hxl⟩:=qX (l.map Ex.t);obtain ⟨al,hal⟩:=qX (a.map Sm.t);obtain ⟨bl,hbl⟩:=qX (b.map Sm.t);rw[sm_agT,<-hxl,<-hal,<-hbl];refine qF tysF_ok Tryz.func134 16 [] ?_;unhygienic intros;obtain ⟨N,hN⟩:=qX l.length;have lx:len xl=N:=lnO hO (by simp[hxl,hN])
 have hall:all xl 4:=alO hO (by rw[hxl];simp[Ex.t_len])
 obtain ⟨cs,hcs⟩:=qX ([.lit (.int .i64 k),.lit (.string s),.lit (.string t),.ro true xl,.ro true al,.ro true bl]:List A);rw[<-hN] at hll;revert hK K;refine qW4 ?_;intro K hK;simp only[lx];refine qL 5 [1,6,7,8] kk0 (invX1Vx L z pt wt lt ru cs xl l v) ?_ ?_
 ·cbv
  exact ⟨_,0,v,by rw[hcs,<-hN];cbv,by simp,L.nil (L.mono (Nat.zero_le _) hg),rfl⟩
 rintro m σ ⟨i,v2,rfl,g1,hP2,rfl⟩;rw[<-hN] at g1 |-;rw[hcs]
 by_cases hlt:i < N
 ·have c1:cmp .lss (Int.ofNat i) (Int.ofNat N)=true:=by cases hO;simp[Ops.std,sCm,hlt]
  have e:bin .add .i64 (Int.ofNat i) 1=_:=iSc hO (by omega)
  have hidx:idx (Int.ofNat i) (len xl):=lx ▸ ixN hO hlt;obtain ⟨x,hxm,hx,htk,e1⟩:=mpA hO hxl (hN ▸ hlt);have hpp:Ex.partss (l.take (i+1))=Ex.partss (l.take i)+x.parts:=by rw[htk,Ex.partss_app,Ex.partss_one]
  have hpl:=Ex.partss_take l (i+1);have hzz:Ex.zl z (l.take (i+1))=Ex.zl z (l.take i)++Ex.z1 z x:=by rw[htk,Ex.zl_app,Ex.zl_one]
  have hcall:=ih x hxm v2 (L.go (L.mono (by omega) hg) hP2)
  generalize x.parts=xp at *;generalize Ex.z1 z x=xz at *;obtain ⟨k',n',s',l'⟩:=x;simp only[agT,Ex.t_mk,List.map,tA] at hcall e1;generalize l'.map Ex.t=xl' at hcall e1;refine qU ?_
  repeat' first|(revert hK K;refine qV4 ?_;intro K hK)|(refine GFork.mk (fun _=>qQ ?_) fun _=>qQ ?_)|(simp only[c1,e1];try cbv)|(with_reducible refine ndC ?h ?_;case h=>first | exact hidx | exact hall)|(refine qg [0,1,2] ?_;refine qC ?_;refine qD hP hcall ?_;rintro res bx ⟨v3,hP3,rfl,rfl⟩;refine qC ?_)
  rw[e];exact ⟨N - (i+1),by omega,i+1,v3,by (try rw[hcs]);rw[<-hN];cbv,by omega,by rw[hzz,hpp];exact L.trans hP2 hP3,by rw[hN]⟩
 ·have hie:i=N:=by omega
  have c1:cmp .lss (Int.ofNat i) (Int.ofNat N)=false:=by cases hO;simp[Ops.std,sCm];omega
  rw[hie,hN,List.take_length] at hP2;refine qU ?_
  repeat' first|(revert hK K;refine qV4 ?_;intro K hK)|(refine GFork.mk (fun _=>qQ ?_) fun _=>qQ ?_)|(simp only[c1];try cbv)
  exact hR _ _ ⟨v2,hP2,rfl,rfl⟩
def invXXV (L:Tl ByteArray (List (List T))) (z:Ex->List ByteArray) (pt wt lt:List (List T)) (ru:Int) (cs:List A) (xl:List (List T)) (l:List Ex) (v:(List (List T))) (N:Nat) (σ:AS):Prop:=
 ∃(i:Nat) (v':(List (List T))),σ=⟨vag 21 [(2,⟨.one,[.ptr 3 0]⟩),(3,⟨.one,[.ptr 4 0]⟩),(7,⟨.one,[.ro true xl]⟩),(8,litI (Int.ofNat l.length)),(9,litI (Int.ofNat i))],[some [.ro true pt,.ro true wt,.ro true lt,.lit (.int .i64 ru)],some [.ow (0,0) 1 v'],some [.fn 83 [(0,0),(1,0)]],some cs,some [.fn 85 [(2,0)]]],1⟩/\i<=l.length/\L.P (Ex.zl z (l.take i)) (Ex.partss (l.take i)) v v'/\N=l.length - i
theorem xxV (L:Tl ByteArray (List (List T))) (z:Ex->List ByteArray) (pt wt lt:List (List T)) (ru:Int) (tell:TEV L z pt wt lt ru) (qt:List (List T)) (qu:Int) (l:List Ex) (hll:l.length<=1048576) (hwl:∀x∈l,x.sz<=1048576) (a:List Sm) (hal':a.length<=1048576) (haw:∀y∈a,y.sz<=1048576) (xl al:List (List T)) (hxl:xl=l.map Ex.t) (hal:al=a.map Sm.t)
  (v:(List (List T))) (hg:L.G v (Ex.partss l+Sm.wl (fun y=>Ex.partss y.x) a)):ACl Tryz.prog 77 [⟨.agg,[.ro true qt,.ro true xl,.ro true al,.lit (.int .i64 qu)]⟩,⟨.one,[.fn 85 [(2,0)]]⟩] [some [.ro true pt,.ro true wt,.ro true lt,.lit (.int .i64 ru)],some [.ow (0,0) 1 v],some [.fn 83 [(0,0),(1,0)]]]
   (fun res bx=>∃v',L.P (Ex.zl z l++Sm.zl (fun y=>Ex.zl z y.x) a) (Ex.partss l+Sm.wl (fun y=>Ex.partss y.x) a) v v'/\res=⟨.tup [],[]⟩/\bx=[some [.ro true pt,.ro true wt,.ro true lt,.lit (.int .i64 ru)],some [.ow (0,0) 1 v'],some [.fn 83 [(0,0),(1,0)]]]):=by
 have ih:=fun x (hx:x∈l)=>eeV L z pt wt lt ru tell x (hwl x hx);have hS:=fun v=>esVx L (fun y=>Ex.zl z y.x) (fun y=>Ex.partss y.x) pt wt lt ru (txVx L z pt wt lt ru tell) a hal' haw al v hal;obtain ⟨NW,hNW⟩:=qX (Sm.wl (fun y=>Ex.partss y.x) a);obtain ⟨zw,hzw⟩:=qX (Sm.zl (fun y=>Ex.zl z y.x) a);rw[<-hNW] at hg;simp only[<-hNW,<-hzw] at hS |-;refine qF tysF_ok Tryz.func77 21 [] ?_;unhygienic intros;obtain ⟨N,hN⟩:=qX l.length
 have lx:len xl=N:=lnO hO (by simp[hxl,hN])
 have hall:all xl 4:=alO hO (by rw[hxl];simp[Ex.t_len])
 obtain ⟨cs,hcs⟩:=qX ([.ro true qt,.ro true xl,.ro true al,.lit (.int .i64 qu)]:List A);rw[<-hN] at hll;revert hK K;refine qW3 ?_;intro K hK;simp only[lx];refine qL 5 [2,3,7,8,9] kk0 (invXXV L z pt wt lt ru cs xl l v) ?_ ?_
 ·cbv
  exact ⟨_,0,v,by rw[hcs,<-hN];cbv,by simp,L.nil (L.mono (Nat.zero_le _) hg),rfl⟩
 rintro m σ ⟨i,v2,rfl,g1,hP2,rfl⟩;rw[<-hN] at g1 |-;rw[hcs]
 by_cases hlt:i < N
 ·have c1:cmp .lss (Int.ofNat i) (Int.ofNat N)=true:=by cases hO;simp[Ops.std,sCm,hlt]
  have e:bin .add .i64 (Int.ofNat i) 1=_:=iSc hO (by omega)
  have hidx:idx (Int.ofNat i) (len xl):=lx ▸ ixN hO hlt;obtain ⟨x,hxm,hx,htk,e1⟩:=mpA hO hxl (hN ▸ hlt);have hpp:Ex.partss (l.take (i+1))=Ex.partss (l.take i)+x.parts:=by rw[htk,Ex.partss_app,Ex.partss_one]
  have hpl:=Ex.partss_take l (i+1);have hzz:Ex.zl z (l.take (i+1))=Ex.zl z (l.take i)++Ex.z1 z x:=by rw[htk,Ex.zl_app,Ex.zl_one]
  have hcall:=ih x hxm v2 (L.go (L.mono (by omega) hg) hP2)
  generalize x.parts=xp at *;generalize Ex.z1 z x=xz at *;obtain ⟨k',n',s',l'⟩:=x;simp only[agT,Ex.t_mk,List.map,tA] at hcall e1;generalize l'.map Ex.t=xl' at hcall e1;refine qU ?_
  repeat' first|(revert hK K;refine qV3 ?_;intro K hK)|(refine GFork.mk (fun _=>qQ ?_) fun _=>qQ ?_)|(simp only[c1,e1];try cbv)|(with_reducible refine ndC ?h ?_;case h=>first | exact hidx | exact hall)|(refine qg [0,1,2] ?_;refine qC ?_;refine qD hP hcall ?_;rintro res bx ⟨v3,hP3,rfl,rfl⟩;refine qC ?_)
  rw[e];exact ⟨N - (i+1),by omega,i+1,v3,by (try rw[hcs]);rw[<-hN];cbv,by omega,by rw[hzz,hpp];exact L.trans hP2 hP3,by rw[hN]⟩
 ·have hie:i=N:=by omega
  have c1:cmp .lss (Int.ofNat i) (Int.ofNat N)=false:=by cases hO;simp[Ops.std,sCm];omega
  rw[hie,hN,List.take_length] at hP2;have hcall:=hS v2 (L.go hg hP2);refine qU ?_
  repeat' first|(revert hK K;refine qV3 ?_;intro K hK)|(refine GFork.mk (fun _=>qQ ?_) fun _=>qQ ?_)|(simp only[c1];try cbv)|(refine qg [0,1,2,4] ?_;refine qC ?_;refine qD hP hcall ?_;rintro res bx ⟨v3,hP3,rfl,rfl⟩;refine qC ?_)
  exact hR _ _ ⟨v3,L.trans hP2 hP3,rfl,rfl⟩
abbrev TSTx (L:Tl ByteArray (List (List T))) (z:Sm->List ByteArray) (w:Sm->Nat) :Prop:=∀(x:Sm) (v:(List (List T))),x.sz<=1048576->L.G v (w x)->ACl Tryz.prog 134 [agT x.t,⟨.one,[.ptr 1 0]⟩] [some [.ow (0,0) 1 v],some [.fn 88 [(0,0)]]] (fun res bx=>∃v',L.P (z x) (w x) v v'/\res=⟨.tup [],[]⟩/\bx=[some [.ow (0,0) 1 v'],some [.fn 88 [(0,0)]]])
abbrev ESTx (L:Tl ByteArray (List (List T))) (z:Sm->List ByteArray) (w:Sm->Nat)  (l:List Sm):Prop:=∀(al:List (List T)) (v:(List (List T))),al=l.map Sm.t->L.G v (Sm.wl w l)->ACl Tryz.prog 80 [⟨.one,[.ro true al]⟩,⟨.one,[.fn 134 [(1,0)]]⟩] [some [.ow (0,0) 1 v],some [.fn 88 [(0,0)]]] (fun res bx=>∃v',L.P (Sm.zl z l) (Sm.wl w l) v v'/\res=⟨.tup [],[]⟩/\bx=[some [.ow (0,0) 1 v'],some [.fn 88 [(0,0)]]])
def invESTx (L:Tl ByteArray (List (List T))) (z:Sm->List ByteArray) (w:Sm->Nat)  (al:List (List T)) (l:List Sm) (v:(List (List T))) (N:Nat) (σ:AS):Prop:=
 ∃(i:Nat) (v':(List (List T))),σ=⟨vag 24 [(1,⟨.one,[.fn 134 [(1,0)]]⟩),(6,⟨.one,[.ro true al]⟩),(7,litI (Int.ofNat l.length)),(8,litI (Int.ofNat i))],[some [.ow (0,0) 1 v'],some [.fn 88 [(0,0)]]],1⟩/\i<=l.length/\L.P (Sm.zl z (l.take i)) (Sm.wl w (l.take i)) v v'/\N=l.length - i
theorem esTx_step (L:Tl ByteArray (List (List T))) (z:Sm->List ByteArray) (w:Sm->Nat)  (tell:TSTx L z w) (l:List Sm) (hl:l.length<=1048576) (hz:∀y∈l,y.sz<=1048576) (ih:∀k s t x a b,Sm.mk k s t x a b∈l->ESTx L z w  a/\ESTx L z w  b):ESTx L z w  l:=by
 intro al v hal hg;refine qF tysF_ok Tryz.func80 24 [] ?_;unhygienic intros;obtain ⟨N,hN⟩:=qX l.length;have lx:len al=N:=lnO hO (by simp[hal,hN])
 have hall:all al 6:=alO hO (by rw[hal];simp[Sm.t_len])
 rw[<-hN] at hl;revert hK K;refine qW2 ?_;intro K hK;simp only[lx];refine qL 2 [1,6,7,8] kk0 (invESTx L z w  al l v) ?_ ?_
 ·cbv
  exact ⟨_,0,v,by rw[<-hN];cbv,by simp,L.nil (L.mono (Nat.zero_le _) hg),rfl⟩
 rintro m σ ⟨i,v2,rfl,g1,hP2,rfl⟩;rw[<-hN] at g1 |-
 by_cases hlt:i < N
 ·have c1:cmp .lss (Int.ofNat i) (Int.ofNat N)=true:=by cases hO;simp[Ops.std,sCm,hlt]
  have e:bin .add .i64 (Int.ofNat i) 1=_:=iSc hO (by omega)
  have hidx:idx (Int.ofNat i) (len al):=lx ▸ ixN hO hlt;obtain ⟨y,hxm,hx,htk,e1⟩:=mpA hO hal (hN ▸ hlt);have hpp:Sm.wl w (l.take (i+1))=Sm.wl w (l.take i)+Sm.w1 w y:=by rw[htk,Sm.wl_app,Sm.wl_one]
  have hpl:Sm.wl w (l.take (i+1))<=Sm.wl w l:=by
   have:=Sm.wl_app w (l.take (i+1)) (l.drop (i+1));rw[List.take_append_drop] at this;omega
  have hzz:Sm.zl z (l.take (i+1))=Sm.zl z (l.take i)++Sm.z1 z y:=by rw[htk,Sm.zl_app,Sm.zl_one]
  have hG:L.G v2 (Sm.w1 w y):=L.go (L.mono (by omega) hg) hP2
  obtain ⟨k',s',t',x',a',b'⟩:=y;obtain ⟨ihA,ihB⟩:=ih k' s' t' x' a' b' hxm;have hw1:Sm.w1 w (Sm.mk k' s' t' x' a' b')=w (Sm.mk k' s' t' x' a' b')+(Sm.wl w a' + Sm.wl w b'):=by rw[Sm.w1]
  have hz1:Sm.z1 z (Sm.mk k' s' t' x' a' b')=z (Sm.mk k' s' t' x' a' b')++(Sm.zl z a'++Sm.zl z b'):=by rw[Sm.z1]
  rw[hw1] at hG hpp;rw[hz1] at hzz;have h1:=tell (Sm.mk k' s' t' x' a' b') v2 (hz _ hxm) (L.mono (by omega) hG)
  have h2:=fun v (h:L.G v (Sm.wl w a'))=>ihA _ v rfl h;have h3:=fun v (h:L.G v (Sm.wl w b'))=>ihB _ v rfl h;have go2:=fun v3 (h:L.P (z (Sm.mk k' s' t' x' a' b')) (w (Sm.mk k' s' t' x' a' b')) v2 v3)=>L.go hG h;clear hw1 hz1;generalize z (Sm.mk k' s' t' x' a' b')=z0 at *;generalize w (Sm.mk k' s' t' x' a' b')=w0 at *;simp only[agT,Sm.t_mk,List.map,tA] at h1 e1;generalize x'.map Ex.t=xl' at h1 e1;generalize a'.map Sm.t=al' at h1 e1 h2
  generalize b'.map Sm.t=bl' at h1 e1 h3;refine qU ?_
  repeat' first|(revert hK K;refine qV2 ?_;intro K hK)|(refine GFork.mk (fun _=>qQ ?_) fun _=>qQ ?_)|(simp only[c1,e1];try cbv)|(with_reducible refine ndC ?h ?_;case h=>first | exact hidx | exact hall)|(refine qg [0,1] ?_;refine qC ?_;refine qD hP h1 ?_;rintro res bx ⟨v3,hP3,rfl,rfl⟩;refine qC ?_)|(refine qg [0,1] ?_;refine qC ?_;refine qD hP ((h2 v3 (L.mono (Nat.le_add_right _ _) (go2 v3 hP3)))) ?_;rintro res bx ⟨v4,hP4,rfl,rfl⟩;refine qC ?_)|(refine qg [0,1] ?_;refine qC ?_;refine qD hP ((h3 v4 (L.go (go2 v3 hP3) hP4))) ?_;rintro res bx ⟨v5,hP5,rfl,rfl⟩;refine qC ?_)
  rw[e];exact ⟨N - (i+1),by omega,i+1,v5,by rw[<-hN];cbv,by omega,by rw[hzz,hpp];exact L.trans hP2 (L.trans hP3 (L.trans hP4 hP5)),by rw[hN]⟩
 ·have hie:i=N:=by omega
  have c1:cmp .lss (Int.ofNat i) (Int.ofNat N)=false:=by cases hO;simp[Ops.std,sCm];omega
  rw[hie,hN,List.take_length] at hP2;refine qU ?_
  repeat' first|(revert hK K;refine qV2 ?_;intro K hK)|(refine GFork.mk (fun _=>qQ ?_) fun _=>qQ ?_)|(simp only[c1];try cbv)
  exact hR _ _ ⟨v2,hP2,rfl,rfl⟩
theorem esTx (L:Tl ByteArray (List (List T))) (z:Sm->List ByteArray) (w:Sm->Nat)  (tell:TSTx L z w) (l:List Sm) (hl:l.length<=1048576) (hz:∀y∈l,y.sz<=1048576):ESTx L z w  l:=by
 obtain ⟨m,hm⟩:∃m,SizeOf.sizeOf l=m:=⟨_,rfl⟩
 induction m using Nat.strongRecOn generalizing l with
 | ind m ih=>
  subst hm;refine esTx_step L z w  tell l hl hz fun k s t x a b hy=>?_;obtain ⟨_,_,_,_,h1,h2,h3⟩:=ssz_inv (hz _ hy);have h4:=List.sizeOf_lt_of_mem hy;simp only[Sm.mk.sizeOf_spec] at h4;exact ⟨ih (SizeOf.sizeOf a) (by omega) a h1 (fun y hy=>h3 y (List.mem_append_left _ hy)) rfl,ih (SizeOf.sizeOf b) (by omega) b h2 (fun y hy=>h3 y (List.mem_append_right _ hy)) rfl⟩
def invX1Tx (L:Tl ByteArray (List (List T))) (z:Ex->List ByteArray)  (cs:List A) (xl:List (List T)) (l:List Ex) (v:(List (List T))) (N:Nat) (σ:AS):Prop:=
 ∃(i:Nat) (v':(List (List T))),σ=⟨vag 16 [(1,⟨.one,[.ptr 1 0]⟩),(6,⟨.one,[.ro true xl]⟩),(7,litI (Int.ofNat l.length)),(8,litI (Int.ofNat i))],[some [.ow (0,0) 1 v'],some [.fn 88 [(0,0)]],some cs],1⟩/\i<=l.length/\L.P (Ex.zl z (l.take i)) (Ex.partss (l.take i)) v v'/\N=l.length - i
theorem txTx (L:Tl ByteArray (List (List T))) (z:Ex->List ByteArray)  (tell:TET L z):TSTx L (fun y=>Ex.zl z y.x) (fun y=>Ex.partss y.x):=by
 intro y v hys hg;obtain ⟨k,s,t,l,a,b⟩:=y;simp only[Sm.x] at hg |-;obtain ⟨_,_,hll,hwl,_,_,_⟩:=ssz_inv hys;have ih:=fun x (hx:x∈l)=>eeT L z  tell x (hwl x hx);obtain ⟨xl,hxl⟩:=qX (l.map Ex.t);obtain ⟨al,hal⟩:=qX (a.map Sm.t);obtain ⟨bl,hbl⟩:=qX (b.map Sm.t);rw[sm_agT,<-hxl,<-hal,<-hbl];refine qF tysF_ok Tryz.func134 16 [] ?_;unhygienic intros;obtain ⟨N,hN⟩:=qX l.length;have lx:len xl=N:=lnO hO (by simp[hxl,hN])
 have hall:all xl 4:=alO hO (by rw[hxl];simp[Ex.t_len])
 obtain ⟨cs,hcs⟩:=qX ([.lit (.int .i64 k),.lit (.string s),.lit (.string t),.ro true xl,.ro true al,.ro true bl]:List A);rw[<-hN] at hll;revert hK K;refine qW2 ?_;intro K hK;simp only[lx];refine qL 3 [1,6,7,8] kk0 (invX1Tx L z  cs xl l v) ?_ ?_
 ·cbv
  exact ⟨_,0,v,by rw[hcs,<-hN];cbv,by simp,L.nil (L.mono (Nat.zero_le _) hg),rfl⟩
 rintro m σ ⟨i,v2,rfl,g1,hP2,rfl⟩;rw[<-hN] at g1 |-;rw[hcs]
 by_cases hlt:i < N
 ·have c1:cmp .lss (Int.ofNat i) (Int.ofNat N)=true:=by cases hO;simp[Ops.std,sCm,hlt]
  have e:bin .add .i64 (Int.ofNat i) 1=_:=iSc hO (by omega)
  have hidx:idx (Int.ofNat i) (len xl):=lx ▸ ixN hO hlt;obtain ⟨x,hxm,hx,htk,e1⟩:=mpA hO hxl (hN ▸ hlt);have hpp:Ex.partss (l.take (i+1))=Ex.partss (l.take i)+x.parts:=by rw[htk,Ex.partss_app,Ex.partss_one]
  have hpl:=Ex.partss_take l (i+1);have hzz:Ex.zl z (l.take (i+1))=Ex.zl z (l.take i)++Ex.z1 z x:=by rw[htk,Ex.zl_app,Ex.zl_one]
  have hcall:=ih x hxm v2 (L.go (L.mono (by omega) hg) hP2)
  generalize x.parts=xp at *;generalize Ex.z1 z x=xz at *;obtain ⟨k',n',s',l'⟩:=x;simp only[agT,Ex.t_mk,List.map,tA] at hcall e1;generalize l'.map Ex.t=xl' at hcall e1;refine qU ?_
  repeat' first|(revert hK K;refine qV2 ?_;intro K hK)|(refine GFork.mk (fun _=>qQ ?_) fun _=>qQ ?_)|(simp only[c1,e1];try cbv)|(with_reducible refine ndC ?h ?_;case h=>first | exact hidx | exact hall)|(refine qg [0] ?_;refine qC ?_;refine qD hP hcall ?_;rintro res bx ⟨v3,hP3,rfl,rfl⟩;refine qC ?_)
  rw[e];exact ⟨N - (i+1),by omega,i+1,v3,by (try rw[hcs]);rw[<-hN];cbv,by omega,by rw[hzz,hpp];exact L.trans hP2 hP3,by rw[hN]⟩
 ·have hie:i=N:=by omega
  have c1:cmp .lss (Int.ofNat i) (Int.ofNat N)=false:=by cases hO;simp[Ops.std,sCm];omega
  rw[hie,hN,List.take_length] at hP2;refine qU ?_
  repeat' first|(revert hK K;refine qV2 ?_;intro K hK)|(refine GFork.mk (fun _=>qQ ?_) fun _=>qQ ?_)|(simp only[c1];try cbv)
  exact hR _ _ ⟨v2,hP2,rfl,rfl⟩
def invXXT (L:Tl ByteArray (List (List T))) (z:Ex->List ByteArray)  (cs:List A) (xl:List (List T)) (l:List Ex) (v:(List (List T))) (N:Nat) (σ:AS):Prop:=
 ∃(i:Nat) (v':(List (List T))),σ=⟨vag 21 [(2,⟨.one,[.ptr 1 0]⟩),(3,⟨.one,[.ptr 2 0]⟩),(7,⟨.one,[.ro true xl]⟩),(8,litI (Int.ofNat l.length)),(9,litI (Int.ofNat i))],[some [.ow (0,0) 1 v'],some cs,some [.fn 88 [(0,0)]]],1⟩/\i<=l.length/\L.P (Ex.zl z (l.take i)) (Ex.partss (l.take i)) v v'/\N=l.length - i
theorem xxT (L:Tl ByteArray (List (List T))) (z:Ex->List ByteArray)  (tell:TET L z) (qt:List (List T)) (qu:Int) (l:List Ex) (hll:l.length<=1048576) (hwl:∀x∈l,x.sz<=1048576) (a:List Sm) (hal':a.length<=1048576) (haw:∀y∈a,y.sz<=1048576) (xl al:List (List T)) (hxl:xl=l.map Ex.t) (hal:al=a.map Sm.t)
  (v:(List (List T))) (hg:L.G v (Ex.partss l+Sm.wl (fun y=>Ex.partss y.x) a)):ACl Tryz.prog 77 [⟨.agg,[.ro true qt,.ro true xl,.ro true al,.lit (.int .i64 qu)]⟩,⟨.one,[.fn 88 [(0,0)]]⟩] [some [.ow (0,0) 1 v]]
   (fun res bx=>∃v',L.P (Ex.zl z l++Sm.zl (fun y=>Ex.zl z y.x) a) (Ex.partss l+Sm.wl (fun y=>Ex.partss y.x) a) v v'/\res=⟨.tup [],[]⟩/\bx=[some [.ow (0,0) 1 v']]):=by
 have ih:=fun x (hx:x∈l)=>eeT L z  tell x (hwl x hx);have hS:=fun v=>esTx L (fun y=>Ex.zl z y.x) (fun y=>Ex.partss y.x)  (txTx L z  tell) a hal' haw al v hal;obtain ⟨NW,hNW⟩:=qX (Sm.wl (fun y=>Ex.partss y.x) a);obtain ⟨zw,hzw⟩:=qX (Sm.zl (fun y=>Ex.zl z y.x) a);rw[<-hNW] at hg;simp only[<-hNW,<-hzw] at hS |-;refine qF tysF_ok Tryz.func77 21 [] ?_;unhygienic intros;obtain ⟨N,hN⟩:=qX l.length;have lx:len xl=N:=lnO hO (by simp[hxl,hN])
 have hall:all xl 4:=alO hO (by rw[hxl];simp[Ex.t_len])
 obtain ⟨cs,hcs⟩:=qX ([.ro true qt,.ro true xl,.ro true al,.lit (.int .i64 qu)]:List A);rw[<-hN] at hll;revert hK K;refine qW1 ?_;intro K hK;simp only[lx];refine qL 3 [2,3,7,8,9] kk0 (invXXT L z  cs xl l v) ?_ ?_
 ·cbv
  exact ⟨_,0,v,by rw[hcs,<-hN];cbv,by simp,L.nil (L.mono (Nat.zero_le _) hg),rfl⟩
 rintro m σ ⟨i,v2,rfl,g1,hP2,rfl⟩;rw[<-hN] at g1 |-;rw[hcs]
 by_cases hlt:i < N
 ·have c1:cmp .lss (Int.ofNat i) (Int.ofNat N)=true:=by cases hO;simp[Ops.std,sCm,hlt]
  have e:bin .add .i64 (Int.ofNat i) 1=_:=iSc hO (by omega)
  have hidx:idx (Int.ofNat i) (len xl):=lx ▸ ixN hO hlt;obtain ⟨x,hxm,hx,htk,e1⟩:=mpA hO hxl (hN ▸ hlt);have hpp:Ex.partss (l.take (i+1))=Ex.partss (l.take i)+x.parts:=by rw[htk,Ex.partss_app,Ex.partss_one]
  have hpl:=Ex.partss_take l (i+1);have hzz:Ex.zl z (l.take (i+1))=Ex.zl z (l.take i)++Ex.z1 z x:=by rw[htk,Ex.zl_app,Ex.zl_one]
  have hcall:=ih x hxm v2 (L.go (L.mono (by omega) hg) hP2)
  generalize x.parts=xp at *;generalize Ex.z1 z x=xz at *;obtain ⟨k',n',s',l'⟩:=x;simp only[agT,Ex.t_mk,List.map,tA] at hcall e1;generalize l'.map Ex.t=xl' at hcall e1;refine qU ?_
  repeat' first|(revert hK K;refine qV1 ?_;intro K hK)|(refine GFork.mk (fun _=>qQ ?_) fun _=>qQ ?_)|(simp only[c1,e1];try cbv)|(with_reducible refine ndC ?h ?_;case h=>first | exact hidx | exact hall)|(refine qg [0] ?_;refine qC ?_;refine qD hP hcall ?_;rintro res bx ⟨v3,hP3,rfl,rfl⟩;refine qC ?_)
  rw[e];exact ⟨N - (i+1),by omega,i+1,v3,by (try rw[hcs]);rw[<-hN];cbv,by omega,by rw[hzz,hpp];exact L.trans hP2 hP3,by rw[hN]⟩
 ·have hie:i=N:=by omega
  have c1:cmp .lss (Int.ofNat i) (Int.ofNat N)=false:=by cases hO;simp[Ops.std,sCm];omega
  rw[hie,hN,List.take_length] at hP2;have hcall:=hS v2 (L.go hg hP2);refine qU ?_
  repeat' first|(revert hK K;refine qV1 ?_;intro K hK)|(refine GFork.mk (fun _=>qQ ?_) fun _=>qQ ?_)|(simp only[c1];try cbv)|(refine qg [0,2] ?_;refine qC ?_;refine qD hP hcall ?_;rintro res bx ⟨v3,hP3,rfl,rfl⟩;refine qC ?_)
  exact hR _ _ ⟨v3,L.trans hP2 hP3,rfl,rfl⟩
abbrev TSCx (L:Tl Ex Bool) (z:Sm->List Ex) (w:Sm->Nat) (rl fl:List (List T)):Prop:=∀(x:Sm) (v:Bool),x.sz<=1048576->L.G v (w x)->ACl Tryz.prog 134 [agT x.t,⟨.one,[.ptr 2 0]⟩] [some [.lit (.bool v)],some [.ro true rl,.ro true fl],some [.fn 78 [(0,0),(1,0)]]] (fun res bx=>∃v',L.P (z x) (w x) v v'/\res=⟨.tup [],[]⟩/\bx=[some [.lit (.bool v')],some [.ro true rl,.ro true fl],some [.fn 78 [(0,0),(1,0)]]])
abbrev ESCx (L:Tl Ex Bool) (z:Sm->List Ex) (w:Sm->Nat) (rl fl:List (List T)) (l:List Sm):Prop:=∀(al:List (List T)) (v:Bool),al=l.map Sm.t->L.G v (Sm.wl w l)->ACl Tryz.prog 80 [⟨.one,[.ro true al]⟩,⟨.one,[.fn 134 [(2,0)]]⟩] [some [.lit (.bool v)],some [.ro true rl,.ro true fl],some [.fn 78 [(0,0),(1,0)]]] (fun res bx=>∃v',L.P (Sm.zl z l) (Sm.wl w l) v v'/\res=⟨.tup [],[]⟩/\bx=[some [.lit (.bool v')],some [.ro true rl,.ro true fl],some [.fn 78 [(0,0),(1,0)]]])
def invESCx (L:Tl Ex Bool) (z:Sm->List Ex) (w:Sm->Nat) (rl fl:List (List T)) (al:List (List T)) (l:List Sm) (v:Bool) (N:Nat) (σ:AS):Prop:=
 ∃(i:Nat) (v':Bool),σ=⟨vag 24 [(1,⟨.one,[.fn 134 [(2,0)]]⟩),(6,⟨.one,[.ro true al]⟩),(7,litI (Int.ofNat l.length)),(8,litI (Int.ofNat i))],[some [.lit (.bool v')],some [.ro true rl,.ro true fl],some [.fn 78 [(0,0),(1,0)]]],1⟩/\i<=l.length/\L.P (Sm.zl z (l.take i)) (Sm.wl w (l.take i)) v v'/\N=l.length - i
theorem esCx_step (L:Tl Ex Bool) (z:Sm->List Ex) (w:Sm->Nat) (rl fl:List (List T)) (tell:TSCx L z w rl fl) (l:List Sm) (hl:l.length<=1048576) (hz:∀y∈l,y.sz<=1048576) (ih:∀k s t x a b,Sm.mk k s t x a b∈l->ESCx L z w rl fl a/\ESCx L z w rl fl b):ESCx L z w rl fl l:=by
 intro al v hal hg;refine qF tysF_ok Tryz.func80 24 [] ?_;unhygienic intros;obtain ⟨N,hN⟩:=qX l.length;have lx:len al=N:=lnO hO (by simp[hal,hN])
 have hall:all al 6:=alO hO (by rw[hal];simp[Sm.t_len])
 rw[<-hN] at hl;revert hK K;refine qW3 ?_;intro K hK;simp only[lx];refine qL 3 [1,6,7,8] kk0 (invESCx L z w rl fl al l v) ?_ ?_
 ·cbv
  exact ⟨_,0,v,by rw[<-hN];cbv,by simp,L.nil (L.mono (Nat.zero_le _) hg),rfl⟩
 rintro m σ ⟨i,v2,rfl,g1,hP2,rfl⟩;rw[<-hN] at g1 |-
 by_cases hlt:i < N
 ·have c1:cmp .lss (Int.ofNat i) (Int.ofNat N)=true:=by cases hO;simp[Ops.std,sCm,hlt]
  have e:bin .add .i64 (Int.ofNat i) 1=_:=iSc hO (by omega)
  have hidx:idx (Int.ofNat i) (len al):=lx ▸ ixN hO hlt;obtain ⟨y,hxm,hx,htk,e1⟩:=mpA hO hal (hN ▸ hlt);have hpp:Sm.wl w (l.take (i+1))=Sm.wl w (l.take i)+Sm.w1 w y:=by rw[htk,Sm.wl_app,Sm.wl_one]
  have hpl:Sm.wl w (l.take (i+1))<=Sm.wl w l:=by
   have:=Sm.wl_app w (l.take (i+1)) (l.drop (i+1));rw[List.take_append_drop] at this;omega
  have hzz:Sm.zl z (l.take (i+1))=Sm.zl z (l.take i)++Sm.z1 z y:=by rw[htk,Sm.zl_app,Sm.zl_one]
  have hG:L.G v2 (Sm.w1 w y):=L.go (L.mono (by omega) hg) hP2
  obtain ⟨k',s',t',x',a',b'⟩:=y;obtain ⟨ihA,ihB⟩:=ih k' s' t' x' a' b' hxm;have hw1:Sm.w1 w (Sm.mk k' s' t' x' a' b')=w (Sm.mk k' s' t' x' a' b')+(Sm.wl w a' + Sm.wl w b'):=by rw[Sm.w1]
  have hz1:Sm.z1 z (Sm.mk k' s' t' x' a' b')=z (Sm.mk k' s' t' x' a' b')++(Sm.zl z a'++Sm.zl z b'):=by rw[Sm.z1]
  rw[hw1] at hG hpp;rw[hz1] at hzz;have h1:=tell (Sm.mk k' s' t' x' a' b') v2 (hz _ hxm) (L.mono (by omega) hG)
  have h2:=fun v (h:L.G v (Sm.wl w a'))=>ihA _ v rfl h;have h3:=fun v (h:L.G v (Sm.wl w b'))=>ihB _ v rfl h;have go2:=fun v3 (h:L.P (z (Sm.mk k' s' t' x' a' b')) (w (Sm.mk k' s' t' x' a' b')) v2 v3)=>L.go hG h;clear hw1 hz1;generalize z (Sm.mk k' s' t' x' a' b')=z0 at *;generalize w (Sm.mk k' s' t' x' a' b')=w0 at *;simp only[agT,Sm.t_mk,List.map,tA] at h1 e1;generalize x'.map Ex.t=xl' at h1 e1;generalize a'.map Sm.t=al' at h1 e1 h2
  generalize b'.map Sm.t=bl' at h1 e1 h3;refine qU ?_
  repeat' first|(revert hK K;refine qV3 ?_;intro K hK)|(refine GFork.mk (fun _=>qQ ?_) fun _=>qQ ?_)|(simp only[c1,e1];try cbv)|(with_reducible refine ndC ?h ?_;case h=>first | exact hidx | exact hall)|(refine qg [0,1,2] ?_;refine qC ?_;refine qD hP h1 ?_;rintro res bx ⟨v3,hP3,rfl,rfl⟩;refine qC ?_)|(refine qg [0,1,2] ?_;refine qC ?_;refine qD hP ((h2 v3 (L.mono (Nat.le_add_right _ _) (go2 v3 hP3)))) ?_;rintro res bx ⟨v4,hP4,rfl,rfl⟩;refine qC ?_)|(refine qg [0,1,2] ?_;refine qC ?_;refine qD hP ((h3 v4 (L.go (go2 v3 hP3) hP4))) ?_;rintro res bx ⟨v5,hP5,rfl,rfl⟩;refine qC ?_)
  rw[e];exact ⟨N - (i+1),by omega,i+1,v5,by rw[<-hN];cbv,by omega,by rw[hzz,hpp];exact L.trans hP2 (L.trans hP3 (L.trans hP4 hP5)),by rw[hN]⟩
 ·have hie:i=N:=by omega
  have c1:cmp .lss (Int.ofNat i) (Int.ofNat N)=false:=by cases hO;simp[Ops.std,sCm];omega
  rw[hie,hN,List.take_length] at hP2;refine qU ?_
  repeat' first|(revert hK K;refine qV3 ?_;intro K hK)|(refine GFork.mk (fun _=>qQ ?_) fun _=>qQ ?_)|(simp only[c1];try cbv)
  exact hR _ _ ⟨v2,hP2,rfl,rfl⟩
theorem esCx (L:Tl Ex Bool) (z:Sm->List Ex) (w:Sm->Nat) (rl fl:List (List T)) (tell:TSCx L z w rl fl) (l:List Sm) (hl:l.length<=1048576) (hz:∀y∈l,y.sz<=1048576):ESCx L z w rl fl l:=by
 obtain ⟨m,hm⟩:∃m,SizeOf.sizeOf l=m:=⟨_,rfl⟩
 induction m using Nat.strongRecOn generalizing l with
 | ind m ih=>
  subst hm;refine esCx_step L z w rl fl tell l hl hz fun k s t x a b hy=>?_;obtain ⟨_,_,_,_,h1,h2,h3⟩:=ssz_inv (hz _ hy);have h4:=List.sizeOf_lt_of_mem hy;simp only[Sm.mk.sizeOf_spec] at h4;exact ⟨ih (SizeOf.sizeOf a) (by omega) a h1 (fun y hy=>h3 y (List.mem_append_left _ hy)) rfl,ih (SizeOf.sizeOf b) (by omega) b h2 (fun y hy=>h3 y (List.mem_append_right _ hy)) rfl⟩
def invX1Cx (L:Tl Ex Bool) (z:Ex->List Ex) (rl fl:List (List T)) (cs:List A) (xl:List (List T)) (l:List Ex) (v:Bool) (N:Nat) (σ:AS):Prop:=
 ∃(i:Nat) (v':Bool),σ=⟨vag 16 [(1,⟨.one,[.ptr 2 0]⟩),(6,⟨.one,[.ro true xl]⟩),(7,litI (Int.ofNat l.length)),(8,litI (Int.ofNat i))],[some [.lit (.bool v')],some [.ro true rl,.ro true fl],some [.fn 78 [(0,0),(1,0)]],some cs],1⟩/\i<=l.length/\L.P (Ex.zl z (l.take i)) (Ex.partss (l.take i)) v v'/\N=l.length - i
theorem txCx (L:Tl Ex Bool) (z:Ex->List Ex) (rl fl:List (List T)) (tell:TEC L z rl fl):TSCx L (fun y=>Ex.zl z y.x) (fun y=>Ex.partss y.x) rl fl:=by
 intro y v hys hg;obtain ⟨k,s,t,l,a,b⟩:=y;simp only[Sm.x] at hg |-;obtain ⟨_,_,hll,hwl,_,_,_⟩:=ssz_inv hys;have ih:=fun x (hx:x∈l)=>eeC L z rl fl tell x (hwl x hx);obtain ⟨xl,hxl⟩:=qX (l.map Ex.t);obtain ⟨al,hal⟩:=qX (a.map Sm.t);obtain ⟨bl,hbl⟩:=qX (b.map Sm.t);rw[sm_agT,<-hxl,<-hal,<-hbl];refine qF tysF_ok Tryz.func134 16 [] ?_;unhygienic intros;obtain ⟨N,hN⟩:=qX l.length;have lx:len xl=N:=lnO hO (by simp[hxl,hN])
 have hall:all xl 4:=alO hO (by rw[hxl];simp[Ex.t_len])
 obtain ⟨cs,hcs⟩:=qX ([.lit (.int .i64 k),.lit (.string s),.lit (.string t),.ro true xl,.ro true al,.ro true bl]:List A);rw[<-hN] at hll;revert hK K;refine qW3 ?_;intro K hK;simp only[lx];refine qL 4 [1,6,7,8] kk0 (invX1Cx L z rl fl cs xl l v) ?_ ?_
 ·cbv
  exact ⟨_,0,v,by rw[hcs,<-hN];cbv,by simp,L.nil (L.mono (Nat.zero_le _) hg),rfl⟩
 rintro m σ ⟨i,v2,rfl,g1,hP2,rfl⟩;rw[<-hN] at g1 |-;rw[hcs]
 by_cases hlt:i < N
 ·have c1:cmp .lss (Int.ofNat i) (Int.ofNat N)=true:=by cases hO;simp[Ops.std,sCm,hlt]
  have e:bin .add .i64 (Int.ofNat i) 1=_:=iSc hO (by omega)
  have hidx:idx (Int.ofNat i) (len xl):=lx ▸ ixN hO hlt;obtain ⟨x,hxm,hx,htk,e1⟩:=mpA hO hxl (hN ▸ hlt);have hpp:Ex.partss (l.take (i+1))=Ex.partss (l.take i)+x.parts:=by rw[htk,Ex.partss_app,Ex.partss_one]
  have hpl:=Ex.partss_take l (i+1);have hzz:Ex.zl z (l.take (i+1))=Ex.zl z (l.take i)++Ex.z1 z x:=by rw[htk,Ex.zl_app,Ex.zl_one]
  have hcall:=ih x hxm v2 (L.go (L.mono (by omega) hg) hP2)
  generalize x.parts=xp at *;generalize Ex.z1 z x=xz at *;obtain ⟨k',n',s',l'⟩:=x;simp only[agT,Ex.t_mk,List.map,tA] at hcall e1;generalize l'.map Ex.t=xl' at hcall e1;refine qU ?_
  repeat' first|(revert hK K;refine qV3 ?_;intro K hK)|(refine GFork.mk (fun _=>qQ ?_) fun _=>qQ ?_)|(simp only[c1,e1];try cbv)|(with_reducible refine ndC ?h ?_;case h=>first | exact hidx | exact hall)|(refine qg [0,1] ?_;refine qC ?_;refine qD hP hcall ?_;rintro res bx ⟨v3,hP3,rfl,rfl⟩;refine qC ?_)
  rw[e];exact ⟨N - (i+1),by omega,i+1,v3,by (try rw[hcs]);rw[<-hN];cbv,by omega,by rw[hzz,hpp];exact L.trans hP2 hP3,by rw[hN]⟩
 ·have hie:i=N:=by omega
  have c1:cmp .lss (Int.ofNat i) (Int.ofNat N)=false:=by cases hO;simp[Ops.std,sCm];omega
  rw[hie,hN,List.take_length] at hP2;refine qU ?_
  repeat' first|(revert hK K;refine qV3 ?_;intro K hK)|(refine GFork.mk (fun _=>qQ ?_) fun _=>qQ ?_)|(simp only[c1];try cbv)
  exact hR _ _ ⟨v2,hP2,rfl,rfl⟩
def invXXC (L:Tl Ex Bool) (z:Ex->List Ex) (rl fl:List (List T)) (cs:List A) (xl:List (List T)) (l:List Ex) (v:Bool) (N:Nat) (σ:AS):Prop:=
 ∃(i:Nat) (v':Bool),σ=⟨vag 21 [(2,⟨.one,[.ptr 2 0]⟩),(3,⟨.one,[.ptr 3 0]⟩),(7,⟨.one,[.ro true xl]⟩),(8,litI (Int.ofNat l.length)),(9,litI (Int.ofNat i))],[some [.lit (.bool v')],some [.ro true rl,.ro true fl],some cs,some [.fn 78 [(0,0),(1,0)]]],1⟩/\i<=l.length/\L.P (Ex.zl z (l.take i)) (Ex.partss (l.take i)) v v'/\N=l.length - i
theorem xxC (L:Tl Ex Bool) (z:Ex->List Ex) (rl fl:List (List T)) (tell:TEC L z rl fl) (qt:List (List T)) (qu:Int) (l:List Ex) (hll:l.length<=1048576) (hwl:∀x∈l,x.sz<=1048576) (a:List Sm) (hal':a.length<=1048576) (haw:∀y∈a,y.sz<=1048576) (xl al:List (List T)) (hxl:xl=l.map Ex.t) (hal:al=a.map Sm.t)
  (v:Bool) (hg:L.G v (Ex.partss l+Sm.wl (fun y=>Ex.partss y.x) a)):ACl Tryz.prog 77 [⟨.agg,[.ro true qt,.ro true xl,.ro true al,.lit (.int .i64 qu)]⟩,⟨.one,[.fn 78 [(0,0),(1,0)]]⟩] [some [.lit (.bool v)],some [.ro true rl,.ro true fl]]
   (fun res bx=>∃v',L.P (Ex.zl z l++Sm.zl (fun y=>Ex.zl z y.x) a) (Ex.partss l+Sm.wl (fun y=>Ex.partss y.x) a) v v'/\res=⟨.tup [],[]⟩/\bx=[some [.lit (.bool v')],some [.ro true rl,.ro true fl]]):=by
 have ih:=fun x (hx:x∈l)=>eeC L z rl fl tell x (hwl x hx);have hS:=fun v=>esCx L (fun y=>Ex.zl z y.x) (fun y=>Ex.partss y.x) rl fl (txCx L z rl fl tell) a hal' haw al v hal;obtain ⟨NW,hNW⟩:=qX (Sm.wl (fun y=>Ex.partss y.x) a);obtain ⟨zw,hzw⟩:=qX (Sm.zl (fun y=>Ex.zl z y.x) a);rw[<-hNW] at hg;simp only[<-hNW,<-hzw] at hS |-;refine qF tysF_ok Tryz.func77 21 [] ?_;unhygienic intros;obtain ⟨N,hN⟩:=qX l.length
 have lx:len xl=N:=lnO hO (by simp[hxl,hN])
 have hall:all xl 4:=alO hO (by rw[hxl];simp[Ex.t_len])
 obtain ⟨cs,hcs⟩:=qX ([.ro true qt,.ro true xl,.ro true al,.lit (.int .i64 qu)]:List A);rw[<-hN] at hll;revert hK K;refine qW2 ?_;intro K hK;simp only[lx];refine qL 4 [2,3,7,8,9] kk0 (invXXC L z rl fl cs xl l v) ?_ ?_
 ·cbv
  exact ⟨_,0,v,by rw[hcs,<-hN];cbv,by simp,L.nil (L.mono (Nat.zero_le _) hg),rfl⟩
 rintro m σ ⟨i,v2,rfl,g1,hP2,rfl⟩;rw[<-hN] at g1 |-;rw[hcs]
 by_cases hlt:i < N
 ·have c1:cmp .lss (Int.ofNat i) (Int.ofNat N)=true:=by cases hO;simp[Ops.std,sCm,hlt]
  have e:bin .add .i64 (Int.ofNat i) 1=_:=iSc hO (by omega)
  have hidx:idx (Int.ofNat i) (len xl):=lx ▸ ixN hO hlt;obtain ⟨x,hxm,hx,htk,e1⟩:=mpA hO hxl (hN ▸ hlt);have hpp:Ex.partss (l.take (i+1))=Ex.partss (l.take i)+x.parts:=by rw[htk,Ex.partss_app,Ex.partss_one]
  have hpl:=Ex.partss_take l (i+1);have hzz:Ex.zl z (l.take (i+1))=Ex.zl z (l.take i)++Ex.z1 z x:=by rw[htk,Ex.zl_app,Ex.zl_one]
  have hcall:=ih x hxm v2 (L.go (L.mono (by omega) hg) hP2)
  generalize x.parts=xp at *;generalize Ex.z1 z x=xz at *;obtain ⟨k',n',s',l'⟩:=x;simp only[agT,Ex.t_mk,List.map,tA] at hcall e1;generalize l'.map Ex.t=xl' at hcall e1;refine qU ?_
  repeat' first|(revert hK K;refine qV2 ?_;intro K hK)|(refine GFork.mk (fun _=>qQ ?_) fun _=>qQ ?_)|(simp only[c1,e1];try cbv)|(with_reducible refine ndC ?h ?_;case h=>first | exact hidx | exact hall)|(refine qg [0,1] ?_;refine qC ?_;refine qD hP hcall ?_;rintro res bx ⟨v3,hP3,rfl,rfl⟩;refine qC ?_)
  rw[e];exact ⟨N - (i+1),by omega,i+1,v3,by (try rw[hcs]);rw[<-hN];cbv,by omega,by rw[hzz,hpp];exact L.trans hP2 hP3,by rw[hN]⟩
 ·have hie:i=N:=by omega
  have c1:cmp .lss (Int.ofNat i) (Int.ofNat N)=false:=by cases hO;simp[Ops.std,sCm];omega
  rw[hie,hN,List.take_length] at hP2;have hcall:=hS v2 (L.go hg hP2);refine qU ?_
  repeat' first|(revert hK K;refine qV2 ?_;intro K hK)|(refine GFork.mk (fun _=>qQ ?_) fun _=>qQ ?_)|(simp only[c1];try cbv)|(refine qg [0,1,3] ?_;refine qC ?_;refine qD hP hcall ?_;rintro res bx ⟨v3,hP3,rfl,rfl⟩;refine qC ?_)
  exact hR _ _ ⟨v3,L.trans hP2 hP3,rfl,rfl⟩
end Go.Gv
