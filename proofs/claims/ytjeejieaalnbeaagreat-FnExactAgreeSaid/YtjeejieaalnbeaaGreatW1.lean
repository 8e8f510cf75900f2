/- Part W1 of the proof: contracts of functions of the program, each walked once. -/
import Derived.Test.YtjeejieaalnbeaaGreatN14
import Derived.Test.YtjeejieaalnbeaaGreatR1
import Derived.Test.YtjeejieaalnbeaaGreatT1
import Derived.Test.YtjeejieaalnbeaaGreatK2
import Derived.Test.YtjeejieaalnbeaaGreatQ1
set_option linter.all false
namespace Go.Gv
open Go.Av Go.Proofs Go.Shelf Go.RowKit
set_option maxRecDepth 10000
set_option maxHeartbeats 8000000
abbrev TEV (L:Tl ByteArray (List (List T))) (z:Ex->List ByteArray) (pt wt lt:List (List T)) (ru:Int):Prop:=∀(x:Ex) (v:(List (List T))),x.sz<=1048576->L.G v 1->ACl Tryz.prog 85 [agT x.t,⟨.one,[.ptr 2 0]⟩] [some [.ro true pt,.ro true wt,.ro true lt,.lit (.int .i64 ru)],some [.ow (0,0) 1 v],some [.fn 83 [(0,0),(1,0)]]] (fun res bx=>∃v',L.P (z x) 1 v v'/\res=⟨.tup [],[]⟩/\bx=[some [.ro true pt,.ro true wt,.ro true lt,.lit (.int .i64 ru)],some [.ow (0,0) 1 v'],some [.fn 83 [(0,0),(1,0)]]])
abbrev EEV (L:Tl ByteArray (List (List T))) (z:Ex->List ByteArray) (pt wt lt:List (List T)) (ru:Int) (e:Ex):Prop:=∀v:(List (List T)),L.G v e.parts->ACl Tryz.prog 133 [agT e.t,⟨.one,[.fn 85 [(2,0)]]⟩] [some [.ro true pt,.ro true wt,.ro true lt,.lit (.int .i64 ru)],some [.ow (0,0) 1 v],some [.fn 83 [(0,0),(1,0)]]] (fun res bx=>∃v',L.P (Ex.z1 z e) e.parts v v'/\res=⟨.tup [],[]⟩/\bx=[some [.ro true pt,.ro true wt,.ro true lt,.lit (.int .i64 ru)],some [.ow (0,0) 1 v'],some [.fn 83 [(0,0),(1,0)]]])
def invEEV (L:Tl ByteArray (List (List T))) (z:Ex->List ByteArray) (pt wt lt:List (List T)) (ru:Int) (cs:List A) (xl:List (List T)) (h0:List ByteArray) (l:List Ex) (v:(List (List T))) (N:Nat) (σ:AS):Prop:=
 ∃(i:Nat) (v':(List (List T))),σ=⟨vag 20 [(1,⟨.one,[.fn 85 [(2,0)]]⟩),(10,⟨.one,[.ro true xl]⟩),(11,litI (Int.ofNat l.length)),(12,litI (Int.ofNat i))],[some [.ro true pt,.ro true wt,.ro true lt,.lit (.int .i64 ru)],some [.ow (0,0) 1 v'],some [.fn 83 [(0,0),(1,0)]],some cs],1⟩/\i<=l.length/\L.P (h0++Ex.zl z (l.take i)) (1+Ex.partss (l.take i)) v v'/\N=l.length - i
theorem eeV_step (L:Tl ByteArray (List (List T))) (z:Ex->List ByteArray) (pt wt lt:List (List T)) (ru:Int) (tell:TEV L z pt wt lt ru) (k n0:Int) (s:ByteArray) (l:List Ex) (hz:(Ex.mk k n0 s l).sz<=1048576) (ih:∀x∈l,EEV L z pt wt lt ru x):EEV L z pt wt lt ru (.mk k n0 s l):=by
 intro v hg;obtain ⟨hsz,hll,hwl⟩:=sz_inv hz;have hpar:(Ex.mk k n0 s l).parts=1+Ex.partss l:=by rw[Ex.parts]
 have hz1:Ex.z1 z (Ex.mk k n0 s l)=z (Ex.mk k n0 s l)++Ex.zl z l:=by rw[Ex.z1]
 rw[hpar] at hg;rw[hpar,hz1];have h1:=tell (Ex.mk k n0 s l) v hz (L.mono (by omega) hg)
 obtain ⟨h0,hh0⟩:=qX (z (Ex.mk k n0 s l));rw[<-hh0] at h1;rw[<-hh0];obtain ⟨xl,hxl⟩:=qX (l.map Ex.t);simp only[agT,Ex.t_mk,List.map,tA] at h1 |-;rw[<-hxl] at h1 |-;refine qF tysF_ok Tryz.func133 20 [] ?_;unhygienic intros;obtain ⟨N,hN⟩:=qX l.length;have lx:len xl=N:=lnO hO (by simp[hxl,hN])
 have hall:all xl 4:=alO hO (by rw[hxl];simp[Ex.t_len])
 obtain ⟨cs,hcs⟩:=qX ([.lit (.int .i64 k),.lit (.int .i64 n0),.lit (.string s),.ro true xl]:List A);rw[<-hN] at hll;revert hK K;refine qW3 ?_;intro K hK;refine qg [0,1,2] ?_;refine qC ?_;refine qD hP h1 ?_;rintro res bx ⟨v1,hP1,rfl,rfl⟩;refine qC ?_;revert hK K;refine qW3 ?_;intro K hK;simp only[lx];refine qL 4 [1,10,11,12] kk0 (invEEV L z pt wt lt ru cs xl h0 l v) ?_ ?_
 ·cbv
  exact ⟨_,0,v1,by rw[hcs,<-hN];cbv,by simp,by simpa [Ex.zl,Ex.partss] using hP1,rfl⟩
 rintro m σ ⟨i,v2,rfl,g1,hP2,rfl⟩;rw[<-hN] at g1 |-;rw[hcs]
 by_cases hlt:i < N
 ·have c1:cmp .lss (Int.ofNat i) (Int.ofNat N)=true:=by cases hO;simp[Ops.std,sCm,hlt]
  have e:bin .add .i64 (Int.ofNat i) 1=_:=iSc hO (by omega)
  have hidx:idx (Int.ofNat i) (len xl):=lx ▸ ixN hO hlt;obtain ⟨x,hxm,hx,htk,e1⟩:=mpA hO hxl (hN ▸ hlt);have hpp:Ex.partss (l.take (i+1))=Ex.partss (l.take i)+x.parts:=by rw[htk,Ex.partss_app,Ex.partss_one]
  have hpl:=Ex.partss_take l (i+1);have hzz:Ex.zl z (l.take (i+1))=Ex.zl z (l.take i)++Ex.z1 z x:=by rw[htk,Ex.zl_app,Ex.zl_one]
  have hcall:=ih x hxm v2 (L.go (L.mono (by omega) hg) hP2)
  generalize x.parts=xp at *;generalize Ex.z1 z x=xz at *;obtain ⟨k',n',s',l'⟩:=x;simp only[agT,Ex.t_mk,List.map,tA] at hcall e1;generalize l'.map Ex.t=xl' at hcall e1;refine qU ?_
  repeat' first|(revert hK K;refine qV3 ?_;intro K hK)|(refine GFork.mk (fun _=>qQ ?_) fun _=>qQ ?_)|(simp only[c1,e1];try cbv)|(with_reducible refine ndC ?h ?_;case h=>first | exact hidx | exact hall)|(refine qg [0,1,2] ?_;refine qC ?_;refine qD hP hcall ?_;rintro res bx ⟨v3,hP3,rfl,rfl⟩;refine qC ?_)
  rw[e];exact ⟨N - (i+1),by omega,i+1,v3,by (try rw[hcs]);rw[<-hN];cbv,by omega,by rw[hzz,hpp,<-Nat.add_assoc,<-List.append_assoc];exact L.trans hP2 hP3,by rw[hN]⟩
 ·have hie:i=N:=by omega
  have c1:cmp .lss (Int.ofNat i) (Int.ofNat N)=false:=by cases hO;simp[Ops.std,sCm];omega
  rw[hie,hN,List.take_length] at hP2;refine qU ?_
  repeat' first|(revert hK K;refine qV3 ?_;intro K hK)|(refine GFork.mk (fun _=>qQ ?_) fun _=>qQ ?_)|(simp only[c1];try cbv)
  exact hR _ _ ⟨v2,hP2,rfl,rfl⟩
theorem eeV (L:Tl ByteArray (List (List T))) (z:Ex->List ByteArray) (pt wt lt:List (List T)) (ru:Int) (tell:TEV L z pt wt lt ru) (e:Ex) (hz:e.sz<=1048576):EEV L z pt wt lt ru e:=by
 obtain ⟨m,hm⟩:∃m,SizeOf.sizeOf e=m:=⟨_,rfl⟩
 induction m using Nat.strongRecOn generalizing e with
 | ind m ih=>
  subst hm;obtain ⟨k,n0,s,l⟩:=e;exact eeV_step L z pt wt lt ru tell k n0 s l hz fun x hx=>ih (SizeOf.sizeOf x) (by have:=List.sizeOf_lt_of_mem hx;simp;omega) x ((sz_inv hz).2.2 x hx) rfl
abbrev TET (L:Tl ByteArray (List (List T))) (z:Ex->List ByteArray) :Prop:=∀(x:Ex) (v:(List (List T))),x.sz<=1048576->L.G v 1->ACl Tryz.prog 88 [agT x.t,⟨.one,[.ptr 0 0]⟩] [some [.ow (0,0) 1 v]] (fun res bx=>∃v',L.P (z x) 1 v v'/\res=⟨.tup [],[]⟩/\bx=[some [.ow (0,0) 1 v']])
abbrev EET (L:Tl ByteArray (List (List T))) (z:Ex->List ByteArray)  (e:Ex):Prop:=∀v:(List (List T)),L.G v e.parts->ACl Tryz.prog 133 [agT e.t,⟨.one,[.fn 88 [(0,0)]]⟩] [some [.ow (0,0) 1 v]] (fun res bx=>∃v',L.P (Ex.z1 z e) e.parts v v'/\res=⟨.tup [],[]⟩/\bx=[some [.ow (0,0) 1 v']])
def invEET (L:Tl ByteArray (List (List T))) (z:Ex->List ByteArray)  (cs:List A) (xl:List (List T)) (h0:List ByteArray) (l:List Ex) (v:(List (List T))) (N:Nat) (σ:AS):Prop:=
 ∃(i:Nat) (v':(List (List T))),σ=⟨vag 20 [(1,⟨.one,[.fn 88 [(0,0)]]⟩),(10,⟨.one,[.ro true xl]⟩),(11,litI (Int.ofNat l.length)),(12,litI (Int.ofNat i))],[some [.ow (0,0) 1 v'],some cs],1⟩/\i<=l.length/\L.P (h0++Ex.zl z (l.take i)) (1+Ex.partss (l.take i)) v v'/\N=l.length - i
theorem eeT_step (L:Tl ByteArray (List (List T))) (z:Ex->List ByteArray)  (tell:TET L z) (k n0:Int) (s:ByteArray) (l:List Ex) (hz:(Ex.mk k n0 s l).sz<=1048576) (ih:∀x∈l,EET L z  x):EET L z  (.mk k n0 s l):=by
 intro v hg;obtain ⟨hsz,hll,hwl⟩:=sz_inv hz;have hpar:(Ex.mk k n0 s l).parts=1+Ex.partss l:=by rw[Ex.parts]
 have hz1:Ex.z1 z (Ex.mk k n0 s l)=z (Ex.mk k n0 s l)++Ex.zl z l:=by rw[Ex.z1]
 rw[hpar] at hg;rw[hpar,hz1];have h1:=tell (Ex.mk k n0 s l) v hz (L.mono (by omega) hg)
 obtain ⟨h0,hh0⟩:=qX (z (Ex.mk k n0 s l));rw[<-hh0] at h1;rw[<-hh0];obtain ⟨xl,hxl⟩:=qX (l.map Ex.t);simp only[agT,Ex.t_mk,List.map,tA] at h1 |-;rw[<-hxl] at h1 |-;refine qF tysF_ok Tryz.func133 20 [] ?_;unhygienic intros;obtain ⟨N,hN⟩:=qX l.length;have lx:len xl=N:=lnO hO (by simp[hxl,hN])
 have hall:all xl 4:=alO hO (by rw[hxl];simp[Ex.t_len])
 obtain ⟨cs,hcs⟩:=qX ([.lit (.int .i64 k),.lit (.int .i64 n0),.lit (.string s),.ro true xl]:List A);rw[<-hN] at hll;revert hK K;refine qW1 ?_;intro K hK;refine qg [0] ?_;refine qC ?_;refine qD hP h1 ?_;rintro res bx ⟨v1,hP1,rfl,rfl⟩;refine qC ?_;revert hK K;refine qW1 ?_;intro K hK;simp only[lx];refine qL 2 [1,10,11,12] kk0 (invEET L z  cs xl h0 l v) ?_ ?_
 ·cbv
  exact ⟨_,0,v1,by rw[hcs,<-hN];cbv,by simp,by simpa [Ex.zl,Ex.partss] using hP1,rfl⟩
 rintro m σ ⟨i,v2,rfl,g1,hP2,rfl⟩;rw[<-hN] at g1 |-;rw[hcs]
 by_cases hlt:i < N
 ·have c1:cmp .lss (Int.ofNat i) (Int.ofNat N)=true:=by cases hO;simp[Ops.std,sCm,hlt]
  have e:bin .add .i64 (Int.ofNat i) 1=_:=iSc hO (by omega)
  have hidx:idx (Int.ofNat i) (len xl):=lx ▸ ixN hO hlt;obtain ⟨x,hxm,hx,htk,e1⟩:=mpA hO hxl (hN ▸ hlt);have hpp:Ex.partss (l.take (i+1))=Ex.partss (l.take i)+x.parts:=by rw[htk,Ex.partss_app,Ex.partss_one]
  have hpl:=Ex.partss_take l (i+1);have hzz:Ex.zl z (l.take (i+1))=Ex.zl z (l.take i)++Ex.z1 z x:=by rw[htk,Ex.zl_app,Ex.zl_one]
  have hcall:=ih x hxm v2 (L.go (L.mono (by omega) hg) hP2)
  generalize x.parts=xp at *;generalize Ex.z1 z x=xz at *;obtain ⟨k',n',s',l'⟩:=x;simp only[agT,Ex.t_mk,List.map,tA] at hcall e1;generalize l'.map Ex.t=xl' at hcall e1;refine qU ?_
  repeat' first|(revert hK K;refine qV1 ?_;intro K hK)|(refine GFork.mk (fun _=>qQ ?_) fun _=>qQ ?_)|(simp only[c1,e1];try cbv)|(with_reducible refine ndC ?h ?_;case h=>first | exact hidx | exact hall)|(refine qg [0] ?_;refine qC ?_;refine qD hP hcall ?_;rintro res bx ⟨v3,hP3,rfl,rfl⟩;refine qC ?_)
  rw[e];exact ⟨N - (i+1),by omega,i+1,v3,by (try rw[hcs]);rw[<-hN];cbv,by omega,by rw[hzz,hpp,<-Nat.add_assoc,<-List.append_assoc];exact L.trans hP2 hP3,by rw[hN]⟩
 ·have hie:i=N:=by omega
  have c1:cmp .lss (Int.ofNat i) (Int.ofNat N)=false:=by cases hO;simp[Ops.std,sCm];omega
  rw[hie,hN,List.take_length] at hP2;refine qU ?_
  repeat' first|(revert hK K;refine qV1 ?_;intro K hK)|(refine GFork.mk (fun _=>qQ ?_) fun _=>qQ ?_)|(simp only[c1];try cbv)
  exact hR _ _ ⟨v2,hP2,rfl,rfl⟩
theorem eeT (L:Tl ByteArray (List (List T))) (z:Ex->List ByteArray)  (tell:TET L z) (e:Ex) (hz:e.sz<=1048576):EET L z  e:=by
 obtain ⟨m,hm⟩:∃m,SizeOf.sizeOf e=m:=⟨_,rfl⟩
 induction m using Nat.strongRecOn generalizing e with
 | ind m ih=>
  subst hm;obtain ⟨k,n0,s,l⟩:=e;exact eeT_step L z  tell k n0 s l hz fun x hx=>ih (SizeOf.sizeOf x) (by have:=List.sizeOf_lt_of_mem hx;simp;omega) x ((sz_inv hz).2.2 x hx) rfl
abbrev TEC (L:Tl Ex Bool) (z:Ex->List Ex) (rl fl:List (List T)):Prop:=∀(x:Ex) (v:Bool),x.sz<=1048576->L.G v 1->ACl Tryz.prog 78 [agT x.t,⟨.one,[.ptr 0 0]⟩,⟨.one,[.ptr 1 0]⟩] [some [.lit (.bool v)],some [.ro true rl,.ro true fl]] (fun res bx=>∃v',L.P (z x) 1 v v'/\res=⟨.tup [],[]⟩/\bx=[some [.lit (.bool v')],some [.ro true rl,.ro true fl]])
abbrev EEC (L:Tl Ex Bool) (z:Ex->List Ex) (rl fl:List (List T)) (e:Ex):Prop:=∀v:Bool,L.G v e.parts->ACl Tryz.prog 133 [agT e.t,⟨.one,[.fn 78 [(0,0),(1,0)]]⟩] [some [.lit (.bool v)],some [.ro true rl,.ro true fl]] (fun res bx=>∃v',L.P (Ex.z1 z e) e.parts v v'/\res=⟨.tup [],[]⟩/\bx=[some [.lit (.bool v')],some [.ro true rl,.ro true fl]])
def invEEC (L:Tl Ex Bool) (z:Ex->List Ex) (rl fl:List (List T)) (cs:List A) (xl:List (List T)) (h0:List Ex) (l:List Ex) (v:Bool) (N:Nat) (σ:AS):Prop:=
 ∃(i:Nat) (v':Bool),σ=⟨vag 20 [(1,⟨.one,[.fn 78 [(0,0),(1,0)]]⟩),(10,⟨.one,[.ro true xl]⟩),(11,litI (Int.ofNat l.length)),(12,litI (Int.ofNat i))],[some [.lit (.bool v')],some [.ro true rl,.ro true fl],some cs],1⟩/\i<=l.length/\L.P (h0++Ex.zl z (l.take i)) (1+Ex.partss (l.take i)) v v'/\N=l.length - i
theorem eeC_step (L:Tl Ex Bool) (z:Ex->List Ex) (rl fl:List (List T)) (tell:TEC L z rl fl) (k n0:Int) (s:ByteArray) (l:List Ex) (hz:(Ex.mk k n0 s l).sz<=1048576) (ih:∀x∈l,EEC L z rl fl x):EEC L z rl fl (.mk k n0 s l):=by
 intro v hg;obtain ⟨hsz,hll,hwl⟩:=sz_inv hz;have hpar:(Ex.mk k n0 s l).parts=1+Ex.partss l:=by rw[Ex.parts]
 have hz1:Ex.z1 z (Ex.mk k n0 s l)=z (Ex.mk k n0 s l)++Ex.zl z l:=by rw[Ex.z1]
 rw[hpar] at hg;rw[hpar,hz1];have h1:=tell (Ex.mk k n0 s l) v hz (L.mono (by omega) hg)
 obtain ⟨h0,hh0⟩:=qX (z (Ex.mk k n0 s l));rw[<-hh0] at h1;rw[<-hh0];obtain ⟨xl,hxl⟩:=qX (l.map Ex.t);simp only[agT,Ex.t_mk,List.map,tA] at h1 |-;rw[<-hxl] at h1 |-;refine qF tysF_ok Tryz.func133 20 [] ?_;unhygienic intros;obtain ⟨N,hN⟩:=qX l.length;have lx:len xl=N:=lnO hO (by simp[hxl,hN])
 have hall:all xl 4:=alO hO (by rw[hxl];simp[Ex.t_len])
 obtain ⟨cs,hcs⟩:=qX ([.lit (.int .i64 k),.lit (.int .i64 n0),.lit (.string s),.ro true xl]:List A);rw[<-hN] at hll;revert hK K;refine qW2 ?_;intro K hK;refine qg [0,1] ?_;refine qC ?_;refine qD hP h1 ?_;rintro res bx ⟨v1,hP1,rfl,rfl⟩;refine qC ?_;revert hK K;refine qW2 ?_;intro K hK;simp only[lx];refine qL 3 [1,10,11,12] kk0 (invEEC L z rl fl cs xl h0 l v) ?_ ?_
 ·cbv
  exact ⟨_,0,v1,by rw[hcs,<-hN];cbv,by simp,by simpa [Ex.zl,Ex.partss] using hP1,rfl⟩
 rintro m σ ⟨i,v2,rfl,g1,hP2,rfl⟩;rw[<-hN] at g1 |-;rw[hcs]
 by_cases hlt:i < N
 ·have c1:cmp .lss (Int.ofNat i) (Int.ofNat N)=true:=by cases hO;simp[Ops.std,sCm,hlt]
  have e:bin .add .i64 (Int.ofNat i) 1=_:=iSc hO (by omega)
  have hidx:idx (Int.ofNat i) (len xl):=lx ▸ ixN hO hlt;obtain ⟨x,hxm,hx,htk,e1⟩:=mpA hO hxl (hN ▸ hlt);have hpp:Ex.partss (l.take (i+1))=Ex.partss (l.take i)+x.parts:=by rw[htk,Ex.partss_app,Ex.partss_one]
  have hpl:=Ex.partss_take l (i+1);have hzz:Ex.zl z (l.take (i+1))=Ex.zl z (l.take i)++Ex.z1 z x:=by rw[htk,Ex.zl_app,Ex.zl_one]
  have hcall:=ih x hxm v2 (L.go (L.mono (by omega) hg) hP2)
  generalize x.parts=xp at *;generalize Ex.z1 z x=xz at *;obtain ⟨k',n',s',l'⟩:=x;simp only[agT,Ex.t_mk,List.map,tA] at hcall e1;generalize l'.map Ex.t=xl' at hcall e1;refine qU ?_
  repeat' first|(revert hK K;refine qV2 ?_;intro K hK)|(refine GFork.mk (fun _=>qQ ?_) fun _=>qQ ?_)|(simp only[c1,e1];try cbv)|(with_reducible refine ndC ?h ?_;case h=>first | exact hidx | exact hall)|(refine qg [0,1] ?_;refine qC ?_;refine qD hP hcall ?_;rintro res bx ⟨v3,hP3,rfl,rfl⟩;refine qC ?_)
  rw[e];exact ⟨N - (i+1),by omega,i+1,v3,by (try rw[hcs]);rw[<-hN];cbv,by omega,by rw[hzz,hpp,<-Nat.add_assoc,<-List.append_assoc];exact L.trans hP2 hP3,by rw[hN]⟩
 ·have hie:i=N:=by omega
  have c1:cmp .lss (Int.ofNat i) (Int.ofNat N)=false:=by cases hO;simp[Ops.std,sCm];omega
  rw[hie,hN,List.take_length] at hP2;refine qU ?_
  repeat' first|(revert hK K;refine qV2 ?_;intro K hK)|(refine GFork.mk (fun _=>qQ ?_) fun _=>qQ ?_)|(simp only[c1];try cbv)
  exact hR _ _ ⟨v2,hP2,rfl,rfl⟩
theorem eeC (L:Tl Ex Bool) (z:Ex->List Ex) (rl fl:List (List T)) (tell:TEC L z rl fl) (e:Ex) (hz:e.sz<=1048576):EEC L z rl fl e:=by
 obtain ⟨m,hm⟩:∃m,SizeOf.sizeOf e=m:=⟨_,rfl⟩
 induction m using Nat.strongRecOn generalizing e with
 | ind m ih=>
  subst hm;obtain ⟨k,n0,s,l⟩:=e;exact eeC_step L z rl fl tell k n0 s l hz fun x hx=>ih (SizeOf.sizeOf x) (by have:=List.sizeOf_lt_of_mem hx;simp;omega) x ((sz_inv hz).2.2 x hx) rfl
abbrev TSVs (L:Tl ByteArray (List (List T))) (z:Sm->List ByteArray) (w:Sm->Nat) (pt wt lt:List (List T)) (ru:Int):Prop:=∀(x:Sm) (v:(List (List T))),x.sz<=1048576->L.G v (w x)->ACl Tryz.prog 86 [agT x.t,⟨.one,[.ptr 2 0]⟩] [some [.ro true pt,.ro true wt,.ro true lt,.lit (.int .i64 ru)],some [.ow (0,0) 1 v],some [.fn 83 [(0,0),(1,0)]]] (fun res bx=>∃v',L.P (z x) (w x) v v'/\res=⟨.tup [],[]⟩/\bx=[some [.ro true pt,.ro true wt,.ro true lt,.lit (.int .i64 ru)],some [.ow (0,0) 1 v'],some [.fn 83 [(0,0),(1,0)]]])
abbrev ESVs (L:Tl ByteArray (List (List T))) (z:Sm->List ByteArray) (w:Sm->Nat) (pt wt lt:List (List T)) (ru:Int) (l:List Sm):Prop:=∀(al:List (List T)) (v:(List (List T))),al=l.map Sm.t->L.G v (Sm.wl w l)->ACl Tryz.prog 80 [⟨.one,[.ro true al]⟩,⟨.one,[.fn 86 [(2,0)]]⟩] [some [.ro true pt,.ro true wt,.ro true lt,.lit (.int .i64 ru)],some [.ow (0,0) 1 v],some [.fn 83 [(0,0),(1,0)]]] (fun res bx=>∃v',L.P (Sm.zl z l) (Sm.wl w l) v v'/\res=⟨.tup [],[]⟩/\bx=[some [.ro true pt,.ro true wt,.ro true lt,.lit (.int .i64 ru)],some [.ow (0,0) 1 v'],some [.fn 83 [(0,0),(1,0)]]])
def invESVs (L:Tl ByteArray (List (List T))) (z:Sm->List ByteArray) (w:Sm->Nat) (pt wt lt:List (List T)) (ru:Int) (al:List (List T)) (l:List Sm) (v:(List (List T))) (N:Nat) (σ:AS):Prop:=
 ∃(i:Nat) (v':(List (List T))),σ=⟨vag 24 [(1,⟨.one,[.fn 86 [(2,0)]]⟩),(6,⟨.one,[.ro true al]⟩),(7,litI (Int.ofNat l.length)),(8,litI (Int.ofNat i))],[some [.ro true pt,.ro true wt,.ro true lt,.lit (.int .i64 ru)],some [.ow (0,0) 1 v'],some [.fn 83 [(0,0),(1,0)]]],1⟩/\i<=l.length/\L.P (Sm.zl z (l.take i)) (Sm.wl w (l.take i)) v v'/\N=l.length - i
theorem esVs_step (L:Tl ByteArray (List (List T))) (z:Sm->List ByteArray) (w:Sm->Nat) (pt wt lt:List (List T)) (ru:Int) (tell:TSVs L z w pt wt lt ru) (l:List Sm) (hl:l.length<=1048576) (hz:∀y∈l,y.sz<=1048576) (ih:∀k s t x a b,Sm.mk k s t x a b∈l->ESVs L z w pt wt lt ru a/\ESVs L z w pt wt lt ru b):ESVs L z w pt wt lt ru l:=by
 intro al v hal hg;refine qF tysF_ok Tryz.func80 24 [] ?_;unhygienic intros;obtain ⟨N,hN⟩:=qX l.length;have lx:len al=N:=lnO hO (by simp[hal,hN])
 have hall:all al 6:=alO hO (by rw[hal];simp[Sm.t_len])
 rw[<-hN] at hl;revert hK K;refine qW3 ?_;intro K hK;simp only[lx];refine qL 3 [1,6,7,8] kk0 (invESVs L z w pt wt lt ru al l v) ?_ ?_
 ·cbv
  exact ⟨_,0,v,by rw[<-hN];cbv,by simp,L.nil (L.mono (Nat.zero_le _) hg),rfl⟩
 rintro m σ ⟨i,v2,rfl,g1,hP2,rfl⟩;rw[<-hN] at g1 |-
 by_cases hlt:i < N
 ·have c1:cmp .lss (Int.ofNat i) (Int.ofNat N)=true:=by cases hO;simp[Ops.std,sCm,hlt]
  have e:bin .add .i64 (Int.ofNat i) 1=_:=iSc hO (by omega)
  have hidx:idx (Int.ofNat i) (len al):=lx ▸ ixN hO hlt;obtain ⟨y,hxm,hx,htk,e1⟩:=mpA hO hal (hN ▸ hlt);have hpp:Sm.wl w (l.take (i+1))=Sm.wl w (l.take i)+Sm.w1 w y:=by rw[htk,Sm.wl_app,Sm.wl_one]
  have hpl:Sm.wl w (l.take (i+1))<=Sm.wl w l:=by
   have:=Sm.wl_app w (l.take (i+1)) (l.drop (i+1));rw[List.take_append_drop] at this;omega
  have hzz:Sm.zl z (l.take (i+1))=Sm.zl z (l.take i)++Sm.z1 z y:=by rw[htk,Sm.zl_app,Sm.zl_one]
  have hG:L.G v2 (Sm.w1 w y):=L.go (L.mono (by omega) hg) hP2
  obtain ⟨k',s',t',x',a',b'⟩:=y;obtain ⟨ihA,ihB⟩:=ih k' s' t' x' a' b' hxm;have hw1:Sm.w1 w (Sm.mk k' s' t' x' a' b')=w (Sm.mk k' s' t' x' a' b')+(Sm.wl w a' + Sm.wl w b'):=by rw[Sm.w1]
  have hz1:Sm.z1 z (Sm.mk k' s' t' x' a' b')=z (Sm.mk k' s' t' x' a' b')++(Sm.zl z a'++Sm.zl z b'):=by rw[Sm.z1]
  rw[hw1] at hG hpp;rw[hz1] at hzz;have h1:=tell (Sm.mk k' s' t' x' a' b') v2 (hz _ hxm) (L.mono (by omega) hG)
  have h2:=fun v (h:L.G v (Sm.wl w a'))=>ihA _ v rfl h;have h3:=fun v (h:L.G v (Sm.wl w b'))=>ihB _ v rfl h;have go2:=fun v3 (h:L.P (z (Sm.mk k' s' t' x' a' b')) (w (Sm.mk k' s' t' x' a' b')) v2 v3)=>L.go hG h;clear hw1 hz1;generalize z (Sm.mk k' s' t' x' a' b')=z0 at *;generalize w (Sm.mk k' s' t' x' a' b')=w0 at *;simp only[agT,Sm.t_mk,List.map,tA] at h1 e1;generalize x'.map Ex.t=xl' at h1 e1;generalize a'.map Sm.t=al' at h1 e1 h2
  generalize b'.map Sm.t=bl' at h1 e1 h3;refine qU ?_
  repeat' first|(revert hK K;refine qV3 ?_;intro K hK)|(refine GFork.mk (fun _=>qQ ?_) fun _=>qQ ?_)|(simp only[c1,e1];try cbv)|(with_reducible refine ndC ?h ?_;case h=>first | exact hidx | exact hall)|(refine qg [0,1,2] ?_;refine qC ?_;refine qD hP h1 ?_;rintro res bx ⟨v3,hP3,rfl,rfl⟩;refine qC ?_)|(refine qg [0,1,2] ?_;refine qC ?_;refine qD hP ((h2 v3 (L.mono (Nat.le_add_right _ _) (go2 v3 hP3)))) ?_;rintro res bx ⟨v4,hP4,rfl,rfl⟩;refine qC ?_)|(refine qg [0,1,2] ?_;refine qC ?_;refine qD hP ((h3 v4 (L.go (go2 v3 hP3) hP4))) ?_;rintro res bx ⟨v5,hP5,rfl,rfl⟩;refine qC ?_)
  rw[e];exact ⟨N - (i+1),by omega,i+1,v5,by rw[<-hN];cbv,by omega,by rw[hzz,hpp];exact L.trans hP2 (L.trans hP3 (L.trans hP4 hP5)),by rw[hN]⟩
 ·have hie:i=N:=by omega
  have c1:cmp .lss (Int.ofNat i) (Int.ofNat N)=false:=by cases hO;simp[Ops.std,sCm];omega
  rw[hie,hN,List.take_length] at hP2;refine qU ?_
  repeat' first|(revert hK K;refine qV3 ?_;intro K hK)|(refine GFork.mk (fun _=>qQ ?_) fun _=>qQ ?_)|(simp only[c1];try cbv)
  exact hR _ _ ⟨v2,hP2,rfl,rfl⟩
theorem esVs (L:Tl ByteArray (List (List T))) (z:Sm->List ByteArray) (w:Sm->Nat) (pt wt lt:List (List T)) (ru:Int) (tell:TSVs L z w pt wt lt ru) (l:List Sm) (hl:l.length<=1048576) (hz:∀y∈l,y.sz<=1048576):ESVs L z w pt wt lt ru l:=by
 obtain ⟨m,hm⟩:∃m,SizeOf.sizeOf l=m:=⟨_,rfl⟩
 induction m using Nat.strongRecOn generalizing l with
 | ind m ih=>
  subst hm;refine esVs_step L z w pt wt lt ru tell l hl hz fun k s t x a b hy=>?_;obtain ⟨_,_,_,_,h1,h2,h3⟩:=ssz_inv (hz _ hy);have h4:=List.sizeOf_lt_of_mem hy;simp only[Sm.mk.sizeOf_spec] at h4;exact ⟨ih (SizeOf.sizeOf a) (by omega) a h1 (fun y hy=>h3 y (List.mem_append_left _ hy)) rfl,ih (SizeOf.sizeOf b) (by omega) b h2 (fun y hy=>h3 y (List.mem_append_right _ hy)) rfl⟩
abbrev TSTs (L:Tl ByteArray (List (List T))) (z:Sm->List ByteArray) (w:Sm->Nat) :Prop:=∀(x:Sm) (v:(List (List T))),x.sz<=1048576->L.G v (w x)->ACl Tryz.prog 89 [agT x.t,⟨.one,[.ptr 0 0]⟩] [some [.ow (0,0) 1 v]] (fun res bx=>∃v',L.P (z x) (w x) v v'/\res=⟨.tup [],[]⟩/\bx=[some [.ow (0,0) 1 v']])
abbrev ESTs (L:Tl ByteArray (List (List T))) (z:Sm->List ByteArray) (w:Sm->Nat)  (l:List Sm):Prop:=∀(al:List (List T)) (v:(List (List T))),al=l.map Sm.t->L.G v (Sm.wl w l)->ACl Tryz.prog 80 [⟨.one,[.ro true al]⟩,⟨.one,[.fn 89 [(0,0)]]⟩] [some [.ow (0,0) 1 v]] (fun res bx=>∃v',L.P (Sm.zl z l) (Sm.wl w l) v v'/\res=⟨.tup [],[]⟩/\bx=[some [.ow (0,0) 1 v']])
def invESTs (L:Tl ByteArray (List (List T))) (z:Sm->List ByteArray) (w:Sm->Nat)  (al:List (List T)) (l:List Sm) (v:(List (List T))) (N:Nat) (σ:AS):Prop:=
 ∃(i:Nat) (v':(List (List T))),σ=⟨vag 24 [(1,⟨.one,[.fn 89 [(0,0)]]⟩),(6,⟨.one,[.ro true al]⟩),(7,litI (Int.ofNat l.length)),(8,litI (Int.ofNat i))],[some [.ow (0,0) 1 v']],1⟩/\i<=l.length/\L.P (Sm.zl z (l.take i)) (Sm.wl w (l.take i)) v v'/\N=l.length - i
theorem esTs_step (L:Tl ByteArray (List (List T))) (z:Sm->List ByteArray) (w:Sm->Nat)  (tell:TSTs L z w) (l:List Sm) (hl:l.length<=1048576) (hz:∀y∈l,y.sz<=1048576) (ih:∀k s t x a b,Sm.mk k s t x a b∈l->ESTs L z w  a/\ESTs L z w  b):ESTs L z w  l:=by
 intro al v hal hg;refine qF tysF_ok Tryz.func80 24 [] ?_;unhygienic intros;obtain ⟨N,hN⟩:=qX l.length;have lx:len al=N:=lnO hO (by simp[hal,hN])
 have hall:all al 6:=alO hO (by rw[hal];simp[Sm.t_len])
 rw[<-hN] at hl;revert hK K;refine qW1 ?_;intro K hK;simp only[lx];refine qL 1 [1,6,7,8] kk0 (invESTs L z w  al l v) ?_ ?_
 ·cbv
  exact ⟨_,0,v,by rw[<-hN];cbv,by simp,L.nil (L.mono (Nat.zero_le _) hg),rfl⟩
 rintro m σ ⟨i,v2,rfl,g1,hP2,rfl⟩;rw[<-hN] at g1 |-
 by_cases hlt:i < N
 ·have c1:cmp .lss (Int.ofNat i) (Int.ofNat N)=true:=by cases hO;simp[Ops.std,sCm,hlt]
  have e:bin .add .i64 (Int.ofNat i) 1=_:=iSc hO (by omega)
  have hidx:idx (Int.ofNat i) (len al):=lx ▸ ixN hO hlt;obtain ⟨y,hxm,hx,htk,e1⟩:=mpA hO hal (hN ▸ hlt);have hpp:Sm.wl w (l.take (i+1))=Sm.wl w (l.take i)+Sm.w1 w y:=by rw[htk,Sm.wl_app,Sm.wl_one]
  have hpl:Sm.wl w (l.take (i+1))<=Sm.wl w l:=by
   have:=Sm.wl_app w (l.take (i+1)) (l.drop (i+1));rw[List.take_append_drop] at this;omega
  have hzz:Sm.zl z (l.take (i+1))=Sm.zl z (l.take i)++Sm.z1 z y:=by rw[htk,Sm.zl_app,Sm.zl_one]
  have hG:L.G v2 (Sm.w1 w y):=L.go (L.mono (by omega) hg) hP2
  obtain ⟨k',s',t',x',a',b'⟩:=y;obtain ⟨ihA,ihB⟩:=ih k' s' t' x' a' b' hxm;have hw1:Sm.w1 w (Sm.mk k' s' t' x' a' b')=w (Sm.mk k' s' t' x' a' b')+(Sm.wl w a' + Sm.wl w b'):=by rw[Sm.w1]
  have hz1:Sm.z1 z (Sm.mk k' s' t' x' a' b')=z (Sm.mk k' s' t' x' a' b')++(Sm.zl z a'++Sm.zl z b'):=by rw[Sm.z1]
  rw[hw1] at hG hpp;rw[hz1] at hzz;have h1:=tell (Sm.mk k' s' t' x' a' b') v2 (hz _ hxm) (L.mono (by omega) hG)
  have h2:=fun v (h:L.G v (Sm.wl w a'))=>ihA _ v rfl h;have h3:=fun v (h:L.G v (Sm.wl w b'))=>ihB _ v rfl h;have go2:=fun v3 (h:L.P (z (Sm.mk k' s' t' x' a' b')) (w (Sm.mk k' s' t' x' a' b')) v2 v3)=>L.go hG h;clear hw1 hz1;generalize z (Sm.mk k' s' t' x' a' b')=z0 at *;generalize w (Sm.mk k' s' t' x' a' b')=w0 at *;simp only[agT,Sm.t_mk,List.map,tA] at h1 e1;generalize x'.map Ex.t=xl' at h1 e1;generalize a'.map Sm.t=al' at h1 e1 h2
  generalize b'.map Sm.t=bl' at h1 e1 h3;refine qU ?_
  repeat' first|(revert hK K;refine qV1 ?_;intro K hK)|(refine GFork.mk (fun _=>qQ ?_) fun _=>qQ ?_)|(simp only[c1,e1];try cbv)|(with_reducible refine ndC ?h ?_;case h=>first | exact hidx | exact hall)|(refine qg [0] ?_;refine qC ?_;refine qD hP h1 ?_;rintro res bx ⟨v3,hP3,rfl,rfl⟩;refine qC ?_)|(refine qg [0] ?_;refine qC ?_;refine qD hP ((h2 v3 (L.mono (Nat.le_add_right _ _) (go2 v3 hP3)))) ?_;rintro res bx ⟨v4,hP4,rfl,rfl⟩;refine qC ?_)|(refine qg [0] ?_;refine qC ?_;refine qD hP ((h3 v4 (L.go (go2 v3 hP3) hP4))) ?_;rintro res bx ⟨v5,hP5,rfl,rfl⟩;refine qC ?_)
  rw[e];exact ⟨N - (i+1),by omega,i+1,v5,by rw[<-hN];cbv,by omega,by rw[hzz,hpp];exact L.trans hP2 (L.trans hP3 (L.trans hP4 hP5)),by rw[hN]⟩
 ·have hie:i=N:=by omega
  have c1:cmp .lss (Int.ofNat i) (Int.ofNat N)=false:=by cases hO;simp[Ops.std,sCm];omega
  rw[hie,hN,List.take_length] at hP2;refine qU ?_
  repeat' first|(revert hK K;refine qV1 ?_;intro K hK)|(refine GFork.mk (fun _=>qQ ?_) fun _=>qQ ?_)|(simp only[c1];try cbv)
  exact hR _ _ ⟨v2,hP2,rfl,rfl⟩
theorem esTs (L:Tl ByteArray (List (List T))) (z:Sm->List ByteArray) (w:Sm->Nat)  (tell:TSTs L z w) (l:List Sm) (hl:l.length<=1048576) (hz:∀y∈l,y.sz<=1048576):ESTs L z w  l:=by
 obtain ⟨m,hm⟩:∃m,SizeOf.sizeOf l=m:=⟨_,rfl⟩
 induction m using Nat.strongRecOn generalizing l with
 | ind m ih=>
  subst hm;refine esTs_step L z w  tell l hl hz fun k s t x a b hy=>?_;obtain ⟨_,_,_,_,h1,h2,h3⟩:=ssz_inv (hz _ hy);have h4:=List.sizeOf_lt_of_mem hy;simp only[Sm.mk.sizeOf_spec] at h4;exact ⟨ih (SizeOf.sizeOf a) (by omega) a h1 (fun y hy=>h3 y (List.mem_append_left _ hy)) rfl,ih (SizeOf.sizeOf b) (by omega) b h2 (fun y hy=>h3 y (List.mem_append_right _ hy)) rfl⟩
abbrev TSCs (L:Tl Sm Bool) (z:Sm->List Sm) (w:Sm->Nat) (pt wt lt:List (List T)) (ru:Int):Prop:=∀(x:Sm) (v:Bool),x.sz<=1048576->L.G v (w x)->ACl Tryz.prog 81 [agT x.t,⟨.one,[.ptr 0 0]⟩,⟨.one,[.ptr 1 0]⟩] [some [.lit (.bool v)],some [.ro true pt,.ro true wt,.ro true lt,.lit (.int .i64 ru)]] (fun res bx=>∃v',L.P (z x) (w x) v v'/\res=⟨.tup [],[]⟩/\bx=[some [.lit (.bool v')],some [.ro true pt,.ro true wt,.ro true lt,.lit (.int .i64 ru)]])
abbrev ESCs (L:Tl Sm Bool) (z:Sm->List Sm) (w:Sm->Nat) (pt wt lt:List (List T)) (ru:Int) (l:List Sm):Prop:=∀(al:List (List T)) (v:Bool),al=l.map Sm.t->L.G v (Sm.wl w l)->ACl Tryz.prog 80 [⟨.one,[.ro true al]⟩,⟨.one,[.fn 81 [(0,0),(1,0)]]⟩] [some [.lit (.bool v)],some [.ro true pt,.ro true wt,.ro true lt,.lit (.int .i64 ru)]] (fun res bx=>∃v',L.P (Sm.zl z l) (Sm.wl w l) v v'/\res=⟨.tup [],[]⟩/\bx=[some [.lit (.bool v')],some [.ro true pt,.ro true wt,.ro true lt,.lit (.int .i64 ru)]])
def invESCs (L:Tl Sm Bool) (z:Sm->List Sm) (w:Sm->Nat) (pt wt lt:List (List T)) (ru:Int) (al:List (List T)) (l:List Sm) (v:Bool) (N:Nat) (σ:AS):Prop:=
 ∃(i:Nat) (v':Bool),σ=⟨vag 24 [(1,⟨.one,[.fn 81 [(0,0),(1,0)]]⟩),(6,⟨.one,[.ro true al]⟩),(7,litI (Int.ofNat l.length)),(8,litI (Int.ofNat i))],[some [.lit (.bool v')],some [.ro true pt,.ro true wt,.ro true lt,.lit (.int .i64 ru)]],1⟩/\i<=l.length/\L.P (Sm.zl z (l.take i)) (Sm.wl w (l.take i)) v v'/\N=l.length - i
theorem esCs_step (L:Tl Sm Bool) (z:Sm->List Sm) (w:Sm->Nat) (pt wt lt:List (List T)) (ru:Int) (tell:TSCs L z w pt wt lt ru) (l:List Sm) (hl:l.length<=1048576) (hz:∀y∈l,y.sz<=1048576) (ih:∀k s t x a b,Sm.mk k s t x a b∈l->ESCs L z w pt wt lt ru a/\ESCs L z w pt wt lt ru b):ESCs L z w pt wt lt ru l:=by
 intro al v hal hg;refine qF tysF_ok Tryz.func80 24 [] ?_;unhygienic intros;obtain ⟨N,hN⟩:=qX l.length;have lx:len al=N:=lnO hO (by simp[hal,hN])
 have hall:all al 6:=alO hO (by rw[hal];simp[Sm.t_len])
 rw[<-hN] at hl;revert hK K;refine qW2 ?_;intro K hK;simp only[lx];refine qL 2 [1,6,7,8] kk0 (invESCs L z w pt wt lt ru al l v) ?_ ?_
 ·cbv
  exact ⟨_,0,v,by rw[<-hN];cbv,by simp,L.nil (L.mono (Nat.zero_le _) hg),rfl⟩
 rintro m σ ⟨i,v2,rfl,g1,hP2,rfl⟩;rw[<-hN] at g1 |-
 by_cases hlt:i < N
 ·have c1:cmp .lss (Int.ofNat i) (Int.ofNat N)=true:=by cases hO;simp[Ops.std,sCm,hlt]
  have e:bin .add .i64 (Int.ofNat i) 1=_:=iSc hO (by omega)
  have hidx:idx (Int.ofNat i) (len al):=lx ▸ ixN hO hlt;obtain ⟨y,hxm,hx,htk,e1⟩:=mpA hO hal (hN ▸ hlt);have hpp:Sm.wl w (l.take (i+1))=Sm.wl w (l.take i)+Sm.w1 w y:=by rw[htk,Sm.wl_app,Sm.wl_one]
  have hpl:Sm.wl w (l.take (i+1))<=Sm.wl w l:=by
   have:=Sm.wl_app w (l.take (i+1)) (l.drop (i+1));rw[List.take_append_drop] at this;omega
  have hzz:Sm.zl z (l.take (i+1))=Sm.zl z (l.take i)++Sm.z1 z y:=by rw[htk,Sm.zl_app,Sm.zl_one]
  have hG:L.G v2 (Sm.w1 w y):=L.go (L.mono (by omega) hg) hP2
  obtain ⟨k',s',t',x',a',b'⟩:=y;obtain ⟨ihA,ihB⟩:=ih k' s' t' x' a' b' hxm;have hw1:Sm.w1 w (Sm.mk k' s' t' x' a' b')=w (Sm.mk k' s' t' x' a' b')+(Sm.wl w a' + Sm.wl w b'):=by rw[Sm.w1]
  have hz1:Sm.z1 z (Sm.mk k' s' t' x' a' b')=z (Sm.mk k' s' t' x' a' b')++(Sm.zl z a'++Sm.zl z b'):=by rw[Sm.z1]
  rw[hw1] at hG hpp;rw[hz1] at hzz;have h1:=tell (Sm.mk k' s' t' x' a' b') v2 (hz _ hxm) (L.mono (by omega) hG)
  have h2:=fun v (h:L.G v (Sm.wl w a'))=>ihA _ v rfl h;have h3:=fun v (h:L.G v (Sm.wl w b'))=>ihB _ v rfl h;have go2:=fun v3 (h:L.P (z (Sm.mk k' s' t' x' a' b')) (w (Sm.mk k' s' t' x' a' b')) v2 v3)=>L.go hG h;clear hw1 hz1;generalize z (Sm.mk k' s' t' x' a' b')=z0 at *;generalize w (Sm.mk k' s' t' x' a' b')=w0 at *;simp only[agT,Sm.t_mk,List.map,tA] at h1 e1;generalize x'.map Ex.t=xl' at h1 e1;generalize a'.map Sm.t=al' at h1 e1 h2
  generalize b'.map Sm.t=bl' at h1 e1 h3;refine qU ?_
  repeat' first|(revert hK K;refine qV2 ?_;intro K hK)|(refine GFork.mk (fun _=>qQ ?_) fun _=>qQ ?_)|(simp only[c1,e1];try cbv)|(with_reducible refine ndC ?h ?_;case h=>first | exact hidx | exact hall)|(refine qg [0,1] ?_;refine qC ?_;refine qD hP h1 ?_;rintro res bx ⟨v3,hP3,rfl,rfl⟩;refine qC ?_)|(refine qg [0,1] ?_;refine qC ?_;refine qD hP ((h2 v3 (L.mono (Nat.le_add_right _ _) (go2 v3 hP3)))) ?_;rintro res bx ⟨v4,hP4,rfl,rfl⟩;refine qC ?_)|(refine qg [0,1] ?_;refine qC ?_;refine qD hP ((h3 v4 (L.go (go2 v3 hP3) hP4))) ?_;rintro res bx ⟨v5,hP5,rfl,rfl⟩;refine qC ?_)
  rw[e];exact ⟨N - (i+1),by omega,i+1,v5,by rw[<-hN];cbv,by omega,by rw[hzz,hpp];exact L.trans hP2 (L.trans hP3 (L.trans hP4 hP5)),by rw[hN]⟩
 ·have hie:i=N:=by omega
  have c1:cmp .lss (Int.ofNat i) (Int.ofNat N)=false:=by cases hO;simp[Ops.std,sCm];omega
  rw[hie,hN,List.take_length] at hP2;refine qU ?_
  repeat' first|(revert hK K;refine qV2 ?_;intro K hK)|(refine GFork.mk (fun _=>qQ ?_) fun _=>qQ ?_)|(simp only[c1];try cbv)
  exact hR _ _ ⟨v2,hP2,rfl,rfl⟩
theorem esCs (L:Tl Sm Bool) (z:Sm->List Sm) (w:Sm->Nat) (pt wt lt:List (List T)) (ru:Int) (tell:TSCs L z w pt wt lt ru) (l:List Sm) (hl:l.length<=1048576) (hz:∀y∈l,y.sz<=1048576):ESCs L z w pt wt lt ru l:=by
 obtain ⟨m,hm⟩:∃m,SizeOf.sizeOf l=m:=⟨_,rfl⟩
 induction m using Nat.strongRecOn generalizing l with
 | ind m ih=>
  subst hm;refine esCs_step L z w pt wt lt ru tell l hl hz fun k s t x a b hy=>?_;obtain ⟨_,_,_,_,h1,h2,h3⟩:=ssz_inv (hz _ hy);have h4:=List.sizeOf_lt_of_mem hy;simp only[Sm.mk.sizeOf_spec] at h4;exact ⟨ih (SizeOf.sizeOf a) (by omega) a h1 (fun y hy=>h3 y (List.mem_append_left _ hy)) rfl,ih (SizeOf.sizeOf b) (by omega) b h2 (fun y hy=>h3 y (List.mem_append_right _ hy)) rfl⟩
end Go.Gv
