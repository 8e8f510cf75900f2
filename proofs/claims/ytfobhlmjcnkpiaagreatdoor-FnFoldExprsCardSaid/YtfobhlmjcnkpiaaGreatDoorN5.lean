/- Part N5 of the proof: contracts of functions of the program, each walked once. -/
import Derived.Test.YtfobhlmjcnkpiaaGreatDoorD7
import Derived.Test.YtfobhlmjcnkpiaaGreatDoorN4
import Derived.Test.YtfobhlmjcnkpiaaGreatDoorN3
import Derived.Test.YtfobhlmjcnkpiaaGreatDoorD9
set_option linter.all false
namespace Go.Gv
open Go.Av Go.Proofs Go.Shelf Go.RowKit
set_option maxRecDepth 10000
set_option maxHeartbeats 8000000
theorem MU0 (x:Sm) (hz:x.sz<=1048576):ACl Tryz.prog 146 [agT x.t] [] (fun res bx=>∃b:Bool,(b=true↔¬x.good)/\res=litB b/\bx=[]):=by
 have h1:=ZR0 x hz;generalize x.good=g at *;obtain ⟨k,s,t,xx,a,b⟩:=x;rw[RG0] at h1 |-;generalize xx.map Ex.t=xl at *;generalize a.map Sm.t=al at *;generalize b.map Sm.t=bl at *;refine qF tyK Tryz.func146 6 [.tmp 2] ?_;unhygienic intros
 have hnt:bnot true=false:=by cases hO;rfl
 have hnf:bnot false=true:=by cases hO;rfl
 revert hK K;refine qW 0 ?_;intro K hK;refine qG ?_;refine qD hP h1 ?_;rintro res bx ⟨r,hr,rfl,rfl⟩;refine qC ?_;cases r
 ·revert hK K;refine qW 0 ?_;intro K hK
  simp only[hnf];revert hK K;refine qW 0 ?_;intro K hK;exact hR _ _ ⟨_,⟨fun _ h=>by simpa using hr.2 h,fun _=>rfl⟩,rfl,rfl⟩
 ·revert hK K;refine qW 0 ?_;intro K hK
  simp only[hnt];revert hK K;refine qW 0 ?_;intro K hK;exact hR _ _ ⟨_,⟨fun h=>by simp at h,fun h=>absurd (hr.1 rfl) h⟩,rfl,rfl⟩
def invH1 (xl:List (List T)) (l:List Sm) (N:Nat) (σ:AS):Prop:=
 ∃(i:Nat),σ=⟨vag 19 [(0,⟨.one,[.ro true xl]⟩),(1,⟨.one,[.fn 146 []]⟩),(7,litI (Int.ofNat l.length)),(8,litI (Int.ofNat i))],[],1⟩/\i<=l.length/\(∀x∈l.take i,x.good)/\N=l.length - i
theorem TM0 (l:List Sm) (xl:List (List T)) (hxl:xl=l.map Sm.t) (hl:l.length<=1048576) (ih:∀x∈l,ACl Tryz.prog 146 [agT x.t] [] (fun res bx=>∃b:Bool,(b=true↔¬x.good)/\res=litB b/\bx=[])) :
  ACl Tryz.prog 166 [⟨.one,[.ro true xl]⟩,⟨.one,[.fn 146 []]⟩] [] (fun res bx=>∃r:Int,(0<=r↔∃x∈l,¬x.good)/\res=litI r/\bx=[]):=by
 refine qF tyK Tryz.func166 19 [.tmp 4] ?_;unhygienic intros
 obtain ⟨N,hN⟩:=qX l.length;have hlen:len xl=N:=lnO hO (by simp[hxl,hN])
 have ha:all xl 6:=alO hO (by subst hxl;simp[Sm.t_len])
 rw[<-hN] at hl;revert hK K;refine qW 0 ?_;intro K hK;simp only[hlen];refine qL 0 [0,1,7,8] kk0 (invH1 xl l) ?_ ?_
 ·cbv
  exact ⟨_,0,by rw[<-hN];cbv,by simp,by simp,rfl⟩
 rintro m σ ⟨i,rfl,g1,g2,rfl⟩;rw[<-hN];revert hK K;refine qW 0 ?_;intro K hK;refine nC rfl (fun h3=>?_) (fun h3=>?_)
 ·have hlt:i < N:=qv3
  obtain ⟨x,hx,hx',ht,e1⟩:=mpA hO hxl (hN ▸ hlt);have e:bin .add .i64 (Int.ofNat i) 1=_:=iSc hO (by omega)
  have hidx:idx (Int.ofNat i) (len xl):=hlen ▸ ixN hO hlt;have hcall:=ih x hx;have hxk:x.good->∀y∈List.take (i+1) l,y.good:=fun h y hy=>by
   rw[ht] at hy;rcases List.mem_append.1 hy with hy | hy
   ·exact g2 y hy
   ·obtain rfl:=List.mem_singleton.1 hy;exact h
  have hex:¬x.good->∃x∈l,¬x.good:=fun h=>⟨x,hx,h⟩;generalize hgx:x.good=gx at *;clear hgx;obtain ⟨k',s',t',x',a',b'⟩:=x;simp only[agT,Sm.t_mk,List.map,tA] at hcall e1;generalize x'.map Ex.t=xl' at hcall e1;generalize a'.map Sm.t=al' at hcall e1;generalize b'.map Sm.t=bl' at hcall e1;revert hK K;refine qW 0 ?_;intro K hK
  repeat (simp only[e1];cbv)
  refine ndC hidx (ndC ha (ndN ?_));refine qG ?_;refine qD hP hcall ?_;rintro res bx ⟨b,hb,rfl,rfl⟩;refine qC ?_;cases b
  ·revert hK K;refine qW 0 ?_;intro K hK
   rw[e];exact ⟨N - (i+1),by omega,i+1,by rw[<-hN];cbv,by omega,hxk (Classical.not_not.1 fun h=>by simpa using hb.2 h),by rw[hN]⟩
  ·revert hK K;refine qW 0 ?_;intro K hK
   refine hR _ _ ⟨_,⟨fun _=>hex (hb.1 rfl),fun _=>?_⟩,rfl,rfl⟩;simp
 ·have hge:i=N:=qw3
  rw[List.take_of_length_le (by omega)] at g2
  revert hK K;refine qW 0 ?_;intro K hK;exact hR _ _ ⟨_,⟨fun h=>by simp at h,fun ⟨x,hx,hk⟩=>absurd (g2 x hx) hk⟩,rfl,rfl⟩
theorem fD0 (l:List Sm) (xl:List (List T)) (hxl:xl=l.map Sm.t) (hl:l.length<=1048576) (hz:∀x∈l,x.sz<=1048576) :
  ACl Tryz.prog 145 [⟨.one,[.ro true xl]⟩,⟨.one,[.fn 146 []]⟩] [] (fun res bx=>∃b:Bool,(b=true↔∃x∈l,¬x.good)/\res=litB b/\bx=[]):=by
 have hc:=TM0 l xl hxl hl fun x hx=>MU0 x (hz x hx);refine qF tyK Tryz.func145 9 [.tmp 4] ?_;unhygienic intros
 revert hK K;refine qW 0 ?_;intro K hK;refine qG ?_;refine qD hP hc ?_;rintro res bx ⟨r,hr,rfl,rfl⟩;refine qC ?_;revert hK K;refine qW 0 ?_;intro K hK;refine hR _ _ ⟨_,?_,rfl,rfl⟩;rw[<-hr];cases hO;simp[Ops.std,sCm]
theorem VA0:kH1 110:=by
 intro l xl hxl hz;have hc:=fD0 l xl hxl (by omega) fun x hx=>by have:=Sm.szs_mem hx;omega
 have hq:uE0 l↔(¬∃x∈l,¬x.good)/\l.length<=20:=by
  unfold uE0;refine and_congr_left fun _=>?_;exact ⟨fun h ⟨x,hx,hn⟩=>hn (h x hx),fun h x hx=>Classical.not_not.1 fun hn=>h ⟨x,hx,hn⟩⟩
 generalize uE0 l=bp at *;generalize (∃x∈l,¬x.good)=ex at *;refine qF tyK Tryz.func110 11 [.tmp 2] ?_;unhygienic intros
 obtain ⟨N,hN⟩:=qX l.length;have hlen:len xl=N:=lnO hO (by simp[hxl,hN])
 have hnt:bnot true=false:=by cases hO;rfl
 have hnf:bnot false=true:=by cases hO;rfl
 rw[<-hN] at hq;revert hK K;refine qW 0 ?_;intro K hK;simp only[hlen];refine GFork.mk (fun h1=>?_) (fun h1=>?_)<;>cbv
 ·have h2:N<=20:=qw1
  revert hK K;refine qW 0 ?_;intro K hK;refine qG ?_;refine qD hP hc ?_;rintro res bx ⟨r,hr,rfl,rfl⟩;refine qC ?_;cases r
  ·revert hK K;refine qW 0 ?_;intro K hK
   try simp only[hnf]
   revert hK K;refine qW 0 ?_;intro K hK;exact hR _ _ ⟨_,⟨fun _=>hq.2 ⟨fun h=>by simpa using hr.2 h,h2⟩,fun _=>rfl⟩,rfl,rfl⟩
  ·revert hK K;refine qW 0 ?_;intro K hK
   try simp only[hnt]
   revert hK K;refine qW 0 ?_;intro K hK;exact hR _ _ ⟨_,⟨fun h=>by simp at h,fun h=>absurd (hr.1 rfl) (hq.1 h).1⟩,rfl,rfl⟩
 ·have h2:20 < N:=qw1
  revert hK K;refine qW 0 ?_;intro K hK;exact hR _ _ ⟨_,⟨fun h=>by simp at h,fun h=>by have:=(hq.1 h).2;omega⟩,rfl,rfl⟩
theorem KB0 (xl:List (List T)):ACl Tryz.prog 25 [⟨.one,[.ro true xl]⟩,⟨.one,[.nil]⟩,⟨.one,[.fn 9 []]⟩] [] (fun res bx=>∃b:Bool,(b=true↔xl.length=0)/\res=litB b/\bx=[]):=by
 refine qF tyK Tryz.func25 32 [.tmp 6] ?_;unhygienic intros
 have hlen:len xl=xl.length:=by cases hO;rfl
 obtain ⟨N,hN⟩:=qX xl.length;rw[<-hN] at hlen;rw[<-hN] at hR;revert hK K;refine qW 0 ?_;intro K hK;simp only[hlen];refine nC rfl (fun h1=>?_) (fun h1=>?_)
 ·have h2:N≠0:=qv1
  revert hK K;refine qW 0 ?_;intro K hK;exact hR _ _ ⟨_,⟨fun h=>by simp at h,fun h=>absurd h h2⟩,rfl,rfl⟩
 ·have h2:N=0:=qv1
  revert hK K;refine qW 0 ?_;intro K hK;simp only[hlen,h2];refine nL (nb:=0) (keep:=fun t=>t == 16 || t == 17) (kk:=fun _ _=>none) (fun N σ=>N=0/\σ=⟨vag 32 [(16,litI 0),(17,litI 0)],[],1⟩) (by simp at hC;simp[hC]) ?_ ?_
  ·cbv
   exact ⟨_,rfl,by cbv⟩
  rintro m σ ⟨rfl,rfl⟩;revert hK K;refine qW 0 ?_;intro K hK;refine nC rfl (fun h5=>?_) (fun h5=>?_)
  ·have hF:False:=by
    clear hM hP hC hR;try clear hK K
    cases hO;simp only[Ops.std,sCm,yW0,sqL,xJ0,qM0,Int.ofNat_eq_natCast] at *;simp at h5
   exact hF.elim
  ·revert hK K;refine qW 0 ?_;intro K hK
   exact hR _ _ ⟨_,⟨fun _=>h2,fun _=>rfl⟩,rfl,rfl⟩
theorem DN0 (k n:Int) (s:ByteArray) (l:List Ex) (xl:List (List T)) (hxl:xl=l.map Ex.t):ACl Tryz.prog 9 [⟨.agg,[.lit (.int .i64 k),.lit (.int .i64 n),.lit (.string s),.ro true xl]⟩,⟨.agg,[.lit (.int .i64 0),.lit (.int .i64 0),.lit (.string ⟨⟨[]⟩⟩),.nil]⟩] [] (fun res bx=>∃b:Bool,(b=true↔qH0 (.mk k n s l))/\res=litB b/\bx=[]):=by
 have hq:qH0 (.mk k n s l)↔k=0/\n=0/\s=⟨⟨[]⟩⟩/\xl.length=0:=by
  unfold qH0;rw[hxl,List.length_map,List.length_eq_zero_iff];simp
 have he:=KB0 xl;rw[hq];clear hq;generalize xl.length=z at *;refine qF tyK Tryz.func9 31 [.tmp 4] ?_;unhygienic intros
 refine qO ?_
 repeat' first|(revert hK K;refine qV 0 ?_;intro K hK)|(refine qK (fun _=>?_) fun _=>?_)|(refine qG ?_;refine qD hP he ?_;rintro res bx ⟨r,hr,rfl,rfl⟩;refine qC ?_)|fail
 all_goals (refine hR _ _ ⟨_,?_,rfl,rfl⟩;clear hR hM hP hC hseg hxl he;cases hO;simp only[Ops.std,sCm,sqL,beq_iff_eq] at *;first | omega|(simp_all;done)|(simp_all;omega) | grind)
theorem xX1 (r:Ru) (hz:r.sz<=1048576):ACl Tryz.prog 70 [agT r.t] [] (fun res bx=>∃b:Bool,(b=true↔r.good)/\res=litB b/\bx=[]):=by
 obtain ⟨k,⟨ek,en,es,el⟩,a⟩:=r;simp only[Ru.sz] at hz;rw[YV0 _ ek en es el rfl];obtain ⟨xl,hxl⟩:=qX (el.map Ex.t);obtain ⟨al,hal⟩:=qX (a.map Sm.t);have h1:=DN0 ek en es el xl hxl;have h2:=pP0 (.mk ek en es el) (by omega)
 have h3:=VA0 a al hal (by omega)
 rw[agT,Ex.t_mk] at h2;simp only[List.map,tA] at h2;have hq:Ru.good ⟨k,.mk ek en es el,a⟩↔((k=1\/k=2\/k=3)/\qH0 (.mk ek en es el)/\uE0 a)\/(k=4/\(Ex.mk ek en es el).good/\uE0 a):=Iff.rfl;rw[hq];generalize qH0 (.mk ek en es el)=pz at *;generalize (Ex.mk ek en es el).good=pe at *;generalize uE0 a=pb at *;rw[<-hxl,<-hal];rw[<-hxl] at h2;clear hq hz hxl hal;refine qF tyK Tryz.func70 23 [.tmp 2] ?_;unhygienic intros
 have hnt:bnot true=false:=by cases hO;rfl
 have hnf:bnot false=true:=by cases hO;rfl
 refine qO ?_
 repeat' first|(revert hK K;refine qV 0 ?_;intro K hK)|(refine qK (fun _=>?_) fun _=>?_)|(simp only[hnt,hnf];try cbv)|(refine qG ?_;refine qD hP (uN0 k 1 4) ?_;rintro res bx ⟨r,hr0,rfl,rfl⟩;refine qC ?_)|(refine qG ?_;refine qD hP h1 ?_;rintro res bx ⟨r,hr1,rfl,rfl⟩;refine qC ?_)|(refine qG ?_;refine qD hP h2 ?_;rintro res bx ⟨r,hr2,rfl,rfl⟩;refine qC ?_)|(refine qG ?_;refine qD hP h3 ?_;rintro res bx ⟨r,hr3,rfl,rfl⟩;refine qC ?_)|fail
 all_goals (refine hR _ _ ⟨_,?_,rfl,rfl⟩;clear hR hM hP hC hseg h1 h2 h3;cases hO;simp only[Ops.std,sCm,beq_iff_eq] at *;first | omega|(simp_all;done)|(simp_all;omega) | grind)
theorem FT0 (x:Ru) (hz:x.sz<=1048576):ACl Tryz.prog 69 [agT x.t] [] (fun res bx=>∃b:Bool,(b=true↔¬x.good)/\res=litB b/\bx=[]):=by
 have h1:=xX1 x hz;obtain ⟨⟨ek,en,es,el⟩,hpp⟩:∃e,x.p=e:=⟨_,rfl⟩;rw[YV0 x ek en es el hpp] at h1 |-;generalize x.good=g at *;generalize x.k=k at *;generalize el.map Ex.t=xl at *;generalize x.a.map Sm.t=al at *;refine qF tyK Tryz.func69 6 [.tmp 2] ?_;unhygienic intros
 have hnt:bnot true=false:=by cases hO;rfl
 have hnf:bnot false=true:=by cases hO;rfl
 revert hK K;refine qW 0 ?_;intro K hK;refine qG ?_;refine qD hP h1 ?_;rintro res bx ⟨r,hr,rfl,rfl⟩;refine qC ?_;cases r
 ·revert hK K;refine qW 0 ?_;intro K hK
  simp only[hnf];revert hK K;refine qW 0 ?_;intro K hK;exact hR _ _ ⟨_,⟨fun _ h=>by simpa using hr.2 h,fun _=>rfl⟩,rfl,rfl⟩
 ·revert hK K;refine qW 0 ?_;intro K hK
  simp only[hnt];revert hK K;refine qW 0 ?_;intro K hK;exact hR _ _ ⟨_,⟨fun h=>by simp at h,fun h=>absurd (hr.1 rfl) h⟩,rfl,rfl⟩
def invH2 (xl:List (List T)) (l:List Ru) (N:Nat) (σ:AS):Prop:=
 ∃(i:Nat),σ=⟨vag 19 [(0,⟨.one,[.ro true xl]⟩),(1,⟨.one,[.fn 69 []]⟩),(7,litI (Int.ofNat l.length)),(8,litI (Int.ofNat i))],[],1⟩/\i<=l.length/\(∀x∈l.take i,x.good)/\N=l.length - i
theorem TN0 (l:List Ru) (xl:List (List T)) (hxl:xl=l.map Ru.t) (hl:l.length<=1048576) (ih:∀x∈l,ACl Tryz.prog 69 [agT x.t] [] (fun res bx=>∃b:Bool,(b=true↔¬x.good)/\res=litB b/\bx=[])) :
  ACl Tryz.prog 109 [⟨.one,[.ro true xl]⟩,⟨.one,[.fn 69 []]⟩] [] (fun res bx=>∃r:Int,(0<=r↔∃x∈l,¬x.good)/\res=litI r/\bx=[]):=by
 refine qF tyK Tryz.func109 19 [.tmp 4] ?_;unhygienic intros
 obtain ⟨N,hN⟩:=qX l.length;have hlen:len xl=N:=lnO hO (by simp[hxl,hN])
 have ha:all xl 6:=alO hO (by subst hxl;simp[Ru.t_len])
 rw[<-hN] at hl;revert hK K;refine qW 0 ?_;intro K hK;simp only[hlen];refine qL 0 [0,1,7,8] kk0 (invH2 xl l) ?_ ?_
 ·cbv
  exact ⟨_,0,by rw[<-hN];cbv,by simp,by simp,rfl⟩
 rintro m σ ⟨i,rfl,g1,g2,rfl⟩;rw[<-hN];revert hK K;refine qW 0 ?_;intro K hK;refine nC rfl (fun h3=>?_) (fun h3=>?_)
 ·have hlt:i < N:=qv3
  obtain ⟨x,hx,hx',ht,e1⟩:=mpA hO hxl (hN ▸ hlt);have e:bin .add .i64 (Int.ofNat i) 1=_:=iSc hO (by omega)
  have hidx:idx (Int.ofNat i) (len xl):=hlen ▸ ixN hO hlt;have hcall:=ih x hx;have hxk:x.good->∀y∈List.take (i+1) l,y.good:=fun h y hy=>by
   rw[ht] at hy;rcases List.mem_append.1 hy with hy | hy
   ·exact g2 y hy
   ·obtain rfl:=List.mem_singleton.1 hy;exact h
  have hex:¬x.good->∃x∈l,¬x.good:=fun h=>⟨x,hx,h⟩;generalize hgx:x.good=gx at *;clear hgx;obtain ⟨⟨ek,en,es,el⟩,hpp⟩:∃e,x.p=e:=⟨_,rfl⟩;have hagt:=YV0 x ek en es el hpp;simp only[agT] at hagt hcall;rw[hagt] at hcall;rw[Ru.t,hpp,Ex.t_mk] at e1;simp only[List.cons_append,List.nil_append] at e1;generalize x.k=k' at hcall e1;generalize el.map Ex.t=el' at hcall e1;generalize x.a.map Sm.t=al' at hcall e1
  revert hK K;refine qW 0 ?_;intro K hK
  repeat (simp only[e1];cbv)
  refine ndC hidx (ndC ha (ndN ?_));refine qG ?_;refine qD hP hcall ?_;rintro res bx ⟨b,hb,rfl,rfl⟩;refine qC ?_;cases b
  ·revert hK K;refine qW 0 ?_;intro K hK
   rw[e];exact ⟨N - (i+1),by omega,i+1,by rw[<-hN];cbv,by omega,hxk (Classical.not_not.1 fun h=>by simpa using hb.2 h),by rw[hN]⟩
  ·revert hK K;refine qW 0 ?_;intro K hK
   refine hR _ _ ⟨_,⟨fun _=>hex (hb.1 rfl),fun _=>?_⟩,rfl,rfl⟩;simp
 ·have hge:i=N:=qw3
  rw[List.take_of_length_le (by omega)] at g2
  revert hK K;refine qW 0 ?_;intro K hK;exact hR _ _ ⟨_,⟨fun h=>by simp at h,fun ⟨x,hx,hk⟩=>absurd (g2 x hx) hk⟩,rfl,rfl⟩
theorem fE0 (l:List Ru) (xl:List (List T)) (hxl:xl=l.map Ru.t) (hl:l.length<=1048576) (hz:∀x∈l,x.sz<=1048576) :
  ACl Tryz.prog 68 [⟨.one,[.ro true xl]⟩,⟨.one,[.fn 69 []]⟩] [] (fun res bx=>∃b:Bool,(b=true↔∃x∈l,¬x.good)/\res=litB b/\bx=[]):=by
 have hc:=TN0 l xl hxl hl fun x hx=>FT0 x (hz x hx);refine qF tyK Tryz.func68 9 [.tmp 4] ?_;unhygienic intros
 revert hK K;refine qW 0 ?_;intro K hK;refine qG ?_;refine qD hP hc ?_;rintro res bx ⟨r,hr,rfl,rfl⟩;refine qC ?_;revert hK K;refine qW 0 ?_;intro K hK;refine hR _ _ ⟨_,?_,rfl,rfl⟩;rw[<-hr];cases hO;simp[Ops.std,sCm]
theorem qA1 (x:Fu) (s:ByteArray):ACl Tryz.prog 112 [agT x.t,⟨.one,[.ptr 0 0]⟩] [some [.lit (.string s)]] (fun res bx=>∃b:Bool,(b=true↔x.name=s)/\res=litB b/\bx=[some [.lit (.string s)]]):=by
 rw[QQ0];generalize x.name=nm;generalize strs x.params=pt;generalize x.a.map Sm.t=al;refine qF tyK Tryz.func112 8 [.tmp 3] ?_;unhygienic intros
 revert hK K;refine qW 1 ?_;intro K hK;refine hR _ _ ⟨_,?_,rfl,rfl⟩;cases hO;simp only[Ops.std,sqL,beq_iff_eq,decide_eq_true_eq]
def invH3 (s:ByteArray) (xl:List (List T)) (l:List Fu) (N:Nat) (σ:AS):Prop:=
 ∃(i:Nat),σ=⟨vag 19 [(0,⟨.one,[.ro true xl]⟩),(1,⟨.one,[.fn 112 [(0,0)]]⟩),(7,litI (Int.ofNat l.length)),(8,litI (Int.ofNat i))],[some [.lit (.string s)]],1⟩/\i<=l.length/\(∀p g,p < i->l[p]?=some g->g.name≠s)/\N=l.length - i
theorem DP0 (s:ByteArray) (l:List Fu) (hl:l.length<=1048576) (xl:List (List T)) (hxl:xl=l.map Fu.t) :
  ACl Tryz.prog 111 [⟨.one,[.ro true xl]⟩,⟨.one,[.fn 112 [(0,0)]]⟩] [some [.lit (.string s)]]
  (fun res bx=>∃r:Int,FnAtP l s r/\res=litI r/\bx=[some [.lit (.string s)]]):=by
 refine qF tyK Tryz.func111 19 [.tmp 4] ?_;unhygienic intros
 obtain ⟨N,hN⟩:=qX l.length;have hlen:len xl=N:=lnO hO (by simp[hxl,hN])
 have ha:all xl 3:=alO hO (by subst hxl;simp[Fu.t_len])
 rw[<-hN] at hl;revert hK K;refine qW 1 ?_;intro K hK;simp only[hlen];refine qL 1 [0,1,7,8] kk0 (invH3 s xl l) ?_ ?_
 ·cbv
  exact ⟨_,0,by rw[<-hN];cbv,by simp,fun p g h=>by omega,rfl⟩
 rintro m σ ⟨i,rfl,g1,g2,rfl⟩;rw[<-hN];revert hK K;refine qW 1 ?_;intro K hK;refine nC rfl (fun h3=>?_) (fun h3=>?_)
 ·have hlt:i < N:=qv3
  obtain ⟨x,hx,hx',ht,e1⟩:=mpA hO hxl (hN ▸ hlt);have e:bin .add .i64 (Int.ofNat i) 1=_:=iSc hO (by omega)
  have hidx:idx (Int.ofNat i) (len xl):=hlen ▸ ixN hO hlt;have hcall:=qA1 x s;have hok:x.name=s->FnAtP l s (Int.ofNat i):=fun h=>.inl ⟨i,x,rfl,hx',h,g2⟩;have hnx:x.name≠s->∀p g,p < i+1->l[p]?=some g->g.name≠s:=fun h p z hp hz=>by
   by_cases hpi:p=i
   ·rw[hpi,hx'] at hz;rw[<-Option.some.inj hz];exact h
   ·exact g2 p z (by omega) hz
  rw[QQ0] at hcall
  change get xl (nat (Int.ofNat i))=[T.lit (.string x.name),.sl (strs x.params),.sl (x.a.map Sm.t)] at e1
  generalize x.name=nm at *;generalize strs x.params=pt at *;generalize x.a.map Sm.t=al' at *;revert hK K;refine qW 1 ?_;intro K hK
  repeat (simp only[e1];cbv)
  refine ndC hidx (ndC ha (ndN ?_));refine qg (nN [0]) ?_;refine qC ?_;refine qD hP hcall ?_;rintro res bx ⟨b,hb,rfl,rfl⟩;refine qC ?_;cases b
  ·revert hK K;refine qW 1 ?_;intro K hK
   rw[e];exact ⟨N - (i+1),by omega,i+1,by rw[<-hN];cbv,by omega,hnx fun h=>by simpa using hb.2 h,by rw[hN]⟩
  ·revert hK K;refine qW 1 ?_;intro K hK
   exact hR _ _ ⟨_,hok (hb.1 rfl),rfl,rfl⟩
 ·have hge:i=N:=qw3
  revert hK K;refine qW 1 ?_;intro K hK;refine hR _ _ ⟨_,.inr ⟨rfl,fun f hf=>?_⟩,rfl,rfl⟩;obtain ⟨p,hp⟩:=List.mem_iff_getElem?.1 hf;exact g2 p f (by have:=(List.getElem?_eq_some_iff.1 hp).1;omega) hp
theorem mM1 (rt ft:List (List T)) (l:List Fu) (hft:ft=l.map Fu.t) (s:ByteArray) (hl:l.length<=1048576) :
  ACl Tryz.prog 72 [⟨.agg,[.ro true rt,.ro true ft]⟩,litS s] [] (fun res bx=>∃r:Int,FnAtP l s r/\res=litI r/\bx=[]):=by
 have hc:=DP0 s l hl ft hft;refine qF tyK Tryz.func72 9 [.tmp 4] ?_;unhygienic intros
 revert hK K;refine qW 0 ?_;intro K hK;refine qg (nN [1]) ?_;refine qC ?_;refine qD hP hc ?_;rintro res bx ⟨r,hr,rfl,rfl⟩;refine qC ?_;revert hK K;refine qW 0 ?_;intro K hK;exact hR _ _ ⟨r,hr,rfl,rfl⟩
def invH4 (nm:ByteArray) (pt al:List (List T)) (l:List ByteArray) (N:Nat) (σ:AS):Prop:=
 ∃(i:Nat),σ=⟨vag 41 [(1,⟨.one,[.ptr 0 0]⟩),(22,⟨.one,[.ro true pt]⟩),(23,litI (Int.ofNat l.length)),(24,litI (Int.ofNat i))],[some [.lit (.string nm),.ro true pt,.ro true al]],1⟩/\i<=l.length/\ParP l i/\N=l.length - i
theorem mL1 (f:Fu) (hz:f.sz<=1048576):ACl Tryz.prog 71 [agT f.t] [] (fun res bx=>∃b:Bool,(b=true↔xU0 f.name/\(ParP f.params f.params.length/\f.params.length<=4)/\uE0 f.a)/\res=litB b/\bx=[]):=by
 unfold Fu.sz at hz;rw[QQ0];have hc1:=wD0 f.name (by omega)
 have hnm:=fun (s:ByteArray) (hs:s∈f.params)=>wD0 s (by have:=YP0 hs;omega)
 have hc4:=VA0 f.a (f.a.map Sm.t) rfl (by omega)
 generalize xU0 f.name=np at *;generalize uE0 f.a=bp at *;obtain ⟨l,hlf⟩:=qX f.params;rw[<-hlf] at hnm hz |-;obtain ⟨pt,hpt⟩:=qX (strs l);rw[<-hpt];generalize f.name=nm at *;generalize f.a.map Sm.t=al at *;clear hlf;refine qF tyK Tryz.func71 41 [.tmp 2] ?_;unhygienic intros
 obtain ⟨N,hN⟩:=qX l.length;have hl:N<=1048576:=by rw[hN];omega
 clear hz;have hln:len pt=N:=lnO hO (by simp[hpt,hN])
 have ha:all pt 1:=alO hO (by rw[hpt];exact kE0 l)
 have hnt:bnot true=false:=by cases hO;rfl
 have hnf:bnot false=true:=by cases hO;rfl
 revert hK K;refine qW 0 ?_;intro K hK;refine qG ?_;refine qD hP hc1 ?_;rintro res bx ⟨b,hb1,rfl,rfl⟩;refine qC ?_;cases b
 ·revert hK K;refine qW 0 ?_;intro K hK
  try simp only[hnf]
  revert hK K;refine qW 0 ?_;intro K hK;exact hR _ _ ⟨_,⟨fun h=>by simp at h,fun h=>absurd (hb1.2 h.1) (by simp)⟩,rfl,rfl⟩
 revert hK K;refine qW 0 ?_;intro K hK
 try simp only[hnt]
 revert hK K;refine qW 0 ?_;intro K hK
 try simp only[hln]
 refine GFork.mk (fun h5=>?_) (fun h5=>?_)<;>cbv
 ·have h4:4 < N:=qw5
  revert hK K;refine qW 0 ?_;intro K hK;exact hR _ _ ⟨_,⟨fun h=>by simp at h,fun h=>by have:=h.2.1.2;omega⟩,rfl,rfl⟩
 have h4:N<=4:=qw5;clear h5;revert hK K;refine qW 0 ?_;intro K hK;refine qG ?_;refine qD hP hc4 ?_;rintro res bx ⟨b,hb4,rfl,rfl⟩;refine qC ?_;cases b
 ·revert hK K;refine qW 0 ?_;intro K hK
  try simp only[hnf]
  revert hK K;refine qW 0 ?_;intro K hK;exact hR _ _ ⟨_,⟨fun h=>by simp at h,fun h=>absurd (hb4.2 h.2.2) (by simp)⟩,rfl,rfl⟩
 have hnp:=hb1.1 rfl;have hbp:=hb4.1 rfl;clear hb1 hb4 hc1 hc4;revert hK K;refine qW 0 ?_;intro K hK
 try simp only[hnt]
 revert hK K;refine qW 0 ?_;intro K hK;simp only[hln];refine qL 1 [1,22,23,24] kk0 (invH4 nm pt al l) ?_ ?_
 ·cbv
  exact ⟨_,0,by rw[<-hN];cbv,by simp,fun p s h=>by omega,rfl⟩
 rintro m σ ⟨i,rfl,g1,g2,rfl⟩;rw[<-hN];rw[<-hN] at g1;revert hK K;refine qW 0 ?_;intro K hK;refine nC rfl (fun h3=>?_) (fun h3=>?_)
 ·have hlt:i < N:=qv3
  obtain ⟨y,hy⟩:∃y,l[i]?=some y:=⟨_,List.getElem?_eq_getElem (hN ▸ hlt)⟩;have e:bin .add .i64 (Int.ofNat i) 1=_:=iSc hO (by omega)
  have hidx:idx (Int.ofNat i) (len pt):=hln ▸ ixN hO hlt;have e1:get pt (nat (Int.ofNat i))=[T.lit (.string y)]:=by cases hO;rw[hpt];simp[Ops.std,strs,hy]
  obtain ⟨pre,hpre⟩:=qX (strs (l.take i));have eseg:seg 0 (nsub (nat (Int.ofNat i)) 0) pt=pre:=by cases hO;rw[hpre,hpt];simp[Ops.std,strs,List.map_take]
  have nb:bnd (Int.ofNat i) (len pt):=by rw[hln];cases hO;exact ⟨Int.natCast_nonneg _,Int.ofNat_le.2 g1⟩
  have nl:le 0 (nat (Int.ofNat i)):=by cases hO;exact Nat.zero_le _
  have hcall:=hnm y (List.mem_of_getElem? hy);have hhas:=uR0 (l.take i) pre y hpre (by rw[List.length_take];omega)
  have hgood:xU0 y->y∉l.take i->ParP l (i+1):=fun h1 h2 p s hp hs=>by
   by_cases hpi:p=i
   ·rw[hpi,hy] at hs;rw[<-Option.some.inj hs,hpi];exact ⟨h1,h2⟩
   ·exact g2 p s (by omega) hs
  have hbad:ParP l l.length->xU0 y/\y∉l.take i:=fun h=>h i y (hN ▸ hlt) hy;generalize xU0 y=py at *;generalize hin:(y∈l.take i)=pin at *;clear hin;revert hK K;refine qW 0 ?_;intro K hK
  repeat (simp only[e1];cbv)
  refine ndC hidx (ndC ha (ndN ?_));revert hK K;refine qW 0 ?_;intro K hK;refine qG ?_;refine qD hP hcall ?_;rintro res bx ⟨r,hr,rfl,rfl⟩;refine qC ?_;cases r
  ·revert hK K;refine qW 0 ?_;intro K hK
   try simp only[hnf]
   revert hK K;refine qW 0 ?_;intro K hK;exact hR _ _ ⟨_,⟨fun h=>by simp at h,fun h=>absurd (hr.2 (hbad h.2.1.1).1) (by simp)⟩,rfl,rfl⟩
  ·revert hK K;refine qW 0 ?_;intro K hK
   try simp only[hnt]
   revert hK K;refine qW 0 ?_;intro K hK
   repeat (simp only[eseg];cbv)
   refine ndC nb (ndC nl (ndC ha (ndN ?_)));refine qG ?_;refine qD hP hhas ?_;rintro res bx ⟨r,hr2,rfl,rfl⟩;refine qC ?_;cases r
   ·revert hK K;refine qW 0 ?_;intro K hK
    rw[e];exact ⟨N - (i+1),by omega,i+1,by rw[<-hN];cbv,by omega,hgood (hr.1 rfl) (fun h=>by have:=hr2.2 h;simp at this),by rw[hN]⟩
   ·revert hK K;refine qW 0 ?_;intro K hK
    exact hR _ _ ⟨_,⟨fun h=>by simp at h,fun h=>absurd (hr2.1 rfl) (hbad h.2.1.1).2⟩,rfl,rfl⟩
 ·have hge:i=N:=qw3
  revert hK K;refine qW 0 ?_;intro K hK;exact hR _ _ ⟨_,⟨fun _=>⟨hnp,⟨by rw[hge,hN] at g2;exact g2,by omega⟩,hbp⟩,fun _=>rfl⟩,rfl,rfl⟩
def invJ1 (rt ft:List (List T)) (l:List Fu) (N:Nat) (σ:AS):Prop:=
 ∃(i:Nat),σ=⟨vag 40 [(1,⟨.one,[.ptr 0 0]⟩),(21,⟨.one,[.ro true ft]⟩),(22,litI (Int.ofNat l.length)),(23,litI (Int.ofNat i))],[some [.ro true rt,.ro true ft]],1⟩/\i<=l.length/\(∀q f,q < i->l[q]?=some f->FuP l q f)/\N=l.length - i
theorem ZW0:kC1 35:=by
 rintro ⟨rs,fs⟩ hz;simp only[Pg.sz] at hz;rw[HF0];obtain ⟨rt,hrt⟩:=qX (rs.map Ru.t);obtain ⟨ft,hft⟩:=qX (fs.map Fu.t);have hcr:=fE0 rs rt hrt (by omega) fun r h=>by have:=Ru.szs_mem h;omega
 have hfz:=fun (f:Fu) (h:f∈fs)=>(by have:=Fu.szs_mem h;omega:f.sz<=1048576)
 have hfn:=fun s=>mM1 rt ft fs hft s (by omega)
 have hq:Pg.good ⟨rs,fs⟩↔(¬∃r∈rs,¬r.good)/\(∀i f,fs[i]?=some f->FuP fs i f)/\rs.length<=10/\fs.length<=6:=by
  unfold Pg.good;refine and_congr_left fun _=>?_;exact ⟨fun h ⟨x,hx,hn⟩=>hn (h x hx),fun h x hx=>Classical.not_not.1 fun hn=>h ⟨x,hx,hn⟩⟩
 simp only[<-hrt,<-hft];generalize Pg.good ⟨rs,fs⟩=pg at *;generalize (∃r∈rs,¬r.good)=ex at *;obtain ⟨NR,hNR⟩:=qX rs.length;obtain ⟨NF,hNF⟩:=qX fs.length;have hR1:NR<=1048576:=by omega
 have hF1:NF<=1048576:=by omega
 clear hz;rw[<-hNR,<-hNF] at hq;refine qF tyK Tryz.func35 40 [.tmp 2] ?_;unhygienic intros
 have lr:len rt=NR:=lnO hO (by simp[hrt,hNR])
 have lf:len ft=NF:=lnO hO (by simp[hft,hNF])
 have haf:all ft 3:=alO hO (by subst hft;simp[Fu.t_len])
 have hnt:bnot true=false:=by cases hO;rfl
 have hnf:bnot false=true:=by cases hO;rfl
 revert hK K;refine qW 0 ?_;intro K hK;simp only[lr];refine GFork.mk (fun h5=>?_) (fun h5=>?_)<;>cbv
 ·have h4:10 < NR:=qw5
  revert hK K;refine qW 0 ?_;intro K hK;exact hR _ _ ⟨_,⟨fun h=>by simp at h,fun h=>by have:=(hq.1 h).2.2.1;omega⟩,rfl,rfl⟩
 have hr10:NR<=10:=qw5;clear h5;revert hK K;refine qW 0 ?_;intro K hK;simp only[lf];refine GFork.mk (fun h5=>?_) (fun h5=>?_)<;>cbv
 ·have h4:6 < NF:=qw5
  revert hK K;refine qW 0 ?_;intro K hK;exact hR _ _ ⟨_,⟨fun h=>by simp at h,fun h=>by have:=(hq.1 h).2.2.2;omega⟩,rfl,rfl⟩
 have hf6:NF<=6:=qw5;clear h5;revert hK K;refine qW 0 ?_;intro K hK;refine qG ?_;refine qD hP hcr ?_;rintro res bx ⟨b,hb0,rfl,rfl⟩;refine qC ?_;obtain rfl | rfl:b=true\/b=false:=by cases b<;>simp
 ·revert hK K;refine qW 0 ?_;intro K hK
  exact hR _ _ ⟨_,⟨fun h=>by simp at h,fun h=>absurd (hb0.1 rfl) (hq.1 h).1⟩,rfl,rfl⟩
 have hnex:¬ex:=fun h=>by simpa using hb0.2 h
 have hq2:pg↔∀i f,fs[i]?=some f->FuP fs i f:=⟨fun h=>(hq.1 h).2.1,fun h=>hq.2 ⟨hnex,h,hr10,hf6⟩⟩;clear hq hnex hb0 hcr;revert hK K;refine qW 0 ?_;intro K hK;simp only[lf];refine qL 1 [1,21,22,23] kk0 (invJ1 rt ft fs) ?_ ?_
 ·cbv
  exact ⟨_,0,by rw[<-hNF];cbv,by simp,fun q f h=>by omega,rfl⟩
 rintro m2 σ ⟨i,rfl,g1,g2,rfl⟩;rw[<-hNF] at g1;rw[<-hNF];revert hK K;refine qW 0 ?_;intro K hK;refine nC rfl (fun h3=>?_) (fun h3=>?_)
 ·have hlt:i < NF:=qv3
  obtain ⟨x,hx,hx',ht,e1⟩:=mpA hO hft (hNF ▸ hlt);have e:bin .add .i64 (Int.ofNat i) 1=_:=iSc hO (by omega)
  have hidx:idx (Int.ofNat i) (len ft):=lf ▸ ixN hO hlt;have hc1:=mL1 x (hfz x hx);have hc2:=hfn x.name;have hq:FuP fs i x↔(xU0 x.name/\(ParP x.params x.params.length/\x.params.length<=4)/\uE0 x.a)/\FnAtP fs x.name (Int.ofNat i):=⟨fun h=>⟨⟨h.1,h.2.2.1,h.2.2.2⟩,h.2.1⟩,fun h=>⟨h.1.1,h.2,h.1.2.1,h.1.2.2⟩⟩;have hgood:FuP fs i x->∀q f,q < i+1->fs[q]?=some f->FuP fs q f:=fun h q f hq hf=>by
   by_cases hqi:q=i
   ·rw[hqi,hx'] at hf;rw[<-Option.some.inj hf,hqi];exact h
   ·exact g2 q f (by omega) hf
  have hbad:(∀i f,fs[i]?=some f->FuP fs i f)->FuP fs i x:=fun h=>h i x hx';have huq:∀r,FnAtP fs x.name r->(FnAtP fs x.name (Int.ofNat i)↔r=Int.ofNat i):=fun r h=>⟨fun h'=>h.unique h',fun h'=>h' ▸ h⟩;generalize FuP fs i x=fp at *;generalize (xU0 x.name/\(ParP x.params x.params.length/\x.params.length<=4)/\uE0 x.a)=np at *;rw[QQ0] at hc1
  change get ft (nat (Int.ofNat i))=[T.lit (.string x.name),.sl (strs x.params),.sl (x.a.map Sm.t)] at e1
  generalize strs x.params=pt at *;generalize x.a.map Sm.t=at' at *;obtain ⟨nm,hnm⟩:=qX x.name;rw[<-hnm] at e1 hc1 hc2 huq hq;revert hK K;refine qW 0 ?_;intro K hK
  repeat (simp only[e1];cbv)
  refine ndC hidx (ndC haf (ndN ?_));revert hK K;refine qW 0 ?_;intro K hK;refine qG ?_;refine qD hP hc1 ?_;rintro res bx ⟨b,hb1,rfl,rfl⟩;refine qC ?_;cases b
  ·revert hK K;refine qW 0 ?_;intro K hK
   try simp only[hnf]
   revert hK K;refine qW 0 ?_;intro K hK;exact hR _ _ ⟨_,⟨fun h=>by simp at h,fun h=>absurd (hb1.2 (hq.1 (hbad (hq2.1 h))).1) (by simp)⟩,rfl,rfl⟩
  revert hK K;refine qW 0 ?_;intro K hK
  try simp only[hnt]
  revert hK K;refine qW 0 ?_;intro K hK;refine qG ?_;refine qD hP hc2 ?_;rintro res bx ⟨r,hb2,rfl,rfl⟩;refine qC ?_;have hu:=huq r hb2;clear huq hb2 hc2;revert hK K;refine qW 0 ?_;intro K hK;refine nC rfl (fun h5=>?_) (fun h5=>?_)
  ·have hne:r≠Int.ofNat i:=qv5
   revert hK K;refine qW 0 ?_;intro K hK;exact hR _ _ ⟨_,⟨fun h=>by simp at h,fun h=>absurd (hu.1 (hq.1 (hbad (hq2.1 h))).2) hne⟩,rfl,rfl⟩
  ·have hne:r=Int.ofNat i:=qv5
   have hok:=hq.2 ⟨hb1.1 rfl,hu.2 hne⟩;revert hK K;refine qW 0 ?_;intro K hK;rw[e];exact ⟨fs.length - (i+1),by omega,i+1,by rw[<-hNF];cbv,by omega,hgood hok,rfl⟩
 ·have hge:i=NF:=qw3
  have hfok:∀i f,fs[i]?=some f->FuP fs i f:=fun q f hf=>g2 q f (by have:=(List.getElem?_eq_some_iff.1 hf).1;omega) hf
  revert hK K;refine qW 0 ?_;intro K hK;exact hR _ _ ⟨_,⟨fun _=>hq2.2 hfok,fun _=>rfl⟩,rfl,rfl⟩
end Go.Gv
