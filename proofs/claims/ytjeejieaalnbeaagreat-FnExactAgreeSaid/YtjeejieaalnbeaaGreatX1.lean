/- Part X1 of the proof: contracts of functions of the program, each walked once. -/
import Derived.Test.YtjeejieaalnbeaaGreatB1
import Derived.Test.YtjeejieaalnbeaaGreatK1
import Derived.Test.YtjeejieaalnbeaaGreatK2
import Derived.Test.YtjeejieaalnbeaaGreatQ1
set_option linter.all false
namespace Go.Gv
open Go.Av Go.Proofs
set_option maxRecDepth 10000
set_option maxHeartbeats 8000000
def valAt (l:List Ce) (i:Int):Vl:=if 0<=i/\i < Int.ofNat l.length then (l.getD i.toNat default).v else ⟨0,0,⟨#[]⟩⟩
theorem valAt_in {l:List Ce} {i:Int} {x:Ce} (h0:0<=i) (hx:l[i.toNat]?=some x):valAt l i=x.v:=by
 have hlt:=(List.getElem?_eq_some_iff.1 hx).1;unfold valAt;rw[if_pos ⟨h0,by simp only[Int.ofNat_eq_natCast];omega⟩,List.getD_eq_getElem?_getD,hx];rfl
theorem valAt_out {l:List Ce} {i:Int} (h:¬(0<=i/\i < Int.ofNat l.length)):valAt l i=⟨0,0,⟨#[]⟩⟩:=if_neg h
theorem c_ValAt_spec (l:List Ce) (cl:List (List T)) (hcl:cl=l.map Ce.t) (hl:l.length<=1048576) (i:Int):ACl Tryz.prog 64 [⟨.agg,[.ro true cl]⟩,litI i] [] (fun res bx=>∃k n s,valAt l i=⟨k,n,s⟩/\res=⟨.agg,[.lit (.int .i64 k),.lit (.int .i64 n),.lit (.string s)]⟩/\bx=[]):=by
 refine qF tyK Tryz.func64 21 [.cell 4 97] ?_;unhygienic intros;obtain ⟨N,hN⟩:=qX l.length;have lc:len cl=N:=lnO hO (by simp[hcl,hN])
 have hac:all cl 4:=alO hO (by rw[hcl];simp[Ce.t_len])
 have hin:∀(h0:0<=i) (h1:i < Int.ofNat N),∃r k n s,get cl (nat i)=[T.lit (.int .i64 r),.lit (.int .i64 k),.lit (.int .i64 n),.lit (.string s)]/\valAt l i=⟨k,n,s⟩:=by
  intro h0 h1;have hlt:i.toNat < l.length:=by rw[<-hN];simp only[Int.ofNat_eq_natCast] at h1;omega
  obtain ⟨x,hx⟩:∃x,l[i.toNat]?=some x:=⟨_,List.getElem?_eq_getElem hlt⟩;refine ⟨x.refs,x.v.k,x.v.n,x.v.s,?_,valAt_in h0 hx⟩;have:get cl (nat i)=x.t:=by cases hO;rw[hcl];simp[Ops.std,hx]
  exact this
 have hout:¬(0<=i/\i < Int.ofNat N)->valAt l i=⟨0,0,⟨#[]⟩⟩:=by rw[hN];exact valAt_out
 rw[<-hN] at hl;generalize valAt l i=v at *;have h1:cmp .lss i 0=true↔i < 0:=by cases hO;simp[Ops.std,sCm]
 have h2:cmp .geq i (Int.ofNat (len cl))=true↔Int.ofNat N<=i:=by rw[lc];cases hO;simp[Ops.std,sCm]
 by_cases h0:i < 0
 ·have c1:cmp .lss i 0=true:=h1.2 h0
  refine qU ?_
  repeat' first|(revert hK K;refine qV0 ?_;intro K hK)|(refine GFork.mk (fun _=>qQ ?_) fun _=>qQ ?_)|(simp only[c1];try cbv)
  all_goals exact hR _ _ ⟨0,0,_,hout (by omega),rfl,rfl⟩
 have c1:cmp .lss i 0=false:=by cases h:cmp .lss i 0 with
  | false=>rfl
  | true=>exact absurd (h1.1 h) h0
 by_cases hN2:Int.ofNat N<=i
 ·have c2:cmp .geq i (Int.ofNat (len cl))=true:=h2.2 hN2
  refine qU ?_
  repeat' first|(revert hK K;refine qV0 ?_;intro K hK)|(refine GFork.mk (fun _=>qQ ?_) fun _=>qQ ?_)|(simp only[c2];try cbv)
  all_goals exact hR _ _ ⟨0,0,_,hout (by omega),rfl,rfl⟩
 have c2:cmp .geq i (Int.ofNat (len cl))=false:=by cases h:cmp .geq i (Int.ofNat (len cl)) with
  | false=>rfl
  | true=>exact absurd (h2.1 h) hN2
 obtain ⟨r,k,n,s,e1,e2⟩:=hin (by omega) (by omega)
 have hidx:idx i (len cl):=lc ▸ idx_of hO ⟨by omega,by omega⟩
 refine qU ?_
 repeat' first|(revert hK K;refine qV0 ?_;intro K hK)|(refine GFork.mk (fun _=>qQ ?_) fun _=>qQ ?_)|(simp only[e1];try cbv)|(with_reducible refine ndC ?h ?_;case h=>first | exact hidx | exact hac | exact lc ▸ hidx)
 all_goals exact hR _ _ ⟨k,n,s,e2,rfl,rfl⟩
theorem c_ValAt_impl (l:List Ce) (cl:List (List T)) (hcl:cl=l.map Ce.t) (hl:l.length<=1048576) (i:Int):ACl Tryz.prog 40 [⟨.agg,[.ro true cl]⟩,litI i] [] (fun res bx=>∃k n s,valAt l i=⟨k,n,s⟩/\res=⟨.agg,[.lit (.int .i64 k),.lit (.int .i64 n),.lit (.string s)]⟩/\bx=[]):=by
 refine qF tyK Tryz.func40 19 [.cell 4 97] ?_;unhygienic intros;obtain ⟨N,hN⟩:=qX l.length;have lc:len cl=N:=lnO hO (by simp[hcl,hN])
 have hac:all cl 4:=alO hO (by rw[hcl];simp[Ce.t_len])
 have hin:∀(h0:0<=i) (h1:i < Int.ofNat N),∃r k n s,get cl (nat i)=[T.lit (.int .i64 r),.lit (.int .i64 k),.lit (.int .i64 n),.lit (.string s)]/\valAt l i=⟨k,n,s⟩:=by
  intro h0 h1;have hlt:i.toNat < l.length:=by rw[<-hN];simp only[Int.ofNat_eq_natCast] at h1;omega
  obtain ⟨x,hx⟩:∃x,l[i.toNat]?=some x:=⟨_,List.getElem?_eq_getElem hlt⟩;refine ⟨x.refs,x.v.k,x.v.n,x.v.s,?_,valAt_in h0 hx⟩;have:get cl (nat i)=x.t:=by cases hO;rw[hcl];simp[Ops.std,hx]
  exact this
 have hout:¬(0<=i/\i < Int.ofNat N)->valAt l i=⟨0,0,⟨#[]⟩⟩:=by rw[hN];exact valAt_out
 rw[<-hN] at hl;generalize valAt l i=v at *;have e0:bin .sub .i64 (Int.ofNat N) 1=Int.ofNat N - 1:=by cases hO;exact i64_id (by simp only[Int.ofNat_eq_natCast];omega)
 have hw:=c_within i 0 (Int.ofNat N - 1);generalize hm:Int.ofNat N - 1=m at *;have hbn:∀c:Bool,bnot c=!c:=fun c=>by cases hO;rfl
 revert hK K;refine qW0 ?_;intro K hK;simp only[lc,e0];refine qG ?_;refine qD hP hw ?_;rintro res bx ⟨b,hb,rfl,rfl⟩;refine qC ?_
 by_cases hi:0<=i/\i < Int.ofNat N
 ·have hbt:b=true:=hb.2 (by omega)
  subst hbt;obtain ⟨r,k,n,s,e1,e2⟩:=hin hi.1 hi.2;have hidx:idx i (len cl):=lc ▸ idx_of hO hi;have c1:bnot true=false:=by rw[hbn];rfl
  clear hb hw;refine qU ?_
  repeat' first|(revert hK K;refine qV0 ?_;intro K hK)|(refine GFork.mk (fun _=>qQ ?_) fun _=>qQ ?_)|(simp only[c1,e1];try cbv)|(with_reducible refine ndC ?h ?_;case h=>first | exact hidx | exact hac | exact lc ▸ hidx)
  all_goals exact hR _ _ ⟨k,n,s,e2,rfl,rfl⟩
 ·have hbt:b=false:=by cases b with
   | false=>rfl
   | true=>exact absurd (hb.1 rfl) (by omega)
  subst hbt;have c1:bnot false=true:=by rw[hbn];rfl
  clear hb hw;refine qU ?_
  repeat' first|(revert hK K;refine qV0 ?_;intro K hK)|(refine GFork.mk (fun _=>qQ ?_) fun _=>qQ ?_)|(simp only[c1];try cbv)
  all_goals exact hR _ _ ⟨0,0,_,hout hi,rfl,rfl⟩
def TabSame (l:List Ce) (t:List Me) (w:List En):Prop:=t.length=w.length/\∀(i:Nat) a b,t[i]?=some a->w[i]?=some b->a.key=b.key/\valAt l a.ref=b.v
def TabP (l:List Ce) (t:List Me) (w:List En) (n:Nat):Prop:=∀(i:Nat) a b,i < n->t[i]?=some a->w[i]?=some b->a.key=b.key/\valAt l a.ref=b.v
theorem TabP.zero (l:List Ce) (t:List Me) (w:List En):TabP l t w 0:=fun i a b h=>absurd h (Nat.not_lt_zero i)
theorem TabP.succ {l:List Ce} {t:List Me} {w:List En} {n:Nat} {a:Me} {b:En} (h:TabP l t w n) (ha:t[n]?=some a) (hb:w[n]?=some b) (h1:a.key=b.key) (h2:valAt l a.ref=b.v):TabP l t w (n+1):=by
 intro i a' b' hi ha' hb'
 by_cases hin:i=n
 ·subst hin
  rw[ha] at ha';rw[hb] at hb';cases ha';cases hb';exact ⟨h1,h2⟩
 ·exact h i a' b' (by omega) ha' hb'
theorem TabP.all {l:List Ce} {t:List Me} {w:List En} (hl:t.length=w.length) (h:TabP l t w t.length):TabSame l t w:=
 ⟨hl,fun i a b ha hb=>h i a b (List.getElem?_eq_some_iff.1 ha).1 ha hb⟩
theorem vl_ne {O:Ops} (hO:O=Ops.std) {k n k' n':Int} {s s':ByteArray} (h:(⟨k,n,s⟩:Vl)≠⟨k',n',s'⟩):O.bnot (O.band (O.cmp .eql k k') (O.band (O.cmp .eql n n') (O.scmp .eql s s')))=true:=by
 cases hO;simp only[Ops.std,sCm,sqL,ne_eq,Vl.mk.injEq] at *
 by_cases h1:k=k'<;>by_cases h2:n=n'<;>by_cases h3:s=s'<;>simp_all
theorem vl_eq {O:Ops} (hO:O=Ops.std) {k n k' n':Int} {s s':ByteArray} (h:(⟨k,n,s⟩:Vl)=⟨k',n',s'⟩):O.bnot (O.band (O.cmp .eql k k') (O.band (O.cmp .eql n n') (O.scmp .eql s s')))=false:=by
 cases hO;simp only[Ops.std,sCm,sqL,Vl.mk.injEq] at *;simp[h]
def invTa (pc pa pb:List A) (l:List Ce) (t:List Me) (w:List En) (N:Nat) (σ:AS):Prop:=
 ∃(i:Nat),σ=⟨vag 53 [(3,⟨.one,[.ptr 0 0]⟩),(4,⟨.one,[.ptr 1 0]⟩),(5,⟨.one,[.ptr 2 0]⟩),(7,litI (Int.ofNat i))],[some pc,some pa,some pb],1⟩/\i<=t.length/\TabP l t w i/\N=t.length - i
def invTb (pc pa pb:List A) (wl:List (List T)) (l:List Ce) (t:List Me) (w:List En) (N:Nat) (σ:AS):Prop:=
 ∃(i:Nat),σ=⟨vag 48 [(3,⟨.one,[.ptr 0 0]⟩),(4,⟨.one,[.ptr 1 0]⟩),(5,⟨.one,[.ptr 2 0]⟩),(17,⟨.one,[.ro true wl]⟩),(18,litI (Int.ofNat t.length)),(19,litI (Int.ofNat i))],[some pa,some pc,some pb],1⟩/\i<=t.length/\TabP l t w i/\N=t.length - i
theorem c_l27Table (l:List Ce) (cl:List (List T)) (hcl:cl=l.map Ce.t) (hl:l.length<=1048576) (vl tl fl fd ot:List (List T)) (line:ByteArray) (nr fuel stop fault exit:Int) (trap:Bool)
  (t:List Me) (ml:List (List T)) (hml:ml=t.map Me.t) (w:List En) (wl:List (List T)) (hwl:wl=w.map En.t) (name:ByteArray) (ht:t.length<=1048576) (hw:w.length<=1048576) :
  ACl Tryz.prog 65 [⟨.agg,[.ro true cl,.ro true vl,.ro true tl,.ro true fl,.lit (.string line),.ro true fd,.lit (.int .i64 nr),.ro true ot,.lit (.int .i64 fuel),.lit (.int .i64 stop),.lit (.int .i64 fault),.lit (.int .i64 exit),.lit (.bool trap)]⟩,⟨.agg,[.ro true ml]⟩,⟨.agg,[.lit (.string name),.ro true wl]⟩] []
  (fun res bx=>∃b:Bool,(b=true↔TabSame l t w)/\res=litB b/\bx=[]):=by
 have hval:=fun i=>c_ValAt_spec l cl hcl hl i;refine qF tyK Tryz.func65 53 [.tmp 6] ?_;unhygienic intros;obtain ⟨pc,hpc⟩:=qX ([.ro true cl,.ro true vl,.ro true tl,.ro true fl,.lit (.string line),.ro true fd,.lit (.int .i64 nr),.ro true ot,.lit (.int .i64 fuel),.lit (.int .i64 stop),.lit (.int .i64 fault),.lit (.int .i64 exit),.lit (.bool trap)]:List A);obtain ⟨N,hN⟩:=qX t.length;obtain ⟨M,hM2⟩:=qX w.length
 have lm:len ml=N:=lnO hO (by simp[hml,hN])
 have lw:len wl=M:=lnO hO (by simp[hwl,hM2])
 have ham:all ml 2:=alO hO (by rw[hml];simp[Me.t_len])
 have haw:all wl 4:=alO hO (by rw[hwl];simp[En.t_len])
 by_cases hNM:N=M
 rotate_left
 ·have hno:¬TabSame l t w:=fun h=>hNM (by rw[hN,hM2];exact h.1)
  have c0:cmp .neq (Int.ofNat (len ml)) (Int.ofNat (len wl))=true:=by rw[lm,lw];cases hO;simp[Ops.std,sCm];omega
  refine qU ?_
  repeat' first|(revert hK K;refine qV0 ?_;intro K hK)|(refine GFork.mk (fun _=>qQ ?_) fun _=>qQ ?_)|(simp only[c0];try cbv)
  all_goals exact hR _ _ ⟨false,⟨fun h=>(by cases h),fun h=>absurd h hno⟩,rfl,rfl⟩
 have c0:cmp .neq (Int.ofNat (len ml)) (Int.ofNat (len wl))=false:=by rw[lm,lw];cases hO;simp[Ops.std,sCm,hNM]
 have htw:t.length=w.length:=by rw[<-hN,<-hM2,hNM]
 subst hNM;refine qU ?_
 repeat' first|(revert hK K;refine qV0 ?_;intro K hK)|(refine GFork.mk (fun _=>qQ ?_) fun _=>qQ ?_)|(simp only[c0];try cbv)
 refine qL 3 [3,4,5,7] kk0 (invTa pc [.ro true ml] [.lit (.string name),.ro true wl] l t w) ?_ ?_
 ·cbv
  exact ⟨_,0,by rw[hpc];cbv,by simp,TabP.zero l t w,rfl⟩
 rintro m σ ⟨i,rfl,g1,g2,rfl⟩;rw[<-hN] at g1 |-;rw[hpc]
 by_cases hlt:i < N
 ·have c1:cmp .lss (Int.ofNat i) (Int.ofNat (len ml))=true:=by rw[lm];cases hO;simp[Ops.std,sCm,hlt]
  have e:bin .add .i64 (Int.ofNat i) 1=_:=iSc hO (by omega)
  have hidm:idx (Int.ofNat i) (len ml):=lm ▸ ixN hO hlt;have hidw:idx (Int.ofNat i) (len wl):=lw ▸ ixN hO hlt;have hidn:idx (Int.ofNat i) N:=ixN hO hlt;obtain ⟨a,ha⟩:∃y,t[i]?=some y:=⟨_,List.getElem?_eq_getElem (hN ▸ hlt)⟩;obtain ⟨b,hb⟩:∃y,w[i]?=some y:=⟨_,List.getElem?_eq_getElem (hM2 ▸ hlt)⟩;have e1:get ml (nat (Int.ofNat i))=[T.lit (.string a.key),.lit (.int .i64 a.ref)]:=by
   have:get ml (nat (Int.ofNat i))=a.t:=by cases hO;rw[hml];simp[Ops.std,ha]
   exact this
  have e2:get wl (nat (Int.ofNat i))=[T.lit (.string b.key),.lit (.int .i64 b.v.k),.lit (.int .i64 b.v.n),.lit (.string b.v.s)]:=by
   have:get wl (nat (Int.ofNat i))=b.t:=by cases hO;rw[hwl];simp[Ops.std,hb]
   exact this
  obtain ⟨k0,n0,s0,hv⟩:∃k n s,valAt l a.ref=⟨k,n,s⟩:=⟨_,_,_,rfl⟩;have h1:=acI (hval a.ref) (R':=fun res bx=>res=⟨.agg,[.lit (.int .i64 k0),.lit (.int .i64 n0),.lit (.string s0)]⟩/\bx=[]) (fun res bx ⟨k,n,s,h,e1,e2⟩=>by
   rw[hv] at h;cases h;exact ⟨e1,e2⟩)
  have hnext:=fun (h1:a.key=b.key) (h2:valAt l a.ref=b.v)=>TabP.succ g2 ha hb h1 h2;have hbad:a.key≠b.key\/valAt l a.ref≠b.v->¬TabSame l t w:=fun h h'=>by
   obtain ⟨x1,x2⟩:=h'.2 i a b ha hb;exact h.elim (fun h=>h x1) (fun h=>h x2)
  rw[hv] at hnext hbad;obtain ⟨ak,ar⟩:=a;obtain ⟨bk,⟨k,n,s⟩⟩:=b;simp only at e1 e2 h1 hnext hbad hv
  by_cases hkey:ak=bk
  rotate_left
  ·have c2:scmp .neq ak bk=true:=by cases hO;simp[Ops.std,scmp_neq,hkey,Ne.symm hkey]
   refine qU ?_
   repeat' first|(revert hK K;refine qV0 ?_;intro K hK)|(refine GFork.mk (fun _=>qQ ?_) fun _=>qQ ?_)|(simp only[c1,c2,e1,e2];try cbv)|(with_reducible refine ndC ?h ?_;case h=>first | exact hidm | exact hidw | exact hidn | exact ham | exact haw | rfl)
   all_goals exact hR _ _ ⟨false,⟨fun h=>(by cases h),fun h=>absurd h (hbad (.inl hkey))⟩,rfl,rfl⟩
  have c2:scmp .neq ak bk=false:=by cases hO;simp only[Ops.std,scmp_neq];simp[hkey]
  by_cases hval2:(⟨k0,n0,s0⟩:Vl)=⟨k,n,s⟩
  ·have c3:bnot (band (cmp .eql k0 k) (band (cmp .eql n0 n) (scmp .eql s0 s)))=false:=vl_eq hO hval2
   refine qU ?_
   repeat' first|(revert hK K;refine qV0 ?_;intro K hK)|(refine GFork.mk (fun _=>qQ ?_) fun _=>qQ ?_)|(simp only[c1,c2,c3,e1,e2];try cbv)|(with_reducible refine ndC ?h ?_;case h=>first | exact hidm | exact hidw | exact hidn | exact ham | exact haw | rfl)|(refine qG ?_;refine qD hP h1 ?_;rintro res bx ⟨rfl,rfl⟩;refine qC ?_)
   all_goals (rw[e];exact ⟨N - (i+1),by omega,i+1,by (try rw[hpc]);(try rw[hN]);cbv,by omega,hnext hkey hval2,by rw[hN]⟩)
  ·have c3:bnot (band (cmp .eql k0 k) (band (cmp .eql n0 n) (scmp .eql s0 s)))=true:=vl_ne hO hval2
   refine qU ?_
   repeat' first|(revert hK K;refine qV0 ?_;intro K hK)|(refine GFork.mk (fun _=>qQ ?_) fun _=>qQ ?_)|(simp only[c1,c2,c3,e1,e2];try cbv)|(with_reducible refine ndC ?h ?_;case h=>first | exact hidm | exact hidw | exact hidn | exact ham | exact haw | rfl)|(refine qG ?_;refine qD hP h1 ?_;rintro res bx ⟨rfl,rfl⟩;refine qC ?_)
   all_goals exact hR _ _ ⟨false,⟨fun h=>(by cases h),fun h=>absurd h (hbad (.inr hval2))⟩,rfl,rfl⟩
 ·have hie:i=N:=by omega
  have c1:cmp .lss (Int.ofNat i) (Int.ofNat (len ml))=false:=by rw[lm];cases hO;simp[Ops.std,sCm];omega
  refine qU ?_
  repeat' first|(revert hK K;refine qV0 ?_;intro K hK)|(refine GFork.mk (fun _=>qQ ?_) fun _=>qQ ?_)|(simp only[c1];try cbv)
  exact hR _ _ ⟨true,⟨fun _=>TabP.all htw (by rw[<-hN,<-hie];exact g2),fun _=>rfl⟩,rfl,rfl⟩
theorem c_sameTable (l:List Ce) (cl:List (List T)) (hcl:cl=l.map Ce.t) (hl:l.length<=1048576) (vl tl fl fd ot:List (List T)) (line:ByteArray) (nr fuel stop fault exit:Int) (trap:Bool)
  (t:List Me) (ml:List (List T)) (hml:ml=t.map Me.t) (w:List En) (wl:List (List T)) (hwl:wl=w.map En.t) (name:ByteArray) (ht:t.length<=1048576) (hw:w.length<=1048576) :
  ACl Tryz.prog 41 [⟨.agg,[.lit (.string name),.ro true wl]⟩,⟨.agg,[.ro true cl,.ro true vl,.ro true tl,.ro true fl,.lit (.string line),.ro true fd,.lit (.int .i64 nr),.ro true ot,.lit (.int .i64 fuel),.lit (.int .i64 stop),.lit (.int .i64 fault),.lit (.int .i64 exit),.lit (.bool trap)]⟩,⟨.agg,[.ro true ml]⟩] []
  (fun res bx=>∃b:Bool,(b=true↔TabSame l t w)/\res=litB b/\bx=[]):=by
 have hval:=fun i=>c_ValAt_impl l cl hcl hl i;refine qF tyK Tryz.func41 48 [.tmp 6] ?_;unhygienic intros;obtain ⟨pc,hpc⟩:=qX ([.ro true cl,.ro true vl,.ro true tl,.ro true fl,.lit (.string line),.ro true fd,.lit (.int .i64 nr),.ro true ot,.lit (.int .i64 fuel),.lit (.int .i64 stop),.lit (.int .i64 fault),.lit (.int .i64 exit),.lit (.bool trap)]:List A);obtain ⟨N,hN⟩:=qX t.length;obtain ⟨M,hM2⟩:=qX w.length
 have lm:len ml=N:=lnO hO (by simp[hml,hN])
 have lw:len wl=M:=lnO hO (by simp[hwl,hM2])
 have ham:all ml 2:=alO hO (by rw[hml];simp[Me.t_len])
 have haw:all wl 4:=alO hO (by rw[hwl];simp[En.t_len])
 by_cases hNM:N=M
 rotate_left
 ·have hno:¬TabSame l t w:=fun h=>hNM (by rw[hN,hM2];exact h.1)
  have c0:cmp .neq (Int.ofNat (len wl)) (Int.ofNat (len ml))=true:=by rw[lm,lw];cases hO;simp[Ops.std,sCm];omega
  refine qU ?_
  repeat' first|(revert hK K;refine qV0 ?_;intro K hK)|(refine GFork.mk (fun _=>qQ ?_) fun _=>qQ ?_)|(simp only[c0];try cbv)
  all_goals exact hR _ _ ⟨false,⟨fun h=>(by cases h),fun h=>absurd h hno⟩,rfl,rfl⟩
 have c0:cmp .neq (Int.ofNat (len wl)) (Int.ofNat (len ml))=false:=by rw[lm,lw];cases hO;simp[Ops.std,sCm,hNM]
 have htw:t.length=w.length:=by rw[<-hN,<-hM2,hNM]
 subst hNM;refine qU ?_
 repeat' first|(revert hK K;refine qV0 ?_;intro K hK)|(refine GFork.mk (fun _=>qQ ?_) fun _=>qQ ?_)|(simp only[c0];try cbv)
 simp only[lw];refine qL 3 [3,4,5,17,18,19] kk0 (invTb pc [.lit (.string name),.ro true wl] [.ro true ml] wl l t w) ?_ ?_
 ·cbv
  exact ⟨_,0,by rw[hpc,<-hN];cbv,by simp,TabP.zero l t w,rfl⟩
 rintro m σ ⟨i,rfl,g1,g2,rfl⟩;rw[<-hN] at g1 |-;rw[hpc]
 by_cases hlt:i < N
 ·have c1:cmp .lss (Int.ofNat i) (Int.ofNat N)=true:=by   cases hO;simp[Ops.std,sCm,hlt]
  have e:bin .add .i64 (Int.ofNat i) 1=_:=iSc hO (by omega)
  have hidm:idx (Int.ofNat i) (len ml):=lm ▸ ixN hO hlt;have hidw:idx (Int.ofNat i) (len wl):=lw ▸ ixN hO hlt;have hidn:idx (Int.ofNat i) N:=ixN hO hlt;obtain ⟨a,ha⟩:∃y,t[i]?=some y:=⟨_,List.getElem?_eq_getElem (hN ▸ hlt)⟩;obtain ⟨b,hb⟩:∃y,w[i]?=some y:=⟨_,List.getElem?_eq_getElem (hM2 ▸ hlt)⟩;have e1:get ml (nat (Int.ofNat i))=[T.lit (.string a.key),.lit (.int .i64 a.ref)]:=by
   have:get ml (nat (Int.ofNat i))=a.t:=by cases hO;rw[hml];simp[Ops.std,ha]
   exact this
  have e2:get wl (nat (Int.ofNat i))=[T.lit (.string b.key),.lit (.int .i64 b.v.k),.lit (.int .i64 b.v.n),.lit (.string b.v.s)]:=by
   have:get wl (nat (Int.ofNat i))=b.t:=by cases hO;rw[hwl];simp[Ops.std,hb]
   exact this
  obtain ⟨k0,n0,s0,hv⟩:∃k n s,valAt l a.ref=⟨k,n,s⟩:=⟨_,_,_,rfl⟩;have h1:=acI (hval a.ref) (R':=fun res bx=>res=⟨.agg,[.lit (.int .i64 k0),.lit (.int .i64 n0),.lit (.string s0)]⟩/\bx=[]) (fun res bx ⟨k,n,s,h,e1,e2⟩=>by
   rw[hv] at h;cases h;exact ⟨e1,e2⟩)
  have hnext:=fun (h1:a.key=b.key) (h2:valAt l a.ref=b.v)=>TabP.succ g2 ha hb h1 h2;have hbad:a.key≠b.key\/valAt l a.ref≠b.v->¬TabSame l t w:=fun h h'=>by
   obtain ⟨x1,x2⟩:=h'.2 i a b ha hb;exact h.elim (fun h=>h x1) (fun h=>h x2)
  rw[hv] at hnext hbad;obtain ⟨ak,ar⟩:=a;obtain ⟨bk,⟨k,n,s⟩⟩:=b;simp only at e1 e2 h1 hnext hbad hv
  by_cases hkey:ak=bk
  rotate_left
  ·have c2:scmp .neq bk ak=true:=by cases hO;simp[Ops.std,scmp_neq,hkey,Ne.symm hkey]
   refine qU ?_
   repeat' first|(revert hK K;refine qV0 ?_;intro K hK)|(refine GFork.mk (fun _=>qQ ?_) fun _=>qQ ?_)|(simp only[c1,c2,e1,e2];try cbv)|(with_reducible refine ndC ?h ?_;case h=>first | exact hidm | exact hidw | exact hidn | exact ham | exact haw | rfl)
   all_goals exact hR _ _ ⟨false,⟨fun h=>(by cases h),fun h=>absurd h (hbad (.inl hkey))⟩,rfl,rfl⟩
  have c2:scmp .neq bk ak=false:=by cases hO;simp only[Ops.std,scmp_neq];simp[hkey]
  by_cases hval2:(⟨k0,n0,s0⟩:Vl)=⟨k,n,s⟩
  ·have c3:bnot (band (cmp .eql k k0) (band (cmp .eql n n0) (scmp .eql s s0)))=false:=vl_eq hO hval2.symm
   refine qU ?_
   repeat' first|(revert hK K;refine qV0 ?_;intro K hK)|(refine GFork.mk (fun _=>qQ ?_) fun _=>qQ ?_)|(simp only[c1,c2,c3,e1,e2];try cbv)|(with_reducible refine ndC ?h ?_;case h=>first | exact hidm | exact hidw | exact hidn | exact ham | exact haw | rfl)|(refine qG ?_;refine qD hP h1 ?_;rintro res bx ⟨rfl,rfl⟩;refine qC ?_)
   all_goals (rw[e];exact ⟨N - (i+1),by omega,i+1,by (try rw[hpc]);(try rw[hN]);cbv,by omega,hnext hkey hval2,by rw[hN]⟩)
  ·have c3:bnot (band (cmp .eql k k0) (band (cmp .eql n n0) (scmp .eql s s0)))=true:=vl_ne hO (Ne.symm hval2)
   refine qU ?_
   repeat' first|(revert hK K;refine qV0 ?_;intro K hK)|(refine GFork.mk (fun _=>qQ ?_) fun _=>qQ ?_)|(simp only[c1,c2,c3,e1,e2];try cbv)|(with_reducible refine ndC ?h ?_;case h=>first | exact hidm | exact hidw | exact hidn | exact ham | exact haw | rfl)|(refine qG ?_;refine qD hP h1 ?_;rintro res bx ⟨rfl,rfl⟩;refine qC ?_)
   all_goals exact hR _ _ ⟨false,⟨fun h=>(by cases h),fun h=>absurd h (hbad (.inr hval2))⟩,rfl,rfl⟩
 ·have hie:i=N:=by omega
  have c1:cmp .lss (Int.ofNat i) (Int.ofNat N)=false:=by   cases hO;simp[Ops.std,sCm];omega
  refine qU ?_
  repeat' first|(revert hK K;refine qV0 ?_;intro K hK)|(refine GFork.mk (fun _=>qQ ?_) fun _=>qQ ?_)|(simp only[c1];try cbv)
  exact hR _ _ ⟨true,⟨fun _=>TabP.all htw (by rw[<-hN,<-hie];exact g2),fun _=>rfl⟩,rfl,rfl⟩
def invEqS (at_ bt:List (List T)) (a b:List ByteArray) (N:Nat) (σ:AS):Prop:=
 ∃(i:Nat),σ=⟨vag 26 [(0,⟨.one,[.ro true at_]⟩),(1,⟨.one,[.ro true bt]⟩),(12,litI (Int.ofNat a.length)),(13,litI (Int.ofNat i))],[],1⟩/\i<=a.length/\a.take i=b.take i/\N=a.length - i
theorem c_EqualStr (a b:List ByteArray) (at_ bt:List (List T)) (hat:at_=strs a) (hbt:bt=strs b) (ha:a.length<=1048576):ACl Tryz.prog 82 [⟨.one,[.ro true at_]⟩,⟨.one,[.ro true bt]⟩] [] (fun res bx=>∃c:Bool,(c=true↔a=b)/\res=litB c/\bx=[]):=by
 refine qF tyK Tryz.func82 26 [.tmp 4] ?_;unhygienic intros;obtain ⟨N,hN⟩:=qX a.length;obtain ⟨M,hM2⟩:=qX b.length;have lm:len at_=N:=lnO hO (by simp[hat,hN])
 have lw:len bt=M:=lnO hO (by simp[hbt,hM2])
 have haa:all at_ 1:=alO hO (by rw[hat];exact strs_all a)
 have hab:all bt 1:=alO hO (by rw[hbt];exact strs_all b)
 by_cases hNM:N=M
 rotate_left
 ·have c0:cmp .neq (Int.ofNat (len at_)) (Int.ofNat (len bt))=true:=by rw[lm,lw];cases hO;simp[Ops.std,sCm];omega
  refine qU ?_
  repeat' first|(revert hK K;refine qV0 ?_;intro K hK)|(refine GFork.mk (fun _=>qQ ?_) fun _=>qQ ?_)|(simp only[c0];try cbv)
  all_goals exact hR _ _ ⟨false,⟨fun h=>(by cases h),fun h=>absurd (by rw[hN,hM2,h]) hNM⟩,rfl,rfl⟩
 have c0:cmp .neq (Int.ofNat (len at_)) (Int.ofNat (len bt))=false:=by rw[lm,lw];cases hO;simp[Ops.std,sCm,hNM]
 have hab':a.length=b.length:=by rw[<-hN,<-hM2,hNM]
 subst hNM;refine qU ?_
 repeat' first|(revert hK K;refine qV0 ?_;intro K hK)|(refine GFork.mk (fun _=>qQ ?_) fun _=>qQ ?_)|(simp only[c0];try cbv)
 simp only[lm];refine qL 0 [0,1,12,13] kk0 (invEqS at_ bt a b) ?_ ?_
 ·cbv
  exact ⟨_,0,by rw[<-hN];cbv,by simp,rfl,rfl⟩
 rintro m σ ⟨i,rfl,g1,g2,rfl⟩;rw[<-hN] at g1 |-
 by_cases hlt:i < N
 ·have c1:cmp .lss (Int.ofNat i) (Int.ofNat N)=true:=by cases hO;simp[Ops.std,sCm,hlt]
  have e:bin .add .i64 (Int.ofNat i) 1=_:=iSc hO (by omega)
  have hidm:idx (Int.ofNat i) (len at_):=lm ▸ ixN hO hlt;have hidw:idx (Int.ofNat i) (len bt):=lw ▸ ixN hO hlt;have hidn:idx (Int.ofNat i) N:=ixN hO hlt;obtain ⟨x,hx⟩:∃y,a[i]?=some y:=⟨_,List.getElem?_eq_getElem (hN ▸ hlt)⟩;obtain ⟨y,hy⟩:∃y,b[i]?=some y:=⟨_,List.getElem?_eq_getElem (hM2 ▸ hlt)⟩;have e1:get at_ (nat (Int.ofNat i))=[T.lit (.string x)]:=by cases hO;rw[hat];simp[Ops.std,strs,hx]
  have e2:get bt (nat (Int.ofNat i))=[T.lit (.string y)]:=by cases hO;rw[hbt];simp[Ops.std,strs,hy]
  have t1:a.take (i+1)=a.take i++[x]:=by rw[List.take_add_one,hx];rfl
  have t2:b.take (i+1)=b.take i++[y]:=by rw[List.take_add_one,hy];rfl
  by_cases hxy:x=y
  ·have c2:scmp .neq x y=false:=by cases hO;simp only[Ops.std,scmp_neq];simp[hxy]
   refine qU ?_
   repeat' first|(revert hK K;refine qV0 ?_;intro K hK)|(refine GFork.mk (fun _=>qQ ?_) fun _=>qQ ?_)|(simp only[c1,c2,e1,e2];try cbv)|(with_reducible refine ndC ?h ?_;case h=>first | exact hidm | exact hidw | exact hidn | exact haa | exact hab | rfl)
   all_goals (rw[e];exact ⟨N - (i+1),by omega,i+1,by (try rw[hN]);cbv,by omega,by rw[t1,t2,g2,hxy],by rw[hN]⟩)
  ·have c2:scmp .neq x y=true:=by cases hO;simp[Ops.std,scmp_neq,hxy]
   refine qU ?_
   repeat' first|(revert hK K;refine qV0 ?_;intro K hK)|(refine GFork.mk (fun _=>qQ ?_) fun _=>qQ ?_)|(simp only[c1,c2,e1,e2];try cbv)|(with_reducible refine ndC ?h ?_;case h=>first | exact hidm | exact hidw | exact hidn | exact haa | exact hab | rfl)
   all_goals exact hR _ _ ⟨false,⟨fun h=>(by cases h),fun h=>absurd (by rw[h,hy] at hx;exact (Option.some.inj hx).symm) hxy⟩,rfl,rfl⟩
 ·have hie:i=N:=by omega
  have c1:cmp .lss (Int.ofNat i) (Int.ofNat N)=false:=by cases hO;simp[Ops.std,sCm];omega
  refine qU ?_
  repeat' first|(revert hK K;refine qV0 ?_;intro K hK)|(refine GFork.mk (fun _=>qQ ?_) fun _=>qQ ?_)|(simp only[c1];try cbv)
  exact hR _ _ ⟨true,⟨fun _=>by rw[List.take_of_length_le (by omega),List.take_of_length_le (by omega)] at g2;exact g2,fun _=>rfl⟩,rfl,rfl⟩
theorem c_sameRec (la lb:ByteArray) (a b:List ByteArray) (at_ bt:List (List T)) (hat:at_=strs a) (hbt:bt=strs b) (ha:a.length<=1048576):ACl Tryz.prog 37 [⟨.agg,[.lit (.string la),.ro true at_]⟩,⟨.agg,[.lit (.string lb),.ro true bt]⟩] [] (fun res bx=>∃c:Bool,(c=true↔la=lb/\a=b)/\res=litB c/\bx=[]):=by
 have h1:=c_EqualStr a b at_ bt hat hbt ha;refine qF tyK Tryz.func37 17 [.tmp 4] ?_;unhygienic intros
 by_cases hl:la=lb
 ·have c2:scmp .eql la lb=true:=by cases hO;simp[Ops.std,sqL,hl]
  refine qU ?_
  repeat' first|(revert hK K;refine qV0 ?_;intro K hK)|(refine GFork.mk (fun _=>qQ ?_) fun _=>qQ ?_)|(simp only[c2];try cbv)|(refine qG ?_;refine qD hP h1 ?_;rintro res bx ⟨b1,hb1,rfl,rfl⟩;refine qC ?_)
  all_goals exact hR _ _ ⟨b1,⟨fun h=>⟨hl,hb1.1 h⟩,fun h=>hb1.2 h.2⟩,rfl,rfl⟩
 ·have c2:scmp .eql la lb=false:=by cases hO;simp[Ops.std,sqL,hl]
  refine qU ?_
  repeat' first|(revert hK K;refine qV0 ?_;intro K hK)|(refine GFork.mk (fun _=>qQ ?_) fun _=>qQ ?_)|(simp only[c2];try cbv)|(refine qG ?_;refine qD hP h1 ?_;rintro res bx ⟨b1,hb1,rfl,rfl⟩;refine qC ?_)
  all_goals exact hR _ _ ⟨false,⟨fun h=>(by cases h),fun h=>absurd h.1 hl⟩,rfl,rfl⟩
def VarP (l:List Ce) (xs:List Int) (vs:List Nm) (n:Nat):Prop:=∀(i:Nat) a b,i < n->xs[i]?=some a->vs[i]?=some b->valAt l a=b.v
def TbsP (l:List Ce) (ts:List Mt) (ws:List Tb) (n:Nat):Prop:=∀(i:Nat) a b,i < n->ts[i]?=some a->ws[i]?=some b->TabSame l a.l b.l
def EnvSame (l:List Ce) (xs:List Int) (ts:List Mt) (vs:List Nm) (ws:List Tb):Prop:=vs.length=xs.length/\ws.length=ts.length/\VarP l xs vs vs.length/\TbsP l ts ws ws.length
theorem VarP.zero (l:List Ce) (t:List Int) (w:List Nm):VarP l t w 0:=fun i a b h=>absurd h (Nat.not_lt_zero i)
theorem VarP.succ {l:List Ce} {t:List Int} {w:List Nm} {n:Nat} {a:Int} {b:Nm} (h:VarP l t w n) (ha:t[n]?=some a) (hb:w[n]?=some b) (h2:valAt l a=b.v):VarP l t w (n+1):=by
 intro i a' b' hi ha' hb'
 by_cases hin:i=n
 ·subst hin
  rw[ha] at ha';rw[hb] at hb';cases ha';cases hb';exact h2
 ·exact h i a' b' (by omega) ha' hb'
theorem TbsP.zero (l:List Ce) (t:List Mt) (w:List Tb):TbsP l t w 0:=fun i a b h=>absurd h (Nat.not_lt_zero i)
theorem TbsP.succ {l:List Ce} {t:List Mt} {w:List Tb} {n:Nat} {a:Mt} {b:Tb} (h:TbsP l t w n) (ha:t[n]?=some a) (hb:w[n]?=some b) (h2:TabSame l a.l b.l):TbsP l t w (n+1):=by
 intro i a' b' hi ha' hb'
 by_cases hin:i=n
 ·subst hin
  rw[ha] at ha';rw[hb] at hb';cases ha';cases hb';exact h2
 ·exact h i a' b' (by omega) ha' hb'
def invLeA (pe pc:List A) (l:List Ce) (xs:List Int) (vs:List Nm) (N:Nat) (σ:AS):Prop:=
 ∃(i:Nat),σ=⟨vag 65 [(2,⟨.one,[.ptr 0 0]⟩),(3,⟨.one,[.ptr 1 0]⟩),(5,litI (Int.ofNat i))],[some pe,some pc],1⟩/\i<=vs.length/\VarP l xs vs i/\N=vs.length - i
def invLeB (pe pc:List A) (l:List Ce) (ts:List Mt) (ws:List Tb) (N:Nat) (σ:AS):Prop:=
 ∃(i:Nat),σ=⟨vag 65 [(2,⟨.one,[.ptr 0 0]⟩),(3,⟨.one,[.ptr 1 0]⟩),(6,litI (Int.ofNat i))],[some pe,some pc],1⟩/\i<=ws.length/\TbsP l ts ws i/\N=ws.length - i
theorem c_l27Env (l:List Ce) (cl:List (List T)) (hcl:cl=l.map Ce.t) (hl:l.length<=1048576) (xs:List Int) (vl:List (List T)) (hvl:vl=xs.map intT) (ts:List Mt) (tl:List (List T)) (htl:tl=ts.map Mt.t) (fl fd ot:List (List T)) (line:ByteArray) (nr fuel stop fault exit:Int) (trap:Bool)
  (vs:List Nm) (nl:List (List T)) (hnl:nl=vs.map Nm.t) (ws:List Tb) (bl:List (List T)) (hbl:bl=ws.map Tb.t) (h1l:vs.length<=1048576) (h2l:ws.length<=1048576) (hts:∀a∈ts,a.l.length<=1048576) (hws:∀a∈ws,a.l.length<=1048576) :
  ACl Tryz.prog 26 [⟨.agg,[.ro true nl,.ro true bl]⟩,⟨.agg,[.ro true cl,.ro true vl,.ro true tl,.ro true fl,.lit (.string line),.ro true fd,.lit (.int .i64 nr),.ro true ot,.lit (.int .i64 fuel),.lit (.int .i64 stop),.lit (.int .i64 fault),.lit (.int .i64 exit),.lit (.bool trap)]⟩] []
  (fun res bx=>∃b:Bool,(b=true↔EnvSame l xs ts vs ws)/\res=litB b/\bx=[]):=by
 have hval:=fun i=>c_ValAt_spec l cl hcl hl i;have htab:=fun t ml hml w wl hwl name ht hw=>c_l27Table l cl hcl hl vl tl fl fd ot line nr fuel stop fault exit trap t ml hml w wl hwl name ht hw;refine qF tyK Tryz.func26 65 [.tmp 4] ?_;unhygienic intros;have hbn:∀c:Bool,bnot c=!c:=fun c=>by cases hO;rfl
 obtain ⟨pc,hpc⟩:=qX ([.ro true cl,.ro true vl,.ro true tl,.ro true fl,.lit (.string line),.ro true fd,.lit (.int .i64 nr),.ro true ot,.lit (.int .i64 fuel),.lit (.int .i64 stop),.lit (.int .i64 fault),.lit (.int .i64 exit),.lit (.bool trap)]:List A);obtain ⟨N,hN⟩:=qX vs.length;obtain ⟨M,hM2⟩:=qX ws.length;obtain ⟨N',hN'⟩:=qX xs.length;obtain ⟨M',hM'⟩:=qX ts.length;have ln:len nl=N:=lnO hO (by simp[hnl,hN])
 have lb:len bl=M:=lnO hO (by simp[hbl,hM2])
 have lv:len vl=N':=lnO hO (by simp[hvl,hN'])
 have lt:len tl=M':=lnO hO (by simp[htl,hM'])
 have an:all nl 4:=alO hO (by rw[hnl];simp[Nm.t_len])
 have ab:all bl 2:=alO hO (by rw[hbl];simp[Tb.t_len])
 have av:all vl 1:=alO hO (by rw[hvl];simp[intT_len])
 have at_:all tl 1:=alO hO (by rw[htl];simp[Mt.t_len])
 have n1:cmp .neq (Int.ofNat (len nl)) (Int.ofNat (len vl))=true↔N≠N':=by rw[ln,lv];cases hO;simp[Ops.std,sCm];omega
 have n2:cmp .neq (Int.ofNat (len bl)) (Int.ofNat (len tl))=true↔M≠M':=by rw[lb,lt];cases hO;simp[Ops.std,sCm];omega
 by_cases hq1:N=N'
 rotate_left
 ·have c1:cmp .neq (Int.ofNat (len nl)) (Int.ofNat (len vl))=true:=n1.2 hq1
  refine qU ?_
  repeat' first|(revert hK K;refine qV0 ?_;intro K hK)|(refine GFork.mk (fun _=>qQ ?_) fun _=>qQ ?_)|(simp only[c1];try cbv)
  all_goals exact hR _ _ ⟨false,⟨fun h=>(by cases h),fun h=>absurd (by rw[hN,hN'];exact h.1) hq1⟩,rfl,rfl⟩
 have c1:cmp .neq (Int.ofNat (len nl)) (Int.ofNat (len vl))=false:=by cases h:cmp .neq (Int.ofNat (len nl)) (Int.ofNat (len vl)) with
  | false=>rfl
  | true=>exact absurd hq1 (n1.1 h)
 by_cases hq2:M=M'
 rotate_left
 ·have c2:cmp .neq (Int.ofNat (len bl)) (Int.ofNat (len tl))=true:=n2.2 hq2
  refine qU ?_
  repeat' first|(revert hK K;refine qV0 ?_;intro K hK)|(refine GFork.mk (fun _=>qQ ?_) fun _=>qQ ?_)|(simp only[c1,c2];try cbv)
  all_goals exact hR _ _ ⟨false,⟨fun h=>(by cases h),fun h=>absurd (by rw[hM2,hM'];exact h.2.1) hq2⟩,rfl,rfl⟩
 have c2:cmp .neq (Int.ofNat (len bl)) (Int.ofNat (len tl))=false:=by cases h:cmp .neq (Int.ofNat (len bl)) (Int.ofNat (len tl)) with
  | false=>rfl
  | true=>exact absurd hq2 (n2.1 h)
 have hvx:vs.length=xs.length:=by rw[<-hN,<-hN',hq1]
 have hwt:ws.length=ts.length:=by rw[<-hM2,<-hM',hq2]
 subst hq1;subst hq2;refine qU ?_
 repeat' first|(revert hK K;refine qV0 ?_;intro K hK)|(refine GFork.mk (fun _=>qQ ?_) fun _=>qQ ?_)|(simp only[c1,c2];try cbv)
 refine qL 2 [2,3,5] kk0 (invLeA [.ro true nl,.ro true bl] pc l xs vs) ?_ ?_
 ·cbv
  exact ⟨_,0,by rw[hpc];cbv,by simp,VarP.zero l xs vs,rfl⟩
 rintro m σ ⟨i,rfl,g1,g2,rfl⟩;rw[<-hN] at g1 |-;rw[hpc]
 by_cases hlt:i < N
 ·have c3:cmp .lss (Int.ofNat i) (Int.ofNat (len nl))=true:=by rw[ln];cases hO;simp[Ops.std,sCm,hlt]
  have e:bin .add .i64 (Int.ofNat i) 1=_:=iSc hO (by omega)
  have hidm:idx (Int.ofNat i) (len nl):=ln ▸ ixN hO hlt;have hidw:idx (Int.ofNat i) (len vl):=lv ▸ ixN hO hlt;have hidn:idx (Int.ofNat i) N:=ixN hO hlt;obtain ⟨a,ha⟩:∃y,xs[i]?=some y:=⟨_,List.getElem?_eq_getElem (hN' ▸ hlt)⟩;obtain ⟨b,hb⟩:∃y,vs[i]?=some y:=⟨_,List.getElem?_eq_getElem (hN ▸ hlt)⟩;have e1:get vl (nat (Int.ofNat i))=[T.lit (.int .i64 a)]:=by cases hO;rw[hvl];simp[Ops.std,ha,intT]
  have e2:get nl (nat (Int.ofNat i))=[T.lit (.string b.name),.lit (.int .i64 b.v.k),.lit (.int .i64 b.v.n),.lit (.string b.v.s)]:=by
   have:get nl (nat (Int.ofNat i))=b.t:=by cases hO;rw[hnl];simp[Ops.std,hb]
   exact this
  obtain ⟨k0,n0,s0,hv⟩:∃k n s,valAt l a=⟨k,n,s⟩:=⟨_,_,_,rfl⟩;have h1:=acI (hval a) (R':=fun res bx=>res=⟨.agg,[.lit (.int .i64 k0),.lit (.int .i64 n0),.lit (.string s0)]⟩/\bx=[]) (fun res bx ⟨k,n,s,h,e1,e2⟩=>by
   rw[hv] at h;cases h;exact ⟨e1,e2⟩)
  have hnext:=fun (h2:valAt l a=b.v)=>VarP.succ g2 ha hb h2;have hbad:valAt l a≠b.v->¬EnvSame l xs ts vs ws:=fun h h'=>h (h'.2.2.1 i a b (by omega) ha hb)
  rw[hv] at hnext hbad;obtain ⟨bk,⟨k,n,s⟩⟩:=b;simp only at e1 e2 h1 hnext hbad hv
  by_cases hval2:(⟨k0,n0,s0⟩:Vl)=⟨k,n,s⟩
  ·have c4:bnot (band (cmp .eql k0 k) (band (cmp .eql n0 n) (scmp .eql s0 s)))=false:=vl_eq hO hval2
   refine qU ?_
   repeat' first|(revert hK K;refine qV0 ?_;intro K hK)|(refine GFork.mk (fun _=>qQ ?_) fun _=>qQ ?_)|(simp only[c3,c4,e1,e2];try cbv)|(with_reducible refine ndC ?h ?_;case h=>first | exact hidm | exact hidw | exact hidn | exact an | exact av | rfl)|(refine qG ?_;refine qD hP h1 ?_;rintro res bx ⟨rfl,rfl⟩;refine qC ?_)
   all_goals (rw[e];exact ⟨N - (i+1),by omega,i+1,by (try rw[hpc]);cbv,by omega,hnext hval2,by rw[hN]⟩)
  ·have c4:bnot (band (cmp .eql k0 k) (band (cmp .eql n0 n) (scmp .eql s0 s)))=true:=vl_ne hO hval2
   refine qU ?_
   repeat' first|(revert hK K;refine qV0 ?_;intro K hK)|(refine GFork.mk (fun _=>qQ ?_) fun _=>qQ ?_)|(simp only[c3,c4,e1,e2];try cbv)|(with_reducible refine ndC ?h ?_;case h=>first | exact hidm | exact hidw | exact hidn | exact an | exact av | rfl)|(refine qG ?_;refine qD hP h1 ?_;rintro res bx ⟨rfl,rfl⟩;refine qC ?_)
   all_goals exact hR _ _ ⟨false,⟨fun h=>(by cases h),fun h=>absurd h (hbad hval2)⟩,rfl,rfl⟩
 have hie:i=N:=by omega
 have c3:cmp .lss (Int.ofNat i) (Int.ofNat (len nl))=false:=by rw[ln];cases hO;simp[Ops.std,sCm];omega
 have hV:VarP l xs vs vs.length:=by rw[<-hN,<-hie];exact g2
 refine qU ?_
 repeat' first|(revert hK K;refine qV0 ?_;intro K hK)|(refine GFork.mk (fun _=>qQ ?_) fun _=>qQ ?_)|(simp only[c3];try cbv)
 clear c3;refine qL 2 [2,3,6] kk0 (invLeB [.ro true nl,.ro true bl] pc l ts ws) ?_ ?_
 ·cbv
  exact ⟨_,0,by rw[hpc];cbv,by simp,TbsP.zero l ts ws,rfl⟩
 clear g1 g2 hie;rintro m σ ⟨i,rfl,g1,g2,rfl⟩;rw[<-hM2] at g1 |-;rw[hpc]
 by_cases hlt:i < M
 ·have c3:cmp .lss (Int.ofNat i) (Int.ofNat (len bl))=true:=by rw[lb];cases hO;simp[Ops.std,sCm,hlt]
  have e:bin .add .i64 (Int.ofNat i) 1=_:=iSc hO (by omega)
  have hidm:idx (Int.ofNat i) (len bl):=lb ▸ ixN hO hlt;have hidw:idx (Int.ofNat i) (len tl):=lt ▸ ixN hO hlt;have hidn:idx (Int.ofNat i) M:=ixN hO hlt;obtain ⟨a,ha⟩:∃y,ts[i]?=some y:=⟨_,List.getElem?_eq_getElem (hM' ▸ hlt)⟩;obtain ⟨b,hb⟩:∃y,ws[i]?=some y:=⟨_,List.getElem?_eq_getElem (hM2 ▸ hlt)⟩;obtain ⟨ml,hml⟩:=qX (a.l.map Me.t);obtain ⟨wl,hwl⟩:=qX (b.l.map En.t);have e1:get tl (nat (Int.ofNat i))=[.sl ml]:=by
   have:get tl (nat (Int.ofNat i))=a.t:=by cases hO;rw[htl];simp[Ops.std,ha]
   rw[hml];exact this
  have e2:get bl (nat (Int.ofNat i))=[T.lit (.string b.name),.sl wl]:=by
   have:get bl (nat (Int.ofNat i))=b.t:=by cases hO;rw[hbl];simp[Ops.std,hb]
   rw[hwl];exact this
  have h1:=htab a.l ml hml b.l wl hwl b.name (hts a (List.mem_of_getElem? ha)) (hws b (List.mem_of_getElem? hb));have hnext:=fun (h2:TabSame l a.l b.l)=>TbsP.succ g2 ha hb h2;have hbad:¬TabSame l a.l b.l->¬EnvSame l xs ts vs ws:=fun h h'=>h (h'.2.2.2 i a b (by omega) ha hb)
  generalize TabSame l a.l b.l=q at *;generalize b.name=bn at *;refine qU ?_
  repeat' first|(revert hK K;refine qV0 ?_;intro K hK)|(refine GFork.mk (fun _=>qQ ?_) fun _=>qQ ?_)|(simp only[c3,e1,e2];try cbv)|(with_reducible refine ndC ?h ?_;case h=>first | exact hidm | exact hidw | exact hidn | exact ab | exact at_ | rfl)|(refine qG ?_;refine qD hP h1 ?_;rintro res bx ⟨b1,hb1,rfl,rfl⟩;refine qC ?_)
  ·have hbt:bnot b1=true:=by assumption
   rw[hbn] at hbt;have hq:¬q:=fun h=>by rw[hb1.2 h] at hbt;cases hbt
   exact hR _ _ ⟨false,⟨fun h=>(by cases h),fun h=>absurd h (hbad hq)⟩,rfl,rfl⟩
  ·have hbt:bnot b1=false:=by assumption
   rw[hbn] at hbt;have hq:q:=hb1.1 (by simpa using hbt)
   rw[e];exact ⟨M - (i+1),by omega,i+1,by (try rw[hpc]);cbv,by omega,hnext hq,by rw[hM2]⟩
 ·have hie:i=M:=by omega
  have c3:cmp .lss (Int.ofNat i) (Int.ofNat (len bl))=false:=by rw[lb];cases hO;simp[Ops.std,sCm];omega
  refine qU ?_
  repeat' first|(revert hK K;refine qV0 ?_;intro K hK)|(refine GFork.mk (fun _=>qQ ?_) fun _=>qQ ?_)|(simp only[c3];try cbv)
  exact hR _ _ ⟨true,⟨fun _=>⟨hvx,hwt,hV,by rw[<-hM2,<-hie];exact g2⟩,fun _=>rfl⟩,rfl,rfl⟩
end Go.Gv
