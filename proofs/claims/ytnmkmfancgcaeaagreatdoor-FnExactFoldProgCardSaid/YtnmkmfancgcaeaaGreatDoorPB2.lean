/- Part PB2 of the proof: contracts of functions of the program, each walked once. -/
import Derived.Test.YtnmkmfancgcaeaaGreatDoorPD7
import Derived.Test.YtnmkmfancgcaeaaGreatDoorPB1
import Derived.Shelf.Strings.OnBuilder
set_option linter.all false
namespace Go.Gv
open Go.Av Go.Proofs Go.Shelf Go.RowKit
set_option maxRecDepth 10000
set_option maxHeartbeats 4000000
def inv24 (s:ByteArray) (i e:Nat) (z:ByteArray) (N:Nat) (σ:AS):Prop:=
 ∃(j:Nat) (bad:Bool) (xs:List Rx) (xl:List (List T)),σ=⟨vag 44 [(0,⟨.one,[.ptr 0 0]⟩),(2,⟨.one,[.ptr 1 0]⟩),(3,⟨.one,[.ow (0,0) false 3 xl]⟩)],[rdI s j (Int.ofNat e) bad,some [.lit (.int .i64 0),.lit (.string z),.nil]],1⟩/\
  xl=xs.map Rx.t/\i<=j/\j<=s.size+1/\xs.length+i<=j+1/\(bad=false->j<=s.size/\(xs≠[]->i < j)/\xs.length+i<=j)/\(∀x∈xs,x.Wf)/\(e<=9->CatI (9 - e) ((toL s).drop i) xs bad ((toL s).drop j))/\
  N=(s.size+1 - j)+(if bad=true then 0 else 1)
theorem QW0 (L:Nat) (hI:ReadI 182 mItem 9 L):ReadI 169 mCat 9 L:=by
 refine ReadI.of fun s i e hs hi hL he=>?_;have hItem:=fun (j:Nat) (h1:i<=j) (h2:j<=s.size)=>hI.opened s j e hs h2 (by omega) he
 clear hI;refine qF tyK Tryz.func169 44 [.cell 2 137] ?_;unhygienic intros
 have hnt:bnot true=false:=by cases hO;rfl
 have hnf:bnot false=true:=by cases hO;rfl
 revert hK K;refine qW 1 ?_;intro K hK;refine qL 2 [0,2,3] (fun r _=>if r=.slot 3 then some 3 else none) (inv24 s i e ⟨⟨[]⟩⟩) ?_ ?_
 ·cbv
  exact ⟨_,i,false,[],[],by cbv,rfl,Nat.le_refl _,by omega,by simp,fun _=>⟨hi,by simp,by simp⟩,by simp,fun _=>KQ0,rfl⟩
 rintro m σ ⟨j,bad,xs,xl,rfl,hxl,g1,g2,g3,g5,g6,g7,rfl⟩;cases bad
 ·obtain ⟨ci,hci⟩:=qX (Int.ofNat (zL0 s j).toNat)
  have hk:∀k:UInt8,ci=Int.ofNat k.toNat↔zL0 s j=k:=fun k=>by rw[hci,vG0];exact ⟨fun h=>Int.ofNat.inj h,fun h=>by rw[h]⟩
  have h0:ci=0↔zL0 s j=0:=hk 0;have h124:ci=124↔zL0 s j=124:=hk 124;have h41:ci=41↔zL0 s j=41:=hk 41;have hcase:((toL s).drop j=[]/\zL0 s j=0)\/((toL s).drop j=zL0 s j::(toL s).drop (j+1)):=by
   unfold zL0;cases h2:(toL s)[j]? with
   | none=>exact .inl ⟨List.drop_eq_nil_of_le (List.getElem?_eq_none_iff.1 h2),rfl⟩
   | some c=>exact .inr (drop_cons h2)
  have hnext:ACl Tryz.prog 170 [⟨.one,[.ptr 0 0]⟩] [rdI s j (Int.ofNat e) false] (fun res bx=>res=litU ci/\bx=[rdI s j (Int.ofNat e) false]):=
   acI (jB0 s j (Int.ofNat e) false) fun res bx ⟨b,h1,h2,h3⟩=>⟨by rw[h2,h1,hci],h3⟩
  clear hk hci;revert hK K;refine qW 1 ?_;intro K hK;simp only[hnf];revert hK K;refine qW 1 ?_;intro K hK;refine qg (nN [0]) ?_;refine qC ?_;refine qD hP hnext ?_;rintro res bx ⟨rfl,rfl⟩;refine qC ?_;refine GFork.mk (fun h5=>?_) (fun h5=>?_)<;>cbv
  ·have n0:ci≠0:=qv5
   have m0:zL0 s j≠0:=fun h=>n0 (h0.2 h);have hdr:=hcase.resolve_left fun h=>m0 h.2;clear h5 hcase h0 n0;revert hK K;refine qW 1 ?_;intro K hK;refine qg (nN [0]) ?_;refine qC ?_;refine qD hP hnext ?_;rintro res bx ⟨rfl,rfl⟩;refine qC ?_;refine GFork.mk (fun h5=>?_) (fun h5=>?_)<;>cbv
   ·have n124:ci≠124:=qv5
    have m124:zL0 s j≠124:=fun h=>n124 (h124.2 h);clear h5 h124 n124;revert hK K;refine qW 1 ?_;intro K hK;refine qg (nN [0]) ?_;refine qC ?_;refine qD hP hnext ?_;rintro res bx ⟨rfl,rfl⟩;refine qC ?_;revert hK K;refine qW 1 ?_;intro K hK;refine nC rfl (fun h5=>?_) (fun h5=>?_)
    ·have n41:ci≠41:=qv5
     have m41:zL0 s j≠41:=fun h=>n41 (h41.2 h);clear h5 h41 n41 hnext;obtain ⟨g8,g9,g10⟩:=g5 rfl;revert hK K;refine qW 1 ?_;intro K hK;refine qg (nN [0]) ?_;refine qC ?_;refine qD hP (hItem j g1 g8) ?_;rintro res bx ⟨x,k,sx,xl0,j',bad,qt,q1,q2,q3,q4,q5,rfl,rfl⟩;refine qC ?_;obtain ⟨xl',hxl'⟩:=qX ((xs++[x]).map Rx.t);have happ:app xl [[T.lit (.int .i64 k),T.lit (.string sx),T.sl xl0]]=xl':=by rw[hxl'];exact XH0 hO hxl x qt
     have haok:∀b,b<=64->aOk b xl [[T.lit (.int .i64 k),T.lit (.string sx),T.sl xl0]]:=fun b hb=>gW0 hO (by
      have:(xl.length+1) * b<=1099511627778 * 64:=Nat.mul_le_mul (by rw[hxl,List.length_map];omega) hb
      simp only[List.length_cons,List.length_nil,Nat.zero_add] at this |-;omega) (by rw[hxl,List.length_map];simp only[List.length_cons,List.length_nil];omega)
     have hnew:=fun he=>ZX0 (g7 he) hdr m124 m41 (q5 he);have hmeas:(s.size+1 - j')+(if bad=true then 0 else 1) < (s.size+1 - j)+1:=by
      cases bad
      ·have:=(q4 rfl).1;have:=(q4 rfl).2;simp only[Bool.false_eq_true,if_false];omega
      ·simp only[if_true];omega
     revert hK K;refine qW 1 ?_;intro K hK;simp only[happ];refine ndC (alO hO (by simp)) (ndC (haok _ (by decide)) (ndN ?_))
     revert hK K;refine qW 1 ?_;intro K hK;exact ⟨_,hmeas,j',bad,xs++[x],xl',by cbv,hxl',by omega,q3,by simp only[List.length_append,List.length_cons,List.length_nil];omega,fun h=>by have:=q4 h;refine ⟨this.2,fun _=>by omega,?_⟩;simp only[List.length_append,List.length_cons,List.length_nil];omega,fun y hy=>by
      rcases List.mem_append.1 hy with hy | hy
      ·exact g6 y hy
      ·obtain rfl:=List.mem_singleton.1 hy;exact q1,hnew,rfl⟩
    ·have y41:ci=41:=qv5
     have hend:false=true\/(toL s).drop j=[]\/∃c r,(toL s).drop j=c::r/\(c=124\/c=41\/c=0):=.inr (.inr ⟨_,_,hdr,.inr (.inl (h41.1 y41))⟩);clear h5 h41;obtain ⟨n,hn⟩:=qX xs.length;have hln:len xl=n:=lnO hO (by simp[hxl,hn])
     revert hK K;refine qW 1 ?_;intro K hK;simp only[hln];refine nC rfl (fun h5=>?_) (fun h5=>?_)
     ·have h6:n=0:=qv5
      obtain rfl:=List.length_eq_zero_iff.1 (hn.symm.trans h6);revert hK K;refine qW 1 ?_;intro K hK
      try cbv
      exact hR _ _ ⟨.mk 0 e0 [],j,true,⟨zH0 (by decide),g1,g2,fun h=>by simp at h,fun he=>nV0 (g7 he) hend⟩,by rw[zD0];rfl,rfl⟩
     have h7:n≠0:=qv5;have hxne:xs≠[]:=fun h=>h7 (by rw[hn,h];rfl)
     clear h5;have hfin:=fun he=>wY0 (g7 he) hend;have hgo:false=false->i < j/\j<=s.size:=fun h=>⟨(g5 h).2.1 hxne,(g5 h).1⟩;revert hK K;refine qW 1 ?_;intro K hK;refine nC rfl (fun h5=>?_) (fun h5=>?_)
     ·have h6:n=1:=qw5
      obtain ⟨x,rfl⟩:∃x,xs=[x]:=List.length_eq_one_iff.1 (hn.symm.trans h6);obtain ⟨x',hx1,hx2,hx3,e1⟩:=mpA hO hxl (i:=0) (by simp)
      obtain rfl:x=x':=by simpa using hx2
      have hidx:idx 0 (len xl):=by rw[hln,h6];exact ixN hO (i:=0) (n:=1) (by omega)
      have hidx':idx (Int.ofNat (nadd 0 (nat 0))) (len xl):=by cases hO;exact hidx
      have ha:all xl 3:=alO hO (by subst hxl;simp[Rx.t_len])
      have e2:get xl (nadd 0 (nat 0))=x.t:=by cases hO;exact e1
      have hwx:=g6 x List.mem_cons_self;rw[yA0] at hfin;obtain ⟨k,sx,l⟩:=x;rw[Rx.t_mk] at e2;generalize hxl':l.map Rx.t=xl' at e2;revert hK K;refine qW 1 ?_;intro K hK
      repeat (simp only[e2];cbv)
      repeat' (with_reducible first | refine ndC hidx ?_ | refine ndC hidx' ?_ | refine ndC ha ?_ | refine ndC True.intro ?_ | apply ndN)
      revert hK K;refine qW 1 ?_;intro K hK
      try cbv
      exact hR _ _ ⟨.mk k sx l,j,false,⟨hwx,g1,g2,hgo,hfin⟩,by rw[Rx.t_mk,hxl'];rfl,rfl⟩
     ·have h6':n≠1:=qw5
      have h6:xs.length≠1:=hn ▸ h6';have hw:=xT0 (k:=4) (xs:=xs) (by omega) g6
      rw[zR0 h6] at hfin hw;revert hK K;refine qW 1 ?_;intro K hK
      try cbv
      exact hR _ _ ⟨.mk 4 e0 xs,j,false,⟨hw,g1,g2,hgo,hfin⟩,by rw[Rx.t_mk,<-hxl];rfl,rfl⟩
   ·have y124:ci=124:=qv5
    have hend:false=true\/(toL s).drop j=[]\/∃c r,(toL s).drop j=c::r/\(c=124\/c=41\/c=0):=.inr (.inr ⟨_,_,hdr,.inl (h124.1 y124)⟩);clear h5 h124;obtain ⟨n,hn⟩:=qX xs.length;have hln:len xl=n:=lnO hO (by simp[hxl,hn])
    revert hK K;refine qW 1 ?_;intro K hK;simp only[hln];refine nC rfl (fun h5=>?_) (fun h5=>?_)
    ·have h6:n=0:=qv5
     obtain rfl:=List.length_eq_zero_iff.1 (hn.symm.trans h6);revert hK K;refine qW 1 ?_;intro K hK
     try cbv
     exact hR _ _ ⟨.mk 0 e0 [],j,true,⟨zH0 (by decide),g1,g2,fun h=>by simp at h,fun he=>nV0 (g7 he) hend⟩,by rw[zD0];rfl,rfl⟩
    have h7:n≠0:=qv5;have hxne:xs≠[]:=fun h=>h7 (by rw[hn,h];rfl)
    clear h5;have hfin:=fun he=>wY0 (g7 he) hend;have hgo:false=false->i < j/\j<=s.size:=fun h=>⟨(g5 h).2.1 hxne,(g5 h).1⟩;revert hK K;refine qW 1 ?_;intro K hK;refine nC rfl (fun h5=>?_) (fun h5=>?_)
    ·have h6:n=1:=qw5
     obtain ⟨x,rfl⟩:∃x,xs=[x]:=List.length_eq_one_iff.1 (hn.symm.trans h6);obtain ⟨x',hx1,hx2,hx3,e1⟩:=mpA hO hxl (i:=0) (by simp)
     obtain rfl:x=x':=by simpa using hx2
     have hidx:idx 0 (len xl):=by rw[hln,h6];exact ixN hO (i:=0) (n:=1) (by omega)
     have hidx':idx (Int.ofNat (nadd 0 (nat 0))) (len xl):=by cases hO;exact hidx
     have ha:all xl 3:=alO hO (by subst hxl;simp[Rx.t_len])
     have e2:get xl (nadd 0 (nat 0))=x.t:=by cases hO;exact e1
     have hwx:=g6 x List.mem_cons_self;rw[yA0] at hfin;obtain ⟨k,sx,l⟩:=x;rw[Rx.t_mk] at e2;generalize hxl':l.map Rx.t=xl' at e2;revert hK K;refine qW 1 ?_;intro K hK
     repeat (simp only[e2];cbv)
     repeat' (with_reducible first | refine ndC hidx ?_ | refine ndC hidx' ?_ | refine ndC ha ?_ | refine ndC True.intro ?_ | apply ndN)
     revert hK K;refine qW 1 ?_;intro K hK
     try cbv
     exact hR _ _ ⟨.mk k sx l,j,false,⟨hwx,g1,g2,hgo,hfin⟩,by rw[Rx.t_mk,hxl'];rfl,rfl⟩
    ·have h6':n≠1:=qw5
     have h6:xs.length≠1:=hn ▸ h6';have hw:=xT0 (k:=4) (xs:=xs) (by omega) g6
     rw[zR0 h6] at hfin hw;revert hK K;refine qW 1 ?_;intro K hK
     try cbv
     exact hR _ _ ⟨.mk 4 e0 xs,j,false,⟨hw,g1,g2,hgo,hfin⟩,by rw[Rx.t_mk,<-hxl];rfl,rfl⟩
  ·have y0:ci=0:=qv5
   have hend:false=true\/(toL s).drop j=[]\/∃c r,(toL s).drop j=c::r/\(c=124\/c=41\/c=0):=by
    rcases hcase with h | h
    ·exact .inr (.inl h.1)
    ·exact .inr (.inr ⟨_,_,h,.inr (.inr (h0.1 y0))⟩)
   clear h5 h0 hcase;obtain ⟨n,hn⟩:=qX xs.length;have hln:len xl=n:=lnO hO (by simp[hxl,hn])
   revert hK K;refine qW 1 ?_;intro K hK;simp only[hln];refine nC rfl (fun h5=>?_) (fun h5=>?_)
   ·have h6:n=0:=qv5
    obtain rfl:=List.length_eq_zero_iff.1 (hn.symm.trans h6);revert hK K;refine qW 1 ?_;intro K hK
    try cbv
    exact hR _ _ ⟨.mk 0 e0 [],j,true,⟨zH0 (by decide),g1,g2,fun h=>by simp at h,fun he=>nV0 (g7 he) hend⟩,by rw[zD0];rfl,rfl⟩
   have h7:n≠0:=qv5;have hxne:xs≠[]:=fun h=>h7 (by rw[hn,h];rfl)
   clear h5;have hfin:=fun he=>wY0 (g7 he) hend;have hgo:false=false->i < j/\j<=s.size:=fun h=>⟨(g5 h).2.1 hxne,(g5 h).1⟩;revert hK K;refine qW 1 ?_;intro K hK;refine nC rfl (fun h5=>?_) (fun h5=>?_)
   ·have h6:n=1:=qw5
    obtain ⟨x,rfl⟩:∃x,xs=[x]:=List.length_eq_one_iff.1 (hn.symm.trans h6);obtain ⟨x',hx1,hx2,hx3,e1⟩:=mpA hO hxl (i:=0) (by simp)
    obtain rfl:x=x':=by simpa using hx2
    have hidx:idx 0 (len xl):=by rw[hln,h6];exact ixN hO (i:=0) (n:=1) (by omega)
    have hidx':idx (Int.ofNat (nadd 0 (nat 0))) (len xl):=by cases hO;exact hidx
    have ha:all xl 3:=alO hO (by subst hxl;simp[Rx.t_len])
    have e2:get xl (nadd 0 (nat 0))=x.t:=by cases hO;exact e1
    have hwx:=g6 x List.mem_cons_self;rw[yA0] at hfin;obtain ⟨k,sx,l⟩:=x;rw[Rx.t_mk] at e2;generalize hxl':l.map Rx.t=xl' at e2;revert hK K;refine qW 1 ?_;intro K hK
    repeat (simp only[e2];cbv)
    repeat' (with_reducible first | refine ndC hidx ?_ | refine ndC hidx' ?_ | refine ndC ha ?_ | refine ndC True.intro ?_ | apply ndN)
    revert hK K;refine qW 1 ?_;intro K hK
    try cbv
    exact hR _ _ ⟨.mk k sx l,j,false,⟨hwx,g1,g2,hgo,hfin⟩,by rw[Rx.t_mk,hxl'];rfl,rfl⟩
   ·have h6':n≠1:=qw5
    have h6:xs.length≠1:=hn ▸ h6';have hw:=xT0 (k:=4) (xs:=xs) (by omega) g6
    rw[zR0 h6] at hfin hw;revert hK K;refine qW 1 ?_;intro K hK
    try cbv
    exact hR _ _ ⟨.mk 4 e0 xs,j,false,⟨hw,g1,g2,hgo,hfin⟩,by rw[Rx.t_mk,<-hxl];rfl,rfl⟩
 ·have hend:true=true\/(toL s).drop j=[]\/∃c r,(toL s).drop j=c::r/\(c=124\/c=41\/c=0):=.inl rfl
  revert hK K;refine qW 1 ?_;intro K hK;simp only[hnt];obtain ⟨n,hn⟩:=qX xs.length;have hln:len xl=n:=lnO hO (by simp[hxl,hn])
  revert hK K;refine qW 1 ?_;intro K hK;simp only[hln];refine nC rfl (fun h5=>?_) (fun h5=>?_)
  ·have h6:n=0:=qv5
   obtain rfl:=List.length_eq_zero_iff.1 (hn.symm.trans h6);revert hK K;refine qW 1 ?_;intro K hK
   try cbv
   exact hR _ _ ⟨.mk 0 e0 [],j,true,⟨zH0 (by decide),g1,g2,fun h=>by simp at h,fun he=>nV0 (g7 he) hend⟩,by rw[zD0];rfl,rfl⟩
  have h7:n≠0:=qv5;have hxne:xs≠[]:=fun h=>h7 (by rw[hn,h];rfl)
  clear h5;have hfin:=fun he=>wY0 (g7 he) hend;have hgo:true=false->i < j/\j<=s.size:=fun h=>⟨(g5 h).2.1 hxne,(g5 h).1⟩;revert hK K;refine qW 1 ?_;intro K hK;refine nC rfl (fun h5=>?_) (fun h5=>?_)
  ·have h6:n=1:=qw5
   obtain ⟨x,rfl⟩:∃x,xs=[x]:=List.length_eq_one_iff.1 (hn.symm.trans h6);obtain ⟨x',hx1,hx2,hx3,e1⟩:=mpA hO hxl (i:=0) (by simp)
   obtain rfl:x=x':=by simpa using hx2
   have hidx:idx 0 (len xl):=by rw[hln,h6];exact ixN hO (i:=0) (n:=1) (by omega)
   have hidx':idx (Int.ofNat (nadd 0 (nat 0))) (len xl):=by cases hO;exact hidx
   have ha:all xl 3:=alO hO (by subst hxl;simp[Rx.t_len])
   have e2:get xl (nadd 0 (nat 0))=x.t:=by cases hO;exact e1
   have hwx:=g6 x List.mem_cons_self;rw[yA0] at hfin;obtain ⟨k,sx,l⟩:=x;rw[Rx.t_mk] at e2;generalize hxl':l.map Rx.t=xl' at e2;revert hK K;refine qW 1 ?_;intro K hK
   repeat (simp only[e2];cbv)
   repeat' (with_reducible first | refine ndC hidx ?_ | refine ndC hidx' ?_ | refine ndC ha ?_ | refine ndC True.intro ?_ | apply ndN)
   revert hK K;refine qW 1 ?_;intro K hK
   try cbv
   exact hR _ _ ⟨.mk k sx l,j,true,⟨hwx,g1,g2,hgo,hfin⟩,by rw[Rx.t_mk,hxl'];rfl,rfl⟩
  ·have h6':n≠1:=qw5
   have h6:xs.length≠1:=hn ▸ h6';have hw:=xT0 (k:=4) (xs:=xs) (by omega) g6
   rw[zR0 h6] at hfin hw;revert hK K;refine qW 1 ?_;intro K hK
   try cbv
   exact hR _ _ ⟨.mk 4 e0 xs,j,true,⟨hw,g1,g2,hgo,hfin⟩,by rw[Rx.t_mk,<-hxl];rfl,rfl⟩
set_option maxHeartbeats 8000000
theorem JH0 (s:ByteArray) (i:Nat) (e:Int):ACl Tryz.prog 169 [⟨.one,[.ptr 0 0]⟩] [rdI s i e true] (fun res bx=>res=⟨.agg,[.lit (.int .i64 0),.lit (.string ⟨⟨[]⟩⟩),.ro true []]⟩/\bx=[rdI s i e true]):=by
 refine acI (ACl.ro (R:=fun res bx=>res=⟨.agg,[.lit (.int .i64 0),.lit (.string ⟨⟨[]⟩⟩),.nil]⟩/\bx=[rdI s i e true]) ?_) ?_
 ·refine qF tyK Tryz.func169 44 [.cell 2 137] ?_;unhygienic intros
  have hnt:bnot true=false:=by cases hO;rfl
  revert hK K;refine qW 1 ?_;intro K hK;refine nL (nb:=2) (keep:=fun t=>t == 0 || t == 2 || t == 3) (kk:=fun _ _=>none) (fun N σ=>N=0/\σ=⟨vag 44 [(0,⟨.one,[.ptr 0 0]⟩),(2,⟨.one,[.ptr 1 0]⟩),(3,⟨.one,[.nil]⟩)],[rdI s i e true,some [.lit (.int .i64 0),.lit (.string ⟨⟨[]⟩⟩),.nil]],1⟩) (by simp at hC;simp[hC]) ?_ ?_
  ·cbv
   exact ⟨_,rfl,by cbv⟩
  rintro m σ ⟨rfl,rfl⟩;revert hK K;refine qW 1 ?_;intro K hK;simp only[hnt];revert hK K;refine qW 1 ?_;intro K hK;refine nC rfl (fun h5=>?_) (fun h5=>?_)
  ·revert hK K;refine qW 1 ?_;intro K hK
   exact hR _ _ ⟨rfl,rfl⟩
  ·have hF:False:=by
    clear hM hP hC hR;try clear hK K
    cases hO;simp only[Ops.std,sCm,wF0,sqL,yZ0,rK0,Int.ofNat_eq_natCast] at *;simp at h5
   exact hF.elim
 ·rintro res bx ⟨r0,⟨rfl,h⟩,rfl⟩
  exact ⟨rfl,h⟩
def vM1 (s:ByteArray) (i e e1:Nat) (z:ByteArray) (N:Nat) (σ:AS):Prop:=
 ∃(j:Nat) (bad:Bool) (xs:List Rx) (xl:List (List T)),σ=⟨vag 59 [(0,⟨.one,[.ptr 0 0]⟩),(2,⟨.one,[.ptr 1 0]⟩),(3,⟨.one,[.ow (0,0) false 3 xl]⟩)],[rdI s j (Int.ofNat e1) bad,some [.lit (.int .i64 0),.lit (.string z),.nil]],1⟩/\
  xl=xs.map Rx.t/\i<=j/\j<=s.size+1/\xs.length+i<=j+1/\(bad=false->i < j/\j<=s.size)/\(∀x∈xs,x.Wf)/\(e<=8->AltI (8 - e) ((toL s).drop i) xs bad ((toL s).drop j))/\(bad=false->e1<=40)/\
  N=s.size+1 - j
theorem QY0 (L:Nat) (hC:ReadI 169 mCat 9 L):ReadI 159 mAlt 8 L:=by
 refine ReadI.of fun s i e hs hi hL he=>?_;obtain ⟨e1,he1⟩:=qX (e+1);have hCat:=fun (j:Nat) (h0:e1<=40) (h1:i<=j) (h2:j<=s.size)=>hC.opened s j e1 hs h2 (by omega) h0
 clear hC;refine qF tyK Tryz.func159 59 [.cell 2 137] ?_;unhygienic intros
 have hnt:bnot true=false:=by cases hO;rfl
 have hnf:bnot false=true:=by cases hO;rfl
 have ee:bin .add .i64 (Int.ofNat e) 1=_:=iSc hO (by omega)
 rw[<-he1] at ee;have es:bin .sub .i64 (Int.ofNat e1) 1=Int.ofNat e:=by rw[he1];cases hO;simp only[Ops.std,wF0,Int.ofNat_eq_natCast];rw[yV0 (by omega)];omega
 revert hK K;refine qW 1 ?_;intro K hK;simp only[ee];revert hK K;refine qW 1 ?_;intro K hK;refine nC rfl (fun h1=>?_) (fun h1=>?_)
 ·have h40:40 < e1:=qw1
  clear h1;have hbad:ACl Tryz.prog 169 [⟨.one,[.ptr 0 0]⟩] [rdI s i (Int.ofNat e1) true] (fun res bx=>∃(x:Rx) (k:Int) (sx:ByteArray) (xl:List (List T)) (j:Nat) (bad:Bool),x.t=[.lit (.int .i64 k),.lit (.string sx),.sl xl]/\x.Wf/\i<=j/\j<=s.size+1/\
    (bad=false->i < j/\j<=s.size)/\bad=true/\res=⟨.agg,[.lit (.int .i64 k),.lit (.string sx),.ro true xl]⟩/\bx=[rdI s j (Int.ofNat e1) bad]):=
   acI (JH0 s i (Int.ofNat e1)) fun res bx ⟨h1,h2⟩=>⟨.mk 0 e0 [],0,e0,[],i,true,by rw[Rx.t_mk];rfl,zH0 (by decide),Nat.le_refl _,by omega,fun h=>by simp at h,rfl,h1,h2⟩
  revert hK K;refine qW 1 ?_;intro K hK;refine qg (nN [0]) ?_;refine qC ?_;refine qD hP hbad ?_;rintro res bx ⟨x,k,sx,xl0,j,bad,qt,q1,q2,q3,q4,q7,rfl,rfl⟩;refine qC ?_;have q6:bad=false->e1<=40:=fun h=>by rw[h] at q7;simp at q7
  have q5:e<=8->CatP (8 - e) ((toL s).drop i) x bad ((toL s).drop j):=fun h=>by omega
  clear q7 hbad;revert hK K;refine qW 1 ?_;intro K hK;refine qL 2 [0,2,3] kk0 (vM1 s i e e1 ⟨⟨[]⟩⟩) ?_ ?_
  ·cbv
   exact ⟨_,j,bad,[x],_,by cbv,by rw[<-qt];rfl,q2,q3,by simp;omega,q4,by simpa using q1,fun he=>dV0 (q5 he),q6,rfl⟩
  clear q1 q2 q3 q4 q5 q6 qt x;rintro m σ ⟨j,bad,xs,xl,rfl,hxl,g1,g2,g3,g5,g6,g7,g8,rfl⟩;cases bad
  ·obtain ⟨g5',g5''⟩:=g5 rfl
   obtain ⟨ci,hci⟩:=qX (Int.ofNat (zL0 s j).toNat);have hk:∀k:UInt8,ci=Int.ofNat k.toNat↔zL0 s j=k:=fun k=>by rw[hci,vG0];exact ⟨fun h=>Int.ofNat.inj h,fun h=>by rw[h]⟩
   have h124:ci=124↔zL0 s j=124:=hk 124;have hcase:((toL s).drop j=[]/\zL0 s j=0)\/((toL s).drop j=zL0 s j::(toL s).drop (j+1)/\j < s.size):=by
    unfold zL0;cases h2:(toL s)[j]? with
    | none=>exact .inl ⟨List.drop_eq_nil_of_le (List.getElem?_eq_none_iff.1 h2),rfl⟩
    | some c=>exact .inr ⟨drop_cons h2,by have:=(List.getElem?_eq_some_iff.1 h2).1;rwa[zG0] at this⟩
   have hnext:ACl Tryz.prog 170 [⟨.one,[.ptr 0 0]⟩] [rdI s j (Int.ofNat e1) false] (fun res bx=>res=litU ci/\bx=[rdI s j (Int.ofNat e1) false]):=
    acI (jB0 s j (Int.ofNat e1) false) fun res bx ⟨b,h1,h2,h3⟩=>⟨by rw[h2,h1,hci],h3⟩
   clear hk hci;revert hK K;refine qW 1 ?_;intro K hK;simp only[hnf];revert hK K;refine qW 1 ?_;intro K hK;refine qg (nN [0]) ?_;refine qC ?_;refine qD hP hnext ?_;rintro res bx ⟨rfl,rfl⟩;refine qC ?_;revert hK K;refine qW 1 ?_;intro K hK;refine nC rfl (fun h5=>?_) (fun h5=>?_)
   ·have y124:ci=124:=qv5
    have m124:=h124.1 y124;have hd:=hcase.resolve_left fun h=>absurd (m124.symm.trans h.2) (by decide)
    rw[m124] at hd;obtain ⟨hdr,hlt⟩:=hd;have ej:bin .add .i64 (Int.ofNat j) 1=_:=iSc hO (by omega)
    obtain ⟨j1,hj1⟩:=qX (j+1);rw[<-hj1] at ej hdr;clear h5 h124 hcase hnext y124 m124;revert hK K;refine qW 1 ?_;intro K hK;simp only[ej];revert hK K;refine qW 1 ?_;intro K hK;refine qg (nN [0]) ?_;refine qC ?_;refine qD hP (hCat j1 (g8 rfl) (by omega) (by omega)) ?_;rintro res bx ⟨x,k,sx,xl0,j',bad,qt,q1,q2,q3,q4,q5,rfl,rfl⟩;refine qC ?_
    obtain ⟨xl',hxl'⟩:=qX ((xs++[x]).map Rx.t);have happ:app xl [[T.lit (.int .i64 k),T.lit (.string sx),T.sl xl0]]=xl':=by rw[hxl'];exact XH0 hO hxl x qt
    have haok:∀b,b<=64->aOk b xl [[T.lit (.int .i64 k),T.lit (.string sx),T.sl xl0]]:=fun b hb=>gW0 hO (by
     have:(xl.length+1) * b<=1099511627778 * 64:=Nat.mul_le_mul (by rw[hxl,List.length_map];omega) hb
     simp only[List.length_cons,List.length_nil,Nat.zero_add] at this |-;omega) (by rw[hxl,List.length_map];simp only[List.length_cons,List.length_nil];omega)
    revert hK K;refine qW 1 ?_;intro K hK;simp only[happ];refine ndC (alO hO (by simp)) (ndC (haok _ (by decide)) (ndN ?_))
    revert hK K;refine qW 1 ?_;intro K hK;exact ⟨s.size+1 - j',by omega,j',bad,xs++[x],xl',by cbv,hxl',by omega,q3,by simp only[List.length_append,List.length_cons,List.length_nil];omega,fun h=>by have:=q4 h;omega,fun y hy=>by
     rcases List.mem_append.1 hy with hy | hy
     ·exact g6 y hy
     ·obtain rfl:=List.mem_singleton.1 hy;exact q1,fun he=>jL0 (g7 he) hdr (by have:=q5 (by omega);rwa[show 9 - e1=8 - e by omega] at this),fun _=>g8 rfl,rfl⟩
   ·have y124:ci≠124:=qv5
    have hend:false=true\/∀r,(toL s).drop j≠124::r:=.inr fun r hr=>by
     rcases hcase with h | h
     ·rw[h.1] at hr;simp at hr
     ·rw[h.1] at hr
      exact y124 (h124.2 (List.cons.inj hr).1)
    clear h5 h124 hcase hnext y124;have hfin:=fun he=>qP0 (g7 he) hend;obtain ⟨n,hn⟩:=qX xs.length;have hln:len xl=n:=lnO hO (by simp[hxl,hn])
    revert hK K;refine qW 1 ?_;intro K hK;simp only[es];revert hK K;refine qW 1 ?_;intro K hK;simp only[hln];refine nC rfl (fun h5=>?_) (fun h5=>?_)
    ·have h6:n=1:=qw5
     obtain ⟨x,rfl⟩:∃x,xs=[x]:=List.length_eq_one_iff.1 (hn.symm.trans h6);obtain ⟨x',hx1,hx2,hx3,e1'⟩:=mpA hO hxl (i:=0) (by simp)
     obtain rfl:x=x':=by simpa using hx2
     have hidx:idx 0 (len xl):=by rw[hln,h6];exact ixN hO (i:=0) (n:=1) (by omega)
     have hidx':idx (Int.ofNat (nadd 0 (nat 0))) (len xl):=by cases hO;exact hidx
     have ha:all xl 3:=alO hO (by subst hxl;simp[Rx.t_len])
     have e2:get xl (nadd 0 (nat 0))=x.t:=by cases hO;exact e1'
     have hwx:=g6 x List.mem_cons_self;rw[yA0] at hfin;obtain ⟨k,sx,l⟩:=x;rw[Rx.t_mk] at e2;generalize hxl':l.map Rx.t=xl' at e2;revert hK K;refine qW 1 ?_;intro K hK
     repeat (simp only[e2];cbv)
     repeat' (with_reducible first | refine ndC hidx ?_ | refine ndC hidx' ?_ | refine ndC ha ?_ | refine ndC True.intro ?_ | apply ndN)
     revert hK K;refine qW 1 ?_;intro K hK
     try cbv
     exact hR _ _ ⟨.mk k sx l,j,false,⟨hwx,g1,g2,g5,hfin⟩,by rw[Rx.t_mk,hxl'];rfl,rfl⟩
    ·have h6':n≠1:=qw5
     have h6:xs.length≠1:=hn ▸ h6';have hw:=xT0 (k:=5) (xs:=xs) (by omega) g6
     rw[zR0 h6] at hfin hw;revert hK K;refine qW 1 ?_;intro K hK
     try cbv
     exact hR _ _ ⟨.mk 5 e0 xs,j,false,⟨hw,g1,g2,g5,hfin⟩,by rw[Rx.t_mk,<-hxl];rfl,rfl⟩
  ·have hend:true=true\/∀r,(toL s).drop j≠124::r:=.inl rfl
   revert hK K;refine qW 1 ?_;intro K hK;simp only[hnt];have hfin:=fun he=>qP0 (g7 he) hend;obtain ⟨n,hn⟩:=qX xs.length;have hln:len xl=n:=lnO hO (by simp[hxl,hn])
   revert hK K;refine qW 1 ?_;intro K hK;simp only[es];revert hK K;refine qW 1 ?_;intro K hK;simp only[hln];refine nC rfl (fun h5=>?_) (fun h5=>?_)
   ·have h6:n=1:=qw5
    obtain ⟨x,rfl⟩:∃x,xs=[x]:=List.length_eq_one_iff.1 (hn.symm.trans h6);obtain ⟨x',hx1,hx2,hx3,e1'⟩:=mpA hO hxl (i:=0) (by simp)
    obtain rfl:x=x':=by simpa using hx2
    have hidx:idx 0 (len xl):=by rw[hln,h6];exact ixN hO (i:=0) (n:=1) (by omega)
    have hidx':idx (Int.ofNat (nadd 0 (nat 0))) (len xl):=by cases hO;exact hidx
    have ha:all xl 3:=alO hO (by subst hxl;simp[Rx.t_len])
    have e2:get xl (nadd 0 (nat 0))=x.t:=by cases hO;exact e1'
    have hwx:=g6 x List.mem_cons_self;rw[yA0] at hfin;obtain ⟨k,sx,l⟩:=x;rw[Rx.t_mk] at e2;generalize hxl':l.map Rx.t=xl' at e2;revert hK K;refine qW 1 ?_;intro K hK
    repeat (simp only[e2];cbv)
    repeat' (with_reducible first | refine ndC hidx ?_ | refine ndC hidx' ?_ | refine ndC ha ?_ | refine ndC True.intro ?_ | apply ndN)
    revert hK K;refine qW 1 ?_;intro K hK
    try cbv
    exact hR _ _ ⟨.mk k sx l,j,true,⟨hwx,g1,g2,g5,hfin⟩,by rw[Rx.t_mk,hxl'];rfl,rfl⟩
   ·have h6':n≠1:=qw5
    have h6:xs.length≠1:=hn ▸ h6';have hw:=xT0 (k:=5) (xs:=xs) (by omega) g6
    rw[zR0 h6] at hfin hw;revert hK K;refine qW 1 ?_;intro K hK
    try cbv
    exact hR _ _ ⟨.mk 5 e0 xs,j,true,⟨hw,g1,g2,g5,hfin⟩,by rw[Rx.t_mk,<-hxl];rfl,rfl⟩
 ·have h40:e1<=40:=qw1
  clear h1;revert hK K;refine qW 1 ?_;intro K hK;refine qg (nN [0]) ?_;refine qC ?_;refine qD hP (hCat i h40 (Nat.le_refl _) hi) ?_;rintro res bx ⟨x,k,sx,xl0,j,bad,qt,q1,q2,q3,q4,q7,rfl,rfl⟩;refine qC ?_;have q6:bad=false->e1<=40:=fun _=>h40;have q5:e<=8->CatP (8 - e) ((toL s).drop i) x bad ((toL s).drop j):=fun h=>by have:=q7 (by omega);rwa[show 9 - e1=8 - e by omega] at this
  clear q7;revert hK K;refine qW 1 ?_;intro K hK;refine qL 2 [0,2,3] kk0 (vM1 s i e e1 ⟨⟨[]⟩⟩) ?_ ?_
  ·cbv
   exact ⟨_,j,bad,[x],_,by cbv,by rw[<-qt];rfl,q2,q3,by simp;omega,q4,by simpa using q1,fun he=>dV0 (q5 he),q6,rfl⟩
  clear q1 q2 q3 q4 q5 q6 qt x;rintro m σ ⟨j,bad,xs,xl,rfl,hxl,g1,g2,g3,g5,g6,g7,g8,rfl⟩;cases bad
  ·obtain ⟨g5',g5''⟩:=g5 rfl
   obtain ⟨ci,hci⟩:=qX (Int.ofNat (zL0 s j).toNat);have hk:∀k:UInt8,ci=Int.ofNat k.toNat↔zL0 s j=k:=fun k=>by rw[hci,vG0];exact ⟨fun h=>Int.ofNat.inj h,fun h=>by rw[h]⟩
   have h124:ci=124↔zL0 s j=124:=hk 124;have hcase:((toL s).drop j=[]/\zL0 s j=0)\/((toL s).drop j=zL0 s j::(toL s).drop (j+1)/\j < s.size):=by
    unfold zL0;cases h2:(toL s)[j]? with
    | none=>exact .inl ⟨List.drop_eq_nil_of_le (List.getElem?_eq_none_iff.1 h2),rfl⟩
    | some c=>exact .inr ⟨drop_cons h2,by have:=(List.getElem?_eq_some_iff.1 h2).1;rwa[zG0] at this⟩
   have hnext:ACl Tryz.prog 170 [⟨.one,[.ptr 0 0]⟩] [rdI s j (Int.ofNat e1) false] (fun res bx=>res=litU ci/\bx=[rdI s j (Int.ofNat e1) false]):=
    acI (jB0 s j (Int.ofNat e1) false) fun res bx ⟨b,h1,h2,h3⟩=>⟨by rw[h2,h1,hci],h3⟩
   clear hk hci;revert hK K;refine qW 1 ?_;intro K hK;simp only[hnf];revert hK K;refine qW 1 ?_;intro K hK;refine qg (nN [0]) ?_;refine qC ?_;refine qD hP hnext ?_;rintro res bx ⟨rfl,rfl⟩;refine qC ?_;revert hK K;refine qW 1 ?_;intro K hK;refine nC rfl (fun h5=>?_) (fun h5=>?_)
   ·have y124:ci=124:=qv5
    have m124:=h124.1 y124;have hd:=hcase.resolve_left fun h=>absurd (m124.symm.trans h.2) (by decide)
    rw[m124] at hd;obtain ⟨hdr,hlt⟩:=hd;have ej:bin .add .i64 (Int.ofNat j) 1=_:=iSc hO (by omega)
    obtain ⟨j1,hj1⟩:=qX (j+1);rw[<-hj1] at ej hdr;clear h5 h124 hcase hnext y124 m124;revert hK K;refine qW 1 ?_;intro K hK;simp only[ej];revert hK K;refine qW 1 ?_;intro K hK;refine qg (nN [0]) ?_;refine qC ?_;refine qD hP (hCat j1 (g8 rfl) (by omega) (by omega)) ?_;rintro res bx ⟨x,k,sx,xl0,j',bad,qt,q1,q2,q3,q4,q5,rfl,rfl⟩;refine qC ?_
    obtain ⟨xl',hxl'⟩:=qX ((xs++[x]).map Rx.t);have happ:app xl [[T.lit (.int .i64 k),T.lit (.string sx),T.sl xl0]]=xl':=by rw[hxl'];exact XH0 hO hxl x qt
    have haok:∀b,b<=64->aOk b xl [[T.lit (.int .i64 k),T.lit (.string sx),T.sl xl0]]:=fun b hb=>gW0 hO (by
     have:(xl.length+1) * b<=1099511627778 * 64:=Nat.mul_le_mul (by rw[hxl,List.length_map];omega) hb
     simp only[List.length_cons,List.length_nil,Nat.zero_add] at this |-;omega) (by rw[hxl,List.length_map];simp only[List.length_cons,List.length_nil];omega)
    revert hK K;refine qW 1 ?_;intro K hK;simp only[happ];refine ndC (alO hO (by simp)) (ndC (haok _ (by decide)) (ndN ?_))
    revert hK K;refine qW 1 ?_;intro K hK;exact ⟨s.size+1 - j',by omega,j',bad,xs++[x],xl',by cbv,hxl',by omega,q3,by simp only[List.length_append,List.length_cons,List.length_nil];omega,fun h=>by have:=q4 h;omega,fun y hy=>by
     rcases List.mem_append.1 hy with hy | hy
     ·exact g6 y hy
     ·obtain rfl:=List.mem_singleton.1 hy;exact q1,fun he=>jL0 (g7 he) hdr (by have:=q5 (by omega);rwa[show 9 - e1=8 - e by omega] at this),fun _=>g8 rfl,rfl⟩
   ·have y124:ci≠124:=qv5
    have hend:false=true\/∀r,(toL s).drop j≠124::r:=.inr fun r hr=>by
     rcases hcase with h | h
     ·rw[h.1] at hr;simp at hr
     ·rw[h.1] at hr
      exact y124 (h124.2 (List.cons.inj hr).1)
    clear h5 h124 hcase hnext y124;have hfin:=fun he=>qP0 (g7 he) hend;obtain ⟨n,hn⟩:=qX xs.length;have hln:len xl=n:=lnO hO (by simp[hxl,hn])
    revert hK K;refine qW 1 ?_;intro K hK;simp only[es];revert hK K;refine qW 1 ?_;intro K hK;simp only[hln];refine nC rfl (fun h5=>?_) (fun h5=>?_)
    ·have h6:n=1:=qw5
     obtain ⟨x,rfl⟩:∃x,xs=[x]:=List.length_eq_one_iff.1 (hn.symm.trans h6);obtain ⟨x',hx1,hx2,hx3,e1'⟩:=mpA hO hxl (i:=0) (by simp)
     obtain rfl:x=x':=by simpa using hx2
     have hidx:idx 0 (len xl):=by rw[hln,h6];exact ixN hO (i:=0) (n:=1) (by omega)
     have hidx':idx (Int.ofNat (nadd 0 (nat 0))) (len xl):=by cases hO;exact hidx
     have ha:all xl 3:=alO hO (by subst hxl;simp[Rx.t_len])
     have e2:get xl (nadd 0 (nat 0))=x.t:=by cases hO;exact e1'
     have hwx:=g6 x List.mem_cons_self;rw[yA0] at hfin;obtain ⟨k,sx,l⟩:=x;rw[Rx.t_mk] at e2;generalize hxl':l.map Rx.t=xl' at e2;revert hK K;refine qW 1 ?_;intro K hK
     repeat (simp only[e2];cbv)
     repeat' (with_reducible first | refine ndC hidx ?_ | refine ndC hidx' ?_ | refine ndC ha ?_ | refine ndC True.intro ?_ | apply ndN)
     revert hK K;refine qW 1 ?_;intro K hK
     try cbv
     exact hR _ _ ⟨.mk k sx l,j,false,⟨hwx,g1,g2,g5,hfin⟩,by rw[Rx.t_mk,hxl'];rfl,rfl⟩
    ·have h6':n≠1:=qw5
     have h6:xs.length≠1:=hn ▸ h6';have hw:=xT0 (k:=5) (xs:=xs) (by omega) g6
     rw[zR0 h6] at hfin hw;revert hK K;refine qW 1 ?_;intro K hK
     try cbv
     exact hR _ _ ⟨.mk 5 e0 xs,j,false,⟨hw,g1,g2,g5,hfin⟩,by rw[Rx.t_mk,<-hxl];rfl,rfl⟩
  ·have hend:true=true\/∀r,(toL s).drop j≠124::r:=.inl rfl
   revert hK K;refine qW 1 ?_;intro K hK;simp only[hnt];have hfin:=fun he=>qP0 (g7 he) hend;obtain ⟨n,hn⟩:=qX xs.length;have hln:len xl=n:=lnO hO (by simp[hxl,hn])
   revert hK K;refine qW 1 ?_;intro K hK;simp only[es];revert hK K;refine qW 1 ?_;intro K hK;simp only[hln];refine nC rfl (fun h5=>?_) (fun h5=>?_)
   ·have h6:n=1:=qw5
    obtain ⟨x,rfl⟩:∃x,xs=[x]:=List.length_eq_one_iff.1 (hn.symm.trans h6);obtain ⟨x',hx1,hx2,hx3,e1'⟩:=mpA hO hxl (i:=0) (by simp)
    obtain rfl:x=x':=by simpa using hx2
    have hidx:idx 0 (len xl):=by rw[hln,h6];exact ixN hO (i:=0) (n:=1) (by omega)
    have hidx':idx (Int.ofNat (nadd 0 (nat 0))) (len xl):=by cases hO;exact hidx
    have ha:all xl 3:=alO hO (by subst hxl;simp[Rx.t_len])
    have e2:get xl (nadd 0 (nat 0))=x.t:=by cases hO;exact e1'
    have hwx:=g6 x List.mem_cons_self;rw[yA0] at hfin;obtain ⟨k,sx,l⟩:=x;rw[Rx.t_mk] at e2;generalize hxl':l.map Rx.t=xl' at e2;revert hK K;refine qW 1 ?_;intro K hK
    repeat (simp only[e2];cbv)
    repeat' (with_reducible first | refine ndC hidx ?_ | refine ndC hidx' ?_ | refine ndC ha ?_ | refine ndC True.intro ?_ | apply ndN)
    revert hK K;refine qW 1 ?_;intro K hK
    try cbv
    exact hR _ _ ⟨.mk k sx l,j,true,⟨hwx,g1,g2,g5,hfin⟩,by rw[Rx.t_mk,hxl'];rfl,rfl⟩
   ·have h6':n≠1:=qw5
    have h6:xs.length≠1:=hn ▸ h6';have hw:=xT0 (k:=5) (xs:=xs) (by omega) g6
    rw[zR0 h6] at hfin hw;revert hK K;refine qW 1 ?_;intro K hK
    try cbv
    exact hR _ _ ⟨.mk 5 e0 xs,j,true,⟨hw,g1,g2,g5,hfin⟩,by rw[Rx.t_mk,<-hxl];rfl,rfl⟩
set_option maxRecDepth 100000
def MQ0:Go.Shelf.Ren:=⟨fun n=>match n with | 156=>188 | 165=>202 | 166=>203 | 169=>204 | 240=>211 | 241=>212 | 276=>214 | 277=>215 | n=>n,
 fun n=>match n with | 31=>60 | 37=>107 | 70=>178 | 72=>180 | 75=>183 | 76=>184 | 80=>186 | 127=>189 | 164=>192 | n=>n,fun n=>n⟩
theorem TA0:Lays.n156 Tryz.prog MQ0:=by
 constructor
 all_goals first | rfl|(intro w;rfl)
theorem vB1:Builder.Extra Tryz.prog MQ0 where
 sizeBuilder:=rfl
 liesBuilder:=by kernel_rfl
 t5:=rfl
 a5:=fun _=>rfl
 z5:=fun _=>rfl
 v5:=fun _=>rfl
 infoByte:=rfl
 cellsByte:=by kernel_rfl
 sizeByte:=rfl
 neB5:=by decide
theorem hV0 {S:Nat->Prop} {w:World} {b:Nat}:∀{l:List ByteArray} {o:Nat},RepSE S w b o (strs l)->∀j x,l[j]?=some x->w.cell? ⟨b,o+j,none⟩=some (.string x)
 | [],o,_,j,x,hj=>by simp at hj
 | y::l,o,h,j,x,hj=>by
  simp only[strs,List.map_cons,RepSE,RepSC,List.length_singleton] at h;obtain ⟨⟨⟨u,h1,h2⟩,_⟩,h3⟩:=h;cases j with
  | zero=>
   simp at hj;subst hj;simp only[RepS] at h2;rw[Nat.add_zero,h1,h2.1]
  | succ j=>
   simp at hj;have:=hV0 h3 j x hj;rwa[show o+1+j=o+(j+1) by omega] at this
theorem Keeps.of_below {O:List Nat} {w w':World} (h:Below w.heap.size w w'):Av.Keeps O w w':=⟨h.os,h.tape,h.output,h.size,fun b hb _=>h.block b hb⟩
def ZE0 (sep:ByteArray) (l:List ByteArray):ByteArray:=⟨(Lib.join (l.map (·.data.toList)) sep.data.toList).toArray⟩
theorem uC1 (sep:ByteArray) (els:List (List T)) (fields:List ByteArray) (he:els=strs fields) (hl:fields.length<=1048576) (hF:(ZE0 sep fields).size<=1099511627776) :
  ACl Tryz.prog 188 [⟨.one,[.ro true els]⟩,litS sep] [] (fun res bx=>∃s,s=ZE0 sep fields/\res=litS s/\bx=[]):=by
 intro w vals S L bl O1 O2 h1 h2 hn hsl hst hgd;obtain ⟨v1,us1,o1,o2,e1,rfl,⟨g1,g2⟩,h1⟩:=h1;obtain ⟨v2,us2,o3,o4,e2,rfl,⟨g3,g4⟩,h1⟩:=h1;obtain ⟨rfl,rfl⟩:=h1;obtain ⟨rfl,rfl⟩:=h2;rw[yK0 g1] at g2;rw[yK0 g3] at g4;obtain ⟨u,us,p1,p2,k1,rfl,⟨hr,rfl⟩,⟨_,rfl⟩⟩:=g2;obtain ⟨u',us',p3,p4,k2,rfl,⟨rfl,_,rfl⟩,⟨_,rfl⟩⟩:=g4;simp at k1 k2;obtain ⟨rfl,_⟩:=k1;obtain ⟨rfl,_⟩:=k2;subst e2;simp only[RepS] at hr
 obtain ⟨ad,cap,rfl,hcap,hne⟩:=hr;have hv:vals=#[.slice ad els.length cap,.string sep]:=by
  apply Array.ext';simpa using e1
 subst hv;have main:Calls Tryz.prog 188 #[.slice ad els.length cap,.string sep] w fun e w'=>e=.returned (.string (ZE0 sep fields))/\Below w.heap.size w w':=by
  by_cases h0:els=[]
  ·have hf0:fields=[]:=by
    cases fields with
    | nil=>rfl
    | cons a r=>rw[he] at h0;simp[strs] at h0
   subst h0;subst hf0;exact (Any.strings_Join_none TA0 vB1 ad cap sep w).mono fun e w' ⟨he,hw⟩=>⟨he,hw ▸ Below.refl _ _⟩
  ·obtain ⟨b,o,rfl,hLb,hrep⟩:=hne h0
   subst he;have hcells:=hV0 hrep;have hj:(Lib.join (fields.map (·.data.toList)) sep.data.toList).length<=140737488355328:=by
    have h2:(ZE0 sep fields).size=(Lib.join (fields.map (·.data.toList)) sep.data.toList).length:=by simp[ZE0,ByteArray.size]
    omega
   rw[UB0] at hcap |-;exact Any.strings_Join TA0 vB1 b o cap fields sep w hcells (hst b (hsl b hLb)).1 (by omega) hcap hj
 refine Calls.mono main ?_;rintro e w' ⟨rfl,hbel⟩;refine ⟨_,rfl,litS (ZE0 sep fields),[],S,[],[],[],⟨_,rfl,rfl,rfl⟩,⟨⟨rfl,rfl⟩,_,[],[],[],rfl,rfl,⟨rfl,rfl,rfl⟩,rfl,rfl⟩,⟨rfl,rfl⟩,by simp,?_,fun _ h=>h,fun _ h=>.inl h,Gv.Keeps.of_below hbel,by simp,List.prefix_rfl⟩
 intro b hb;have:=hst b (hsl b hb);exact ⟨by have:=hbel.size;omega,by simp⟩
theorem ACl.nilLast {P:Program} {f:FuncId} {a:AV} {bx:List (Option (List A))} {R:AV->List (Option (List A))->Prop} (h:ACl P f [a,⟨.one,[.ro true []]⟩] bx R):ACl P f [a,⟨.one,[.nil]⟩] bx R:=by
 intro w vals S L bl O1 O2 h1;refine h w vals S L bl O1 O2 ?_;obtain ⟨v1,us1,o1,o2,e1,e2,g1,v2,us2,o3,o4,e3,e4,⟨g3,g4⟩,h5⟩:=h1;refine ⟨v1,us1,o1,o2,e1,e2,g1,v2,us2,o3,o4,e3,e4,⟨g3,?_⟩,h5⟩;obtain ⟨u,us',p1,p2,k1,k2,⟨⟨ad,rfl⟩,rfl⟩,k4⟩:=g4;exact ⟨_,us',[],p2,k1,k2,⟨by simp only[RepS];exact ⟨ad,0,rfl,Nat.le_refl _,fun hne=>absurd rfl hne⟩,rfl⟩,k4⟩
theorem depths_le {l:List Rx} {m:Nat}:Rx.depths l<=m↔∀x∈l,x.depth<=m:=by
 induction l with
 | nil=>simp[Rx.depths]
 | cons a l ih=>rw[Rx.depths,List.forall_mem_cons,<-ih];omega
theorem partss_app:∀a b,Rx.partss (a++b)=Rx.partss a+Rx.partss b
 | [],b=>by simp[Rx.partss]
 | e::a,b=>by rw[List.cons_append,Rx.partss,Rx.partss,partss_app a b];omega
theorem partss_one (x:Rx):Rx.partss [x]=x.parts:=by simp[Rx.partss]
theorem partss_take (l:List Rx) (i:Nat):Rx.partss (l.take i)<=Rx.partss l:=by
 have:=congrArg Rx.partss (List.take_append_drop i l);rw[partss_app] at this;omega
def kN0 (l:List Rx) (d i:Nat):Prop:=(∀x∈l.take i,x.depth+(d+1)<=7)/\1+Rx.partss (l.take i)<=60
theorem ZA0 {k:Int} {s:ByteArray} {l:List Rx} {d:Nat} (hd:d<=6):kN0 l d l.length↔(Rx.mk k s l).depth+d<=7/\(Rx.mk k s l).parts<=60:=by
 unfold kN0;rw[List.take_length,Rx.depth,Rx.parts];refine and_congr_left fun _=>?_;rw[show 1+Rx.depths l+d<=7↔Rx.depths l<=6 - d by omega,depths_le]
 exact forall_congr' fun x=>forall_congr' fun _=>by omega
theorem QE0 {l:List Rx} {d i:Nat} (h:kN0 l d l.length):kN0 l d i:=by
 unfold kN0 at *;rw[List.take_length] at h;exact ⟨fun x hx=>h.1 x (List.mem_of_mem_take hx),by have:=partss_take l i;omega⟩
theorem QD0 {l:List Rx} {d i:Nat} {x:Rx} (ht:l.take (i+1)=l.take i++[x]):kN0 l d (i+1)↔kN0 l d i/\x.depth+(d+1)<=7/\1+Rx.partss (l.take i)+x.parts<=60:=by
 unfold kN0;rw[ht,partss_app,partss_one];simp only[List.mem_append,List.mem_singleton]
 constructor
 ·rintro ⟨h1,h2⟩;exact ⟨⟨fun y hy=>h1 y (.inl hy),by omega⟩,h1 x (.inr rfl),by omega⟩
 ·rintro ⟨⟨h1,h2⟩,h3,h4⟩
  refine ⟨fun y hy=>?_,by omega⟩
  rcases hy with hy | rfl
  ·exact h1 y hy
  ·exact h3
def vK1 (cs:List A) (l:List Rx) (d:Nat) (N:Nat) (σ:AS):Prop:=
 ∃(i n:Nat),σ=⟨vag 31 [(1,litI (Int.ofNat d)),(2,⟨.one,[.ptr 0 0]⟩),(5,litI (Int.ofNat n)),(6,litI (Int.ofNat i))],[some cs],1⟩/\i<=l.length/\
  1<=n/\n<=61+60 * (7 - d)/\(n<=60↔kN0 l d i)/\(n<=60->n=1+Rx.partss (l.take i))/\N=l.length - i
theorem YE0 (r:Rx):∀(d:Nat),d<=7->r.Wf->ACl Tryz.prog 178 [agT r.t,litI (Int.ofNat d)] []
  (fun res bx=>∃n:Nat,1<=n/\n<=61+60 * (7 - d)/\(n<=60↔r.depth+d<=7/\r.parts<=60)/\(n<=60->n=r.parts)/\res=litI (Int.ofNat n)/\bx=[]):=by
 obtain ⟨k,s,l⟩:=r;intro d hd hw;have ih:=fun x (hx:x∈l)=>YE0 x;have hlow:=fun h:d<=6=>ZA0 (k:=k) (s:=s) (l:=l) h;have hpar:(Rx.mk k s l).parts=1+Rx.partss l:=by rw[Rx.parts]
 have hdep:1<=(Rx.mk k s l).depth:=Rx.depth_pos _;generalize (Rx.mk k s l).depth=dep at *;generalize (Rx.mk k s l).parts=par at *;obtain ⟨hsz,hll,hwl⟩:=hw.inv;obtain ⟨xl,hxl⟩:=qX (l.map Rx.t);simp only[agT,Rx.t_mk,List.map,tA];rw[<-hxl];refine qF tyK Tryz.func178 31 [.tmp 4] ?_;unhygienic intros
 obtain ⟨N,hN⟩:=qX l.length;have hlen:len xl=N:=lnO hO (by simp[hxl,hN])
 have ha:all xl 3:=alO hO (by subst hxl;simp[Rx.t_len])
 obtain ⟨cs,hcs⟩:=qX ([.lit (.int .i64 k),.lit (.string s),.ro true xl]:List A);rw[<-hN] at hll;revert hK K;refine qW 0 ?_;intro K hK;refine nC rfl (fun h1=>?_) (fun h1=>?_)
 ·have h2:6 < d:=qw1
  revert hK K;refine qW 0 ?_;intro K hK;exact hR _ _ ⟨61,by omega,by omega,by omega,by omega,rfl,rfl⟩
 ·have h2:d<=6:=qw1
  have hlow:=hlow h2;have ed:bin .add .i64 (Int.ofNat d) 1=_:=iSc hO (by omega)
  revert hK K;refine qW 0 ?_;intro K hK;refine qL 1 [1,2,5,6] kk0 (vK1 cs l d) ?_ ?_
  ·cbv
   exact ⟨_,0,1,by (try rw[hcs]);cbv,by simp,by omega,by omega,by simp[kN0,Rx.partss],by simp[Rx.partss],rfl⟩
  rintro m σ ⟨i,n,rfl,g1,g2,g3,g4,g5,rfl⟩
  try rw[hcs]
  revert hK K;refine qW 0 ?_;intro K hK;simp only[hlen];refine GFork.mk (fun h3=>?_) (fun h3=>?_)<;>cbv
  ·have hlt:i < N:=qv3
   obtain ⟨x,hx,hx',ht,e1⟩:=mpA hO hxl (hN ▸ hlt);have e:bin .add .i64 (Int.ofNat i) 1=_:=iSc hO (by omega)
   have hidx:idx (Int.ofNat i) (len xl):=hlen ▸ ixN hO hlt;have hst:=QD0 (d:=d) ht;have hpx:=partss_app (l.take i) [x];rw[<-ht,partss_one] at hpx;have hcall:=ih x hx (d+1) (by omega) (hwl x hx)
   have hpp:=x.parts_pos;generalize x.depth=xd at *;generalize x.parts=xp at *;obtain ⟨k',s',l'⟩:=x;simp only[agT,Rx.t_mk,List.map,tA] at hcall e1;generalize l'.map Rx.t=xl' at hcall e1;revert hK K;refine qW 0 ?_;intro K hK;refine nC rfl (fun h5=>?_) (fun h5=>?_)
   ·have h60:n<=60:=qw5
    revert hK K;refine qW 0 ?_;intro K hK
    repeat (simp only[e1];cbv)
    simp only[ed];refine ndC hidx (ndC ha (ndN ?_));refine qG ?_;refine qD hP hcall ?_;rintro res bx ⟨q,q1,q2,q3,q4,rfl,rfl⟩;refine qC ?_;have e2:bin .add .i64 (Int.ofNat n) (Int.ofNat q)=_:=rF0 hO (by omega)
    generalize hm3:n+q=m3 at e2;simp only[e2];revert hK K;refine qW 0 ?_;intro K hK;rw[e];refine ⟨N - (i+1),by omega,i+1,m3,by (try rw[hcs]);cbv,by omega,by omega,by omega,?_,fun h=>?_,by rw[hN]⟩
    ·rw[hst]
     have:=g5 h60;have:=g4.1 h60
     constructor
     ·intro h
      have h7:q<=60:=by omega
      have:=q4 h7;exact ⟨g4.1 h60,(q3.1 h7).1,by omega⟩
     ·rintro ⟨_,h7,h8⟩
      have:=q3.2 ⟨h7,by omega⟩
      have:=q4 this;omega
    ·have:=g5 h60
     have:=q4 (by omega)
     omega
   ·have h60:60 < n:=qw5
    revert hK K;refine qW 0 ?_;intro K hK;refine hR _ _ ⟨n,g2,g3,⟨fun h=>by omega,fun h=>?_⟩,fun h=>by omega,rfl,rfl⟩
    exact g4.2 (QE0 (hlow.2 h))
  ·have hge:i=N:=qw3
   have hil:i=l.length:=by omega
   have e2:l.take i=l:=List.take_of_length_le (by omega)
   rw[e2] at g5;rw[hil,hlow] at g4;revert hK K;refine qW 0 ?_;intro K hK;exact hR _ _ ⟨n,g2,g3,g4,fun h=>by rw[g5 h,hpar],rfl,rfl⟩
termination_by SizeOf.sizeOf r
decreasing_by
 have:=List.sizeOf_lt_of_mem hx;simp;omega
end Go.Gv
