/- Part B24 of the proof: contracts of functions of the program, each walked once. -/
import Derived.Test.YtjeejieaalnbeaaGreatB22
import Derived.Test.YtjeejieaalnbeaaGreatB19
import Derived.Test.YtjeejieaalnbeaaGreatQ1
set_option linter.all false
namespace Go.Gv
open Go.Av Go.Proofs Go.Shelf Go.RowKit
set_option maxRecDepth 10000
set_option maxHeartbeats 4000000
def inv24 (s:ByteArray) (i e:Nat) (z:ByteArray) (N:Nat) (σ:AS):Prop:=
 ∃(j:Nat) (bad:Bool) (xs:List Rx) (xl:List (List T)),σ=⟨vag 44 [(0,⟨.one,[.ptr 0 0]⟩),(2,⟨.one,[.ptr 1 0]⟩),(3,⟨.one,[.ow (0,0) 3 xl]⟩)],[rdI s j (Int.ofNat e) bad,some [.lit (.int .i64 0),.lit (.string z),.nil]],1⟩/\
  xl=xs.map Rx.t/\i<=j/\j<=s.size+1/\xs.length+i<=j+1/\(bad=false->j<=s.size/\(xs≠[]->i < j)/\xs.length+i<=j)/\(∀x∈xs,x.Wf)/\(e<=9->CatI (9 - e) ((toL s).drop i) xs bad ((toL s).drop j))/\
  N=(s.size+1 - j)+(if bad=true then 0 else 1)
theorem c_cat_step (L:Nat) (hI:ReadI 260 mItem 9 L):ReadI 251 mCat 9 L:=by
 refine ReadI.of fun s i e hs hi hL he=>?_;have hItem:=fun (j:Nat) (h1:i<=j) (h2:j<=s.size)=>hI.opened s j e hs h2 (by omega) he
 clear hI;refine qF tyK Tryz.func251 44 [.cell 2 331] ?_;unhygienic intros;have hnt:bnot true=false:=by cases hO;rfl
 have hnf:bnot false=true:=by cases hO;rfl
 revert hK K;refine qW1 ?_;intro K hK;refine qL 2 [0,2,3] (fun r _=>if r=.slot 3 then some 3 else none) (inv24 s i e ⟨⟨[]⟩⟩) ?_ ?_
 ·cbv
  exact ⟨_,i,false,[],[],by cbv,rfl,Nat.le_refl _,by omega,by simp,fun _=>⟨hi,by simp,by simp⟩,by simp,fun _=>catI_none,rfl⟩
 rintro m σ ⟨j,bad,xs,xl,rfl,hxl,g1,g2,g3,g5,g6,g7,rfl⟩;cases bad
 ·obtain ⟨ci,hci⟩:=qX (Int.ofNat (byteOr s j).toNat)
  have hk:∀k:UInt8,ci=Int.ofNat k.toNat↔byteOr s j=k:=fun k=>by rw[hci,u8_eq];exact ⟨fun h=>Int.ofNat.inj h,fun h=>by rw[h]⟩
  have h0:ci=0↔byteOr s j=0:=hk 0;have h124:ci=124↔byteOr s j=124:=hk 124;have h41:ci=41↔byteOr s j=41:=hk 41;have hcase:((toL s).drop j=[]/\byteOr s j=0)\/((toL s).drop j=byteOr s j::(toL s).drop (j+1)):=by
   unfold byteOr;cases h2:(toL s)[j]? with
   | none=>exact .inl ⟨List.drop_eq_nil_of_le (List.getElem?_eq_none_iff.1 h2),rfl⟩
   | some c=>exact .inr (drop_cons h2)
  have hnext:ACl Tryz.prog 252 [⟨.one,[.ptr 0 0]⟩] [rdI s j (Int.ofNat e) false] (fun res bx=>res=litU ci/\bx=[rdI s j (Int.ofNat e) false]):=
   acI (c_next s j (Int.ofNat e) false) fun res bx ⟨b,h1,h2,h3⟩=>⟨by rw[h2,h1,hci],h3⟩
  clear hk hci;revert hK K;refine qW1 ?_;intro K hK;simp only[hnf];revert hK K;refine qW1 ?_;intro K hK;refine qg [0] ?_;refine qC ?_;refine qD hP hnext ?_;rintro res bx ⟨rfl,rfl⟩;refine qC ?_;refine GFork.mk (fun h5=>?_) (fun h5=>?_)<;>cbv
  ·have n0:ci≠0:=qv5
   have m0:byteOr s j≠0:=fun h=>n0 (h0.2 h);have hdr:=hcase.resolve_left fun h=>m0 h.2;clear h5 hcase h0 n0;revert hK K;refine qW1 ?_;intro K hK;refine qg [0] ?_;refine qC ?_;refine qD hP hnext ?_;rintro res bx ⟨rfl,rfl⟩;refine qC ?_;refine GFork.mk (fun h5=>?_) (fun h5=>?_)<;>cbv
   ·have n124:ci≠124:=qv5
    have m124:byteOr s j≠124:=fun h=>n124 (h124.2 h);clear h5 h124 n124;revert hK K;refine qW1 ?_;intro K hK;refine qg [0] ?_;refine qC ?_;refine qD hP hnext ?_;rintro res bx ⟨rfl,rfl⟩;refine qC ?_;revert hK K;refine qW1 ?_;intro K hK;refine nC rfl (fun h5=>?_) (fun h5=>?_)
    ·have n41:ci≠41:=qv5
     have m41:byteOr s j≠41:=fun h=>n41 (h41.2 h);clear h5 h41 n41 hnext;obtain ⟨g8,g9,g10⟩:=g5 rfl;revert hK K;refine qW1 ?_;intro K hK;refine qg [0] ?_;refine qC ?_;refine qD hP (hItem j g1 g8) ?_;rintro res bx ⟨x,k,sx,xl0,j',bad,qt,q1,q2,q3,q4,q5,rfl,rfl⟩;refine qC ?_;obtain ⟨xl',hxl'⟩:=qX ((xs++[x]).map Rx.t);have happ:app xl [[T.lit (.int .i64 k),T.lit (.string sx),T.sl xl0]]=xl':=by rw[hxl'];exact app_rx hO hxl x qt
     have haok:∀b,b<=64->aOk b xl [[T.lit (.int .i64 k),T.lit (.string sx),T.sl xl0]]:=fun b hb=>aOk_of hO (by
      have:(xl.length+1) * b<=1099511627778 * 64:=Nat.mul_le_mul (by rw[hxl,List.length_map];omega) hb
      simp only[List.length_cons,List.length_nil,Nat.zero_add] at this |-;omega) (by rw[hxl,List.length_map];simp only[List.length_cons,List.length_nil];omega)
     have hnew:=fun he=>catI_step (g7 he) hdr m124 m41 (q5 he);have hmeas:(s.size+1 - j')+(if bad=true then 0 else 1) < (s.size+1 - j)+1:=by
      cases bad
      ·have:=(q4 rfl).1;have:=(q4 rfl).2;simp only[Bool.false_eq_true,if_false];omega
      ·simp only[if_true];omega
     revert hK K;refine qW1 ?_;intro K hK;simp only[happ];refine ndC (alO hO (by simp)) (ndC (haok _ (by decide)) (ndN ?_))
     revert hK K;refine qW1 ?_;intro K hK;exact ⟨_,hmeas,j',bad,xs++[x],xl',by cbv,hxl',by omega,q3,by simp only[List.length_append,List.length_cons,List.length_nil];omega,fun h=>by have:=q4 h;refine ⟨this.2,fun _=>by omega,?_⟩;simp only[List.length_append,List.length_cons,List.length_nil];omega,fun y hy=>by
      rcases List.mem_append.1 hy with hy | hy
      ·exact g6 y hy
      ·obtain rfl:=List.mem_singleton.1 hy;exact q1,hnew,rfl⟩
    ·have y41:ci=41:=qv5
     have hend:false=true\/(toL s).drop j=[]\/∃c r,(toL s).drop j=c::r/\(c=124\/c=41\/c=0):=.inr (.inr ⟨_,_,hdr,.inr (.inl (h41.1 y41))⟩);clear h5 h41;obtain ⟨n,hn⟩:=qX xs.length;have hln:len xl=n:=lnO hO (by simp[hxl,hn])
     revert hK K;refine qW1 ?_;intro K hK;simp only[hln];refine nC rfl (fun h5=>?_) (fun h5=>?_)
     ·have h6:n=0:=qv5
      obtain rfl:=List.length_eq_zero_iff.1 (hn.symm.trans h6);revert hK K;refine qW1 ?_;intro K hK
      try cbv
      exact hR _ _ ⟨.mk 0 e0 [],j,true,⟨leaf_wf (by decide),g1,g2,fun h=>by simp at h,fun he=>catI_bad (g7 he) hend⟩,by rw[leaf_map];rfl,rfl⟩
     have h7:n≠0:=qv5;have hxne:xs≠[]:=fun h=>h7 (by rw[hn,h];rfl)
     clear h5;have hfin:=fun he=>catI_end (g7 he) hend;have hgo:false=false->i < j/\j<=s.size:=fun h=>⟨(g5 h).2.1 hxne,(g5 h).1⟩;revert hK K;refine qW1 ?_;intro K hK;refine nC rfl (fun h5=>?_) (fun h5=>?_)
     ·have h6:n=1:=qw5
      obtain ⟨x,rfl⟩:∃x,xs=[x]:=List.length_eq_one_iff.1 (hn.symm.trans h6);obtain ⟨x',hx1,hx2,hx3,e1⟩:=mpA hO hxl (i:=0) (by simp)
      obtain rfl:x=x':=by simpa using hx2
      have hidx:idx 0 (len xl):=by rw[hln,h6];exact ixN hO (i:=0) (n:=1) (by omega)
      have hidx':idx (Int.ofNat (nadd 0 (nat 0))) (len xl):=by cases hO;exact hidx
      have ha:all xl 3:=alO hO (by subst hxl;simp[Rx.t_len])
      have e2:get xl (nadd 0 (nat 0))=x.t:=by cases hO;exact e1
      have hwx:=g6 x List.mem_cons_self;rw[wrapOf_one] at hfin;obtain ⟨k,sx,l⟩:=x;rw[Rx.t_mk] at e2;generalize hxl':l.map Rx.t=xl' at e2;revert hK K;refine qW1 ?_;intro K hK
      repeat (simp only[e2];cbv)
      repeat' (with_reducible first | refine ndC hidx ?_ | refine ndC hidx' ?_ | refine ndC ha ?_ | refine ndC True.intro ?_ | apply ndN)
      revert hK K;refine qW1 ?_;intro K hK
      try cbv
      exact hR _ _ ⟨.mk k sx l,j,false,⟨hwx,g1,g2,hgo,hfin⟩,by rw[Rx.t_mk,hxl'];rfl,rfl⟩
     ·have h6':n≠1:=qw5
      have h6:xs.length≠1:=hn ▸ h6';have hw:=wrap_wf (k:=4) (xs:=xs) (by omega) g6
      rw[wrapOf_more h6] at hfin hw;revert hK K;refine qW1 ?_;intro K hK
      try cbv
      exact hR _ _ ⟨.mk 4 e0 xs,j,false,⟨hw,g1,g2,hgo,hfin⟩,by rw[Rx.t_mk,<-hxl];rfl,rfl⟩
   ·have y124:ci=124:=qv5
    have hend:false=true\/(toL s).drop j=[]\/∃c r,(toL s).drop j=c::r/\(c=124\/c=41\/c=0):=.inr (.inr ⟨_,_,hdr,.inl (h124.1 y124)⟩);clear h5 h124;obtain ⟨n,hn⟩:=qX xs.length;have hln:len xl=n:=lnO hO (by simp[hxl,hn])
    revert hK K;refine qW1 ?_;intro K hK;simp only[hln];refine nC rfl (fun h5=>?_) (fun h5=>?_)
    ·have h6:n=0:=qv5
     obtain rfl:=List.length_eq_zero_iff.1 (hn.symm.trans h6);revert hK K;refine qW1 ?_;intro K hK
     try cbv
     exact hR _ _ ⟨.mk 0 e0 [],j,true,⟨leaf_wf (by decide),g1,g2,fun h=>by simp at h,fun he=>catI_bad (g7 he) hend⟩,by rw[leaf_map];rfl,rfl⟩
    have h7:n≠0:=qv5;have hxne:xs≠[]:=fun h=>h7 (by rw[hn,h];rfl)
    clear h5;have hfin:=fun he=>catI_end (g7 he) hend;have hgo:false=false->i < j/\j<=s.size:=fun h=>⟨(g5 h).2.1 hxne,(g5 h).1⟩;revert hK K;refine qW1 ?_;intro K hK;refine nC rfl (fun h5=>?_) (fun h5=>?_)
    ·have h6:n=1:=qw5
     obtain ⟨x,rfl⟩:∃x,xs=[x]:=List.length_eq_one_iff.1 (hn.symm.trans h6);obtain ⟨x',hx1,hx2,hx3,e1⟩:=mpA hO hxl (i:=0) (by simp)
     obtain rfl:x=x':=by simpa using hx2
     have hidx:idx 0 (len xl):=by rw[hln,h6];exact ixN hO (i:=0) (n:=1) (by omega)
     have hidx':idx (Int.ofNat (nadd 0 (nat 0))) (len xl):=by cases hO;exact hidx
     have ha:all xl 3:=alO hO (by subst hxl;simp[Rx.t_len])
     have e2:get xl (nadd 0 (nat 0))=x.t:=by cases hO;exact e1
     have hwx:=g6 x List.mem_cons_self;rw[wrapOf_one] at hfin;obtain ⟨k,sx,l⟩:=x;rw[Rx.t_mk] at e2;generalize hxl':l.map Rx.t=xl' at e2;revert hK K;refine qW1 ?_;intro K hK
     repeat (simp only[e2];cbv)
     repeat' (with_reducible first | refine ndC hidx ?_ | refine ndC hidx' ?_ | refine ndC ha ?_ | refine ndC True.intro ?_ | apply ndN)
     revert hK K;refine qW1 ?_;intro K hK
     try cbv
     exact hR _ _ ⟨.mk k sx l,j,false,⟨hwx,g1,g2,hgo,hfin⟩,by rw[Rx.t_mk,hxl'];rfl,rfl⟩
    ·have h6':n≠1:=qw5
     have h6:xs.length≠1:=hn ▸ h6';have hw:=wrap_wf (k:=4) (xs:=xs) (by omega) g6
     rw[wrapOf_more h6] at hfin hw;revert hK K;refine qW1 ?_;intro K hK
     try cbv
     exact hR _ _ ⟨.mk 4 e0 xs,j,false,⟨hw,g1,g2,hgo,hfin⟩,by rw[Rx.t_mk,<-hxl];rfl,rfl⟩
  ·have y0:ci=0:=qv5
   have hend:false=true\/(toL s).drop j=[]\/∃c r,(toL s).drop j=c::r/\(c=124\/c=41\/c=0):=by
    rcases hcase with h | h
    ·exact .inr (.inl h.1)
    ·exact .inr (.inr ⟨_,_,h,.inr (.inr (h0.1 y0))⟩)
   clear h5 h0 hcase;obtain ⟨n,hn⟩:=qX xs.length;have hln:len xl=n:=lnO hO (by simp[hxl,hn])
   revert hK K;refine qW1 ?_;intro K hK;simp only[hln];refine nC rfl (fun h5=>?_) (fun h5=>?_)
   ·have h6:n=0:=qv5
    obtain rfl:=List.length_eq_zero_iff.1 (hn.symm.trans h6);revert hK K;refine qW1 ?_;intro K hK
    try cbv
    exact hR _ _ ⟨.mk 0 e0 [],j,true,⟨leaf_wf (by decide),g1,g2,fun h=>by simp at h,fun he=>catI_bad (g7 he) hend⟩,by rw[leaf_map];rfl,rfl⟩
   have h7:n≠0:=qv5;have hxne:xs≠[]:=fun h=>h7 (by rw[hn,h];rfl)
   clear h5;have hfin:=fun he=>catI_end (g7 he) hend;have hgo:false=false->i < j/\j<=s.size:=fun h=>⟨(g5 h).2.1 hxne,(g5 h).1⟩;revert hK K;refine qW1 ?_;intro K hK;refine nC rfl (fun h5=>?_) (fun h5=>?_)
   ·have h6:n=1:=qw5
    obtain ⟨x,rfl⟩:∃x,xs=[x]:=List.length_eq_one_iff.1 (hn.symm.trans h6);obtain ⟨x',hx1,hx2,hx3,e1⟩:=mpA hO hxl (i:=0) (by simp)
    obtain rfl:x=x':=by simpa using hx2
    have hidx:idx 0 (len xl):=by rw[hln,h6];exact ixN hO (i:=0) (n:=1) (by omega)
    have hidx':idx (Int.ofNat (nadd 0 (nat 0))) (len xl):=by cases hO;exact hidx
    have ha:all xl 3:=alO hO (by subst hxl;simp[Rx.t_len])
    have e2:get xl (nadd 0 (nat 0))=x.t:=by cases hO;exact e1
    have hwx:=g6 x List.mem_cons_self;rw[wrapOf_one] at hfin;obtain ⟨k,sx,l⟩:=x;rw[Rx.t_mk] at e2;generalize hxl':l.map Rx.t=xl' at e2;revert hK K;refine qW1 ?_;intro K hK
    repeat (simp only[e2];cbv)
    repeat' (with_reducible first | refine ndC hidx ?_ | refine ndC hidx' ?_ | refine ndC ha ?_ | refine ndC True.intro ?_ | apply ndN)
    revert hK K;refine qW1 ?_;intro K hK
    try cbv
    exact hR _ _ ⟨.mk k sx l,j,false,⟨hwx,g1,g2,hgo,hfin⟩,by rw[Rx.t_mk,hxl'];rfl,rfl⟩
   ·have h6':n≠1:=qw5
    have h6:xs.length≠1:=hn ▸ h6';have hw:=wrap_wf (k:=4) (xs:=xs) (by omega) g6
    rw[wrapOf_more h6] at hfin hw;revert hK K;refine qW1 ?_;intro K hK
    try cbv
    exact hR _ _ ⟨.mk 4 e0 xs,j,false,⟨hw,g1,g2,hgo,hfin⟩,by rw[Rx.t_mk,<-hxl];rfl,rfl⟩
 ·have hend:true=true\/(toL s).drop j=[]\/∃c r,(toL s).drop j=c::r/\(c=124\/c=41\/c=0):=.inl rfl
  revert hK K;refine qW1 ?_;intro K hK;simp only[hnt];obtain ⟨n,hn⟩:=qX xs.length;have hln:len xl=n:=lnO hO (by simp[hxl,hn])
  revert hK K;refine qW1 ?_;intro K hK;simp only[hln];refine nC rfl (fun h5=>?_) (fun h5=>?_)
  ·have h6:n=0:=qv5
   obtain rfl:=List.length_eq_zero_iff.1 (hn.symm.trans h6);revert hK K;refine qW1 ?_;intro K hK
   try cbv
   exact hR _ _ ⟨.mk 0 e0 [],j,true,⟨leaf_wf (by decide),g1,g2,fun h=>by simp at h,fun he=>catI_bad (g7 he) hend⟩,by rw[leaf_map];rfl,rfl⟩
  have h7:n≠0:=qv5;have hxne:xs≠[]:=fun h=>h7 (by rw[hn,h];rfl)
  clear h5;have hfin:=fun he=>catI_end (g7 he) hend;have hgo:true=false->i < j/\j<=s.size:=fun h=>⟨(g5 h).2.1 hxne,(g5 h).1⟩;revert hK K;refine qW1 ?_;intro K hK;refine nC rfl (fun h5=>?_) (fun h5=>?_)
  ·have h6:n=1:=qw5
   obtain ⟨x,rfl⟩:∃x,xs=[x]:=List.length_eq_one_iff.1 (hn.symm.trans h6);obtain ⟨x',hx1,hx2,hx3,e1⟩:=mpA hO hxl (i:=0) (by simp)
   obtain rfl:x=x':=by simpa using hx2
   have hidx:idx 0 (len xl):=by rw[hln,h6];exact ixN hO (i:=0) (n:=1) (by omega)
   have hidx':idx (Int.ofNat (nadd 0 (nat 0))) (len xl):=by cases hO;exact hidx
   have ha:all xl 3:=alO hO (by subst hxl;simp[Rx.t_len])
   have e2:get xl (nadd 0 (nat 0))=x.t:=by cases hO;exact e1
   have hwx:=g6 x List.mem_cons_self;rw[wrapOf_one] at hfin;obtain ⟨k,sx,l⟩:=x;rw[Rx.t_mk] at e2;generalize hxl':l.map Rx.t=xl' at e2;revert hK K;refine qW1 ?_;intro K hK
   repeat (simp only[e2];cbv)
   repeat' (with_reducible first | refine ndC hidx ?_ | refine ndC hidx' ?_ | refine ndC ha ?_ | refine ndC True.intro ?_ | apply ndN)
   revert hK K;refine qW1 ?_;intro K hK
   try cbv
   exact hR _ _ ⟨.mk k sx l,j,true,⟨hwx,g1,g2,hgo,hfin⟩,by rw[Rx.t_mk,hxl'];rfl,rfl⟩
  ·have h6':n≠1:=qw5
   have h6:xs.length≠1:=hn ▸ h6';have hw:=wrap_wf (k:=4) (xs:=xs) (by omega) g6
   rw[wrapOf_more h6] at hfin hw;revert hK K;refine qW1 ?_;intro K hK
   try cbv
   exact hR _ _ ⟨.mk 4 e0 xs,j,true,⟨hw,g1,g2,hgo,hfin⟩,by rw[Rx.t_mk,<-hxl];rfl,rfl⟩
set_option maxHeartbeats 8000000
theorem c_cat_bad (s:ByteArray) (i:Nat) (e:Int):ACl Tryz.prog 251 [⟨.one,[.ptr 0 0]⟩] [rdI s i e true] (fun res bx=>res=⟨.agg,[.lit (.int .i64 0),.lit (.string ⟨⟨[]⟩⟩),.ro true []]⟩/\bx=[rdI s i e true]):=by
 refine acI (ACl.ro (R:=fun res bx=>res=⟨.agg,[.lit (.int .i64 0),.lit (.string ⟨⟨[]⟩⟩),.nil]⟩/\bx=[rdI s i e true]) ?_) ?_
 ·refine qF tyK Tryz.func251 44 [.cell 2 331] ?_;unhygienic intros
  have hnt:bnot true=false:=by cases hO;rfl
  revert hK K;refine qW1 ?_;intro K hK;refine nL (nb:=2) (keep:=fun t=>t == 0 || t == 2 || t == 3) (kk:=fun _ _=>none) (fun N σ=>N=0/\σ=⟨vag 44 [(0,⟨.one,[.ptr 0 0]⟩),(2,⟨.one,[.ptr 1 0]⟩),(3,⟨.one,[.nil]⟩)],[rdI s i e true,some [.lit (.int .i64 0),.lit (.string ⟨⟨[]⟩⟩),.nil]],1⟩) (by simp at hC;simp[hC]) ?_ ?_
  ·cbv
   exact ⟨_,rfl,by cbv⟩
  rintro m σ ⟨rfl,rfl⟩;revert hK K;refine qW1 ?_;intro K hK;simp only[hnt];revert hK K;refine qW1 ?_;intro K hK;refine nC rfl (fun h5=>?_) (fun h5=>?_)
  ·revert hK K;refine qW1 ?_;intro K hK
   exact hR _ _ ⟨rfl,rfl⟩
  ·have hF:False:=by
    clear hM hP hC hR;try clear hK K
    cases hO;simp only[Ops.std,sCm,stdBin,sqL,scmp_neq,stdUn,Int.ofNat_eq_natCast] at *;simp at h5
   exact hF.elim
 ·rintro res bx ⟨r0,⟨rfl,h⟩,rfl⟩
  exact ⟨rfl,h⟩
def inv25 (s:ByteArray) (i e e1:Nat) (z:ByteArray) (N:Nat) (σ:AS):Prop:=
 ∃(j:Nat) (bad:Bool) (xs:List Rx) (xl:List (List T)),σ=⟨vag 59 [(0,⟨.one,[.ptr 0 0]⟩),(2,⟨.one,[.ptr 1 0]⟩),(3,⟨.one,[.ow (0,0) 3 xl]⟩)],[rdI s j (Int.ofNat e1) bad,some [.lit (.int .i64 0),.lit (.string z),.nil]],1⟩/\
  xl=xs.map Rx.t/\i<=j/\j<=s.size+1/\xs.length+i<=j+1/\(bad=false->i < j/\j<=s.size)/\(∀x∈xs,x.Wf)/\(e<=8->AltI (8 - e) ((toL s).drop i) xs bad ((toL s).drop j))/\(bad=false->e1<=40)/\
  N=s.size+1 - j
theorem c_alt_step (L:Nat) (hC:ReadI 251 mCat 9 L):ReadI 244 mAlt 8 L:=by
 refine ReadI.of fun s i e hs hi hL he=>?_;obtain ⟨e1,he1⟩:=qX (e+1);have hCat:=fun (j:Nat) (h0:e1<=40) (h1:i<=j) (h2:j<=s.size)=>hC.opened s j e1 hs h2 (by omega) h0
 clear hC;refine qF tyK Tryz.func244 59 [.cell 2 331] ?_;unhygienic intros;have hnt:bnot true=false:=by cases hO;rfl
 have hnf:bnot false=true:=by cases hO;rfl
 have ee:bin .add .i64 (Int.ofNat e) 1=_:=iSc hO (by omega)
 rw[<-he1] at ee;have es:bin .sub .i64 (Int.ofNat e1) 1=Int.ofNat e:=by rw[he1];cases hO;simp only[Ops.std,stdBin,Int.ofNat_eq_natCast];rw[i64_id (by omega)];omega
 revert hK K;refine qW1 ?_;intro K hK;simp only[ee];revert hK K;refine qW1 ?_;intro K hK;refine nC rfl (fun h1=>?_) (fun h1=>?_)
 ·have h40:40 < e1:=qw1
  clear h1;have hbad:ACl Tryz.prog 251 [⟨.one,[.ptr 0 0]⟩] [rdI s i (Int.ofNat e1) true] (fun res bx=>∃(x:Rx) (k:Int) (sx:ByteArray) (xl:List (List T)) (j:Nat) (bad:Bool),x.t=[.lit (.int .i64 k),.lit (.string sx),.sl xl]/\x.Wf/\i<=j/\j<=s.size+1/\
    (bad=false->i < j/\j<=s.size)/\bad=true/\res=⟨.agg,[.lit (.int .i64 k),.lit (.string sx),.ro true xl]⟩/\bx=[rdI s j (Int.ofNat e1) bad]):=
   acI (c_cat_bad s i (Int.ofNat e1)) fun res bx ⟨h1,h2⟩=>⟨.mk 0 e0 [],0,e0,[],i,true,by rw[Rx.t_mk];rfl,leaf_wf (by decide),Nat.le_refl _,by omega,fun h=>by simp at h,rfl,h1,h2⟩
  revert hK K;refine qW1 ?_;intro K hK;refine qg [0] ?_;refine qC ?_;refine qD hP hbad ?_;rintro res bx ⟨x,k,sx,xl0,j,bad,qt,q1,q2,q3,q4,q7,rfl,rfl⟩;refine qC ?_;have q6:bad=false->e1<=40:=fun h=>by rw[h] at q7;simp at q7
  have q5:e<=8->CatP (8 - e) ((toL s).drop i) x bad ((toL s).drop j):=fun h=>by omega
  clear q7 hbad;revert hK K;refine qW1 ?_;intro K hK;refine qL 2 [0,2,3] kk0 (inv25 s i e e1 ⟨⟨[]⟩⟩) ?_ ?_
  ·cbv
   exact ⟨_,j,bad,[x],_,by cbv,by rw[<-qt];rfl,q2,q3,by simp;omega,q4,by simpa using q1,fun he=>altI_one (q5 he),q6,rfl⟩
  clear q1 q2 q3 q4 q5 q6 qt x;rintro m σ ⟨j,bad,xs,xl,rfl,hxl,g1,g2,g3,g5,g6,g7,g8,rfl⟩;cases bad
  ·obtain ⟨g5',g5''⟩:=g5 rfl
   obtain ⟨ci,hci⟩:=qX (Int.ofNat (byteOr s j).toNat);have hk:∀k:UInt8,ci=Int.ofNat k.toNat↔byteOr s j=k:=fun k=>by rw[hci,u8_eq];exact ⟨fun h=>Int.ofNat.inj h,fun h=>by rw[h]⟩
   have h124:ci=124↔byteOr s j=124:=hk 124;have hcase:((toL s).drop j=[]/\byteOr s j=0)\/((toL s).drop j=byteOr s j::(toL s).drop (j+1)/\j < s.size):=by
    unfold byteOr;cases h2:(toL s)[j]? with
    | none=>exact .inl ⟨List.drop_eq_nil_of_le (List.getElem?_eq_none_iff.1 h2),rfl⟩
    | some c=>exact .inr ⟨drop_cons h2,by have:=(List.getElem?_eq_some_iff.1 h2).1;rwa[toL_len] at this⟩
   have hnext:ACl Tryz.prog 252 [⟨.one,[.ptr 0 0]⟩] [rdI s j (Int.ofNat e1) false] (fun res bx=>res=litU ci/\bx=[rdI s j (Int.ofNat e1) false]):=
    acI (c_next s j (Int.ofNat e1) false) fun res bx ⟨b,h1,h2,h3⟩=>⟨by rw[h2,h1,hci],h3⟩
   clear hk hci;revert hK K;refine qW1 ?_;intro K hK;simp only[hnf];revert hK K;refine qW1 ?_;intro K hK;refine qg [0] ?_;refine qC ?_;refine qD hP hnext ?_;rintro res bx ⟨rfl,rfl⟩;refine qC ?_;revert hK K;refine qW1 ?_;intro K hK;refine nC rfl (fun h5=>?_) (fun h5=>?_)
   ·have y124:ci=124:=qv5
    have m124:=h124.1 y124;have hd:=hcase.resolve_left fun h=>absurd (m124.symm.trans h.2) (by decide)
    rw[m124] at hd;obtain ⟨hdr,hlt⟩:=hd;have ej:bin .add .i64 (Int.ofNat j) 1=_:=iSc hO (by omega)
    obtain ⟨j1,hj1⟩:=qX (j+1);rw[<-hj1] at ej hdr;clear h5 h124 hcase hnext y124 m124;revert hK K;refine qW1 ?_;intro K hK;simp only[ej];revert hK K;refine qW1 ?_;intro K hK;refine qg [0] ?_;refine qC ?_;refine qD hP (hCat j1 (g8 rfl) (by omega) (by omega)) ?_;rintro res bx ⟨x,k,sx,xl0,j',bad,qt,q1,q2,q3,q4,q5,rfl,rfl⟩;refine qC ?_
    obtain ⟨xl',hxl'⟩:=qX ((xs++[x]).map Rx.t);have happ:app xl [[T.lit (.int .i64 k),T.lit (.string sx),T.sl xl0]]=xl':=by rw[hxl'];exact app_rx hO hxl x qt
    have haok:∀b,b<=64->aOk b xl [[T.lit (.int .i64 k),T.lit (.string sx),T.sl xl0]]:=fun b hb=>aOk_of hO (by
     have:(xl.length+1) * b<=1099511627778 * 64:=Nat.mul_le_mul (by rw[hxl,List.length_map];omega) hb
     simp only[List.length_cons,List.length_nil,Nat.zero_add] at this |-;omega) (by rw[hxl,List.length_map];simp only[List.length_cons,List.length_nil];omega)
    revert hK K;refine qW1 ?_;intro K hK;simp only[happ];refine ndC (alO hO (by simp)) (ndC (haok _ (by decide)) (ndN ?_))
    revert hK K;refine qW1 ?_;intro K hK;exact ⟨s.size+1 - j',by omega,j',bad,xs++[x],xl',by cbv,hxl',by omega,q3,by simp only[List.length_append,List.length_cons,List.length_nil];omega,fun h=>by have:=q4 h;omega,fun y hy=>by
     rcases List.mem_append.1 hy with hy | hy
     ·exact g6 y hy
     ·obtain rfl:=List.mem_singleton.1 hy;exact q1,fun he=>altI_step (g7 he) hdr (by have:=q5 (by omega);rwa[show 9 - e1=8 - e by omega] at this),fun _=>g8 rfl,rfl⟩
   ·have y124:ci≠124:=qv5
    have hend:false=true\/∀r,(toL s).drop j≠124::r:=.inr fun r hr=>by
     rcases hcase with h | h
     ·rw[h.1] at hr;simp at hr
     ·rw[h.1] at hr
      exact y124 (h124.2 (List.cons.inj hr).1)
    clear h5 h124 hcase hnext y124;have hfin:=fun he=>altI_end (g7 he) hend;obtain ⟨n,hn⟩:=qX xs.length;have hln:len xl=n:=lnO hO (by simp[hxl,hn])
    revert hK K;refine qW1 ?_;intro K hK;simp only[es];revert hK K;refine qW1 ?_;intro K hK;simp only[hln];refine nC rfl (fun h5=>?_) (fun h5=>?_)
    ·have h6:n=1:=qw5
     obtain ⟨x,rfl⟩:∃x,xs=[x]:=List.length_eq_one_iff.1 (hn.symm.trans h6);obtain ⟨x',hx1,hx2,hx3,e1'⟩:=mpA hO hxl (i:=0) (by simp)
     obtain rfl:x=x':=by simpa using hx2
     have hidx:idx 0 (len xl):=by rw[hln,h6];exact ixN hO (i:=0) (n:=1) (by omega)
     have hidx':idx (Int.ofNat (nadd 0 (nat 0))) (len xl):=by cases hO;exact hidx
     have ha:all xl 3:=alO hO (by subst hxl;simp[Rx.t_len])
     have e2:get xl (nadd 0 (nat 0))=x.t:=by cases hO;exact e1'
     have hwx:=g6 x List.mem_cons_self;rw[wrapOf_one] at hfin;obtain ⟨k,sx,l⟩:=x;rw[Rx.t_mk] at e2;generalize hxl':l.map Rx.t=xl' at e2;revert hK K;refine qW1 ?_;intro K hK
     repeat (simp only[e2];cbv)
     repeat' (with_reducible first | refine ndC hidx ?_ | refine ndC hidx' ?_ | refine ndC ha ?_ | refine ndC True.intro ?_ | apply ndN)
     revert hK K;refine qW1 ?_;intro K hK
     try cbv
     exact hR _ _ ⟨.mk k sx l,j,false,⟨hwx,g1,g2,g5,hfin⟩,by rw[Rx.t_mk,hxl'];rfl,rfl⟩
    ·have h6':n≠1:=qw5
     have h6:xs.length≠1:=hn ▸ h6';have hw:=wrap_wf (k:=5) (xs:=xs) (by omega) g6
     rw[wrapOf_more h6] at hfin hw;revert hK K;refine qW1 ?_;intro K hK
     try cbv
     exact hR _ _ ⟨.mk 5 e0 xs,j,false,⟨hw,g1,g2,g5,hfin⟩,by rw[Rx.t_mk,<-hxl];rfl,rfl⟩
  ·have hend:true=true\/∀r,(toL s).drop j≠124::r:=.inl rfl
   revert hK K;refine qW1 ?_;intro K hK;simp only[hnt];have hfin:=fun he=>altI_end (g7 he) hend;obtain ⟨n,hn⟩:=qX xs.length;have hln:len xl=n:=lnO hO (by simp[hxl,hn])
   revert hK K;refine qW1 ?_;intro K hK;simp only[es];revert hK K;refine qW1 ?_;intro K hK;simp only[hln];refine nC rfl (fun h5=>?_) (fun h5=>?_)
   ·have h6:n=1:=qw5
    obtain ⟨x,rfl⟩:∃x,xs=[x]:=List.length_eq_one_iff.1 (hn.symm.trans h6);obtain ⟨x',hx1,hx2,hx3,e1'⟩:=mpA hO hxl (i:=0) (by simp)
    obtain rfl:x=x':=by simpa using hx2
    have hidx:idx 0 (len xl):=by rw[hln,h6];exact ixN hO (i:=0) (n:=1) (by omega)
    have hidx':idx (Int.ofNat (nadd 0 (nat 0))) (len xl):=by cases hO;exact hidx
    have ha:all xl 3:=alO hO (by subst hxl;simp[Rx.t_len])
    have e2:get xl (nadd 0 (nat 0))=x.t:=by cases hO;exact e1'
    have hwx:=g6 x List.mem_cons_self;rw[wrapOf_one] at hfin;obtain ⟨k,sx,l⟩:=x;rw[Rx.t_mk] at e2;generalize hxl':l.map Rx.t=xl' at e2;revert hK K;refine qW1 ?_;intro K hK
    repeat (simp only[e2];cbv)
    repeat' (with_reducible first | refine ndC hidx ?_ | refine ndC hidx' ?_ | refine ndC ha ?_ | refine ndC True.intro ?_ | apply ndN)
    revert hK K;refine qW1 ?_;intro K hK
    try cbv
    exact hR _ _ ⟨.mk k sx l,j,true,⟨hwx,g1,g2,g5,hfin⟩,by rw[Rx.t_mk,hxl'];rfl,rfl⟩
   ·have h6':n≠1:=qw5
    have h6:xs.length≠1:=hn ▸ h6';have hw:=wrap_wf (k:=5) (xs:=xs) (by omega) g6
    rw[wrapOf_more h6] at hfin hw;revert hK K;refine qW1 ?_;intro K hK
    try cbv
    exact hR _ _ ⟨.mk 5 e0 xs,j,true,⟨hw,g1,g2,g5,hfin⟩,by rw[Rx.t_mk,<-hxl];rfl,rfl⟩
 ·have h40:e1<=40:=qw1
  clear h1;revert hK K;refine qW1 ?_;intro K hK;refine qg [0] ?_;refine qC ?_;refine qD hP (hCat i h40 (Nat.le_refl _) hi) ?_;rintro res bx ⟨x,k,sx,xl0,j,bad,qt,q1,q2,q3,q4,q7,rfl,rfl⟩;refine qC ?_;have q6:bad=false->e1<=40:=fun _=>h40;have q5:e<=8->CatP (8 - e) ((toL s).drop i) x bad ((toL s).drop j):=fun h=>by have:=q7 (by omega);rwa[show 9 - e1=8 - e by omega] at this
  clear q7;revert hK K;refine qW1 ?_;intro K hK;refine qL 2 [0,2,3] kk0 (inv25 s i e e1 ⟨⟨[]⟩⟩) ?_ ?_
  ·cbv
   exact ⟨_,j,bad,[x],_,by cbv,by rw[<-qt];rfl,q2,q3,by simp;omega,q4,by simpa using q1,fun he=>altI_one (q5 he),q6,rfl⟩
  clear q1 q2 q3 q4 q5 q6 qt x;rintro m σ ⟨j,bad,xs,xl,rfl,hxl,g1,g2,g3,g5,g6,g7,g8,rfl⟩;cases bad
  ·obtain ⟨g5',g5''⟩:=g5 rfl
   obtain ⟨ci,hci⟩:=qX (Int.ofNat (byteOr s j).toNat);have hk:∀k:UInt8,ci=Int.ofNat k.toNat↔byteOr s j=k:=fun k=>by rw[hci,u8_eq];exact ⟨fun h=>Int.ofNat.inj h,fun h=>by rw[h]⟩
   have h124:ci=124↔byteOr s j=124:=hk 124;have hcase:((toL s).drop j=[]/\byteOr s j=0)\/((toL s).drop j=byteOr s j::(toL s).drop (j+1)/\j < s.size):=by
    unfold byteOr;cases h2:(toL s)[j]? with
    | none=>exact .inl ⟨List.drop_eq_nil_of_le (List.getElem?_eq_none_iff.1 h2),rfl⟩
    | some c=>exact .inr ⟨drop_cons h2,by have:=(List.getElem?_eq_some_iff.1 h2).1;rwa[toL_len] at this⟩
   have hnext:ACl Tryz.prog 252 [⟨.one,[.ptr 0 0]⟩] [rdI s j (Int.ofNat e1) false] (fun res bx=>res=litU ci/\bx=[rdI s j (Int.ofNat e1) false]):=
    acI (c_next s j (Int.ofNat e1) false) fun res bx ⟨b,h1,h2,h3⟩=>⟨by rw[h2,h1,hci],h3⟩
   clear hk hci;revert hK K;refine qW1 ?_;intro K hK;simp only[hnf];revert hK K;refine qW1 ?_;intro K hK;refine qg [0] ?_;refine qC ?_;refine qD hP hnext ?_;rintro res bx ⟨rfl,rfl⟩;refine qC ?_;revert hK K;refine qW1 ?_;intro K hK;refine nC rfl (fun h5=>?_) (fun h5=>?_)
   ·have y124:ci=124:=qv5
    have m124:=h124.1 y124;have hd:=hcase.resolve_left fun h=>absurd (m124.symm.trans h.2) (by decide)
    rw[m124] at hd;obtain ⟨hdr,hlt⟩:=hd;have ej:bin .add .i64 (Int.ofNat j) 1=_:=iSc hO (by omega)
    obtain ⟨j1,hj1⟩:=qX (j+1);rw[<-hj1] at ej hdr;clear h5 h124 hcase hnext y124 m124;revert hK K;refine qW1 ?_;intro K hK;simp only[ej];revert hK K;refine qW1 ?_;intro K hK;refine qg [0] ?_;refine qC ?_;refine qD hP (hCat j1 (g8 rfl) (by omega) (by omega)) ?_;rintro res bx ⟨x,k,sx,xl0,j',bad,qt,q1,q2,q3,q4,q5,rfl,rfl⟩;refine qC ?_
    obtain ⟨xl',hxl'⟩:=qX ((xs++[x]).map Rx.t);have happ:app xl [[T.lit (.int .i64 k),T.lit (.string sx),T.sl xl0]]=xl':=by rw[hxl'];exact app_rx hO hxl x qt
    have haok:∀b,b<=64->aOk b xl [[T.lit (.int .i64 k),T.lit (.string sx),T.sl xl0]]:=fun b hb=>aOk_of hO (by
     have:(xl.length+1) * b<=1099511627778 * 64:=Nat.mul_le_mul (by rw[hxl,List.length_map];omega) hb
     simp only[List.length_cons,List.length_nil,Nat.zero_add] at this |-;omega) (by rw[hxl,List.length_map];simp only[List.length_cons,List.length_nil];omega)
    revert hK K;refine qW1 ?_;intro K hK;simp only[happ];refine ndC (alO hO (by simp)) (ndC (haok _ (by decide)) (ndN ?_))
    revert hK K;refine qW1 ?_;intro K hK;exact ⟨s.size+1 - j',by omega,j',bad,xs++[x],xl',by cbv,hxl',by omega,q3,by simp only[List.length_append,List.length_cons,List.length_nil];omega,fun h=>by have:=q4 h;omega,fun y hy=>by
     rcases List.mem_append.1 hy with hy | hy
     ·exact g6 y hy
     ·obtain rfl:=List.mem_singleton.1 hy;exact q1,fun he=>altI_step (g7 he) hdr (by have:=q5 (by omega);rwa[show 9 - e1=8 - e by omega] at this),fun _=>g8 rfl,rfl⟩
   ·have y124:ci≠124:=qv5
    have hend:false=true\/∀r,(toL s).drop j≠124::r:=.inr fun r hr=>by
     rcases hcase with h | h
     ·rw[h.1] at hr;simp at hr
     ·rw[h.1] at hr
      exact y124 (h124.2 (List.cons.inj hr).1)
    clear h5 h124 hcase hnext y124;have hfin:=fun he=>altI_end (g7 he) hend;obtain ⟨n,hn⟩:=qX xs.length;have hln:len xl=n:=lnO hO (by simp[hxl,hn])
    revert hK K;refine qW1 ?_;intro K hK;simp only[es];revert hK K;refine qW1 ?_;intro K hK;simp only[hln];refine nC rfl (fun h5=>?_) (fun h5=>?_)
    ·have h6:n=1:=qw5
     obtain ⟨x,rfl⟩:∃x,xs=[x]:=List.length_eq_one_iff.1 (hn.symm.trans h6);obtain ⟨x',hx1,hx2,hx3,e1'⟩:=mpA hO hxl (i:=0) (by simp)
     obtain rfl:x=x':=by simpa using hx2
     have hidx:idx 0 (len xl):=by rw[hln,h6];exact ixN hO (i:=0) (n:=1) (by omega)
     have hidx':idx (Int.ofNat (nadd 0 (nat 0))) (len xl):=by cases hO;exact hidx
     have ha:all xl 3:=alO hO (by subst hxl;simp[Rx.t_len])
     have e2:get xl (nadd 0 (nat 0))=x.t:=by cases hO;exact e1'
     have hwx:=g6 x List.mem_cons_self;rw[wrapOf_one] at hfin;obtain ⟨k,sx,l⟩:=x;rw[Rx.t_mk] at e2;generalize hxl':l.map Rx.t=xl' at e2;revert hK K;refine qW1 ?_;intro K hK
     repeat (simp only[e2];cbv)
     repeat' (with_reducible first | refine ndC hidx ?_ | refine ndC hidx' ?_ | refine ndC ha ?_ | refine ndC True.intro ?_ | apply ndN)
     revert hK K;refine qW1 ?_;intro K hK
     try cbv
     exact hR _ _ ⟨.mk k sx l,j,false,⟨hwx,g1,g2,g5,hfin⟩,by rw[Rx.t_mk,hxl'];rfl,rfl⟩
    ·have h6':n≠1:=qw5
     have h6:xs.length≠1:=hn ▸ h6';have hw:=wrap_wf (k:=5) (xs:=xs) (by omega) g6
     rw[wrapOf_more h6] at hfin hw;revert hK K;refine qW1 ?_;intro K hK
     try cbv
     exact hR _ _ ⟨.mk 5 e0 xs,j,false,⟨hw,g1,g2,g5,hfin⟩,by rw[Rx.t_mk,<-hxl];rfl,rfl⟩
  ·have hend:true=true\/∀r,(toL s).drop j≠124::r:=.inl rfl
   revert hK K;refine qW1 ?_;intro K hK;simp only[hnt];have hfin:=fun he=>altI_end (g7 he) hend;obtain ⟨n,hn⟩:=qX xs.length;have hln:len xl=n:=lnO hO (by simp[hxl,hn])
   revert hK K;refine qW1 ?_;intro K hK;simp only[es];revert hK K;refine qW1 ?_;intro K hK;simp only[hln];refine nC rfl (fun h5=>?_) (fun h5=>?_)
   ·have h6:n=1:=qw5
    obtain ⟨x,rfl⟩:∃x,xs=[x]:=List.length_eq_one_iff.1 (hn.symm.trans h6);obtain ⟨x',hx1,hx2,hx3,e1'⟩:=mpA hO hxl (i:=0) (by simp)
    obtain rfl:x=x':=by simpa using hx2
    have hidx:idx 0 (len xl):=by rw[hln,h6];exact ixN hO (i:=0) (n:=1) (by omega)
    have hidx':idx (Int.ofNat (nadd 0 (nat 0))) (len xl):=by cases hO;exact hidx
    have ha:all xl 3:=alO hO (by subst hxl;simp[Rx.t_len])
    have e2:get xl (nadd 0 (nat 0))=x.t:=by cases hO;exact e1'
    have hwx:=g6 x List.mem_cons_self;rw[wrapOf_one] at hfin;obtain ⟨k,sx,l⟩:=x;rw[Rx.t_mk] at e2;generalize hxl':l.map Rx.t=xl' at e2;revert hK K;refine qW1 ?_;intro K hK
    repeat (simp only[e2];cbv)
    repeat' (with_reducible first | refine ndC hidx ?_ | refine ndC hidx' ?_ | refine ndC ha ?_ | refine ndC True.intro ?_ | apply ndN)
    revert hK K;refine qW1 ?_;intro K hK
    try cbv
    exact hR _ _ ⟨.mk k sx l,j,true,⟨hwx,g1,g2,g5,hfin⟩,by rw[Rx.t_mk,hxl'];rfl,rfl⟩
   ·have h6':n≠1:=qw5
    have h6:xs.length≠1:=hn ▸ h6';have hw:=wrap_wf (k:=5) (xs:=xs) (by omega) g6
    rw[wrapOf_more h6] at hfin hw;revert hK K;refine qW1 ?_;intro K hK
    try cbv
    exact hR _ _ ⟨.mk 5 e0 xs,j,true,⟨hw,g1,g2,g5,hfin⟩,by rw[Rx.t_mk,<-hxl];rfl,rfl⟩
end Go.Gv
