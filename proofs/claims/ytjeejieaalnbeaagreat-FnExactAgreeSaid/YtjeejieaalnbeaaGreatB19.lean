/- Part B19 of the proof: contracts of functions of the program, each walked once. -/
import Derived.Test.YtjeejieaalnbeaaGreatB14
import Derived.Test.YtjeejieaalnbeaaGreatQ1
import Derived.Test.YtjeejieaalnbeaaGreatB8
set_option linter.all false
namespace Go.Gv
open Go.Av Go.Proofs Go.Shelf Go.RowKit
set_option maxRecDepth 10000
set_option maxHeartbeats 4000000
theorem app_rx {O:Ops} (hO:O=Ops.std) {xl:List (List T)} {xs:List Rx} (h:xl=xs.map Rx.t) (x:Rx) {c:List T} (hc:x.t=c):O.app xl [c]=(xs++[x]).map Rx.t:=by
 subst hO;subst h;subst hc;simp[Ops.std]
def inv19 (s:ByteArray) (i d:Nat) (z:ByteArray) (N:Nat) (σ:AS):Prop:=
 ∃(j d':Nat) (bad:Bool) (xs:List Rx) (xl:List (List T)),σ=⟨vag 22 [(0,⟨.one,[.ptr 0 0]⟩),(2,⟨.one,[.ptr 1 0]⟩),(3,⟨.one,[.ow (0,0) 3 xl]⟩)],[rdS s j bad (Int.ofNat d'),some [.lit (.int .i64 0),.lit (.string z),.nil]],1⟩/\
  xl=xs.map Rx.t/\i<=j/\j<=s.size/\xs.length+i<=j+1/\(d<=d'/\d'<=9)/\(bad=false->d'=d/\i < j)/\(∀x∈xs,x.Wf)/\AltI (8 - d) ((toL s).drop i) xs bad ((toL s).drop j)/\N=s.size - j
theorem c_l3Alt_step (L:Nat) (hC:ReadOk 247 mCat L):ReadOk 242 mAlt L:=by
 refine ReadOk.of fun s i d hs hi hL hd=>?_;have hCat:=fun (j:Nat) (h1:i<=j) (h2:j<=s.size)=>hC.opened s j d hs h2 (by omega) hd
 clear hC;have hb124:∀c:UInt8,Int.ofNat c.toNat=124↔c=124:=fun c=>by rw[u8_eq];exact ⟨fun h=>Int.ofNat.inj h,fun h=>by rw[h];rfl⟩
 refine qF tyK Tryz.func242 22 [.cell 2 331] ?_;unhygienic intros;revert hK K;refine qW1 ?_;intro K hK;refine qg [0] ?_;refine qC ?_;refine qD hP (hCat i (Nat.le_refl _) hi) ?_;rintro res bx ⟨x,k,sx,xl0,j,bad,d',qt,q1,q2,q3,q4,q5,q6,rfl,rfl⟩;refine qC ?_;revert hK K;refine qW1 ?_;intro K hK;refine qL 2 [0,2,3] kk0 (inv19 s i d ⟨⟨[]⟩⟩) ?_ ?_
 ·cbv
  exact ⟨_,j,d',bad,[x],_,by cbv,by rw[<-qt];rfl,q2,q3,by simp;omega,q4,q5,by simpa using q1,altI_one q6,rfl⟩
 rintro m σ ⟨j,d',bad,xs,xl,rfl,hxl,g1,g2,g3,g4,g5,g6,g7,rfl⟩;revert hK K;refine qW1 ?_;intro K hK;refine qg [0] ?_;refine qC ?_;refine qD hP (c_l3Is s (by omega) j g2 bad (Int.ofNat d') 124) ?_;rintro res bx ⟨r,j2,r1,r2,r3,rfl,rfl⟩;refine qC ?_
 cases r
 ·obtain rfl:j=j2:=(r3 rfl).symm
  have hfin:=altI_end g7 (by
   cases bad
   ·exact .inr fun r hr=>absurd (r1.2 ⟨rfl,124,(drop_at hr).1,rfl⟩) (by simp)
   ·exact .inl rfl)
  clear r1 r2 r3;have hln:len xl=xs.length:=lnO hO (by simp[hxl])
  revert hK K;refine qW1 ?_;intro K hK;simp only[hln];refine nC rfl (fun h5=>?_) (fun h5=>?_)
  ·have h6:xs.length=1:=qw5
   obtain ⟨x,rfl⟩:∃x,xs=[x]:=List.length_eq_one_iff.1 h6;obtain ⟨x',hx1,hx2,hx3,e1⟩:=mpA hO hxl (i:=0) (by simp)
   obtain rfl:x=x':=by simpa using hx2
   have hidx:idx 0 (len xl):=by rw[hln];exact ixN hO (i:=0) (n:=1) (by omega)
   have hidx':idx (Int.ofNat (nadd 0 (nat 0))) (len xl):=by cases hO;exact hidx
   have ha:all xl 3:=alO hO (by subst hxl;simp[Rx.t_len])
   have e2:get xl (nadd 0 (nat 0))=x.t:=by cases hO;exact e1
   have hwx:=g6 x List.mem_cons_self;rw[wrapOf_one] at hfin;obtain ⟨k,sx,l⟩:=x;rw[Rx.t_mk] at e2;generalize hxl':l.map Rx.t=xl' at e2;revert hK K;refine qW1 ?_;intro K hK
   repeat (simp only[e2];cbv)
   repeat' (with_reducible first | refine ndC hidx ?_ | refine ndC hidx' ?_ | refine ndC ha ?_ | refine ndC True.intro ?_ | apply ndN)
   revert hK K;refine qW1 ?_;intro K hK
   try cbv
   exact hR _ _ ⟨.mk k sx l,j,bad,d',⟨hwx,g1,g2,g4,g5,hfin⟩,by rw[Rx.t_mk,hxl'];rfl,rfl⟩
  ·have h6:xs.length≠1:=qw5
   have hw:=wrap_wf (k:=5) (xs:=xs) (by omega) g6
   rw[wrapOf_more h6] at hfin hw;revert hK K;refine qW1 ?_;intro K hK
   try cbv
   exact hR _ _ ⟨.mk 5 e0 xs,j,bad,d',⟨hw,g1,g2,g4,g5,hfin⟩,by rw[Rx.t_mk,<-hxl];rfl,rfl⟩
 ·obtain rfl:=r2 rfl
  obtain ⟨hbad,c,hc,hc42⟩:=r1.1 rfl;have hjl:j < s.size:=by have:=(List.getElem?_eq_some_iff.1 hc).1;rwa[toL_len] at this
  obtain rfl:c=124:=(hb124 c).1 hc42;subst hbad;obtain ⟨rfl,g5'⟩:=g5 rfl;have hdr:=drop_cons hc;clear r1 r2 r3;obtain ⟨j1,hj1⟩:=qX (j+1);rw[<-hj1] at hdr |-;revert hK K;refine qW1 ?_;intro K hK;refine qg [0] ?_;refine qC ?_;refine qD hP (hCat j1 (by omega) (by omega)) ?_;rintro res bx ⟨x,k,sx,xl0,j',bad,d2,qt,q1,q2,q3,q4,q5,q6,rfl,rfl⟩;refine qC ?_
  obtain ⟨xl',hxl'⟩:=qX ((xs++[x]).map Rx.t);have happ:app xl [[T.lit (.int .i64 k),T.lit (.string sx),T.sl xl0]]=xl':=by rw[hxl'];exact app_rx hO hxl x qt
  have haok:∀b,b<=64->aOk b xl [[T.lit (.int .i64 k),T.lit (.string sx),T.sl xl0]]:=fun b hb=>aOk_of hO (by
   have:(xl.length+1) * b<=1099511627778 * 64:=Nat.mul_le_mul (by rw[hxl,List.length_map];omega) hb
   simp only[List.length_cons,List.length_nil,Nat.zero_add] at this |-;omega) (by rw[hxl,List.length_map];simp only[List.length_cons,List.length_nil];omega)
  revert hK K;refine qW1 ?_;intro K hK;simp only[happ];refine ndC (alO hO (by simp)) (ndC (haok _ (by decide)) (ndN ?_))
  revert hK K;refine qW1 ?_;intro K hK;exact ⟨s.size - j',by omega,j',d2,bad,xs++[x],xl',by cbv,hxl',by omega,q3,by simp only[List.length_append,List.length_cons,List.length_nil];omega,q4,fun h=>by have:=q5 h;omega,fun y hy=>by
   rcases List.mem_append.1 hy with hy | hy
   ·exact g6 y hy
   ·obtain rfl:=List.mem_singleton.1 hy;exact q1,altI_step g7 hdr q6,rfl⟩
def inv20 (s:ByteArray) (i d:Nat) (z:ByteArray) (N:Nat) (σ:AS):Prop:=
 ∃(j d':Nat) (bad:Bool) (xs:List Rx) (xl:List (List T)),σ=⟨vag 61 [(0,⟨.one,[.ptr 0 0]⟩),(2,⟨.one,[.ptr 1 0]⟩),(3,⟨.one,[.ow (0,0) 3 xl]⟩)],[rdS s j bad (Int.ofNat d'),some [.lit (.int .i64 0),.lit (.string z),.nil]],1⟩/\
  xl=xs.map Rx.t/\i<=j/\j<=s.size/\xs.length+i<=j+1/\(d<=d'/\d'<=9)/\(bad=false->d'=d/\i < j/\xs.length+i<=j)/\(∀x∈xs,x.Wf)/\CatI (8 - d) ((toL s).drop i) xs bad ((toL s).drop j)/\N=(s.size - j)+(if bad=true then 0 else 1)
theorem c_l3Cat_step (L:Nat) (hI:ReadOk 255 mItem L):ReadOk 247 mCat L:=by
 refine ReadOk.of fun s i d hs hi hL hd=>?_;have hItem:=fun (j:Nat) (h1:i<=j) (h2:j<=s.size)=>hI.opened s j d hs h2 (by omega) hd
 clear hI;refine qF tyK Tryz.func247 61 [.cell 2 331] ?_;unhygienic intros;obtain ⟨N,hN⟩:=qX s.size;have hsz:size s=N:=by cases hO;exact hN.symm
 have hnt:bnot true=false:=by cases hO;rfl
 have hnf:bnot false=true:=by cases hO;rfl
 revert hK K;refine qW1 ?_;intro K hK;refine qg [0] ?_;refine qC ?_;refine qD hP (hItem i (Nat.le_refl _) hi) ?_;rintro res bx ⟨x,k,sx,xl0,j,bad,d',qt,q1,q2,q3,q4,q5,q6,rfl,rfl⟩;refine qC ?_;revert hK K;refine qW1 ?_;intro K hK;refine qL 2 [0,2,3] kk0 (inv20 s i d ⟨⟨[]⟩⟩) ?_ ?_
 ·cbv
  exact ⟨_,j,d',bad,[x],_,by cbv,by rw[<-qt];rfl,q2,q3,by simp;omega,q4,fun h=>by have:=q5 h;refine ⟨this.1,this.2,?_⟩;simp only[List.length_cons,List.length_nil];omega,by simpa using q1,catI_one q6,rfl⟩
 rintro m σ ⟨j,d',bad,xs,xl,rfl,hxl,g1,g2,g3,g4,g5,g6,g7,rfl⟩;cases bad
 ·obtain ⟨rfl,g5',g5''⟩:=g5 rfl
  revert hK K;refine qW1 ?_;intro K hK;simp only[hnf];revert hK K;refine qW1 ?_;intro K hK;simp only[hsz];refine GFork.mk (fun h3=>?_) (fun h3=>?_)<;>cbv
  ·have hlt2:j < N:=qv3
   obtain ⟨c,hc,e2⟩:∃c,(toL s)[j]?=some c/\byte s (nat (Int.ofNat j))=Int.ofNat c.toNat:=byte_at hO (hN ▸ hlt2);have hidx2:idx (Int.ofNat j) (size s):=hsz ▸ ixN hO hlt2;have h124:Int.ofNat c.toNat=124↔c=124:=by rw[u8_eq];exact ⟨fun h=>Int.ofNat.inj h,fun h=>by rw[h];rfl⟩
   have h41:Int.ofNat c.toNat=41↔c=41:=by rw[u8_eq];exact ⟨fun h=>Int.ofNat.inj h,fun h=>by rw[h];rfl⟩
   have hdr:=drop_cons hc;generalize Int.ofNat c.toNat=ci at e2 h124 h41;revert hK K;refine qW1 ?_;intro K hK;refine ndC hidx2 (ndN ?_);simp only[e2];refine GFork.mk (fun h5=>?_) (fun h5=>?_)<;>cbv
   ·have n124:ci≠124:=qv5
    revert hK K;refine qW1 ?_;intro K hK;simp only[e2];refine ndC hidx2 (ndN ?_);revert hK K;refine qW1 ?_;intro K hK;refine nC rfl (fun h7=>?_) (fun h7=>?_)
    ·have n41:ci≠41:=qv7
     have n124':c≠124:=fun h=>n124 (h124.2 h);have n41':c≠41:=fun h=>n41 (h41.2 h);clear h5 h7 h124 h41;revert hK K;refine qW1 ?_;intro K hK;refine qg [0] ?_;refine qC ?_;refine qD hP (hItem j g1 g2) ?_;rintro res bx ⟨x,k,sx,xl0,j',bad,d2,qt,q1,q2,q3,q4,q5,q6,rfl,rfl⟩;refine qC ?_;obtain ⟨xl',hxl'⟩:=qX ((xs++[x]).map Rx.t);have happ:app xl [[T.lit (.int .i64 k),T.lit (.string sx),T.sl xl0]]=xl':=by rw[hxl'];exact app_rx hO hxl x qt
     have haok:∀b,b<=64->aOk b xl [[T.lit (.int .i64 k),T.lit (.string sx),T.sl xl0]]:=fun b hb=>aOk_of hO (by
      have:(xl.length+1) * b<=1099511627778 * 64:=Nat.mul_le_mul (by rw[hxl,List.length_map];omega) hb
      simp only[List.length_cons,List.length_nil,Nat.zero_add] at this |-;omega) (by rw[hxl,List.length_map];simp only[List.length_cons,List.length_nil];omega)
     have hnew:=catI_step g7 hdr n124' n41' q6;have hmeas:(s.size - j')+(if bad=true then 0 else 1) < (s.size - j)+1:=by
      cases bad
      ·have:=(q5 rfl).2;simp only[Bool.false_eq_true,if_false];omega
      ·simp only[if_true];omega
     revert hK K;refine qW1 ?_;intro K hK;simp only[happ];refine ndC (alO hO (by simp)) (ndC (haok _ (by decide)) (ndN ?_))
     revert hK K;refine qW1 ?_;intro K hK;exact ⟨_,hmeas,j',d2,bad,xs++[x],xl',by cbv,hxl',by omega,q3,by simp only[List.length_append,List.length_cons,List.length_nil];omega,q4,fun h=>by have:=q5 h;refine ⟨this.1,by omega,?_⟩;simp only[List.length_append,List.length_cons,List.length_nil];omega,fun y hy=>by
      rcases List.mem_append.1 hy with hy | hy
      ·exact g6 y hy
      ·obtain rfl:=List.mem_singleton.1 hy;exact q1,hnew,rfl⟩
    ·have y41:ci=41:=qv7
     obtain rfl:=h41.1 y41;have hfin:=catI_end g7 (.inr (.inr ⟨_,_,hdr,.inr (.inl rfl)⟩));clear h5 h7 h124 h41;have hln:len xl=xs.length:=lnO hO (by simp[hxl])
     revert hK K;refine qW1 ?_;intro K hK;simp only[hln];refine nC rfl (fun h5=>?_) (fun h5=>?_)
     ·have h6:xs.length=1:=qw5
      obtain ⟨x,rfl⟩:∃x,xs=[x]:=List.length_eq_one_iff.1 h6;obtain ⟨x',hx1,hx2,hx3,e1⟩:=mpA hO hxl (i:=0) (by simp)
      obtain rfl:x=x':=by simpa using hx2
      have hidx:idx 0 (len xl):=by rw[hln];exact ixN hO (i:=0) (n:=1) (by omega)
      have hidx':idx (Int.ofNat (nadd 0 (nat 0))) (len xl):=by cases hO;exact hidx
      have ha:all xl 3:=alO hO (by subst hxl;simp[Rx.t_len])
      have e2:get xl (nadd 0 (nat 0))=x.t:=by cases hO;exact e1
      have hwx:=g6 x List.mem_cons_self;rw[wrapOf_one] at hfin;obtain ⟨k,sx,l⟩:=x;rw[Rx.t_mk] at e2;generalize hxl':l.map Rx.t=xl' at e2;revert hK K;refine qW1 ?_;intro K hK
      repeat (simp only[e2];cbv)
      repeat' (with_reducible first | refine ndC hidx ?_ | refine ndC hidx' ?_ | refine ndC ha ?_ | refine ndC True.intro ?_ | apply ndN)
      revert hK K;refine qW1 ?_;intro K hK
      try cbv
      exact hR _ _ ⟨.mk k sx l,j,false,d',⟨hwx,g1,g2,g4,fun h=>⟨(g5 h).1,(g5 h).2.1⟩,hfin⟩,by rw[Rx.t_mk,hxl'];rfl,rfl⟩
     ·have h6:xs.length≠1:=qw5
      have hw:=wrap_wf (k:=4) (xs:=xs) (by omega) g6
      rw[wrapOf_more h6] at hfin hw;revert hK K;refine qW1 ?_;intro K hK
      try cbv
      exact hR _ _ ⟨.mk 4 e0 xs,j,false,d',⟨hw,g1,g2,g4,fun h=>⟨(g5 h).1,(g5 h).2.1⟩,hfin⟩,by rw[Rx.t_mk,<-hxl];rfl,rfl⟩
   ·have y124:ci=124:=qv5
    obtain rfl:=h124.1 y124;have hfin:=catI_end g7 (.inr (.inr ⟨_,_,hdr,.inl rfl⟩));clear h5 h124 h41;have hln:len xl=xs.length:=lnO hO (by simp[hxl])
    revert hK K;refine qW1 ?_;intro K hK;simp only[hln];refine nC rfl (fun h5=>?_) (fun h5=>?_)
    ·have h6:xs.length=1:=qw5
     obtain ⟨x,rfl⟩:∃x,xs=[x]:=List.length_eq_one_iff.1 h6;obtain ⟨x',hx1,hx2,hx3,e1⟩:=mpA hO hxl (i:=0) (by simp)
     obtain rfl:x=x':=by simpa using hx2
     have hidx:idx 0 (len xl):=by rw[hln];exact ixN hO (i:=0) (n:=1) (by omega)
     have hidx':idx (Int.ofNat (nadd 0 (nat 0))) (len xl):=by cases hO;exact hidx
     have ha:all xl 3:=alO hO (by subst hxl;simp[Rx.t_len])
     have e2:get xl (nadd 0 (nat 0))=x.t:=by cases hO;exact e1
     have hwx:=g6 x List.mem_cons_self;rw[wrapOf_one] at hfin;obtain ⟨k,sx,l⟩:=x;rw[Rx.t_mk] at e2;generalize hxl':l.map Rx.t=xl' at e2;revert hK K;refine qW1 ?_;intro K hK
     repeat (simp only[e2];cbv)
     repeat' (with_reducible first | refine ndC hidx ?_ | refine ndC hidx' ?_ | refine ndC ha ?_ | refine ndC True.intro ?_ | apply ndN)
     revert hK K;refine qW1 ?_;intro K hK
     try cbv
     exact hR _ _ ⟨.mk k sx l,j,false,d',⟨hwx,g1,g2,g4,fun h=>⟨(g5 h).1,(g5 h).2.1⟩,hfin⟩,by rw[Rx.t_mk,hxl'];rfl,rfl⟩
    ·have h6:xs.length≠1:=qw5
     have hw:=wrap_wf (k:=4) (xs:=xs) (by omega) g6
     rw[wrapOf_more h6] at hfin hw;revert hK K;refine qW1 ?_;intro K hK
     try cbv
     exact hR _ _ ⟨.mk 4 e0 xs,j,false,d',⟨hw,g1,g2,g4,fun h=>⟨(g5 h).1,(g5 h).2.1⟩,hfin⟩,by rw[Rx.t_mk,<-hxl];rfl,rfl⟩
  ·have hge:N<=j:=qw3
   have hfin:=catI_end g7 (.inr (.inl (List.drop_eq_nil_of_le (by rw[toL_len];omega))))
   have hln:len xl=xs.length:=lnO hO (by simp[hxl])
   revert hK K;refine qW1 ?_;intro K hK;simp only[hln];refine nC rfl (fun h5=>?_) (fun h5=>?_)
   ·have h6:xs.length=1:=qw5
    obtain ⟨x,rfl⟩:∃x,xs=[x]:=List.length_eq_one_iff.1 h6;obtain ⟨x',hx1,hx2,hx3,e1⟩:=mpA hO hxl (i:=0) (by simp)
    obtain rfl:x=x':=by simpa using hx2
    have hidx:idx 0 (len xl):=by rw[hln];exact ixN hO (i:=0) (n:=1) (by omega)
    have hidx':idx (Int.ofNat (nadd 0 (nat 0))) (len xl):=by cases hO;exact hidx
    have ha:all xl 3:=alO hO (by subst hxl;simp[Rx.t_len])
    have e2:get xl (nadd 0 (nat 0))=x.t:=by cases hO;exact e1
    have hwx:=g6 x List.mem_cons_self;rw[wrapOf_one] at hfin;obtain ⟨k,sx,l⟩:=x;rw[Rx.t_mk] at e2;generalize hxl':l.map Rx.t=xl' at e2;revert hK K;refine qW1 ?_;intro K hK
    repeat (simp only[e2];cbv)
    repeat' (with_reducible first | refine ndC hidx ?_ | refine ndC hidx' ?_ | refine ndC ha ?_ | refine ndC True.intro ?_ | apply ndN)
    revert hK K;refine qW1 ?_;intro K hK
    try cbv
    exact hR _ _ ⟨.mk k sx l,j,false,d',⟨hwx,g1,g2,g4,fun h=>⟨(g5 h).1,(g5 h).2.1⟩,hfin⟩,by rw[Rx.t_mk,hxl'];rfl,rfl⟩
   ·have h6:xs.length≠1:=qw5
    have hw:=wrap_wf (k:=4) (xs:=xs) (by omega) g6
    rw[wrapOf_more h6] at hfin hw;revert hK K;refine qW1 ?_;intro K hK
    try cbv
    exact hR _ _ ⟨.mk 4 e0 xs,j,false,d',⟨hw,g1,g2,g4,fun h=>⟨(g5 h).1,(g5 h).2.1⟩,hfin⟩,by rw[Rx.t_mk,<-hxl];rfl,rfl⟩
 ·have hfin:=catI_end g7 (.inl rfl)
  revert hK K;refine qW1 ?_;intro K hK;simp only[hnt];have hln:len xl=xs.length:=lnO hO (by simp[hxl])
  revert hK K;refine qW1 ?_;intro K hK;simp only[hln];refine nC rfl (fun h5=>?_) (fun h5=>?_)
  ·have h6:xs.length=1:=qw5
   obtain ⟨x,rfl⟩:∃x,xs=[x]:=List.length_eq_one_iff.1 h6;obtain ⟨x',hx1,hx2,hx3,e1⟩:=mpA hO hxl (i:=0) (by simp)
   obtain rfl:x=x':=by simpa using hx2
   have hidx:idx 0 (len xl):=by rw[hln];exact ixN hO (i:=0) (n:=1) (by omega)
   have hidx':idx (Int.ofNat (nadd 0 (nat 0))) (len xl):=by cases hO;exact hidx
   have ha:all xl 3:=alO hO (by subst hxl;simp[Rx.t_len])
   have e2:get xl (nadd 0 (nat 0))=x.t:=by cases hO;exact e1
   have hwx:=g6 x List.mem_cons_self;rw[wrapOf_one] at hfin;obtain ⟨k,sx,l⟩:=x;rw[Rx.t_mk] at e2;generalize hxl':l.map Rx.t=xl' at e2;revert hK K;refine qW1 ?_;intro K hK
   repeat (simp only[e2];cbv)
   repeat' (with_reducible first | refine ndC hidx ?_ | refine ndC hidx' ?_ | refine ndC ha ?_ | refine ndC True.intro ?_ | apply ndN)
   revert hK K;refine qW1 ?_;intro K hK
   try cbv
   exact hR _ _ ⟨.mk k sx l,j,true,d',⟨hwx,g1,g2,g4,fun h=>⟨(g5 h).1,(g5 h).2.1⟩,hfin⟩,by rw[Rx.t_mk,hxl'];rfl,rfl⟩
  ·have h6:xs.length≠1:=qw5
   have hw:=wrap_wf (k:=4) (xs:=xs) (by omega) g6
   rw[wrapOf_more h6] at hfin hw;revert hK K;refine qW1 ?_;intro K hK
   try cbv
   exact hR _ _ ⟨.mk 4 e0 xs,j,true,d',⟨hw,g1,g2,g4,fun h=>⟨(g5 h).1,(g5 h).2.1⟩,hfin⟩,by rw[Rx.t_mk,<-hxl];rfl,rfl⟩
theorem c_l3Alt:∀L,ReadOk 242 mAlt L:=by
 intro L
 induction L using Nat.strongRecOn with
 | _ L ih=>exact c_l3Alt_step L (c_l3Cat_step L (c_l3Item_step L (c_l3Atom_step L fun L' h=>c_l3Group_step L' (ih L' h))))
def IsParse (s:ByteArray) (x:Rx) (ok:Bool):Prop:=(ok=true/\x.good/\ofL x.txt=s)\/(ok=false/\x=.mk 0 e0 []/\∀y:Rx,y.good->ofL y.txt≠s)
theorem good_readF {y:Rx} (h:y.good):mAlt (7 * y.txt.length+3) 8 y.txt=some (y,[]):=by
 have:=(Rx.comp _ y (Nat.le_refl _) h.1).1 (7 * y.txt.length+3) 8 [] (.inl rfl) (by have:=h.2.2;omega) (Nat.le_refl _)
 rwa[List.append_nil] at this
theorem good_read {y:Rx} (h:y.good):∃n,mAlt n 8 y.txt=some (y,[]):=⟨_,good_readF h⟩
abbrev ParseOk (f:FuncId):Prop:=∀s:ByteArray,s.size<=1099511627776->ACl Tryz.prog f [litS s] [] (fun res bx=>∃(x:Rx) (ok:Bool),IsParse s x ok/\x.Wf/\res=⟨.tup [(true,3),(false,1)],x.t.map (tA true)++[.lit (.bool ok)]⟩/\bx=[])
theorem ParseOk.of {f:FuncId} (h:∀s:ByteArray,s.size<=1099511627776->ACl Tryz.prog f [litS s] [] (fun res bx=>∃(x:Rx) (ok:Bool),IsParse s x ok/\x.Wf/\res.roC=⟨.tup [(true,3),(false,1)],x.t.map (tA true)++[.lit (.bool ok)]⟩/\bx=[])):ParseOk f:=by
 intro s hs;refine acI (ACl.ro (h s hs)) ?_;rintro res bx ⟨r0,⟨x,ok,h1,h2,h3,h4⟩,rfl⟩;exact ⟨x,ok,h1,h2,h3,h4⟩
theorem c_ParseRex_spec:ParseOk 239:=by
 refine ParseOk.of fun s hs=>?_;have hA:ACl Tryz.prog 242 [⟨.one,[.ptr 0 0]⟩] [some [.lit (.string s),.lit (.int .i64 0),.lit (.bool false),.lit (.int .i64 0)]] _:=(c_l3Alt s.size).opened s 0 0 hs (by omega) (by omega) (by omega)
 have hT:=c_RexText_spec;unfold RexTextOk at hT;refine qF tyK Tryz.func239 36 [.cell 2 331,.tmp 3] ?_;unhygienic intros;obtain ⟨N,hN⟩:=qX s.size;have hsz:size s=N:=by cases hO;exact hN.symm
 have hlen:∀y:Rx,y.good->ofL y.txt=s->N<=1000:=fun y hy he=>by
  have:=Rx.txt_len _ y (Nat.le_refl _) hy.1;have h2:=hy.2.1;rw[hN,<-he,ofL_len];omega
 have hfail:(∀y:Rx,y.good->ofL y.txt≠s)->IsParse s (.mk 0 e0 []) false:=fun h=>.inr ⟨rfl,rfl,h⟩;revert hK K;refine qW0 ?_;intro K hK;simp only[hsz];refine nC rfl (fun h1=>?_) (fun h1=>?_)
 ·have h2:1000 < N:=qw1
  revert hK K;refine qW0 ?_;intro K hK
  try cbv
  exact hR _ _ ⟨_,false,hfail fun y hy he=>by have:=hlen y hy he;omega,leaf_wf (by decide),by rw[leaf_map];rfl,rfl⟩
 ·clear hlen
  revert hK K;refine qW0 ?_;intro K hK;refine qg [1] ?_;refine qC ?_;refine qD hP hA ?_;rintro res bx ⟨x,k,sx,xl,j,bad,d',qt,q1,q2,q3,q4,q5,q6,rfl,rfl⟩;refine qC ?_;have hkey:∀y:Rx,y.good->ofL y.txt=s->x=y/\bad=false/\j=N:=fun y hy he=>by
   obtain ⟨n,hn⟩:=good_read hy;have:=q6 n y [] (by rw[List.drop_zero,<-he,toL_ofL];exact hn)
   refine ⟨this.1,this.2.1,?_⟩;have h3:=congrArg List.length this.2.2;rw[List.length_drop,toL_len,List.length_nil] at h3;omega
  have hT:=hT x q1;simp only[agT,qt,List.map,tA] at hT;cases bad
  ·revert hK K;refine qW0 ?_;intro K hK
   simp only[hsz];refine GFork.mk (fun h3=>?_) (fun h3=>?_)<;>cbv
   ·have hne:j≠N:=qw3
    revert hK K;refine qW0 ?_;intro K hK
    try cbv
    exact hR _ _ ⟨_,false,hfail fun y hy he=>absurd (hkey y hy he).2.2 hne,leaf_wf (by decide),by rw[leaf_map];rfl,rfl⟩
   ·have hje:j=N:=qw3
    have hpos:0 < N:=by have:=(q5 rfl).2;omega
    revert hK K;refine qW0 ?_;intro K hK;refine qG ?_;refine qD hP hT ?_;rintro res bx ⟨t,t1,t2,rfl,rfl⟩;refine qC ?_;revert hK K;refine qW0 ?_;intro K hK;refine nC rfl (fun h5=>?_) (fun h5=>?_)
    ·have hne:t≠s:=qv5
     revert hK K;refine qW0 ?_;intro K hK
     try cbv
     exact hR _ _ ⟨_,false,hfail fun y hy he=>by
      obtain ⟨rfl,_,_⟩:=hkey y hy he;exact hne ((t1 hy).trans he),leaf_wf (by decide),by rw[leaf_map];rfl,rfl⟩
    ·have hts:t=s:=qv5
     have hg:x.good:=by
      by_cases h:x.good
      ·exact h
      ·have:=t2 h
       rw[hts] at this;rw[hN,this] at hpos;exact absurd hpos (by decide)
     have hp:IsParse s x true:=.inl ⟨rfl,hg,by rw[<-t1 hg,hts]⟩
     revert hK K;refine qW0 ?_;intro K hK
     try cbv
     exact hR _ _ ⟨x,true,hp,q1,by rw[qt];rfl,rfl⟩
  ·revert hK K;refine qW0 ?_;intro K hK
   try cbv
   exact hR _ _ ⟨_,false,hfail fun y hy he=>absurd (hkey y hy he).2.1 (by simp),leaf_wf (by decide),by rw[leaf_map];rfl,rfl⟩
end Go.Gv
