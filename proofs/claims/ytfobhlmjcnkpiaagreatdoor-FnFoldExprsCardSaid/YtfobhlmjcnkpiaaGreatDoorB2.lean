/- Part B2 of the proof: contracts of functions of the program, each walked once. -/
import Derived.Test.YtfobhlmjcnkpiaaGreatDoorD7
import Derived.Test.YtfobhlmjcnkpiaaGreatDoorB1
import Derived.Shelf.Strings.OnBuilder
import Derived.Test.YtfobhlmjcnkpiaaGreatDoorD9
set_option linter.all false
namespace Go.Gv
open Go.Av Go.Proofs Go.Shelf Go.RowKit
set_option maxRecDepth 10000
set_option maxHeartbeats 8000000
theorem DL0 (s:ByteArray) (i:Nat) (e:Int):ACl Tryz.prog 179 [⟨.one,[.ptr 0 0]⟩] [rdI s i e true] (fun res bx=>res=⟨.agg,[.lit (.int .i64 0),.lit (.string ⟨⟨[]⟩⟩),.ro true []]⟩/\bx=[rdI s i e true]):=by
 refine acI (ACl.ro (R:=fun res bx=>res=⟨.agg,[.lit (.int .i64 0),.lit (.string ⟨⟨[]⟩⟩),.nil]⟩/\bx=[rdI s i e true]) ?_) ?_
 ·refine qF tyK Tryz.func179 44 [.cell 2 138] ?_;unhygienic intros
  have hnt:bnot true=false:=by cases hO;rfl
  revert hK K;refine qW 1 ?_;intro K hK;refine nL (nb:=2) (keep:=fun t=>t == 0 || t == 2 || t == 3) (kk:=fun _ _=>none) (fun N σ=>N=0/\σ=⟨vag 44 [(0,⟨.one,[.ptr 0 0]⟩),(2,⟨.one,[.ptr 1 0]⟩),(3,⟨.one,[.nil]⟩)],[rdI s i e true,some [.lit (.int .i64 0),.lit (.string ⟨⟨[]⟩⟩),.nil]],1⟩) (by simp at hC;simp[hC]) ?_ ?_
  ·cbv
   exact ⟨_,rfl,by cbv⟩
  rintro m σ ⟨rfl,rfl⟩;revert hK K;refine qW 1 ?_;intro K hK;simp only[hnt];revert hK K;refine qW 1 ?_;intro K hK;refine nC rfl (fun h5=>?_) (fun h5=>?_)
  ·revert hK K;refine qW 1 ?_;intro K hK
   exact hR _ _ ⟨rfl,rfl⟩
  ·have hF:False:=by
    clear hM hP hC hR;try clear hK K
    cases hO;simp only[Ops.std,sCm,yW0,sqL,xJ0,qM0,Int.ofNat_eq_natCast] at *;simp at h5
   exact hF.elim
 ·rintro res bx ⟨r0,⟨rfl,h⟩,rfl⟩
  exact ⟨rfl,h⟩
def nY1 (s:ByteArray) (i e e1:Nat) (z:ByteArray) (N:Nat) (σ:AS):Prop:=
 ∃(j:Nat) (bad:Bool) (xs:List Rx) (xl:List (List T)),σ=⟨vag 59 [(0,⟨.one,[.ptr 0 0]⟩),(2,⟨.one,[.ptr 1 0]⟩),(3,⟨.one,[.ow (0,0) false 3 xl]⟩)],[rdI s j (Int.ofNat e1) bad,some [.lit (.int .i64 0),.lit (.string z),.nil]],1⟩/\
  xl=xs.map Rx.t/\i<=j/\j<=s.size+1/\xs.length+i<=j+1/\(bad=false->i < j/\j<=s.size)/\(∀x∈xs,x.Wf)/\(e<=8->AltI (8 - e) ((toL s).drop i) xs bad ((toL s).drop j))/\(bad=false->e1<=40)/\
  N=s.size+1 - j
theorem MV0 (L:Nat) (hC:ReadI 179 mCat 9 L):ReadI 163 mAlt 8 L:=by
 refine ReadI.of fun s i e hs hi hL he=>?_;obtain ⟨e1,he1⟩:=qX (e+1);have hCat:=fun (j:Nat) (h0:e1<=40) (h1:i<=j) (h2:j<=s.size)=>hC.opened s j e1 hs h2 (by omega) h0
 clear hC;refine qF tyK Tryz.func163 59 [.cell 2 138] ?_;unhygienic intros
 have hnt:bnot true=false:=by cases hO;rfl
 have hnf:bnot false=true:=by cases hO;rfl
 have ee:bin .add .i64 (Int.ofNat e) 1=_:=iSc hO (by omega)
 rw[<-he1] at ee;have es:bin .sub .i64 (Int.ofNat e1) 1=Int.ofNat e:=by rw[he1];cases hO;simp only[Ops.std,yW0,Int.ofNat_eq_natCast];rw[zW0 (by omega)];omega
 revert hK K;refine qW 1 ?_;intro K hK;simp only[ee];revert hK K;refine qW 1 ?_;intro K hK;refine nC rfl (fun h1=>?_) (fun h1=>?_)
 ·have h40:40 < e1:=qw1
  clear h1;have hbad:ACl Tryz.prog 179 [⟨.one,[.ptr 0 0]⟩] [rdI s i (Int.ofNat e1) true] (fun res bx=>∃(x:Rx) (k:Int) (sx:ByteArray) (xl:List (List T)) (j:Nat) (bad:Bool),x.t=[.lit (.int .i64 k),.lit (.string sx),.sl xl]/\x.Wf/\i<=j/\j<=s.size+1/\
    (bad=false->i < j/\j<=s.size)/\bad=true/\res=⟨.agg,[.lit (.int .i64 k),.lit (.string sx),.ro true xl]⟩/\bx=[rdI s j (Int.ofNat e1) bad]):=
   acI (DL0 s i (Int.ofNat e1)) fun res bx ⟨h1,h2⟩=>⟨.mk 0 e0 [],0,e0,[],i,true,by rw[Rx.t_mk];rfl,zL0 (by decide),Nat.le_refl _,by omega,fun h=>by simp at h,rfl,h1,h2⟩
  revert hK K;refine qW 1 ?_;intro K hK;refine qg (nN [0]) ?_;refine qC ?_;refine qD hP hbad ?_;rintro res bx ⟨x,k,sx,xl0,j,bad,qt,q1,q2,q3,q4,q7,rfl,rfl⟩;refine qC ?_;have q6:bad=false->e1<=40:=fun h=>by rw[h] at q7;simp at q7
  have q5:e<=8->CatP (8 - e) ((toL s).drop i) x bad ((toL s).drop j):=fun h=>by omega
  clear q7 hbad;revert hK K;refine qW 1 ?_;intro K hK;refine qL 2 [0,2,3] kk0 (nY1 s i e e1 ⟨⟨[]⟩⟩) ?_ ?_
  ·cbv
   exact ⟨_,j,bad,[x],_,by cbv,by rw[<-qt];rfl,q2,q3,by simp;omega,q4,by simpa using q1,fun he=>YC0 (q5 he),q6,rfl⟩
  clear q1 q2 q3 q4 q5 q6 qt x;rintro m σ ⟨j,bad,xs,xl,rfl,hxl,g1,g2,g3,g5,g6,g7,g8,rfl⟩;cases bad
  ·obtain ⟨g5',g5''⟩:=g5 rfl
   obtain ⟨ci,hci⟩:=qX (Int.ofNat (zN0 s j).toNat);have hk:∀k:UInt8,ci=Int.ofNat k.toNat↔zN0 s j=k:=fun k=>by rw[hci,uA0];exact ⟨fun h=>Int.ofNat.inj h,fun h=>by rw[h]⟩
   have h124:ci=124↔zN0 s j=124:=hk 124;have hcase:((toL s).drop j=[]/\zN0 s j=0)\/((toL s).drop j=zN0 s j::(toL s).drop (j+1)/\j < s.size):=by
    unfold zN0;cases h2:(toL s)[j]? with
    | none=>exact .inl ⟨List.drop_eq_nil_of_le (List.getElem?_eq_none_iff.1 h2),rfl⟩
    | some c=>exact .inr ⟨drop_cons h2,by have:=(List.getElem?_eq_some_iff.1 h2).1;rwa[zJ0] at this⟩
   have hnext:ACl Tryz.prog 180 [⟨.one,[.ptr 0 0]⟩] [rdI s j (Int.ofNat e1) false] (fun res bx=>res=litU ci/\bx=[rdI s j (Int.ofNat e1) false]):=
    acI (hL0 s j (Int.ofNat e1) false) fun res bx ⟨b,h1,h2,h3⟩=>⟨by rw[h2,h1,hci],h3⟩
   clear hk hci;revert hK K;refine qW 1 ?_;intro K hK;simp only[hnf];revert hK K;refine qW 1 ?_;intro K hK;refine qg (nN [0]) ?_;refine qC ?_;refine qD hP hnext ?_;rintro res bx ⟨rfl,rfl⟩;refine qC ?_;revert hK K;refine qW 1 ?_;intro K hK;refine nC rfl (fun h5=>?_) (fun h5=>?_)
   ·have y124:ci=124:=qv5
    have m124:=h124.1 y124;have hd:=hcase.resolve_left fun h=>absurd (m124.symm.trans h.2) (by decide)
    rw[m124] at hd;obtain ⟨hdr,hlt⟩:=hd;have ej:bin .add .i64 (Int.ofNat j) 1=_:=iSc hO (by omega)
    obtain ⟨j1,hj1⟩:=qX (j+1);rw[<-hj1] at ej hdr;clear h5 h124 hcase hnext y124 m124;revert hK K;refine qW 1 ?_;intro K hK;simp only[ej];revert hK K;refine qW 1 ?_;intro K hK;refine qg (nN [0]) ?_;refine qC ?_;refine qD hP (hCat j1 (g8 rfl) (by omega) (by omega)) ?_;rintro res bx ⟨x,k,sx,xl0,j',bad,qt,q1,q2,q3,q4,q5,rfl,rfl⟩;refine qC ?_
    obtain ⟨xl',hxl'⟩:=qX ((xs++[x]).map Rx.t);have happ:app xl [[T.lit (.int .i64 k),T.lit (.string sx),T.sl xl0]]=xl':=by rw[hxl'];exact VK0 hO hxl x qt
    have haok:∀b,b<=64->aOk b xl [[T.lit (.int .i64 k),T.lit (.string sx),T.sl xl0]]:=fun b hb=>dR0 hO (by
     have:(xl.length+1) * b<=1099511627778 * 64:=Nat.mul_le_mul (by rw[hxl,List.length_map];omega) hb
     simp only[List.length_cons,List.length_nil,Nat.zero_add] at this |-;omega) (by rw[hxl,List.length_map];simp only[List.length_cons,List.length_nil];omega)
    revert hK K;refine qW 1 ?_;intro K hK;simp only[happ];refine ndC (alO hO (by simp)) (ndC (haok _ (by decide)) (ndN ?_))
    revert hK K;refine qW 1 ?_;intro K hK;exact ⟨s.size+1 - j',by omega,j',bad,xs++[x],xl',by cbv,hxl',by omega,q3,by simp only[List.length_append,List.length_cons,List.length_nil];omega,fun h=>by have:=q4 h;omega,fun y hy=>by
     rcases List.mem_append.1 hy with hy | hy
     ·exact g6 y hy
     ·obtain rfl:=List.mem_singleton.1 hy;exact q1,fun he=>gC0 (g7 he) hdr (by have:=q5 (by omega);rwa[show 9 - e1=8 - e by omega] at this),fun _=>g8 rfl,rfl⟩
   ·have y124:ci≠124:=qv5
    have hend:false=true\/∀r,(toL s).drop j≠124::r:=.inr fun r hr=>by
     rcases hcase with h | h
     ·rw[h.1] at hr;simp at hr
     ·rw[h.1] at hr
      exact y124 (h124.2 (List.cons.inj hr).1)
    clear h5 h124 hcase hnext y124;have hfin:=fun he=>pW0 (g7 he) hend;obtain ⟨n,hn⟩:=qX xs.length;have hln:len xl=n:=lnO hO (by simp[hxl,hn])
    revert hK K;refine qW 1 ?_;intro K hK;simp only[es];revert hK K;refine qW 1 ?_;intro K hK;simp only[hln];refine nC rfl (fun h5=>?_) (fun h5=>?_)
    ·have h6:n=1:=qw5
     obtain ⟨x,rfl⟩:∃x,xs=[x]:=List.length_eq_one_iff.1 (hn.symm.trans h6);obtain ⟨x',hx1,hx2,hx3,e1'⟩:=mpA hO hxl (i:=0) (by simp)
     obtain rfl:x=x':=by simpa using hx2
     have hidx:idx 0 (len xl):=by rw[hln,h6];exact ixN hO (i:=0) (n:=1) (by omega)
     have hidx':idx (Int.ofNat (nadd 0 (nat 0))) (len xl):=by cases hO;exact hidx
     have ha:all xl 3:=alO hO (by subst hxl;simp[Rx.t_len])
     have e2:get xl (nadd 0 (nat 0))=x.t:=by cases hO;exact e1'
     have hwx:=g6 x List.mem_cons_self;rw[yG0] at hfin;obtain ⟨k,sx,l⟩:=x;rw[Rx.t_mk] at e2;generalize hxl':l.map Rx.t=xl' at e2;revert hK K;refine qW 1 ?_;intro K hK
     repeat (simp only[e2];cbv)
     repeat' (with_reducible first | refine ndC hidx ?_ | refine ndC hidx' ?_ | refine ndC ha ?_ | refine ndC True.intro ?_ | apply ndN)
     revert hK K;refine qW 1 ?_;intro K hK
     try cbv
     exact hR _ _ ⟨.mk k sx l,j,false,⟨hwx,g1,g2,g5,hfin⟩,by rw[Rx.t_mk,hxl'];rfl,rfl⟩
    ·have h6':n≠1:=qw5
     have h6:xs.length≠1:=hn ▸ h6';have hw:=wG0 (k:=5) (xs:=xs) (by omega) g6
     rw[zV0 h6] at hfin hw;revert hK K;refine qW 1 ?_;intro K hK
     try cbv
     exact hR _ _ ⟨.mk 5 e0 xs,j,false,⟨hw,g1,g2,g5,hfin⟩,by rw[Rx.t_mk,<-hxl];rfl,rfl⟩
  ·have hend:true=true\/∀r,(toL s).drop j≠124::r:=.inl rfl
   revert hK K;refine qW 1 ?_;intro K hK;simp only[hnt];have hfin:=fun he=>pW0 (g7 he) hend;obtain ⟨n,hn⟩:=qX xs.length;have hln:len xl=n:=lnO hO (by simp[hxl,hn])
   revert hK K;refine qW 1 ?_;intro K hK;simp only[es];revert hK K;refine qW 1 ?_;intro K hK;simp only[hln];refine nC rfl (fun h5=>?_) (fun h5=>?_)
   ·have h6:n=1:=qw5
    obtain ⟨x,rfl⟩:∃x,xs=[x]:=List.length_eq_one_iff.1 (hn.symm.trans h6);obtain ⟨x',hx1,hx2,hx3,e1'⟩:=mpA hO hxl (i:=0) (by simp)
    obtain rfl:x=x':=by simpa using hx2
    have hidx:idx 0 (len xl):=by rw[hln,h6];exact ixN hO (i:=0) (n:=1) (by omega)
    have hidx':idx (Int.ofNat (nadd 0 (nat 0))) (len xl):=by cases hO;exact hidx
    have ha:all xl 3:=alO hO (by subst hxl;simp[Rx.t_len])
    have e2:get xl (nadd 0 (nat 0))=x.t:=by cases hO;exact e1'
    have hwx:=g6 x List.mem_cons_self;rw[yG0] at hfin;obtain ⟨k,sx,l⟩:=x;rw[Rx.t_mk] at e2;generalize hxl':l.map Rx.t=xl' at e2;revert hK K;refine qW 1 ?_;intro K hK
    repeat (simp only[e2];cbv)
    repeat' (with_reducible first | refine ndC hidx ?_ | refine ndC hidx' ?_ | refine ndC ha ?_ | refine ndC True.intro ?_ | apply ndN)
    revert hK K;refine qW 1 ?_;intro K hK
    try cbv
    exact hR _ _ ⟨.mk k sx l,j,true,⟨hwx,g1,g2,g5,hfin⟩,by rw[Rx.t_mk,hxl'];rfl,rfl⟩
   ·have h6':n≠1:=qw5
    have h6:xs.length≠1:=hn ▸ h6';have hw:=wG0 (k:=5) (xs:=xs) (by omega) g6
    rw[zV0 h6] at hfin hw;revert hK K;refine qW 1 ?_;intro K hK
    try cbv
    exact hR _ _ ⟨.mk 5 e0 xs,j,true,⟨hw,g1,g2,g5,hfin⟩,by rw[Rx.t_mk,<-hxl];rfl,rfl⟩
 ·have h40:e1<=40:=qw1
  clear h1;revert hK K;refine qW 1 ?_;intro K hK;refine qg (nN [0]) ?_;refine qC ?_;refine qD hP (hCat i h40 (Nat.le_refl _) hi) ?_;rintro res bx ⟨x,k,sx,xl0,j,bad,qt,q1,q2,q3,q4,q7,rfl,rfl⟩;refine qC ?_;have q6:bad=false->e1<=40:=fun _=>h40;have q5:e<=8->CatP (8 - e) ((toL s).drop i) x bad ((toL s).drop j):=fun h=>by have:=q7 (by omega);rwa[show 9 - e1=8 - e by omega] at this
  clear q7;revert hK K;refine qW 1 ?_;intro K hK;refine qL 2 [0,2,3] kk0 (nY1 s i e e1 ⟨⟨[]⟩⟩) ?_ ?_
  ·cbv
   exact ⟨_,j,bad,[x],_,by cbv,by rw[<-qt];rfl,q2,q3,by simp;omega,q4,by simpa using q1,fun he=>YC0 (q5 he),q6,rfl⟩
  clear q1 q2 q3 q4 q5 q6 qt x;rintro m σ ⟨j,bad,xs,xl,rfl,hxl,g1,g2,g3,g5,g6,g7,g8,rfl⟩;cases bad
  ·obtain ⟨g5',g5''⟩:=g5 rfl
   obtain ⟨ci,hci⟩:=qX (Int.ofNat (zN0 s j).toNat);have hk:∀k:UInt8,ci=Int.ofNat k.toNat↔zN0 s j=k:=fun k=>by rw[hci,uA0];exact ⟨fun h=>Int.ofNat.inj h,fun h=>by rw[h]⟩
   have h124:ci=124↔zN0 s j=124:=hk 124;have hcase:((toL s).drop j=[]/\zN0 s j=0)\/((toL s).drop j=zN0 s j::(toL s).drop (j+1)/\j < s.size):=by
    unfold zN0;cases h2:(toL s)[j]? with
    | none=>exact .inl ⟨List.drop_eq_nil_of_le (List.getElem?_eq_none_iff.1 h2),rfl⟩
    | some c=>exact .inr ⟨drop_cons h2,by have:=(List.getElem?_eq_some_iff.1 h2).1;rwa[zJ0] at this⟩
   have hnext:ACl Tryz.prog 180 [⟨.one,[.ptr 0 0]⟩] [rdI s j (Int.ofNat e1) false] (fun res bx=>res=litU ci/\bx=[rdI s j (Int.ofNat e1) false]):=
    acI (hL0 s j (Int.ofNat e1) false) fun res bx ⟨b,h1,h2,h3⟩=>⟨by rw[h2,h1,hci],h3⟩
   clear hk hci;revert hK K;refine qW 1 ?_;intro K hK;simp only[hnf];revert hK K;refine qW 1 ?_;intro K hK;refine qg (nN [0]) ?_;refine qC ?_;refine qD hP hnext ?_;rintro res bx ⟨rfl,rfl⟩;refine qC ?_;revert hK K;refine qW 1 ?_;intro K hK;refine nC rfl (fun h5=>?_) (fun h5=>?_)
   ·have y124:ci=124:=qv5
    have m124:=h124.1 y124;have hd:=hcase.resolve_left fun h=>absurd (m124.symm.trans h.2) (by decide)
    rw[m124] at hd;obtain ⟨hdr,hlt⟩:=hd;have ej:bin .add .i64 (Int.ofNat j) 1=_:=iSc hO (by omega)
    obtain ⟨j1,hj1⟩:=qX (j+1);rw[<-hj1] at ej hdr;clear h5 h124 hcase hnext y124 m124;revert hK K;refine qW 1 ?_;intro K hK;simp only[ej];revert hK K;refine qW 1 ?_;intro K hK;refine qg (nN [0]) ?_;refine qC ?_;refine qD hP (hCat j1 (g8 rfl) (by omega) (by omega)) ?_;rintro res bx ⟨x,k,sx,xl0,j',bad,qt,q1,q2,q3,q4,q5,rfl,rfl⟩;refine qC ?_
    obtain ⟨xl',hxl'⟩:=qX ((xs++[x]).map Rx.t);have happ:app xl [[T.lit (.int .i64 k),T.lit (.string sx),T.sl xl0]]=xl':=by rw[hxl'];exact VK0 hO hxl x qt
    have haok:∀b,b<=64->aOk b xl [[T.lit (.int .i64 k),T.lit (.string sx),T.sl xl0]]:=fun b hb=>dR0 hO (by
     have:(xl.length+1) * b<=1099511627778 * 64:=Nat.mul_le_mul (by rw[hxl,List.length_map];omega) hb
     simp only[List.length_cons,List.length_nil,Nat.zero_add] at this |-;omega) (by rw[hxl,List.length_map];simp only[List.length_cons,List.length_nil];omega)
    revert hK K;refine qW 1 ?_;intro K hK;simp only[happ];refine ndC (alO hO (by simp)) (ndC (haok _ (by decide)) (ndN ?_))
    revert hK K;refine qW 1 ?_;intro K hK;exact ⟨s.size+1 - j',by omega,j',bad,xs++[x],xl',by cbv,hxl',by omega,q3,by simp only[List.length_append,List.length_cons,List.length_nil];omega,fun h=>by have:=q4 h;omega,fun y hy=>by
     rcases List.mem_append.1 hy with hy | hy
     ·exact g6 y hy
     ·obtain rfl:=List.mem_singleton.1 hy;exact q1,fun he=>gC0 (g7 he) hdr (by have:=q5 (by omega);rwa[show 9 - e1=8 - e by omega] at this),fun _=>g8 rfl,rfl⟩
   ·have y124:ci≠124:=qv5
    have hend:false=true\/∀r,(toL s).drop j≠124::r:=.inr fun r hr=>by
     rcases hcase with h | h
     ·rw[h.1] at hr;simp at hr
     ·rw[h.1] at hr
      exact y124 (h124.2 (List.cons.inj hr).1)
    clear h5 h124 hcase hnext y124;have hfin:=fun he=>pW0 (g7 he) hend;obtain ⟨n,hn⟩:=qX xs.length;have hln:len xl=n:=lnO hO (by simp[hxl,hn])
    revert hK K;refine qW 1 ?_;intro K hK;simp only[es];revert hK K;refine qW 1 ?_;intro K hK;simp only[hln];refine nC rfl (fun h5=>?_) (fun h5=>?_)
    ·have h6:n=1:=qw5
     obtain ⟨x,rfl⟩:∃x,xs=[x]:=List.length_eq_one_iff.1 (hn.symm.trans h6);obtain ⟨x',hx1,hx2,hx3,e1'⟩:=mpA hO hxl (i:=0) (by simp)
     obtain rfl:x=x':=by simpa using hx2
     have hidx:idx 0 (len xl):=by rw[hln,h6];exact ixN hO (i:=0) (n:=1) (by omega)
     have hidx':idx (Int.ofNat (nadd 0 (nat 0))) (len xl):=by cases hO;exact hidx
     have ha:all xl 3:=alO hO (by subst hxl;simp[Rx.t_len])
     have e2:get xl (nadd 0 (nat 0))=x.t:=by cases hO;exact e1'
     have hwx:=g6 x List.mem_cons_self;rw[yG0] at hfin;obtain ⟨k,sx,l⟩:=x;rw[Rx.t_mk] at e2;generalize hxl':l.map Rx.t=xl' at e2;revert hK K;refine qW 1 ?_;intro K hK
     repeat (simp only[e2];cbv)
     repeat' (with_reducible first | refine ndC hidx ?_ | refine ndC hidx' ?_ | refine ndC ha ?_ | refine ndC True.intro ?_ | apply ndN)
     revert hK K;refine qW 1 ?_;intro K hK
     try cbv
     exact hR _ _ ⟨.mk k sx l,j,false,⟨hwx,g1,g2,g5,hfin⟩,by rw[Rx.t_mk,hxl'];rfl,rfl⟩
    ·have h6':n≠1:=qw5
     have h6:xs.length≠1:=hn ▸ h6';have hw:=wG0 (k:=5) (xs:=xs) (by omega) g6
     rw[zV0 h6] at hfin hw;revert hK K;refine qW 1 ?_;intro K hK
     try cbv
     exact hR _ _ ⟨.mk 5 e0 xs,j,false,⟨hw,g1,g2,g5,hfin⟩,by rw[Rx.t_mk,<-hxl];rfl,rfl⟩
  ·have hend:true=true\/∀r,(toL s).drop j≠124::r:=.inl rfl
   revert hK K;refine qW 1 ?_;intro K hK;simp only[hnt];have hfin:=fun he=>pW0 (g7 he) hend;obtain ⟨n,hn⟩:=qX xs.length;have hln:len xl=n:=lnO hO (by simp[hxl,hn])
   revert hK K;refine qW 1 ?_;intro K hK;simp only[es];revert hK K;refine qW 1 ?_;intro K hK;simp only[hln];refine nC rfl (fun h5=>?_) (fun h5=>?_)
   ·have h6:n=1:=qw5
    obtain ⟨x,rfl⟩:∃x,xs=[x]:=List.length_eq_one_iff.1 (hn.symm.trans h6);obtain ⟨x',hx1,hx2,hx3,e1'⟩:=mpA hO hxl (i:=0) (by simp)
    obtain rfl:x=x':=by simpa using hx2
    have hidx:idx 0 (len xl):=by rw[hln,h6];exact ixN hO (i:=0) (n:=1) (by omega)
    have hidx':idx (Int.ofNat (nadd 0 (nat 0))) (len xl):=by cases hO;exact hidx
    have ha:all xl 3:=alO hO (by subst hxl;simp[Rx.t_len])
    have e2:get xl (nadd 0 (nat 0))=x.t:=by cases hO;exact e1'
    have hwx:=g6 x List.mem_cons_self;rw[yG0] at hfin;obtain ⟨k,sx,l⟩:=x;rw[Rx.t_mk] at e2;generalize hxl':l.map Rx.t=xl' at e2;revert hK K;refine qW 1 ?_;intro K hK
    repeat (simp only[e2];cbv)
    repeat' (with_reducible first | refine ndC hidx ?_ | refine ndC hidx' ?_ | refine ndC ha ?_ | refine ndC True.intro ?_ | apply ndN)
    revert hK K;refine qW 1 ?_;intro K hK
    try cbv
    exact hR _ _ ⟨.mk k sx l,j,true,⟨hwx,g1,g2,g5,hfin⟩,by rw[Rx.t_mk,hxl'];rfl,rfl⟩
   ·have h6':n≠1:=qw5
    have h6:xs.length≠1:=hn ▸ h6';have hw:=wG0 (k:=5) (xs:=xs) (by omega) g6
    rw[zV0 h6] at hfin hw;revert hK K;refine qW 1 ?_;intro K hK
    try cbv
    exact hR _ _ ⟨.mk 5 e0 xs,j,true,⟨hw,g1,g2,g5,hfin⟩,by rw[Rx.t_mk,<-hxl];rfl,rfl⟩
set_option maxRecDepth 100000
set_option maxHeartbeats 4000000
def GM0:Go.Shelf.Ren:=⟨fun n=>match n with | 156=>213 | 165=>231 | 166=>232 | 169=>233 | 240=>242 | 241=>243 | 276=>247 | 277=>248 | n=>n,
 fun n=>match n with | 31=>53 | 37=>22 | 70=>198 | 72=>200 | 75=>203 | 76=>204 | 80=>206 | 127=>209 | 164=>212 | n=>n,fun n=>n⟩
theorem QK0:Lays.n156 Tryz.prog GM0:=by
 constructor
 all_goals first | rfl|(intro w;rfl)
theorem nM1:Builder.Extra Tryz.prog GM0 where
 sizeBuilder:=rfl
 liesBuilder:=by kernel_rfl
 t5:=rfl
 a5:=fun _=>rfl
 z5:=fun _=>rfl
 v5:=fun _=>rfl
 infoByte:=rfl
 cellsByte:=by kernel_rfl
 sizeByte:=rfl
 neB5:=by decide
theorem fH0 {S:Nat->Prop} {w:World} {b:Nat}:∀{l:List ByteArray} {o:Nat},RepSE S w b o (strs l)->∀j x,l[j]?=some x->w.cell? ⟨b,o+j,none⟩=some (.string x)
 | [],o,_,j,x,hj=>by simp at hj
 | y::l,o,h,j,x,hj=>by
  simp only[strs,List.map_cons,RepSE,RepSC,List.length_singleton] at h;obtain ⟨⟨⟨u,h1,h2⟩,_⟩,h3⟩:=h;cases j with
  | zero=>
   simp at hj;subst hj;simp only[RepS] at h2;rw[Nat.add_zero,h1,h2.1]
  | succ j=>
   simp at hj;have:=fH0 h3 j x hj;rwa[show o+1+j=o+(j+1) by omega] at this
theorem Keeps.of_below {O:List Nat} {w w':World} (h:Below w.heap.size w w'):Av.Keeps O w w':=⟨h.os,h.tape,h.output,h.size,fun b hb _=>h.block b hb⟩
def XP0 (sep:ByteArray) (l:List ByteArray):ByteArray:=⟨(Lib.join (l.map (·.data.toList)) sep.data.toList).toArray⟩
theorem mN1 (sep:ByteArray) (els:List (List T)) (fields:List ByteArray) (he:els=strs fields) (hl:fields.length<=1048576) (hF:(XP0 sep fields).size<=1099511627776) :
  ACl Tryz.prog 213 [⟨.one,[.ro true els]⟩,litS sep] [] (fun res bx=>∃s,s=XP0 sep fields/\res=litS s/\bx=[]):=by
 intro w vals S L bl O1 O2 h1 h2 hn hsl hst hgd;obtain ⟨v1,us1,o1,o2,e1,rfl,⟨g1,g2⟩,h1⟩:=h1;obtain ⟨v2,us2,o3,o4,e2,rfl,⟨g3,g4⟩,h1⟩:=h1;obtain ⟨rfl,rfl⟩:=h1;obtain ⟨rfl,rfl⟩:=h2;rw[yQ0 g1] at g2;rw[yQ0 g3] at g4;obtain ⟨u,us,p1,p2,k1,rfl,⟨hr,rfl⟩,⟨_,rfl⟩⟩:=g2;obtain ⟨u',us',p3,p4,k2,rfl,⟨rfl,_,rfl⟩,⟨_,rfl⟩⟩:=g4;simp at k1 k2;obtain ⟨rfl,_⟩:=k1;obtain ⟨rfl,_⟩:=k2;subst e2;simp only[RepS] at hr
 obtain ⟨ad,cap,rfl,hcap,hne⟩:=hr;have hv:vals=#[.slice ad els.length cap,.string sep]:=by
  apply Array.ext';simpa using e1
 subst hv;have main:Calls Tryz.prog 213 #[.slice ad els.length cap,.string sep] w fun e w'=>e=.returned (.string (XP0 sep fields))/\Below w.heap.size w w':=by
  by_cases h0:els=[]
  ·have hf0:fields=[]:=by
    cases fields with
    | nil=>rfl
    | cons a r=>rw[he] at h0;simp[strs] at h0
   subst h0;subst hf0;exact (Any.strings_Join_none QK0 nM1 ad cap sep w).mono fun e w' ⟨he,hw⟩=>⟨he,hw ▸ Below.refl _ _⟩
  ·obtain ⟨b,o,rfl,hLb,hrep⟩:=hne h0
   subst he;have hcells:=fH0 hrep;have hj:(Lib.join (fields.map (·.data.toList)) sep.data.toList).length<=140737488355328:=by
    have h2:(XP0 sep fields).size=(Lib.join (fields.map (·.data.toList)) sep.data.toList).length:=by simp[XP0,ByteArray.size]
    omega
   rw[RF0] at hcap |-;exact Any.strings_Join QK0 nM1 b o cap fields sep w hcells (hst b (hsl b hLb)).1 (by omega) hcap hj
 refine Calls.mono main ?_;rintro e w' ⟨rfl,hbel⟩;refine ⟨_,rfl,litS (XP0 sep fields),[],S,[],[],[],⟨_,rfl,rfl,rfl⟩,⟨⟨rfl,rfl⟩,_,[],[],[],rfl,rfl,⟨rfl,rfl,rfl⟩,rfl,rfl⟩,⟨rfl,rfl⟩,by simp,?_,fun _ h=>h,fun _ h=>.inl h,Gv.Keeps.of_below hbel,by simp,List.prefix_rfl⟩
 intro b hb;have:=hst b (hsl b hb);exact ⟨by have:=hbel.size;omega,by simp⟩
theorem ACl.nilLast {P:Program} {f:FuncId} {a:AV} {bx:List (Option (List A))} {R:AV->List (Option (List A))->Prop} (h:ACl P f [a,⟨.one,[.ro true []]⟩] bx R):ACl P f [a,⟨.one,[.nil]⟩] bx R:=by
 intro w vals S L bl O1 O2 h1;refine h w vals S L bl O1 O2 ?_;obtain ⟨v1,us1,o1,o2,e1,e2,g1,v2,us2,o3,o4,e3,e4,⟨g3,g4⟩,h5⟩:=h1;refine ⟨v1,us1,o1,o2,e1,e2,g1,v2,us2,o3,o4,e3,e4,⟨g3,?_⟩,h5⟩;obtain ⟨u,us',p1,p2,k1,k2,⟨⟨ad,rfl⟩,rfl⟩,k4⟩:=g4;exact ⟨_,us',[],p2,k1,k2,⟨by simp only[RepS];exact ⟨ad,0,rfl,Nat.le_refl _,fun hne=>absurd rfl hne⟩,rfl⟩,k4⟩
theorem depths_le {l:List Rx} {m:Nat}:Rx.depths l<=m↔∀x∈l,x.depth<=m:=by
 induction l with
 | nil=>simp[Rx.depths]
 | cons a l ih=>rw[Rx.depths,List.forall_mem_cons,<-ih];omega
theorem partss_app:∀a b,Rx.partss (a++b)=Rx.partss a+Rx.partss b
 | [],b=>by simp[Rx.partss]
 | e::a,b=>by rw[List.cons_append,Rx.partss,Rx.partss,partss_app a b];omega
theorem partss_one (x:Rx):Rx.partss [x]=x.parts:=by simp[Rx.partss]
theorem partss_take (l:List Rx) (i:Nat):Rx.partss (l.take i)<=Rx.partss l:=by
 have:=congrArg Rx.partss (List.take_append_drop i l);rw[partss_app] at this;omega
def jX0 (l:List Rx) (d i:Nat):Prop:=(∀x∈l.take i,x.depth+(d+1)<=7)/\1+Rx.partss (l.take i)<=60
theorem XH0 {k:Int} {s:ByteArray} {l:List Rx} {d:Nat} (hd:d<=6):jX0 l d l.length↔(Rx.mk k s l).depth+d<=7/\(Rx.mk k s l).parts<=60:=by
 unfold jX0;rw[List.take_length,Rx.depth,Rx.parts];refine and_congr_left fun _=>?_;rw[show 1+Rx.depths l+d<=7↔Rx.depths l<=6 - d by omega,depths_le]
 exact forall_congr' fun x=>forall_congr' fun _=>by omega
theorem MA0 {l:List Rx} {d i:Nat} (h:jX0 l d l.length):jX0 l d i:=by
 unfold jX0 at *;rw[List.take_length] at h;exact ⟨fun x hx=>h.1 x (List.mem_of_mem_take hx),by have:=partss_take l i;omega⟩
theorem NZ0 {l:List Rx} {d i:Nat} {x:Rx} (ht:l.take (i+1)=l.take i++[x]):jX0 l d (i+1)↔jX0 l d i/\x.depth+(d+1)<=7/\1+Rx.partss (l.take i)+x.parts<=60:=by
 unfold jX0;rw[ht,partss_app,partss_one];simp only[List.mem_append,List.mem_singleton]
 constructor
 ·rintro ⟨h1,h2⟩;exact ⟨⟨fun y hy=>h1 y (.inl hy),by omega⟩,h1 x (.inr rfl),by omega⟩
 ·rintro ⟨⟨h1,h2⟩,h3,h4⟩
  refine ⟨fun y hy=>?_,by omega⟩
  rcases hy with hy | rfl
  ·exact h1 y hy
  ·exact h3
def nW1 (cs:List A) (l:List Rx) (d:Nat) (N:Nat) (σ:AS):Prop:=
 ∃(i n:Nat),σ=⟨vag 31 [(1,litI (Int.ofNat d)),(2,⟨.one,[.ptr 0 0]⟩),(5,litI (Int.ofNat n)),(6,litI (Int.ofNat i))],[some cs],1⟩/\i<=l.length/\
  1<=n/\n<=61+60 * (7 - d)/\(n<=60↔jX0 l d i)/\(n<=60->n=1+Rx.partss (l.take i))/\N=l.length - i
theorem WJ0 (r:Rx):∀(d:Nat),d<=7->r.Wf->ACl Tryz.prog 224 [agT r.t,litI (Int.ofNat d)] []
  (fun res bx=>∃n:Nat,1<=n/\n<=61+60 * (7 - d)/\(n<=60↔r.depth+d<=7/\r.parts<=60)/\(n<=60->n=r.parts)/\res=litI (Int.ofNat n)/\bx=[]):=by
 obtain ⟨k,s,l⟩:=r;intro d hd hw;have ih:=fun x (hx:x∈l)=>WJ0 x;have hlow:=fun h:d<=6=>XH0 (k:=k) (s:=s) (l:=l) h;have hpar:(Rx.mk k s l).parts=1+Rx.partss l:=by rw[Rx.parts]
 have hdep:1<=(Rx.mk k s l).depth:=Rx.depth_pos _;generalize (Rx.mk k s l).depth=dep at *;generalize (Rx.mk k s l).parts=par at *;obtain ⟨hsz,hll,hwl⟩:=hw.inv;obtain ⟨xl,hxl⟩:=qX (l.map Rx.t);simp only[agT,Rx.t_mk,List.map,tA];rw[<-hxl];refine qF tyK Tryz.func224 31 [.tmp 4] ?_;unhygienic intros
 obtain ⟨N,hN⟩:=qX l.length;have hlen:len xl=N:=lnO hO (by simp[hxl,hN])
 have ha:all xl 3:=alO hO (by subst hxl;simp[Rx.t_len])
 obtain ⟨cs,hcs⟩:=qX ([.lit (.int .i64 k),.lit (.string s),.ro true xl]:List A);rw[<-hN] at hll;revert hK K;refine qW 0 ?_;intro K hK;refine nC rfl (fun h1=>?_) (fun h1=>?_)
 ·have h2:6 < d:=qw1
  revert hK K;refine qW 0 ?_;intro K hK;exact hR _ _ ⟨61,by omega,by omega,by omega,by omega,rfl,rfl⟩
 ·have h2:d<=6:=qw1
  have hlow:=hlow h2;have ed:bin .add .i64 (Int.ofNat d) 1=_:=iSc hO (by omega)
  revert hK K;refine qW 0 ?_;intro K hK;refine qL 1 [1,2,5,6] kk0 (nW1 cs l d) ?_ ?_
  ·cbv
   exact ⟨_,0,1,by (try rw[hcs]);cbv,by simp,by omega,by omega,by simp[jX0,Rx.partss],by simp[Rx.partss],rfl⟩
  rintro m σ ⟨i,n,rfl,g1,g2,g3,g4,g5,rfl⟩
  try rw[hcs]
  revert hK K;refine qW 0 ?_;intro K hK;simp only[hlen];refine GFork.mk (fun h3=>?_) (fun h3=>?_)<;>cbv
  ·have hlt:i < N:=qv3
   obtain ⟨x,hx,hx',ht,e1⟩:=mpA hO hxl (hN ▸ hlt);have e:bin .add .i64 (Int.ofNat i) 1=_:=iSc hO (by omega)
   have hidx:idx (Int.ofNat i) (len xl):=hlen ▸ ixN hO hlt;have hst:=NZ0 (d:=d) ht;have hpx:=partss_app (l.take i) [x];rw[<-ht,partss_one] at hpx;have hcall:=ih x hx (d+1) (by omega) (hwl x hx)
   have hpp:=x.parts_pos;generalize x.depth=xd at *;generalize x.parts=xp at *;obtain ⟨k',s',l'⟩:=x;simp only[agT,Rx.t_mk,List.map,tA] at hcall e1;generalize l'.map Rx.t=xl' at hcall e1;revert hK K;refine qW 0 ?_;intro K hK;refine nC rfl (fun h5=>?_) (fun h5=>?_)
   ·have h60:n<=60:=qw5
    revert hK K;refine qW 0 ?_;intro K hK
    repeat (simp only[e1];cbv)
    simp only[ed];refine ndC hidx (ndC ha (ndN ?_));refine qG ?_;refine qD hP hcall ?_;rintro res bx ⟨q,q1,q2,q3,q4,rfl,rfl⟩;refine qC ?_;have e2:bin .add .i64 (Int.ofNat n) (Int.ofNat q)=_:=qG0 hO (by omega)
    generalize hm3:n+q=m3 at e2;simp only[e2];revert hK K;refine qW 0 ?_;intro K hK;rw[e];refine ⟨N - (i+1),by omega,i+1,m3,by (try rw[hcs]);cbv,by omega,by omega,by omega,?_,fun h=>?_,by rw[hN]⟩
    ·rw[hst]
     have:=g5 h60;have:=g4.1 h60
     constructor
     ·intro h
      have h7:q<=60:=by omega
      have:=q4 h7;exact ⟨g4.1 h60,(q3.1 h7).1,by omega⟩
     ·rintro ⟨_,h7,h8⟩
      have:=q3.2 ⟨h7,by omega⟩
      have:=q4 this;omega
    ·have:=g5 h60
     have:=q4 (by omega)
     omega
   ·have h60:60 < n:=qw5
    revert hK K;refine qW 0 ?_;intro K hK;refine hR _ _ ⟨n,g2,g3,⟨fun h=>by omega,fun h=>?_⟩,fun h=>by omega,rfl,rfl⟩
    exact g4.2 (MA0 (hlow.2 h))
  ·have hge:i=N:=qw3
   have hil:i=l.length:=by omega
   have e2:l.take i=l:=List.take_of_length_le (by omega)
   rw[e2] at g5;rw[hil,hlow] at g4;revert hK K;refine qW 0 ?_;intro K hK;exact hR _ _ ⟨n,g2,g3,g4,fun h=>by rw[g5 h,hpar],rfl,rfl⟩
termination_by SizeOf.sizeOf r
decreasing_by
 have:=List.sizeOf_lt_of_mem hx;simp;omega
theorem one_byte {s:ByteArray} (h:s.size=1):toL s=[vB0 s 0]:=by
 have h1:(toL s).length=1:=by rw[zJ0,h]
 obtain ⟨c,hc⟩:=List.length_eq_one_iff.1 h1;obtain ⟨d,hd,_⟩:=byte_at (O:=Ops.std) rfl (s:=s) (i:=0) (by omega)
 have:vB0 s 0=d:=by
  have h2:=hd;unfold vB0;rw[getElem?_pos s 0 (by omega)]
  unfold toL at h2;rw[List.getElem?_eq_getElem (by rw[<-zJ0] at h;exact (by rw[toL] at h;omega))] at h2
  exact Option.some.inj h2
 rw[hc] at hd |-;simp at hd;rw[this,hd]
theorem ok_iff {k:Int} {s:ByteArray} {l:List Rx}:(Rx.mk k s l).ok↔Rx.here k s l/\∀x∈l,Rx.ok x:=⟨Rx.ok_inv,fun h=>.mk h.1 h.2⟩
theorem GQ0 {k:Int} {s:ByteArray} {l:List Rx} (h:Rx.here k s l) {x:Rx} (hx:x∈l):x.k≠k\/tP0 k=true:=by
 rcases h with ⟨_,_,rfl⟩ | ⟨_,_,rfl⟩ | ⟨_,_,rfl⟩ | ⟨_,_,_,_,h⟩ | ⟨hk,_⟩
 ·simp at hx
 ·simp at hx
 ·simp at hx
 ·exact .inl (h x hx)
 ·right;simp[tP0];omega
theorem bR0 {k:Int} {s:ByteArray} {l:List Rx} {N:Nat} (hN:N=l.length) {x0:Rx} (hx0:1<=N->l[0]?=some x0) (hne:∀x∈l,x.k≠k\/tP0 k=true) :
  Rx.here k s l↔(k=1/\s.size=1/\wE0 (vB0 s 0)=true/\N=0)\/(k=3/\setB (toL s)=true/\N=0)\/((k=2\/k=9\/k=10\/k=11)/\s=ofL []/\N=0)\/
   ((k=4\/k=5)/\s=ofL []/\2<=N/\N<=8)\/((k=6\/k=7\/k=8)/\s=ofL []/\N=1/\tP0 x0.k=false):=by
 have h0:l=[]↔N=0:=by rw[hN];exact List.length_eq_zero_iff.symm
 unfold Rx.here;refine or_congr ?_ (or_congr ?_ (or_congr ?_ (or_congr ?_ ?_)))
 ·refine and_congr_right fun _=>?_
  constructor
  ·rintro ⟨⟨c,hc,hs⟩,hl⟩
   have h1:s.size=1:=by rw[<-zJ0,hc];rfl
   rw[one_byte h1] at hc;simp at hc;exact ⟨h1,by rw[hc];exact hs,h0.1 hl⟩
  ·rintro ⟨h1,h2,h3⟩
   exact ⟨⟨_,one_byte h1,h2⟩,h0.2 h3⟩
 ·rw[h0]
 ·rw[h0]
 ·refine and_congr_right fun hk=>and_congr_right fun _=>?_
  rw[<-hN]
  constructor
  ·rintro ⟨h1,h2,_⟩;exact ⟨h1,h2⟩
  ·rintro ⟨h1,h2⟩
   refine ⟨h1,h2,fun x hx=>?_⟩;rcases hne x hx with h | h
   ·exact h
   ·simp[tP0] at h;omega
 ·refine and_congr_right fun hk=>and_congr_right fun _=>?_
  constructor
  ·rintro ⟨x,rfl,hx⟩
   have h1:N=1:=by rw[hN];rfl
   have:=hx0 (by omega)
   simp at this;exact ⟨h1,by rw[<-this];exact hx⟩
  ·rintro ⟨h1,h2⟩
   have:=hx0 (by omega)
   rw[hN] at h1;obtain ⟨x,rfl⟩:=List.length_eq_one_iff.1 h1;simp at this;exact ⟨x,rfl,by rw[this];exact h2⟩
def nV1 (cs:List A) (k:Int) (l:List Rx) (N:Nat) (σ:AS):Prop:=
 ∃(i:Nat),σ=⟨vag 114 [(1,⟨.one,[.ptr 0 0]⟩),(3,litI (Int.ofNat i))],[some cs],1⟩/\i<=l.length/\(∀x∈l.take i,x.ok/\(x.k≠k\/tP0 k=true))/\N=l.length - i
abbrev zM1 (f:FuncId) (r:Rx):Prop:=r.Wf->ACl Tryz.prog f [agT r.t] [] (fun res bx=>∃b:Bool,(b=true↔r.ok)/\res=litB b/\bx=[])
theorem TC0 (k:Int) (s:ByteArray) (l:List Rx) (ih:∀x∈l,zM1 225 x):zM1 225 (.mk k s l):=by
 intro hw;rw[ok_iff];obtain ⟨hsz,hll,hwl⟩:=hw.inv;obtain ⟨xl,hxl⟩:=qX (l.map Rx.t);simp only[agT,Rx.t_mk,List.map,tA];rw[<-hxl];refine qF tyK Tryz.func225 114 [.tmp 2] ?_;unhygienic intros
 obtain ⟨N,hN⟩:=qX l.length;have hlen:len xl=N:=lnO hO (by simp[hxl,hN])
 have ha:all xl 3:=alO hO (by subst hxl;simp[Rx.t_len])
 have hnt:bnot true=false:=by cases hO;rfl
 have hnf:bnot false=true:=by cases hO;rfl
 obtain ⟨cs,hcs⟩:=qX ([.lit (.int .i64 k),.lit (.string s),.ro true xl]:List A);rw[<-hN] at hll;revert hK K;refine qW 0 ?_;intro K hK;refine qL 1 [1,3] kk0 (nV1 cs k l) ?_ ?_
 ·cbv
  exact ⟨_,0,by (try rw[hcs]);cbv,by simp,by simp,rfl⟩
 rintro m σ ⟨i,rfl,g1,g2,rfl⟩
 try rw[hcs]
 revert hK K;refine qW 0 ?_;intro K hK;simp only[hlen];refine nC rfl (fun h3=>?_) (fun h3=>?_)
 ·have hlt:i < N:=qv3
  obtain ⟨x,hx,hx',ht,e1⟩:=mpA hO hxl (hN ▸ hlt);have e:bin .add .i64 (Int.ofNat i) 1=_:=iSc hO (by omega)
  have hidx:idx (Int.ofNat i) (len xl):=hlen ▸ ixN hO hlt;have hcall:=ih x hx (hwl x hx);obtain ⟨o,ho⟩:=qX x.ok;rw[<-ho] at hcall;obtain ⟨k',s',l'⟩:=x;simp only[agT,Rx.t_mk,List.map,tA] at hcall e1;generalize l'.map Rx.t=xl' at hcall e1;revert hK K;refine qW 0 ?_;intro K hK
  repeat (simp only[e1];cbv)
  refine ndC hidx (ndC ha (ndN ?_));revert hK K;refine qW 0 ?_;intro K hK;refine qG ?_;refine qD hP hcall ?_;rintro res bx ⟨b,hb,rfl,rfl⟩;refine qC ?_;cases b
  ·revert hK K;refine qW 0 ?_;intro K hK
   simp only[hnf];revert hK K;refine qW 0 ?_;intro K hK;refine hR _ _ ⟨_,⟨fun h=>by simp at h,fun h=>absurd (hb.2 (ho ▸ h.2 _ hx)) (by simp)⟩,rfl,rfl⟩
  ·have hok:=hb.1 rfl
   rw[ho] at hok;revert hK K;refine qW 0 ?_;intro K hK;simp only[hnt];revert hK K;refine qW 0 ?_;intro K hK
   repeat (simp only[e1];cbv)
   refine ndC hidx (ndC ha (ndN ?_));refine GFork.mk (fun h5=>?_) (fun h5=>?_)<;>cbv
   ·have hkk:k'=k:=qv5
    revert hK K;refine qW 0 ?_;intro K hK;refine qG ?_;refine qD hP (hR0 k) ?_;rintro res bx ⟨b,hb2,rfl,rfl⟩;refine qC ?_;cases b
    ·revert hK K;refine qW 0 ?_;intro K hK
     simp only[hnf];revert hK K;refine qW 0 ?_;intro K hK;refine hR _ _ ⟨_,⟨fun h=>by simp at h,fun h=>?_⟩,rfl,rfl⟩
     rcases GQ0 h.1 hx with h | h
     ·exact absurd hkk h
     ·rw[h] at hb2;simp at hb2
    ·revert hK K;refine qW 0 ?_;intro K hK
     simp only[hnt];revert hK K;refine qW 0 ?_;intro K hK;rw[e];refine ⟨N - (i+1),by omega,i+1,by (try rw[hcs]);cbv,by omega,?_,by rw[hN]⟩
     rw[ht];intro y hy;rcases List.mem_append.1 hy with hy | hy
     ·exact g2 y hy
     obtain rfl:=List.mem_singleton.1 hy;exact ⟨hok,.inr hb2.symm⟩
   ·have hkk:k'≠k:=qv5
    revert hK K;refine qW 0 ?_;intro K hK;rw[e];refine ⟨N - (i+1),by omega,i+1,by (try rw[hcs]);cbv,by omega,?_,by rw[hN]⟩
    rw[ht];intro y hy;rcases List.mem_append.1 hy with hy | hy
    ·exact g2 y hy
    obtain rfl:=List.mem_singleton.1 hy;exact ⟨hok,.inl hkk⟩
 ·have hge:i=N:=qw3
  have hil:i=l.length:=by omega
  have e2:l.take i=l:=List.take_of_length_le (by omega)
  rw[e2] at g2;obtain ⟨x0,hx0⟩:∃x0:Rx,1<=N->l[0]?=some x0:=by
   cases l with
   | nil=>exact ⟨default,fun h=>by rw[hN] at h;simp at h⟩
   | cons x l=>exact ⟨x,fun _=>rfl⟩
  have H:=bR0 (s:=s) (k:=k) hN hx0 fun x hx=>(g2 x hx).2;have hfin:∀b:Bool,(b=true↔Rx.here k s l)->(b=true↔Rx.here k s l/\∀x∈l,x.ok):=fun b hb=>hb.trans ⟨fun h=>⟨h,fun x hx=>(g2 x hx).1⟩,fun h=>h.1⟩;replace hfin:∀b:Bool,(b=true↔_)->(b=true↔Rx.here k s l/\∀x∈l,x.ok):=fun b hb=>hfin b (hb.trans H.symm);have hb0:byte s (nat 0)=Int.ofNat (vB0 s 0).toNat:=by cases hO;rfl
  have hs1:size s=s.size:=by cases hO;rfl
  generalize vB0 s 0=c0 at hb0 hfin;obtain ⟨b0,hb0'⟩:=qX (Int.ofNat c0.toNat);rw[<-hb0'] at hb0;have hself:=ZG0 c0 b0 hb0';have hset:=rW1 s hsz;generalize setB (toL s)=sb at hset hfin;generalize wE0 c0=cb at hself hfin;obtain ⟨Z,hZ⟩:=qX s.size;rw[<-hZ] at hs1 hfin;have hx0':1<=N->idx 0 (len xl)/\get xl (nat 0)=x0.t:=by
   intro h1;obtain ⟨x,_,q2,_,q4⟩:=mpA hO hxl (i:=0) (by omega)
   rw[hx0 h1] at q2;obtain rfl:=Option.some.inj q2;exact ⟨hlen ▸ ixN hO h1,q4⟩
  have hz0:Z=1->idx 0 Z:=fun h=>by rw[h];exact ixN hO (i:=0) (n:=1) (by omega)
  have hz1:cmp .eql (Int.ofNat (size s)) 1=true->Z=1:=fun h=>by rw[hs1] at h;cases hO;simp only[Ops.std,sCm,beq_iff_eq,Int.ofNat_eq_natCast] at h;omega
  clear g2 H hx0 ih hwl e2;obtain ⟨k0,s0,l0⟩:=x0;simp only[Rx.t_mk,Rx.k] at hx0' hfin;generalize l0.map Rx.t=xl0 at hx0';have hrep:=hR0 k0;generalize tP0 k0=lk at hrep hfin;have hem:ofL []=⟨⟨[]⟩⟩:=rfl;rw[hem] at hfin;have hx0'':cmp .eql (Int.ofNat (len xl)) 1=true->idx 0 N/\get xl (nat 0)=[T.lit (.int .i64 k0),T.lit (.string s0),T.sl xl0]:=fun h=>by
   have h1:1<=N:=by rw[hlen] at h;cases hO;simp only[Ops.std,sCm,beq_iff_eq,Int.ofNat_eq_natCast] at h;omega
   exact ⟨hlen ▸ (hx0' h1).1,(hx0' h1).2⟩
  refine qO ?_
  repeat' first|(revert hK K;refine qV 0 ?_;intro K hK)|(refine qK (fun _=>?_) fun _=>?_)|(simp only[hb0,hlen,hs1];try cbv)|(have e0:=(hx0'' (by assumption)).2;simp only[e0];(try cbv))|(with_reducible refine ndC ?h ?_;case h=>first | exact (hx0'' (by assumption)).1 | exact ha | exact hz0 (hz1 (by assumption)))|(refine qG ?_;refine qD hP hself ?_;rintro res bx ⟨r,hr,rfl,rfl⟩;refine qC ?_)|(refine qG ?_;refine qD hP hset ?_;rintro res bx ⟨r,hr,rfl,rfl⟩;refine qC ?_)|(refine qG ?_;refine qD hP hrep ?_;rintro res bx ⟨r,hr,rfl,rfl⟩;refine qC ?_)|(refine qG ?_;refine qD hP (uZ0 (Int.ofNat N) 2 8) ?_;rintro res bx ⟨r,hr,rfl,rfl⟩;refine qC ?_)|fail
  all_goals (refine hR _ _ ⟨_,hfin _ ?_,rfl,rfl⟩;clear hR hseg hxl hcs hsz hll hself hset hrep hx0' hx0'' hb0 hb0' hz0 hz1 ha hnt hnf h3 hfin;cases hO;simp only[Ops.std,sCm,sqL,Int.ofNat_eq_natCast] at *;generalize ({ data:={ toList:=[] } }:ByteArray)=em at *;clear hN hil hge g1;(try clear e0);grind)
theorem uA1 (r:Rx):zM1 225 r:=by
 obtain ⟨k,s,l⟩:=r;exact TC0 k s l fun x hx=>uA1 x
termination_by SizeOf.sizeOf r
decreasing_by
 have:=List.sizeOf_lt_of_mem hx;simp;omega
theorem rN1 (k:Int) (s:ByteArray) (xl:List (List T)) (x:Rx):ACl Tryz.prog 211 [agT x.t,⟨.one,[.ptr 0 0]⟩] [some [.lit (.int .i64 k),.lit (.string s),.ro true xl]]
  (fun res bx=>∃b:Bool,(b=true↔x.k=k)/\res=litB b/\bx=[some [.lit (.int .i64 k),.lit (.string s),.ro true xl]]):=by
 obtain ⟨k',s',l'⟩:=x;simp only[agT,Rx.t_mk,List.map,tA,Rx.k];generalize l'.map Rx.t=xl';refine qF tyK Tryz.func211 9 [.tmp 3] ?_;unhygienic intros
 revert hK K;refine qW 1 ?_;intro K hK;refine hR _ _ ⟨_,?_,rfl,rfl⟩;cases hO;simp only[Ops.std,sCm,beq_iff_eq]
def invIF (bx:Option (List A)) (xl:List (List T)) (l:List Rx) (k:Int) (N:Nat) (σ:AS):Prop:=
 ∃(i:Nat),σ=⟨vag 19 [(0,⟨.one,[.ro true xl]⟩),(1,⟨.one,[.fn 211 [(0,0)]]⟩),(7,litI (Int.ofNat l.length)),(8,litI (Int.ofNat i))],[bx],1⟩/\i<=l.length/\(∀x∈l.take i,x.k≠k)/\N=l.length - i
theorem VE0 (k:Int) (s:ByteArray) (l:List Rx) (hl:l.length<=4611686018427387904) (xl:List (List T)) (hxl:xl=l.map Rx.t) :
  ACl Tryz.prog 230 [roT xl,⟨.one,[.fn 211 [(0,0)]]⟩] [some [.lit (.int .i64 k),.lit (.string s),.ro true xl]]
  (fun res bx=>∃r:Int,(0<=r↔∃x∈l,x.k=k)/\res=litI r/\bx=[some [.lit (.int .i64 k),.lit (.string s),.ro true xl]]):=by
 refine qF tyK Tryz.func230 19 [.tmp 4] ?_;unhygienic intros
 obtain ⟨N,hN⟩:=qX l.length;have hlen:len xl=N:=lnO hO (by simp[hxl,hN])
 have ha:all xl 3:=alO hO (by subst hxl;simp[Rx.t_len])
 rw[<-hN] at hl;revert hK K;refine qW 1 ?_;intro K hK;simp only[hlen];refine qL 1 [0,1,7,8] kk0 (invIF (some [.lit (.int .i64 k),.lit (.string s),.ro true xl]) xl l k) ?_ ?_
 ·cbv
  exact ⟨_,0,by rw[<-hN];cbv,by simp,by simp,rfl⟩
 rintro m σ ⟨i,rfl,g1,g2,rfl⟩;rw[<-hN];revert hK K;refine qW 1 ?_;intro K hK;refine nC rfl (fun h3=>?_) (fun h3=>?_)
 ·have hlt:i < N:=qv3
  obtain ⟨x,hx,hx',ht,e1⟩:=mpA hO hxl (hN ▸ hlt);have e:bin .add .i64 (Int.ofNat i) 1=_:=iSc hO (by omega)
  have hidx:idx (Int.ofNat i) (len xl):=hlen ▸ ixN hO hlt;have hcall:=rN1 k s xl x;have hxk:x.k≠k->∀y∈List.take (i+1) l,y.k≠k:=fun h y hy=>by
   rw[ht] at hy;rcases List.mem_append.1 hy with hy | hy
   ·exact g2 y hy
   ·obtain rfl:=List.mem_singleton.1 hy;exact h
  have hex:x.k=k->∃x∈l,x.k=k:=fun h=>⟨x,hx,h⟩;obtain ⟨k',s',l'⟩:=x;simp only[agT,Rx.t_mk,List.map,tA] at hcall e1;generalize l'.map Rx.t=xl' at hcall e1;generalize (Rx.mk k' s' l').k=kx at *;revert hK K;refine qW 1 ?_;intro K hK
  repeat (simp only[e1];cbv)
  refine ndC hidx (ndC ha (ndN ?_));refine qg (nN [0]) ?_;refine qC ?_;refine qD hP hcall ?_;rintro res bx ⟨b,hb,rfl,rfl⟩;refine qC ?_;cases b
  ·revert hK K;refine qW 1 ?_;intro K hK
   rw[e];exact ⟨N - (i+1),by omega,i+1,by rw[<-hN];cbv,by omega,hxk fun h=>by simpa using hb.2 h,by rw[hN]⟩
  ·revert hK K;refine qW 1 ?_;intro K hK
   refine hR _ _ ⟨_,⟨fun _=>hex (hb.1 rfl),fun _=>?_⟩,rfl,rfl⟩;simp
 ·have hge:i=N:=qw3
  rw[List.take_of_length_le (by omega)] at g2
  revert hK K;refine qW 1 ?_;intro K hK;exact hR _ _ ⟨_,⟨fun h=>by simp at h,fun ⟨x,hx,hk⟩=>absurd hk (g2 x hx)⟩,rfl,rfl⟩
theorem TT0 (k:Int) (s:ByteArray) (l:List Rx) (hl:l.length<=4611686018427387904) (xl:List (List T)) (hxl:xl=l.map Rx.t) :
  ACl Tryz.prog 210 [roT xl,⟨.one,[.fn 211 [(0,0)]]⟩] [some [.lit (.int .i64 k),.lit (.string s),.ro true xl]]
  (fun res bx=>∃b:Bool,(b=true↔∃x∈l,x.k=k)/\res=litB b/\bx=[some [.lit (.int .i64 k),.lit (.string s),.ro true xl]]):=by
 have hc:=VE0 k s l hl xl hxl;refine qF tyK Tryz.func210 9 [.tmp 4] ?_;unhygienic intros
 revert hK K;refine qW 1 ?_;intro K hK;refine qg (nN [0]) ?_;refine qC ?_;refine qD hP hc ?_;rintro res bx ⟨r,hr,rfl,rfl⟩;refine qC ?_;revert hK K;refine qW 1 ?_;intro K hK;refine hR _ _ ⟨_,?_,rfl,rfl⟩;rw[<-hr];cases hO;simp[Ops.std,sCm]
end Go.Gv
