/- Part N8 of the proof: contracts of functions of the program, each walked once. -/
import Derived.Test.YtjeejieaalnbeaaGreatN7
import Derived.Test.YtjeejieaalnbeaaGreatQ1
set_option linter.all false
namespace Go.Gv
open Go.Av Go.Proofs Go.Shelf Go.RowKit
set_option maxRecDepth 10000
set_option maxHeartbeats 16000000
def invN9 (k:Int) (s t:ByteArray) (xl al bl:List (List T)) (x:List Ex) (N:Nat) (σ:AS):Prop:=
 ∃(i:Nat),σ=⟨vag 138 [(1,⟨.one,[.ptr 0 0]⟩),(8,⟨.one,[.ro true xl]⟩),(9,litI (Int.ofNat x.length)),(10,litI (Int.ofNat i))],[some [.lit (.int .i64 k),.lit (.string s),.lit (.string t),.ro true xl,.ro true al,.ro true bl]],1⟩/\i<=x.length/\(∀e∈x.take i,e.good)/\N=x.length - i
theorem qN8 {Q:Prop} (t:Q:=by
 clear hq H1 H2 H3 H4 H5 H6 H7 H8 H9 H10 H11 H12 HN;obtain ⟨k',hk'⟩:=qX k;have hE:∀c,cmp .eql k c=(k' == c):=fun c=>by rw[hk'];cases hO;rfl
 have hF:∀c,cmp .neq k c=!(k' == c):=fun c=>by rw[hk'];cases hO;rfl
 rw[hk] at hk';subst hk';have a1:=hE 1;have a2:=hE 2;have a3:=hE 3;have a4:=hE 4;have a5:=hE 5;have a6:=hE 6;have a7:=hE 7;have a8:=hE 8;have a9:=hE 9;have a10:=hE 10;have a11:=hE 11;have a12:=hE 12;have b1:=hF 1;have b2:=hF 2;have b3:=hF 3;have b4:=hF 4;have b5:=hF 5;have b6:=hF 6;have b7:=hF 7;have b8:=hF 8;have b9:=hF 9;have b10:=hF 10;have b11:=hF 11;have b12:=hF 12;clear hE hF;simp only[Int.reduceBEq,Bool.not_true,Bool.not_false] at a1 a2 a3 a4 a5 a6 a7 a8 a9 a10 a11 a12 b1 b2 b3 b4 b5 b6 b7 b8 b9 b10 b11 b12
 refine qU ?_
 repeat' first|(revert hK K;refine qV0 ?_;intro K hK)|(refine qK (fun _=>?_) fun _=>?_)|(simp only[lx,la,lb,hnt,hnf,a1,a2,a3,a4,a5,a6,a7,a8,a9,a10,a11,a12,b1,b2,b3,b4,b5,b6,b7,b8,b9,b10,b11,b12];try cbv)|(have e0:=(he0 (by first | exact hx10 (by assumption) | exact hx10' (by assumption))).2.1;simp only[e0];(try cbv))|(with_reducible refine ndC ?h ?_;case h=>first | exact (he0 (by first | exact hx10 (by assumption) | exact hx10' (by assumption))).1 | exact hax)|(refine qG ?_;refine qD hP hns ?_;rintro res bx ⟨r,hr,rfl,rfl⟩;refine qC ?_)|(refine qG ?_;refine qD hP hnt' ?_;rintro res bx ⟨r,hr,rfl,rfl⟩;refine qC ?_)|(refine qG ?_;refine qD hP (c_within (Int.ofNat NX) 1 5) ?_;rintro res bx ⟨r,hr,rfl,rfl⟩;refine qC ?_)
 all_goals ((try cbv);refine hR _ _ ⟨_,hqk _ ?_,rfl,rfl⟩;clear hR hqk hseg hM hP hC llx lla llb hX hA hB hxl hal hbl hax hns hnt' hnt hnf hx10 hx10';cases hO;simp only[Ops.std,sCm,sqL,scmp_neq,beq_iff_eq,decide_eq_true_eq,Int.ofNat_eq_natCast] at *;first | omega|(simp_all;done)|(simp_all;omega) | grind)
 ):Q:=t
theorem c_stmtHeadOk:∀(k:Int) (s t:ByteArray) (x:List Ex) (a b:List Sm),s.size<=1048576->t.size<=1048576->x.length<=1048576->(∀e∈x,e.sz<=1048576)->ACl Tryz.prog 232 [agT (Sm.mk k s t x a b).t] [] (fun res bx=>∃r:Bool,(r=true↔(∀e∈x,e.good)/\SmHere k s t x.length a.length b.length (headK x))/\res=litB r/\bx=[]):=by
 intro k s t x a b hs ht hxs hxz;have hexp:=fun (e:Ex) (h:e∈x)=>c_ExprOk_impl e (hxz e h);clear hxz;obtain ⟨HH,hHH⟩:=qX (SmHere k s t x.length a.length b.length (headK x));rw[<-hHH];have hhd:∀e,x[0]?=some e->headK x=e.kd:=fun e he=>by
  cases x with
  | nil=>simp at he
  | cons y r=>simp at he;subst he;cases y;rfl
 have hx1:x.length=1->∃e,x[0]?=some e:=fun h=>⟨_,List.getElem?_eq_getElem (by omega)⟩
 obtain ⟨k0,hk0⟩:=qX (headK x);obtain ⟨NX,hX⟩:=qX x.length;obtain ⟨NA,hA⟩:=qX a.length;obtain ⟨NB,hB⟩:=qX b.length;rw[<-hk0,<-hX,<-hA,<-hB] at hHH;have hes:NameP s->s≠⟨⟨[]⟩⟩:=fun h=>name_em h;have het:NameP t->t≠⟨⟨[]⟩⟩:=fun h=>name_em h;have hns:=c_NameOk_impl s (by omega)
 have hnt':=c_NameOk_impl t (by omega)
 obtain ⟨pn,hpn⟩:=qX (NameP s);obtain ⟨pt,hpt⟩:=qX (NameP t);rw[<-hpn] at hns hes;rw[<-hpt] at hnt' het;have H1:k=1->(HH↔t=⟨⟨[]⟩⟩/\NB=0/\NA=0/\s=⟨⟨[]⟩⟩/\1<=NX/\NX<=5):=fun h=>by subst hpn;subst hpt;rw[hHH,h];exact smHere1
 have H2:k=2->(HH↔t=⟨⟨[]⟩⟩/\NB=0/\NA=0/\pn/\NX=1):=fun h=>by subst hpn;subst hpt;rw[hHH,h];exact smHere2
 have H3:k=3->(HH↔t=⟨⟨[]⟩⟩/\NB=0/\NA=0/\pn/\NX=2):=fun h=>by subst hpn;subst hpt;rw[hHH,h];exact smHere3
 have H4:k=4->(HH↔t=⟨⟨[]⟩⟩/\NB=0/\NA=0/\s=⟨⟨[]⟩⟩/\NX=2):=fun h=>by subst hpn;subst hpt;rw[hHH,h];exact smHere4
 have H5:k=5->(HH↔t=⟨⟨[]⟩⟩/\s=⟨⟨[]⟩⟩/\NX=1):=fun h=>by subst hpn;subst hpt;rw[hHH,h];exact smHere5
 have H6:k=6->(HH↔t=⟨⟨[]⟩⟩/\NB=0/\s=⟨⟨[]⟩⟩/\NX=1):=fun h=>by subst hpn;subst hpt;rw[hHH,h];exact smHere6
 have H7:k=7->(HH↔NB=0/\pn/\pt/\NX=0):=fun h=>by subst hpn;subst hpt;rw[hHH,h];exact smHere7
 have H8:k=8->(HH↔t=⟨⟨[]⟩⟩/\NB=0/\NA=0/\s=⟨⟨[]⟩⟩/\NX=0):=fun h=>by subst hpn;subst hpt;rw[hHH,h];exact smHere8
 have H9:k=9->(HH↔t=⟨⟨[]⟩⟩/\NB=0/\NA=0/\s=⟨⟨[]⟩⟩/\NX=1):=fun h=>by subst hpn;subst hpt;rw[hHH,h];exact smHere9
 have H10:k=10->(HH↔t=⟨⟨[]⟩⟩/\NB=0/\NA=0/\s=⟨⟨[]⟩⟩/\NX=1):=fun h=>by subst hpn;subst hpt;rw[hHH,h];exact smHere10
 have H11:k=11->(HH↔t=⟨⟨[]⟩⟩/\NB=0/\NA=0/\pn/\NX=1):=fun h=>by subst hpn;subst hpt;rw[hHH,h];exact smHere11
 have H12:k=12->(HH↔t=⟨⟨[]⟩⟩/\NB=0/\NA=0/\s=⟨⟨[]⟩⟩/\NX=1/\k0=11):=fun h=>by subst hpn;subst hpt;rw[hHH,h];exact smHere12
 have HN:k≠1->k≠2->k≠3->k≠4->k≠5->k≠6->k≠7->k≠8->k≠9->k≠10->k≠11->k≠12->¬HH:=by rw[hHH];exact fun h1 h2 h3 h4 h5 h6 h7 h8 h9 h10 h11 h12=>smHere_no h1 h2 h3 h4 h5 h6 h7 h8 h9 h10 h11 h12
 clear hHH hpn hpt;obtain ⟨xl,hxl⟩:=qX (x.map Ex.t);obtain ⟨al,hal⟩:=qX (a.map Sm.t);obtain ⟨bl,hbl⟩:=qX (b.map Sm.t);have llx:xl.length=NX:=by simp[hxl,hX]
 have lla:al.length=NA:=by simp[hal,hA]
 have llb:bl.length=NB:=by simp[hbl,hB]
 rw[sm_agT,<-hxl,<-hal,<-hbl];refine qF tyK Tryz.func232 138 [.tmp 2] ?_;unhygienic intros;have lx:len xl=NX:=by cases hO;exact llx
 have la:len al=NA:=by cases hO;exact lla
 have lb:len bl=NB:=by cases hO;exact llb
 have hax:all xl 4:=alO hO (by subst hxl;simp[Ex.t_len])
 have hnt:bnot true=false:=by cases hO;rfl
 have hnf:bnot false=true:=by cases hO;rfl
 obtain ⟨e0,he0⟩:∃e0:Ex,NX=1->idx 0 NX/\get xl (nat 0)=e0.t/\k0=e0.kd:=by
  by_cases h:NX=1
  ·obtain ⟨e,he⟩:=hx1 (hX.symm.trans h)
   obtain ⟨x',_,q2,_,q4⟩:=mpA hO hxl (i:=0) (by omega)
   rw[he] at q2;obtain rfl:=Option.some.inj q2;exact ⟨e,fun _=>⟨by rw[h];exact ixN hO (i:=0) (n:=1) (by omega),q4,hk0.trans (hhd e he)⟩⟩
  ·exact ⟨default,fun h'=>absurd h' h⟩
 obtain ⟨ek,en,es,el⟩:=e0;rw[Ex.t_mk,Ex.kd] at he0;generalize el.map Ex.t=xl1 at he0;have hx10:cmp .eql (Int.ofNat NX) 1=true->NX=1:=fun h=>by cases hO;simp only[Ops.std,sCm,beq_iff_eq,Int.ofNat_eq_natCast] at h;omega
 have hx10':cmp .eql (Int.ofNat (len xl)) 1=true->NX=1:=fun h=>hx10 (by rw[lx] at h;exact h)
 clear hhd hx1 hk0 hs ht;revert hK K;refine qW0 ?_;intro K hK;simp only[lx];refine qL 1 [1,8,9,10] kk0 (invN9 k s t xl al bl x) ?_ ?_
 ·cbv
  exact ⟨_,0,by rw[<-hX];cbv,by simp,by simp,rfl⟩
 rintro m σ ⟨i,rfl,g1,g2,rfl⟩;rw[<-hX];rw[<-hX] at g1;revert hK K;refine qW0 ?_;intro K hK;refine nC rfl (fun h3=>?_) (fun h3=>?_)
 ·clear HN H1 H2 H3 H4 H5 H6 H7 H8 H9 H10 H11 H12
  have hlt:i < NX:=qv3;obtain ⟨e,hx,hx',ht,e1⟩:=mpA hO hxl (hX ▸ hlt);have ei:bin .add .i64 (Int.ofNat i) 1=_:=iSc hO (by omega)
  have hidx:idx (Int.ofNat i) (len xl):=lx ▸ ixN hO hlt;have hcall:=hexp e hx;obtain ⟨o,ho⟩:=qX e.good;rw[<-ho] at hcall;obtain ⟨k',n',s',l'⟩:=e;simp only[agT,Ex.t_mk,List.map,tA] at hcall e1;generalize l'.map Ex.t=xl' at hcall e1;revert hK K;refine qW0 ?_;intro K hK
  repeat (simp only[e1];cbv)
  refine ndC hidx (ndC hax (ndN ?_));revert hK K;refine qW0 ?_;intro K hK;refine qG ?_;refine qD hP hcall ?_;rintro res bx ⟨r,hr,rfl,rfl⟩;refine qC ?_;cases r
  ·revert hK K;refine qW0 ?_;intro K hK
   simp only[hnf];revert hK K;refine qW0 ?_;intro K hK;exact hR _ _ ⟨_,⟨fun h=>by simp at h,fun h=>absurd (hr.2 (ho ▸ h.1 _ hx)) (by simp)⟩,rfl,rfl⟩
  ·have hok:=hr.1 rfl
   rw[ho] at hok;revert hK K;refine qW0 ?_;intro K hK;simp only[hnt];revert hK K;refine qW0 ?_;intro K hK;rw[ei];refine ⟨NX - (i+1),by omega,i+1,by rw[<-hX];cbv,by omega,?_,by rw[hX]⟩
   rw[ht];intro y hy;rcases List.mem_append.1 hy with hy | hy
   ·exact g2 y hy
   obtain rfl:=List.mem_singleton.1 hy;exact hok
 have hge:i=NX:=qw3;rw[List.take_of_length_le (by omega)] at g2
 have hq:∀r:Bool,(r=true↔HH)->(r=true↔(∀e∈x,e.good)/\HH):=fun r h=>h.trans ⟨fun h=>⟨g2,h⟩,And.right⟩;clear hexp hge g1 h3 g2
 by_cases n1:k=1
 ·have hqk:=fun (r:Bool) (h:r=true↔t=⟨⟨[]⟩⟩/\NB=0/\NA=0/\s=⟨⟨[]⟩⟩/\1<=NX/\NX<=5)=>hq r (h.trans (H1 n1).symm)
  have hk:=n1;exact qN8
 by_cases n2:k=2
 ·have hqk:=fun (r:Bool) (h:r=true↔t=⟨⟨[]⟩⟩/\NB=0/\NA=0/\pn/\NX=1)=>hq r (h.trans (H2 n2).symm)
  have hk:=n2;exact qN8
 by_cases n3:k=3
 ·have hqk:=fun (r:Bool) (h:r=true↔t=⟨⟨[]⟩⟩/\NB=0/\NA=0/\pn/\NX=2)=>hq r (h.trans (H3 n3).symm)
  have hk:=n3;exact qN8
 by_cases n4:k=4
 ·have hqk:=fun (r:Bool) (h:r=true↔t=⟨⟨[]⟩⟩/\NB=0/\NA=0/\s=⟨⟨[]⟩⟩/\NX=2)=>hq r (h.trans (H4 n4).symm)
  have hk:=n4;exact qN8
 by_cases n5:k=5
 ·have hqk:=fun (r:Bool) (h:r=true↔t=⟨⟨[]⟩⟩/\s=⟨⟨[]⟩⟩/\NX=1)=>hq r (h.trans (H5 n5).symm)
  have hk:=n5;exact qN8
 by_cases n6:k=6
 ·have hqk:=fun (r:Bool) (h:r=true↔t=⟨⟨[]⟩⟩/\NB=0/\s=⟨⟨[]⟩⟩/\NX=1)=>hq r (h.trans (H6 n6).symm)
  have hk:=n6;exact qN8
 by_cases n7:k=7
 ·have hqk:=fun (r:Bool) (h:r=true↔NB=0/\pn/\pt/\NX=0)=>hq r (h.trans (H7 n7).symm)
  have hk:=n7;exact qN8
 by_cases n8:k=8
 ·have hqk:=fun (r:Bool) (h:r=true↔t=⟨⟨[]⟩⟩/\NB=0/\NA=0/\s=⟨⟨[]⟩⟩/\NX=0)=>hq r (h.trans (H8 n8).symm)
  have hk:=n8;exact qN8
 by_cases n9:k=9
 ·have hqk:=fun (r:Bool) (h:r=true↔t=⟨⟨[]⟩⟩/\NB=0/\NA=0/\s=⟨⟨[]⟩⟩/\NX=1)=>hq r (h.trans (H9 n9).symm)
  have hk:=n9;exact qN8
 by_cases n10:k=10
 ·have hqk:=fun (r:Bool) (h:r=true↔t=⟨⟨[]⟩⟩/\NB=0/\NA=0/\s=⟨⟨[]⟩⟩/\NX=1)=>hq r (h.trans (H10 n10).symm)
  have hk:=n10;exact qN8
 by_cases n11:k=11
 ·have hqk:=fun (r:Bool) (h:r=true↔t=⟨⟨[]⟩⟩/\NB=0/\NA=0/\pn/\NX=1)=>hq r (h.trans (H11 n11).symm)
  have hk:=n11;exact qN8
 by_cases n12:k=12
 ·have hqk:=fun (r:Bool) (h:r=true↔t=⟨⟨[]⟩⟩/\NB=0/\NA=0/\s=⟨⟨[]⟩⟩/\NX=1/\k0=11)=>hq r (h.trans (H12 n12).symm)
  have hk:=n12;exact qN8
 ·have HNN:¬HH:=HN n1 n2 n3 n4 n5 n6 n7 n8 n9 n10 n11 n12
  have hqk:=hq false ⟨fun h=>by simp at h,fun h=>absurd h HNN⟩
  clear hq H1 H2 H3 H4 H5 H6 H7 H8 H9 H10 H11 H12 HN;have hne:∀c d:Int,c≠d->cmp .eql c d=false:=fun c d h=>by cases hO;simpa [Ops.std,sCm] using h
  have hnn:∀c d:Int,c≠d->cmp .neq c d=true:=fun c d h=>by cases hO;simpa [Ops.std,sCm] using h
  have a1:=hne _ _ n1;have b1:=hnn _ _ n1;have a2:=hne _ _ n2;have b2:=hnn _ _ n2;have a3:=hne _ _ n3;have b3:=hnn _ _ n3;have a4:=hne _ _ n4;have b4:=hnn _ _ n4;have a5:=hne _ _ n5;have b5:=hnn _ _ n5;have a6:=hne _ _ n6;have b6:=hnn _ _ n6;have a7:=hne _ _ n7;have b7:=hnn _ _ n7;have a8:=hne _ _ n8;have b8:=hnn _ _ n8;have a9:=hne _ _ n9;have b9:=hnn _ _ n9;have a10:=hne _ _ n10;have b10:=hnn _ _ n10
  have a11:=hne _ _ n11;have b11:=hnn _ _ n11;have a12:=hne _ _ n12;have b12:=hnn _ _ n12;clear hne hnn;refine qU ?_
  repeat' first|(revert hK K;refine qV0 ?_;intro K hK)|(refine qK (fun _=>?_) fun _=>?_)|(simp only[lx,la,lb,hnt,hnf,a1,a2,a3,a4,a5,a6,a7,a8,a9,a10,a11,a12,b1,b2,b3,b4,b5,b6,b7,b8,b9,b10,b11,b12];try cbv)|(have e0:=(he0 (by first | exact hx10 (by assumption) | exact hx10' (by assumption))).2.1;simp only[e0];(try cbv))|(with_reducible refine ndC ?h ?_;case h=>first | exact (he0 (by first | exact hx10 (by assumption) | exact hx10' (by assumption))).1 | exact hax)|(refine qG ?_;refine qD hP hns ?_;rintro res bx ⟨r,hr,rfl,rfl⟩;refine qC ?_)|(refine qG ?_;refine qD hP hnt' ?_;rintro res bx ⟨r,hr,rfl,rfl⟩;refine qC ?_)|(refine qG ?_;refine qD hP (c_within (Int.ofNat NX) 1 5) ?_;rintro res bx ⟨r,hr,rfl,rfl⟩;refine qC ?_)
  all_goals ((try cbv);exact hR _ _ ⟨_,hqk,rfl,rfl⟩)
end Go.Gv
