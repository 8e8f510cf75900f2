/- Part N7 of the proof: contracts of functions of the program, each walked once. -/
import Derived.Test.YtjeejieaalnbeaaGreatN6
import Derived.Test.YtjeejieaalnbeaaGreatQ1
set_option linter.all false
namespace Go.Gv
open Go.Av Go.Proofs Go.Shelf Go.RowKit
set_option maxRecDepth 10000
set_option maxHeartbeats 16000000
def Ex.kd:Ex->Int
 | .mk k _ _ _=>k
def headK (x:List Ex):Int:=match x with
 | []=>0
 | .mk k _ _ _::_=>k
def SmHere (k:Int) (s t:ByteArray) (NX NA NB:Nat) (k0:Int):Prop:=(k≠7->t=ofL [])/\(k≠5->NB=0)/\(k≠5->k≠6->k≠7->NA=0)/\((k=1/\s=ofL []/\1<=NX/\NX<=5)\/(k=2/\NameP s/\NX=1)\/(k=3/\NameP s/\NX=2)\/(k=4/\s=ofL []/\NX=2)\/(k=5/\s=ofL []/\NX=1)\/(k=6/\s=ofL []/\NX=1)\/(k=7/\NameP s/\NameP t/\NX=0)\/(k=8/\s=ofL []/\NX=0)\/(k=9/\s=ofL []/\NX=1)\/(k=10/\s=ofL []/\NX=1)\/(k=11/\NameP s/\NX=1)\/(k=12/\s=ofL []/\NX=1/\k0=11))
theorem smHere1 {s t:ByteArray} {NX NA NB:Nat} {k0:Int}:SmHere 1 s t NX NA NB k0↔t=ofL []/\NB=0/\NA=0/\s=ofL []/\1<=NX/\NX<=5:=by simp[SmHere]
theorem smHere2 {s t:ByteArray} {NX NA NB:Nat} {k0:Int}:SmHere 2 s t NX NA NB k0↔t=ofL []/\NB=0/\NA=0/\NameP s/\NX=1:=by simp[SmHere]
theorem smHere3 {s t:ByteArray} {NX NA NB:Nat} {k0:Int}:SmHere 3 s t NX NA NB k0↔t=ofL []/\NB=0/\NA=0/\NameP s/\NX=2:=by simp[SmHere]
theorem smHere4 {s t:ByteArray} {NX NA NB:Nat} {k0:Int}:SmHere 4 s t NX NA NB k0↔t=ofL []/\NB=0/\NA=0/\s=ofL []/\NX=2:=by simp[SmHere]
theorem smHere5 {s t:ByteArray} {NX NA NB:Nat} {k0:Int}:SmHere 5 s t NX NA NB k0↔t=ofL []/\s=ofL []/\NX=1:=by simp[SmHere]
theorem smHere6 {s t:ByteArray} {NX NA NB:Nat} {k0:Int}:SmHere 6 s t NX NA NB k0↔t=ofL []/\NB=0/\s=ofL []/\NX=1:=by simp[SmHere]
theorem smHere7 {s t:ByteArray} {NX NA NB:Nat} {k0:Int}:SmHere 7 s t NX NA NB k0↔NB=0/\NameP s/\NameP t/\NX=0:=by simp[SmHere]
theorem smHere8 {s t:ByteArray} {NX NA NB:Nat} {k0:Int}:SmHere 8 s t NX NA NB k0↔t=ofL []/\NB=0/\NA=0/\s=ofL []/\NX=0:=by simp[SmHere]
theorem smHere9 {s t:ByteArray} {NX NA NB:Nat} {k0:Int}:SmHere 9 s t NX NA NB k0↔t=ofL []/\NB=0/\NA=0/\s=ofL []/\NX=1:=by simp[SmHere]
theorem smHere10 {s t:ByteArray} {NX NA NB:Nat} {k0:Int}:SmHere 10 s t NX NA NB k0↔t=ofL []/\NB=0/\NA=0/\s=ofL []/\NX=1:=by simp[SmHere]
theorem smHere11 {s t:ByteArray} {NX NA NB:Nat} {k0:Int}:SmHere 11 s t NX NA NB k0↔t=ofL []/\NB=0/\NA=0/\NameP s/\NX=1:=by simp[SmHere]
theorem smHere12 {s t:ByteArray} {NX NA NB:Nat} {k0:Int}:SmHere 12 s t NX NA NB k0↔t=ofL []/\NB=0/\NA=0/\s=ofL []/\NX=1/\k0=11:=by simp[SmHere]
theorem smHere_no {k:Int} {s t:ByteArray} {NX NA NB:Nat} {k0:Int} (h1:k≠1) (h2:k≠2) (h3:k≠3) (h4:k≠4) (h5:k≠5) (h6:k≠6) (h7:k≠7) (h8:k≠8) (h9:k≠9) (h10:k≠10) (h11:k≠11) (h12:k≠12):¬SmHere k s t NX NA NB k0:=by
 simp[h1,h2,h3,h4,h5,h6,h7,h8,h9,h10,h11,h12,SmHere]
theorem name_em {s:ByteArray} (h:NameP s):s≠ofL []:=fun he=>by
 have:=h.1.2.1;rw[he] at this;exact absurd this (by decide)
theorem sm_agT (k:Int) (s t:ByteArray) (x:List Ex) (a b:List Sm):agT (Sm.mk k s t x a b).t=⟨.agg,[.lit (.int .i64 k),.lit (.string s),.lit (.string t),.ro true (x.map Ex.t),.ro true (a.map Sm.t),.ro true (b.map Sm.t)]⟩:=by rw[Sm.t_mk];rfl
abbrev SmHereOk (f:FuncId):Prop:=∀(k:Int) (s t:ByteArray) (x:List Ex) (a b:List Sm),s.size<=1048576->t.size<=1048576->ACl Tryz.prog f [agT (Sm.mk k s t x a b).t] [] (fun res bx=>∃r:Bool,(r=true↔SmHere k s t x.length a.length b.length (headK x))/\res=litB r/\bx=[])
theorem c_l9Shape (k:Int) (s t:ByteArray) (NX NA NB:Nat) (xl al bl:List (List T)) (hx:xl.length=NX) (ha:al.length=NA) (hb:bl.length=NB) (n:Int) (p q:Bool) :
  ACl Tryz.prog 231 [⟨.agg,[.lit (.int .i64 k),.lit (.string s),.lit (.string t),.ro true xl,.ro true al,.ro true bl]⟩,litI n,litB p,litB q] [] (fun res bx=>∃r:Bool,(r=true↔Int.ofNat NX=n/\(p=true\/NA=0)/\(q=true\/NB=0))/\res=litB r/\bx=[]):=by
 refine qF tyK Tryz.func231 32 [.tmp 8] ?_;unhygienic intros;have lx:len xl=NX:=by cases hO;exact hx
 have la:len al=NA:=by cases hO;exact ha
 have lb:len bl=NB:=by cases hO;exact hb
 cases p<;>cases q
 all_goals skip
 ·refine qU ?_
  repeat' first|(revert hK K;refine qV0 ?_;intro K hK)|(refine GFork.mk (fun _=>qQ ?_) fun _=>qQ ?_)|(simp only[lx,la,lb];try cbv)
  all_goals ((try cbv);refine hR _ _ ⟨_,?_,rfl,rfl⟩;clear hR hseg hM hP hC;cases hO;simp only[Ops.std,sCm,beq_iff_eq,Int.ofNat_eq_natCast] at *;first | omega|(simp_all;done)|(simp_all;omega) | grind)
 ·refine qU ?_
  repeat' first|(revert hK K;refine qV0 ?_;intro K hK)|(refine GFork.mk (fun _=>qQ ?_) fun _=>qQ ?_)|(simp only[lx,la,lb];try cbv)
  all_goals ((try cbv);refine hR _ _ ⟨_,?_,rfl,rfl⟩;clear hR hseg hM hP hC;cases hO;simp only[Ops.std,sCm,beq_iff_eq,Int.ofNat_eq_natCast] at *;first | omega|(simp_all;done)|(simp_all;omega) | grind)
 ·refine qU ?_
  repeat' first|(revert hK K;refine qV0 ?_;intro K hK)|(refine GFork.mk (fun _=>qQ ?_) fun _=>qQ ?_)|(simp only[lx,la,lb];try cbv)
  all_goals ((try cbv);refine hR _ _ ⟨_,?_,rfl,rfl⟩;clear hR hseg hM hP hC;cases hO;simp only[Ops.std,sCm,beq_iff_eq,Int.ofNat_eq_natCast] at *;first | omega|(simp_all;done)|(simp_all;omega) | grind)
 ·refine qU ?_
  repeat' first|(revert hK K;refine qV0 ?_;intro K hK)|(refine GFork.mk (fun _=>qQ ?_) fun _=>qQ ?_)|(simp only[lx,la,lb];try cbv)
  all_goals ((try cbv);refine hR _ _ ⟨_,?_,rfl,rfl⟩;clear hR hseg hM hP hC;cases hO;simp only[Ops.std,sCm,beq_iff_eq,Int.ofNat_eq_natCast] at *;first | omega|(simp_all;done)|(simp_all;omega) | grind)
theorem qN7 {Q:Prop} (t:Q:=by
 clear H1 H2 H3 H4 H5 H6 H7 H8 H9 H10 H11 H12 HN;obtain ⟨k',hk'⟩:=qX k;refine qF tyK Tryz.func215 132 [.tmp 2] ?_;unhygienic intros;have lx:len xl=NX:=by cases hO;exact llx
 have la:len al=NA:=by cases hO;exact lla
 have lb:len bl=NB:=by cases hO;exact llb
 have hax:all xl 4:=alO hO (by subst hxl;simp[Ex.t_len])
 have hnt:bnot true=false:=by cases hO;rfl
 have hnf:bnot false=true:=by cases hO;rfl
 obtain ⟨e0,he0⟩:∃e0:Ex,NX=1->idx 0 NX/\get xl (nat 0)=e0.t/\k0=e0.kd:=by
  by_cases h:NX=1
  ·obtain ⟨e,he⟩:=hx1 (hX.symm.trans h)
   obtain ⟨x',_,q2,_,q4⟩:=mpA hO hxl (i:=0) (by omega)
   rw[he] at q2;obtain rfl:=Option.some.inj q2;exact ⟨e,fun _=>⟨by rw[h];exact ixN hO (i:=0) (n:=1) (by omega),q4,hk0.trans (hhd e he)⟩⟩
  ·exact ⟨default,fun h'=>absurd h' h⟩
 obtain ⟨ek,en,es,el⟩:=e0;rw[Ex.t_mk,Ex.kd] at he0;generalize el.map Ex.t=xl1 at he0;have hx10:cmp .eql (Int.ofNat NX) 1=true->NX=1:=fun h=>by cases hO;simp only[Ops.std,sCm,beq_iff_eq,Int.ofNat_eq_natCast] at h;omega
 have hx10':cmp .eql (Int.ofNat (len xl)) 1=true->NX=1:=fun h=>hx10 (by rw[lx] at h;exact h)
 clear hhd hx1 hk0 hs ht;have hE:∀c,cmp .eql k c=(k' == c):=fun c=>by rw[hk'];cases hO;rfl
 have hF:∀c,cmp .neq k c=!(k' == c):=fun c=>by rw[hk'];cases hO;rfl
 rw[hk] at hk';subst hk';refine qU ?_
 repeat' first|(revert hK K;refine qV0 ?_;intro K hK)|(simp only[lx,la,lb,hnt,hnf,hE,hF];try cbv)|(refine GFork.mk (fun _=>qQ ?_) fun _=>qQ ?_)|(have e0:=(he0 (by first | exact hx10 (by assumption)|(have:=(hr.1 (by assumption)).1;simp only[Int.ofNat_eq_natCast] at this;omega))).2.1;simp only[e0];(try cbv))|(with_reducible refine ndC ?h ?_;case h=>first | exact (he0 (by first | exact hx10 (by assumption)|(have:=(hr.1 (by assumption)).1;simp only[Int.ofNat_eq_natCast] at this;omega))).1 | exact hax)|(refine qG ?_;refine qD hP hns ?_;rintro res bx ⟨r,hr,rfl,rfl⟩;refine qC ?_)|(refine qG ?_;refine qD hP hnt' ?_;rintro res bx ⟨r,hr,rfl,rfl⟩;refine qC ?_)|(refine qG ?_;refine qD hP (hsh _ _ _) ?_;rintro res bx ⟨r,hr,rfl,rfl⟩;refine qC ?_)|(refine qG ?_;refine qD hP (c_l1In (Int.ofNat NX) 1 5) ?_;rintro res bx ⟨r,hr,rfl,rfl⟩;refine qC ?_)
 all_goals ((try cbv);refine hR _ _ ⟨_,?_,rfl,rfl⟩;clear hR hseg hM hP hC llx lla llb hX hA hB hxl hal hbl hax hns hnt' hsh hnt hnf hx10 hx10' hE hF;cases hO;simp only[Ops.std,sCm,sqL,scmp_neq,beq_iff_eq,decide_eq_true_eq,Int.ofNat_eq_natCast] at *;first | omega|(simp_all;done)|(simp_all;omega) | grind)
 ):Q:=t
theorem c_l9Here:SmHereOk 215:=by
 intro k s t x a b hs ht;obtain ⟨HH,hHH⟩:=qX (SmHere k s t x.length a.length b.length (headK x));rw[<-hHH];have hhd:∀e,x[0]?=some e->headK x=e.kd:=fun e he=>by
  cases x with
  | nil=>simp at he
  | cons y r=>simp at he;subst he;cases y;rfl
 have hx1:x.length=1->∃e,x[0]?=some e:=fun h=>⟨_,List.getElem?_eq_getElem (by omega)⟩
 obtain ⟨k0,hk0⟩:=qX (headK x);obtain ⟨NX,hX⟩:=qX x.length;obtain ⟨NA,hA⟩:=qX a.length;obtain ⟨NB,hB⟩:=qX b.length;rw[<-hk0,<-hX,<-hA,<-hB] at hHH;have hes:NameP s->s≠⟨⟨[]⟩⟩:=fun h=>name_em h;have het:NameP t->t≠⟨⟨[]⟩⟩:=fun h=>name_em h;have hns:=c_NameOk_spec s (by omega)
 have hnt':=c_NameOk_spec t (by omega)
 obtain ⟨pn,hpn⟩:=qX (NameP s);obtain ⟨pt,hpt⟩:=qX (NameP t);rw[<-hpn] at hns hes;rw[<-hpt] at hnt' het;have H1:k=1->(HH↔t=⟨⟨[]⟩⟩/\NB=0/\NA=0/\s=⟨⟨[]⟩⟩/\1<=NX/\NX<=5):=fun h=>by subst hpn;subst hpt;rw[hHH,h];exact smHere1
 have H2:k=2->(HH↔t=⟨⟨[]⟩⟩/\NB=0/\NA=0/\pn/\NX=1):=fun h=>by subst hpn;subst hpt;rw[hHH,h];exact smHere2
 have H3:k=3->(HH↔t=⟨⟨[]⟩⟩/\NB=0/\NA=0/\pn/\NX=2):=fun h=>by subst hpn;subst hpt;rw[hHH,h];exact smHere3
 have H4:k=4->(HH↔t=⟨⟨[]⟩⟩/\NB=0/\NA=0/\s=⟨⟨[]⟩⟩/\NX=2):=fun h=>by subst hpn;subst hpt;rw[hHH,h];exact smHere4
 have H5:k=5->(HH↔t=⟨⟨[]⟩⟩/\s=⟨⟨[]⟩⟩/\NX=1):=fun h=>by subst hpn;subst hpt;rw[hHH,h];exact smHere5
 have H6:k=6->(HH↔t=⟨⟨[]⟩⟩/\NB=0/\s=⟨⟨[]⟩⟩/\NX=1):=fun h=>by subst hpn;subst hpt;rw[hHH,h];exact smHere6
 have H7:k=7->(HH↔NB=0/\pn/\pt/\NX=0):=fun h=>by subst hpn;subst hpt;rw[hHH,h];exact smHere7
 have H8:k=8->(HH↔t=⟨⟨[]⟩⟩/\NB=0/\NA=0/\s=⟨⟨[]⟩⟩/\NX=0):=fun h=>by subst hpn;subst hpt;rw[hHH,h];exact smHere8
 have H9:k=9->(HH↔t=⟨⟨[]⟩⟩/\NB=0/\NA=0/\s=⟨⟨[]⟩⟩/\NX=1):=fun h=>by subst hpn;subst hpt;rw[hHH,h];exact smHere9
 have H10:k=10->(HH↔t=⟨⟨[]⟩⟩/\NB=0/\NA=0/\s=⟨⟨[]⟩⟩/\NX=1):=fun h=>by subst hpn;subst hpt;rw[hHH,h];exact smHere10
 have H11:k=11->(HH↔t=⟨⟨[]⟩⟩/\NB=0/\NA=0/\pn/\NX=1):=fun h=>by subst hpn;subst hpt;rw[hHH,h];exact smHere11
 have H12:k=12->(HH↔t=⟨⟨[]⟩⟩/\NB=0/\NA=0/\s=⟨⟨[]⟩⟩/\NX=1/\k0=11):=fun h=>by subst hpn;subst hpt;rw[hHH,h];exact smHere12
 have HN:k≠1->k≠2->k≠3->k≠4->k≠5->k≠6->k≠7->k≠8->k≠9->k≠10->k≠11->k≠12->¬HH:=by rw[hHH];exact fun h1 h2 h3 h4 h5 h6 h7 h8 h9 h10 h11 h12=>smHere_no h1 h2 h3 h4 h5 h6 h7 h8 h9 h10 h11 h12
 clear hHH hpn hpt;obtain ⟨xl,hxl⟩:=qX (x.map Ex.t);obtain ⟨al,hal⟩:=qX (a.map Sm.t);obtain ⟨bl,hbl⟩:=qX (b.map Sm.t);have llx:xl.length=NX:=by simp[hxl,hX]
 have lla:al.length=NA:=by simp[hal,hA]
 have llb:bl.length=NB:=by simp[hbl,hB]
 rw[sm_agT,<-hxl,<-hal,<-hbl];have hsh:=fun n p q=>c_l9Shape k s t NX NA NB xl al bl llx lla llb n p q
 by_cases n1:k=1
 ·rw[H1 n1];have hk:=n1;exact qN7
 by_cases n2:k=2
 ·rw[H2 n2];have hk:=n2;exact qN7
 by_cases n3:k=3
 ·rw[H3 n3];have hk:=n3;exact qN7
 by_cases n4:k=4
 ·rw[H4 n4];have hk:=n4;exact qN7
 by_cases n5:k=5
 ·rw[H5 n5];have hk:=n5;exact qN7
 by_cases n6:k=6
 ·rw[H6 n6];have hk:=n6;exact qN7
 by_cases n7:k=7
 ·rw[H7 n7];have hk:=n7;exact qN7
 by_cases n8:k=8
 ·rw[H8 n8];have hk:=n8;exact qN7
 by_cases n9:k=9
 ·rw[H9 n9];have hk:=n9;exact qN7
 by_cases n10:k=10
 ·rw[H10 n10];have hk:=n10;exact qN7
 by_cases n11:k=11
 ·rw[H11 n11];have hk:=n11;exact qN7
 by_cases n12:k=12
 ·rw[H12 n12];have hk:=n12;exact qN7
 ·have HNN:¬HH:=HN n1 n2 n3 n4 n5 n6 n7 n8 n9 n10 n11 n12
  simp only[HNN,iff_false];clear H1 H2 H3 H4 H5 H6 H7 H8 H9 H10 H11 H12 HN;refine qF tyK Tryz.func215 132 [.tmp 2] ?_;unhygienic intros;have lx:len xl=NX:=by cases hO;exact llx
  have la:len al=NA:=by cases hO;exact lla
  have lb:len bl=NB:=by cases hO;exact llb
  have hax:all xl 4:=alO hO (by subst hxl;simp[Ex.t_len])
  have hnt:bnot true=false:=by cases hO;rfl
  have hnf:bnot false=true:=by cases hO;rfl
  obtain ⟨e0,he0⟩:∃e0:Ex,NX=1->idx 0 NX/\get xl (nat 0)=e0.t/\k0=e0.kd:=by
   by_cases h:NX=1
   ·obtain ⟨e,he⟩:=hx1 (hX.symm.trans h)
    obtain ⟨x',_,q2,_,q4⟩:=mpA hO hxl (i:=0) (by omega)
    rw[he] at q2;obtain rfl:=Option.some.inj q2;exact ⟨e,fun _=>⟨by rw[h];exact ixN hO (i:=0) (n:=1) (by omega),q4,hk0.trans (hhd e he)⟩⟩
   ·exact ⟨default,fun h'=>absurd h' h⟩
  obtain ⟨ek,en,es,el⟩:=e0;rw[Ex.t_mk,Ex.kd] at he0;generalize el.map Ex.t=xl1 at he0;have hx10:cmp .eql (Int.ofNat NX) 1=true->NX=1:=fun h=>by cases hO;simp only[Ops.std,sCm,beq_iff_eq,Int.ofNat_eq_natCast] at h;omega
  have hx10':cmp .eql (Int.ofNat (len xl)) 1=true->NX=1:=fun h=>hx10 (by rw[lx] at h;exact h)
  clear hhd hx1 hk0 hs ht;have hne:∀c d:Int,c≠d->cmp .eql c d=false:=fun c d h=>by cases hO;simpa [Ops.std,sCm] using h
  have hnn:∀c d:Int,c≠d->cmp .neq c d=true:=fun c d h=>by cases hO;simpa [Ops.std,sCm] using h
  have a1:=hne _ _ n1;have b1:=hnn _ _ n1;have a2:=hne _ _ n2;have b2:=hnn _ _ n2;have a3:=hne _ _ n3;have b3:=hnn _ _ n3;have a4:=hne _ _ n4;have b4:=hnn _ _ n4;have a5:=hne _ _ n5;have b5:=hnn _ _ n5;have a6:=hne _ _ n6;have b6:=hnn _ _ n6;have a7:=hne _ _ n7;have b7:=hnn _ _ n7;have a8:=hne _ _ n8;have b8:=hnn _ _ n8;have a9:=hne _ _ n9;have b9:=hnn _ _ n9;have a10:=hne _ _ n10;have b10:=hnn _ _ n10
  have a11:=hne _ _ n11;have b11:=hnn _ _ n11;have a12:=hne _ _ n12;have b12:=hnn _ _ n12;clear hne hnn;refine qU ?_
  repeat' first|(revert hK K;refine qV0 ?_;intro K hK)|(refine GFork.mk (fun _=>qQ ?_) fun _=>qQ ?_)|(simp only[lx,la,lb,hnt,hnf,a1,a2,a3,a4,a5,a6,a7,a8,a9,a10,a11,a12,b1,b2,b3,b4,b5,b6,b7,b8,b9,b10,b11,b12];try cbv)|(have e0:=(he0 (by first | exact hx10 (by assumption)|(have:=(hr.1 (by assumption)).1;simp only[Int.ofNat_eq_natCast] at this;omega))).2.1;simp only[e0];(try cbv))|(with_reducible refine ndC ?h ?_;case h=>first | exact (he0 (by first | exact hx10 (by assumption)|(have:=(hr.1 (by assumption)).1;simp only[Int.ofNat_eq_natCast] at this;omega))).1 | exact hax)|(refine qG ?_;refine qD hP hns ?_;rintro res bx ⟨r,hr,rfl,rfl⟩;refine qC ?_)|(refine qG ?_;refine qD hP hnt' ?_;rintro res bx ⟨r,hr,rfl,rfl⟩;refine qC ?_)|(refine qG ?_;refine qD hP (hsh _ _ _) ?_;rintro res bx ⟨r,hr,rfl,rfl⟩;refine qC ?_)|(refine qG ?_;refine qD hP (c_l1In (Int.ofNat NX) 1 5) ?_;rintro res bx ⟨r,hr,rfl,rfl⟩;refine qC ?_)
  all_goals ((try cbv);refine hR _ _ ⟨_,?_,rfl,rfl⟩;clear hR hseg hM hP hC llx lla llb hX hA hB hxl hal hbl hax hns hnt' hsh hnt hnf hx10 hx10' a1 b1 a2 b2 a3 b3 a4 b4 a5 b5 a6 b6 a7 b7 a8 b8 a9 b9 a10 b10 a11 b11 a12 b12 n1 n2 n3 n4 n5 n6 n7 n8 n9 n10 n11 n12;cases hO;simp only[Ops.std,sCm,sqL,scmp_neq,beq_iff_eq,decide_eq_true_eq,Int.ofNat_eq_natCast] at *;first | omega|(simp_all;done)|(simp_all;omega) | grind)
end Go.Gv
