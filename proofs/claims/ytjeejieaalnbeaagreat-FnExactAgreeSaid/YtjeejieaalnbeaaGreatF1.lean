/- Part F1 of the proof: contracts of functions of the program, each walked once. -/
import Derived.Test.YtjeejieaalnbeaaGreatX6
import Derived.Test.YtjeejieaalnbeaaGreatX7
import Derived.Test.YtjeejieaalnbeaaGreatE0
import Derived.Test.YtjeejieaalnbeaaGreatE3
import Derived.Test.YtjeejieaalnbeaaGreatQ1
set_option linter.all false
namespace Go.Gv
open Go.Av Go.Proofs
set_option maxRecDepth 10000
set_option maxHeartbeats 8000000
def AgreeX (p:Pg) (s:Sx) (x:Mc):Prop:=AgreeP p s.e.vars s.e.tables s.r.line s.r.fields s.nr (s.out.map byteT) s.fuel s.stop s.fault s.exit x.h.cells x.vars x.tables x.r.line x.r.fields x.nr (x.out.map byteT) x.fuel x.stop x.fault x.exit x.trap
theorem tabs_of {p:List Mt} {n:Nat} (h:p.length+Mt.szs p<=n):∀a∈p,a.l.length<=n:=fun a ha=>by
 have:=sum_mem (f:=Mt.sz) ha;unfold Mt.szs at h;unfold Mt.sz at this;unfold Mt.sz at h;omega
theorem tbs_of {p:List Tb} {n:Nat} (h:p.length+Tb.szs p<=n):∀a∈p,a.l.length<=n:=fun a ha=>by
 have:=sum_mem (f:=Tb.sz) ha;unfold Tb.szs at h;unfold Tb.sz at this;unfold Tb.sz at h;omega
theorem c_Agree_spec' (p:Pg) (s:Sx) (x:Mc) (hp:p.sz<=1048576) (hs:s.sz<=1048576) (hx:x.sz<=1048576) :
  ACl Tryz.prog 7 [agT p.t,agT s.t,agT x.t] [] (fun res bx=>∃b:Bool,(b=true↔AgreeX p s x)/\res=litB b/\bx=[]):=by
 rw[Sx.sz,Ev.sz,Rc.sz] at hs;rw[Mc.sz,He.sz] at hx;exact c_Agree_spec p hp s.e.vars _ rfl s.e.tables _ rfl s.r.line s.r.fields _ rfl s.nr s.out _ rfl s.fuel s.calls s.stop s.fault s.exit x.h.cells _ rfl x.vars _ rfl x.tables _ rfl (x.frames.map Fr.t) x.r.line x.r.fields _ rfl x.nr x.out _ rfl x.fuel x.stop x.fault x.exit x.trap (by omega) (by omega) (by omega) (tabs_of (by omega)) (tbs_of (by omega)) (by omega)
theorem c_Agree_impl' (p:Pg) (s:Sx) (x:Mc) (hp:p.sz<=1048576) (hs:s.sz<=1048576) (hx:x.sz<=1048576) :
  ACl Tryz.prog 11 [agT p.t,agT s.t,agT x.t] [] (fun res bx=>∃b:Bool,(b=true↔AgreeX p s x)/\res=litB b/\bx=[]):=by
 rw[Sx.sz,Ev.sz,Rc.sz] at hs;rw[Mc.sz,He.sz] at hx;exact c_Agree_impl p hp s.e.vars _ rfl s.e.tables _ rfl s.r.line s.r.fields _ rfl s.nr s.out _ rfl s.fuel s.calls s.stop s.fault s.exit x.h.cells _ rfl x.vars _ rfl x.tables _ rfl (x.frames.map Fr.t) x.r.line x.r.fields _ rfl x.nr x.out _ rfl x.fuel x.stop x.fault x.exit x.trap (by omega) (by omega) (by omega) (tabs_of (by omega)) (tbs_of (by omega)) (by omega)
theorem c_FnExactAgree (p:Pg) (hp:p.Wf) (s:Sx) (hs:s.Wf) (x:Mc) (hx:x.Wf):ACl Tryz.prog 3 [agT p.t,agT s.t,agT x.t] [] (fun res bx=>res=litB true/\bx=[]):=by
 have hs1:=c_szProg p hp;have hs2:=c_szSt s hs;have hs3:=c_szMach x hx;have ht1:=fun h=>c_toProg p h;have ht2:=fun h=>c_toSt s h;have ht3:=fun h=>c_toMach x h;have hq1:=fun h=>c_eqProg p h;have hq2:=fun h=>c_eqSt s h;have hq3:=fun h=>c_eqMach x h;have h1:=fun a b c=>c_Agree_spec' p s x a b c;have h2:=fun a b c=>c_Agree_impl' p s x a b c;generalize AgreeX p s x=AG at h1 h2;generalize p.sz=z1 at *;generalize s.sz=z2 at *
 generalize x.sz=z3 at *;clear hp hs hx;obtain ⟨rules,fns⟩:=p;obtain ⟨⟨e1,e2⟩,⟨r1,r2⟩,s1,s2,s3,s4,s5,s6,s7⟩:=s;obtain ⟨⟨x1⟩,x2,x3,x4,⟨x5,x6⟩,x7,x8,x9,x10,x11,x12,x13⟩:=x;simp only[agT,Pg.t,Pg.ow,Sx.t,Ev.t,Rc.t,Mc.t,He.t,Sx.ow,Ev.ow,Mc.ow,He.ow,Rc.ow,List.map,tA,List.cons_append,List.nil_append,ToOk,EqOk,SzOk] at *;generalize rules.map Ru.t=yr at *;generalize fns.map Fu.t=yf at *;generalize e1.map Nm.t=ye1 at *
 generalize e2.map Tb.t=ye2 at *;generalize r2.map strT=yr2 at *;generalize s2.map byteT=ys2 at *;generalize x1.map Ce.t=y1 at *;generalize x2.map intT=y2 at *;generalize x3.map Mt.t=y3 at *;generalize x4.map Fr.t=y4 at *;generalize x6.map strT=y6 at *;generalize x8.map byteT=y8 at *;refine qF tyK Tryz.func3 63 [.tmp 6] ?_;unhygienic intros;have hne:∀x,bnot (beq x x)=false:=by intro x;cases hO;simp[Ops.std]
 have hnt:bnot true=false:=by cases hO;rfl
 revert hK K;refine qW0 ?_;intro K hK;refine qG ?_;refine qD hP (hs1 1048576 ⟨by decide,by decide⟩) ?_;rintro res bx ⟨q1,hq1',rfl,rfl⟩;refine qC ?_
 have hl1:=szR_le (a:=1048576) ⟨by decide,by decide⟩ hq1'
 revert hK K;refine qW0 ?_;intro K hK;refine nC rfl (fun h4=>?_) (fun h4=>?_)
 ·revert hK K;refine qW0 ?_;intro K hK
  exact hR _ _ ⟨rfl,rfl⟩
 have hg1:¬q1 < 0:=qv4;have hl1:=hl1 hg1;revert hK K;refine qW0 ?_;intro K hK;refine qG ?_;refine qD hP (hs2 q1 hl1) ?_;rintro res bx ⟨q2,hq2',rfl,rfl⟩;refine qC ?_;have hl2:=szR_le hl1 hq2';revert hK K;refine qW0 ?_;intro K hK;refine nC rfl (fun h5=>?_) (fun h5=>?_)
 ·revert hK K;refine qW0 ?_;intro K hK
  exact hR _ _ ⟨rfl,rfl⟩
 have hg2:¬q2 < 0:=qv5;have hl2:=hl2 hg2;revert hK K;refine qW0 ?_;intro K hK;refine qG ?_;refine qD hP (hs3 q2 hl2) ?_;rintro res bx ⟨q3,hq3',rfl,rfl⟩;refine qC ?_;revert hK K;refine qW0 ?_;intro K hK;refine nC rfl (fun h6=>?_) (fun h6=>?_)
 ·revert hK K;refine qW0 ?_;intro K hK
  exact hR _ _ ⟨rfl,rfl⟩
 have hg3:¬q3 < 0:=qv6;have hz1:z1<=1048576:=by
  simp only[szR,lefts,Int.ofNat_eq_natCast] at hq1' hl1 hl2;omega
 have hz2:z2<=1048576:=by
  simp only[szR,lefts,Int.ofNat_eq_natCast] at hq1' hq2' hl1 hl2;omega
 have hz3:z3<=1048576:=by
  simp only[szR,lefts,Int.ofNat_eq_natCast] at hq1' hq2' hq3' hl1 hl2;omega
 replace ht1:=ht1 hz1;replace ht2:=ht2 hz2;replace ht3:=ht3 hz3;replace hq1:=hq1 hz1;replace hq2:=hq2 hz2;replace hq3:=hq3 hz3;obtain ⟨b1,hb1,h1⟩:=lit_of (h1 hz1 hz2 hz3);obtain ⟨b2,hb2,h2⟩:=lit_of (h2 hz1 hz2 hz3);obtain rfl:b1=b2:=Bool.eq_iff_iff.2 (hb1.trans hb2.symm);have hk:bnot (beq b1 b1)=false:=hne b1;clear hs1 hs2 hs3 hq1' hq2' hq3' hl1 hl2 h4 h5 h6 hg1 hg2 hg3;refine qU ?_
 repeat' first|(revert hK K;refine qV0 ?_;intro K hK)|(refine GFork.mk (fun _=>qQ ?_) fun _=>qQ ?_)|(simp only[hne,hnt];try cbv)|(refine GCall.by (nS []) ?_;refine qC ?_;refine qD hP ht1 ?_;rintro res bx ⟨rfl,rfl⟩;refine qC ?_)|(refine GCall.by (nS []) ?_;refine qC ?_;refine qD hP ht2 ?_;rintro res bx ⟨rfl,rfl⟩;refine qC ?_)|(refine GCall.by (nS []) ?_;refine qC ?_;refine qD hP ht3 ?_;rintro res bx ⟨rfl,rfl⟩;refine qC ?_)|(refine GCall.by (nS []) ?_;refine qC ?_;refine qD hP h1 ?_;rintro res bx ⟨rfl,rfl⟩;refine qC ?_)|(refine GCall.by (nS []) ?_;refine qC ?_;refine qD hP h2 ?_;rintro res bx ⟨rfl,rfl⟩;refine qC ?_)|(refine GCall.by (nS []) ?_;refine qC ?_;refine qD hP hq1 ?_;rintro res bx ⟨rfl,rfl⟩;refine qC ?_)|(refine GCall.by (nS []) ?_;refine qC ?_;refine qD hP hq2 ?_;rintro res bx ⟨rfl,rfl⟩;refine qC ?_)|(refine GCall.by (nS []) ?_;refine qC ?_;refine qD hP hq3 ?_;rintro res bx ⟨rfl,rfl⟩;refine qC ?_)
 all_goals exact hR _ _ ⟨rfl,rfl⟩
end Go.Gv
