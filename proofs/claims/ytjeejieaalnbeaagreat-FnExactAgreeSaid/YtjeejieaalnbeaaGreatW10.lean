/- Part W10 of the proof: contracts of functions of the program, each walked once. -/
import Derived.Test.YtjeejieaalnbeaaGreatW1
import Derived.Test.YtjeejieaalnbeaaGreatW7
import Derived.Test.YtjeejieaalnbeaaGreatT1
import Derived.Test.YtjeejieaalnbeaaGreatR1
import Derived.Test.YtjeejieaalnbeaaGreatQ1
import Derived.Test.YtjeejieaalnbeaaGreatU5
import Derived.Test.YtjeejieaalnbeaaGreatB1
import Derived.Shelf.Sort.Plain
import Derived.Shelf.Slices.In.SortNone
import Derived.Shelf.Slices.CompactS
import Derived.WalkKit
set_option linter.all false
namespace Go.Gv
open Go.Av Go.Proofs Go.Shelf Go.RowKit
set_option maxRecDepth 10000
set_option maxHeartbeats 8000000
theorem app_strsW {O:Ops} (hO:O=Ops.std) {els:List (List T)} {out:List ByteArray} (he:els=strs out) (v:ByteArray):O.app els [[T.lit (.string v)]]=strs (out++[v]):=by
 subst hO;subst he;simp[Ops.std,strs]
theorem TlO.no {ps:List ByteArray} {s:ByteArray} {v:List (List T)} (h:(TlO ps).G v 1) (hs:s∈ps):(TlO ps).P [s] 1 v v:=by
 obtain ⟨y,rfl,h⟩:=h;refine ⟨y,y,rfl,rfl,fun t=>?_,by omega⟩
 constructor
 ·exact .inl
 ·rintro (h | ⟨h,g⟩)
  ·exact h
  ·obtain rfl:=List.mem_singleton.1 h;exact absurd hs g
theorem TlO.yes {ps:List ByteArray} {s:ByteArray} {y:List ByteArray} {v v':List (List T)} (hv:v=strs y) (hs:s∉ps) (hv':v'=strs (y++[s])):(TlO ps).P [s] 1 v v':=by
 refine ⟨y,_,hv,hv',fun t=>?_,by simp⟩
 rw[List.mem_append];refine or_congr_right ?_;rw[List.mem_singleton]
 constructor
 ·rintro rfl;exact ⟨rfl,hs⟩
 ·exact fun h=>h.1
theorem TlO.keep {ps:List ByteArray} {v:List (List T)} {n:Nat} (h:(TlO ps).G v n):(TlO ps).P [] n v v:=by
 obtain ⟨y,rfl,h⟩:=h;exact ⟨y,y,rfl,rfl,by simp,by omega⟩
theorem c_add (ps:List ByteArray) (pt wt lt:List (List T)) (ru:Int) (hpt:pt=strs ps) (hpl:ps.length<=1073741824) (s:ByteArray) (v:List (List T)) (hg:(TlO ps).G v 1):ACl Tryz.prog 83 [litS s,⟨.one,[.ptr 0 0]⟩,⟨.one,[.ptr 1 0]⟩] [some [.ro true pt,.ro true wt,.ro true lt,.lit (.int .i64 ru)],some [.ow (0,0) 1 v]]
  (fun res bx=>∃v',(TlO ps).P [s] 1 v v'/\res=⟨.tup [],[]⟩/\bx=[some [.ro true pt,.ro true wt,.ro true lt,.lit (.int .i64 ru)],some [.ow (0,0) 1 v']]):=by
 have hg':=hg;obtain ⟨y,hv,hyl⟩:=hg;have h1:=c_ContainsStr ps pt s hpt (by omega)
 obtain ⟨v2,hv2⟩:=qX (strs (y++[s]));refine qF tysF_ok Tryz.func83 13 [] ?_;unhygienic intros;have hbn:∀c:Bool,bnot c=!c:=fun c=>by cases hO;rfl
 have hav:all v 1:=alO hO (by rw[hv];exact strs_all y)
 have happ:app v [[T.lit (.string s)]]=v2:=by rw[hv2];exact app_strsW hO hv s
 refine qU ?_
 repeat' first|(revert hK K;refine qV2 ?_;intro K hK)|(refine GFork.mk (fun _=>qQ ?_) fun _=>qQ ?_)|(with_reducible refine FinAt.mk ?_;cbv)|(refine qG ?_;refine qD hP h1 ?_;rintro res bx ⟨b1,hb1,rfl,rfl⟩;refine qC ?_)
 ·have hb:bnot b1=true:=by assumption
  rw[hbn] at hb;have hs:s∉ps:=fun h=>by rw[hb1.2 h] at hb;cases hb
  refine ndC (alO hO (by simp)) (ndC (aOk_of hO (by rw[hv];simp[strs];omega) (by rw[hv];simp[strs];omega)) (ndN ?_))
  rw[happ];revert hK K;refine qW2 ?_;intro K hK;exact hR _ _ ⟨v2,TlO.yes hv hs hv2,rfl,rfl⟩
 ·have hb:bnot b1=false:=by assumption
  rw[hbn] at hb;have hs:s∈ps:=hb1.1 (by simpa using hb)
  exact hR _ _ ⟨v,TlO.no hg' hs,rfl,rfl⟩
theorem c_V2 (ps:List ByteArray) (pt wt lt:List (List T)) (ru:Int) (hpt:pt=strs ps) (hpl:ps.length<=1073741824):TEV (TlO ps) zv pt wt lt ru:=by
 intro x v hx hg;obtain ⟨k,n,s,l⟩:=x;have h1:=c_add ps pt wt lt ru hpt hpl s v hg;have hk:=TlO.keep hg;simp only[agT,Ex.t_mk,List.map,tA,zv];generalize l.map Ex.t=xl;refine qF tysF_ok Tryz.func85 10 [] ?_;unhygienic intros;have hc:cmp .eql k 3=true↔k=3:=by cases hO;simp only[Ops.std,sCm,beq_iff_eq]
 refine qU ?_
 repeat' first|(revert hK K;refine qV3 ?_;intro K hK)|(refine GFork.mk (fun _=>qQ ?_) fun _=>qQ ?_)|(with_reducible refine FinAt.mk ?_;cbv)|(refine qg [0,1] ?_;refine qC ?_;refine qD hP h1 ?_;rintro res bx ⟨v2,hP,rfl,rfl⟩;refine qC ?_)
 ·have hk3:k=3:=hc.1 (by assumption)
  exact hR _ _ ⟨v2,by rw[if_pos hk3];exact hP,rfl,rfl⟩
 ·have h3:cmp .eql k 3=false:=by assumption
  have hk3:k≠3:=fun h=>by rw[hc.2 h] at h3;cases h3
  exact hR _ _ ⟨v,by rw[if_neg hk3];exact hk,rfl,rfl⟩
theorem c_V3 (ps:List ByteArray) (pt wt lt:List (List T)) (ru:Int) (hpt:pt=strs ps) (hpl:ps.length<=1073741824):TSVs (TlO ps) zvS (fun _=>1) pt wt lt ru:=by
 intro x v hx hg;obtain ⟨k,s,t,y,a,b⟩:=x;have h1:=c_add ps pt wt lt ru hpt hpl s v hg;have hk:=TlO.keep hg;simp only[agT,Sm.t_mk,List.map,tA,zvS];generalize y.map Ex.t=yl;generalize a.map Sm.t=al;generalize b.map Sm.t=bl;refine qF tysF_ok Tryz.func86 15 [] ?_;unhygienic intros;have hc:∀c:Int,cmp .eql k c=true↔k=c:=fun c=>by cases hO;simp only[Ops.std,sCm,beq_iff_eq]
 refine qU ?_
 repeat' first|(revert hK K;refine qV3 ?_;intro K hK)|(refine GFork.mk (fun _=>qQ ?_) fun _=>qQ ?_)|(with_reducible refine FinAt.mk ?_;cbv)|(refine qg [0,1] ?_;refine qC ?_;refine qD hP h1 ?_;rintro res bx ⟨v2,hP,rfl,rfl⟩;refine qC ?_)
 ·have hk3:k=2:=(hc 2).1 (by assumption)
  exact hR _ _ ⟨v2,by rw[if_pos (.inl hk3)];exact hP,rfl,rfl⟩
 ·have hk3:k=7:=(hc 7).1 (by assumption)
  exact hR _ _ ⟨v2,by rw[if_pos (.inr hk3)];exact hP,rfl,rfl⟩
 ·have h2:cmp .eql k 2=false:=by assumption
  have h7:cmp .eql k 7=false:=by assumption
  have n2:k≠2:=fun h=>by rw[(hc 2).2 h] at h2;cases h2
  have n7:k≠7:=fun h=>by rw[(hc 7).2 h] at h7;cases h7
  exact hR _ _ ⟨v,by rw[if_neg (by omega)];exact hk,rfl,rfl⟩
theorem c_T1:TET (TlO []) zt:=by
 intro x v hx hg;obtain ⟨k,n,s,l⟩:=x;have hk:=TlO.keep hg;obtain ⟨y,hv,hyl⟩:=hg;simp only[agT,Ex.t_mk,List.map,tA,zt];generalize l.map Ex.t=xl;obtain ⟨v2,hv2⟩:=qX (strs (y++[s]));refine qF tysF_ok Tryz.func88 16 [] ?_;unhygienic intros;have hc:∀c:Int,cmp .eql k c=true↔k=c:=fun c=>by cases hO;simp only[Ops.std,sCm,beq_iff_eq]
 have hav:all v 1:=alO hO (by rw[hv];exact strs_all y)
 have happ:app v [[T.lit (.string s)]]=v2:=by rw[hv2];exact app_strsW hO hv s
 have hn1:all [[T.lit (.string s)]] 1:=alO hO (by simp)
 have hn2:aOk 16 v [[T.lit (.string s)]]:=aOk_of hO (by rw[hv];simp[strs];omega) (by rw[hv];simp[strs];omega)
 refine qU ?_
 repeat' first|(revert hK K;refine qV1 ?_;intro K hK)|(refine GFork.mk (fun _=>qQ ?_) fun _=>qQ ?_)|(with_reducible refine FinAt.mk ?_;cbv)|(simp only[happ];try cbv)|(with_reducible refine ndC ?h ?_;case h=>first | exact hn1 | exact hn2)
 ·have hk4:k=4:=(hc 4).1 (by assumption)
  exact hR _ _ ⟨v2,by rw[if_pos (.inl hk4)];exact TlO.yes hv (by simp) hv2,rfl,rfl⟩
 ·have hk9:k=9:=(hc 9).1 (by assumption)
  exact hR _ _ ⟨v2,by rw[if_pos (.inr hk9)];exact TlO.yes hv (by simp) hv2,rfl,rfl⟩
 ·have h2:cmp .eql k 4=false:=by assumption
  have h7:cmp .eql k 9=false:=by assumption
  have n2:k≠4:=fun h=>by rw[(hc 4).2 h] at h2;cases h2
  have n7:k≠9:=fun h=>by rw[(hc 9).2 h] at h7;cases h7
  exact hR _ _ ⟨v,by rw[if_neg (by omega)];exact hk,rfl,rfl⟩
theorem c_T2:TSTs (TlO []) ztS (fun _=>1):=by
 intro x v hx hg;obtain ⟨k,s,t,x,a,b⟩:=x;have hk:=TlO.keep hg;obtain ⟨y,hv,hyl⟩:=hg;simp only[agT,Sm.t_mk,List.map,tA,ztS];generalize x.map Ex.t=xl;generalize a.map Sm.t=al;generalize b.map Sm.t=bl;obtain ⟨v2,hv2⟩:=qX (strs (y++[s]));obtain ⟨v3,hv3⟩:=qX (strs (y++[t]));refine qF tysF_ok Tryz.func89 20 [] ?_;unhygienic intros;have hc:∀c:Int,cmp .eql k c=true↔k=c:=fun c=>by cases hO;simp only[Ops.std,sCm,beq_iff_eq]
 have hav:all v 1:=alO hO (by rw[hv];exact strs_all y)
 have happ:app v [[T.lit (.string s)]]=v2:=by rw[hv2];exact app_strsW hO hv s
 have happ2:app v [[T.lit (.string t)]]=v3:=by rw[hv3];exact app_strsW hO hv t
 have hn1:∀s,all [[T.lit (.string s)]] 1:=fun s=>alO hO (by simp)
 have hn2:∀s,aOk 16 v [[T.lit (.string s)]]:=fun s=>aOk_of hO (by rw[hv];simp[strs];omega) (by rw[hv];simp[strs];omega)
 refine qU ?_
 repeat' first|(revert hK K;refine qV1 ?_;intro K hK)|(refine GFork.mk (fun _=>qQ ?_) fun _=>qQ ?_)|(with_reducible refine FinAt.mk ?_;cbv)|(simp only[happ,happ2];try cbv)|(with_reducible refine ndC ?h ?_;case h=>first | exact hn1 _ | exact hn2 _)
 ·have hk4:k=3:=(hc 3).1 (by assumption)
  exact hR _ _ ⟨v2,by rw[if_pos (.inl hk4),if_neg (by omega)];exact TlO.yes hv (by simp) hv2,rfl,rfl⟩
 ·have hk9:k=11:=(hc 11).1 (by assumption)
  exact hR _ _ ⟨v2,by rw[if_pos (.inr hk9),if_neg (by omega)];exact TlO.yes hv (by simp) hv2,rfl,rfl⟩
 ·have hk9:k=7:=(hc 7).1 (by assumption)
  exact hR _ _ ⟨v3,by rw[if_neg (by omega),if_pos hk9];exact TlO.yes hv (by simp) hv3,rfl,rfl⟩
 ·have h2:cmp .eql k 3=false:=by assumption
  have h7:cmp .eql k 11=false:=by assumption
  have h8:cmp .eql k 7=false:=by assumption
  have n2:k≠3:=fun h=>by rw[(hc 3).2 h] at h2;cases h2
  have n7:k≠11:=fun h=>by rw[(hc 11).2 h] at h7;cases h7
  have n8:k≠7:=fun h=>by rw[(hc 7).2 h] at h8;cases h8
  exact hR _ _ ⟨v,by rw[if_neg (by omega),if_neg n8];exact hk,rfl,rfl⟩
def CallQ (p:Pg):Ex->Prop | .mk k n s l=>k≠11\/CallOkE p (.mk k n s l)
theorem c_callOk (p:Pg) (hz:p.sz<=1048576) (e:Ex) (hes:e.sz<=1048576) (rl fl:List (List T)) (hfl:fl=p.fns.map Fu.t) :
  ACl Tryz.prog 79 [⟨.agg,[.ro true rl,.ro true fl]⟩,agT e.t] [] (fun res bx=>∃b:Bool,(b=true↔CallQ p e)/\res=litB b/\bx=[]):=by
 rw[Pg.sz] at hz;have hfz:∀f∈p.fns,f.sz<=1048576:=fun f hf=>by have:=Fu.szs_mem hf;omega
 have hfn:=fun s=>c_fnAt rl fl p.fns hfl s (by omega)
 have hxl:=Ex.szl_le e;obtain ⟨k,n0,s,l⟩:=e;have hq:CallQ p (Ex.mk k n0 s l)↔k≠11\/∃i f,FnAtP p.fns s (Int.ofNat i)/\p.fns[i]?=some f/\l.length<=f.params.length:=Iff.rfl;rw[hq];rw[Ex.l_len] at hxl;obtain ⟨r0,hr0⟩:=FnAtP.ex p.fns s;have h2:=acI (hfn s) (R':=fun res bx=>res=litI r0/\bx=[]) (fun res bx ⟨r,h,e1,e2⟩=>⟨by rw[e1,h.unique hr0],e2⟩)
 obtain ⟨NL,hNL⟩:=qX l.length;rw[<-hNL] at hxl |-;simp only[agT,Ex.t_mk,List.map,tA];obtain ⟨xl,hxl'⟩:=qX (l.map Ex.t);rw[<-hxl'];refine qF tysF_ok Tryz.func79 28 [.tmp 4] ?_;unhygienic intros;have hbn:∀c:Bool,bnot c=!c:=fun c=>by cases hO;rfl
 have ll:len xl=NL:=lnO hO (by simp[hxl',hNL])
 obtain ⟨NF,hNF⟩:=qX p.fns.length;have lf:len fl=NF:=lnO hO (by simp[hfl,hNF])
 have haf:all fl 3:=alO hO (by rw[hfl];simp[Fu.t_len])
 by_cases hk:k=11
 ·have c1:cmp .neq k 11=false:=by cases hO;simp[Ops.std,sCm,hk]
  rcases id hr0 with ⟨kk,f,hrk,hkf,hkn,hmin⟩ | ⟨hm1,hno⟩
  ·have hkl:kk < NF:=hNF ▸ (List.getElem?_eq_some_iff.1 hkf).1
   have hfs:=hfz f (List.mem_of_getElem? hkf);rw[Fu.sz] at hfs;obtain ⟨al,hal⟩:=qX (f.a.map Sm.t);obtain ⟨fp,hfp⟩:=qX (strs f.params);obtain ⟨NP,hNP⟩:=qX f.params.length;have ef:get fl (nat (Int.ofNat kk))=[T.lit (.string f.name),.sl fp,.sl al]:=by
    rw[hal,hfp];have:get fl (nat (Int.ofNat kk))=f.t:=by cases hO;rw[hfl];simp[Ops.std,hkf]
    exact this
   have lp:len fp=NP:=lnO hO (by simp[hfp,hNP,strs])
   subst hrk;have c2:cmp .geq (Int.ofNat kk) 0=true:=by cases hO;simp[Ops.std,sCm]
   have hidk:idx (Int.ofNat kk) (len fl):=lf ▸ ixN hO hkl;have hidk2:idx (Int.ofNat kk) NF:=ixN hO hkl;have hle:cmp .leq (Int.ofNat NL) (Int.ofNat NP)=true↔NL<=NP:=by cases hO;simp[Ops.std,sCm]
   generalize f.name=fname at ef hkn;have hfin:(cmp .leq (Int.ofNat NL) (Int.ofNat NP)=true↔k≠11\/∃i f,FnAtP p.fns s (Int.ofNat i)/\p.fns[i]?=some f/\NL<=f.params.length):=by
    rw[hle]
    constructor
    ·intro h;exact .inr ⟨kk,f,hr0,hkf,by omega⟩
    ·rintro (h | ⟨i2,f2,k1,k2,k3⟩)
     ·exact absurd hk h
     ·have:=k1.unique hr0
      have:i2=kk:=Int.ofNat.inj this;subst this;rw[hkf] at k2;obtain rfl:=Option.some.inj k2;omega
   refine qU ?_
   repeat' first|(revert hK K;refine qV0 ?_;intro K hK)|(refine GFork.mk (fun _=>qQ ?_) fun _=>qQ ?_)|(simp only[c1,c2,ll,lp,lf,ef];try cbv)|(with_reducible refine ndC ?h ?_;case h=>first | exact hidk | exact hidk2 | exact haf)|(refine qG ?_;refine qD hP h2 ?_;rintro res bx ⟨rfl,rfl⟩;refine qC ?_)
   all_goals exact hR _ _ ⟨_,hfin,rfl,rfl⟩
  ·have c2:cmp .geq r0 0=false:=by rw[hm1];cases hO;rfl
   refine qU ?_
   repeat' first|(revert hK K;refine qV0 ?_;intro K hK)|(refine GFork.mk (fun _=>qQ ?_) fun _=>qQ ?_)|(simp only[c1,c2];try cbv)|(refine qG ?_;refine qD hP h2 ?_;rintro res bx ⟨rfl,rfl⟩;refine qC ?_)
   refine hR _ _ ⟨false,⟨fun h=>(by cases h),?_⟩,rfl,rfl⟩
   rintro (h | ⟨i2,f2,k1,k2,k3⟩)
   ·exact absurd hk h
   ·have:=k1.unique hr0
    rw[hm1] at this;cases this
 ·have c1:cmp .neq k 11=true:=by cases hO;simp[Ops.std,sCm,hk]
  refine qU ?_
  repeat' first|(revert hK K;refine qV0 ?_;intro K hK)|(refine GFork.mk (fun _=>qQ ?_) fun _=>qQ ?_)|(simp only[c1];try cbv)
  exact hR _ _ ⟨true,⟨fun _=>.inl hk,fun _=>rfl⟩,rfl,rfl⟩
theorem c_C1 (p:Pg) (hz:p.sz<=1048576) (rl fl:List (List T)) (hfl:fl=p.fns.map Fu.t):TEC (TlB (CallOkE p)) zc rl fl:=by
 intro x v hx hg;have h1:=c_callOk p hz x hx rl fl hfl;have hq:(∀e∈zc x,CallOkE p e)↔CallQ p x:=by
  obtain ⟨k,n,s,l⟩:=x;unfold zc CallQ
  by_cases hk:k=11
  ·simp[hk]
  ·simp[hk]
 obtain ⟨k,n,s,l⟩:=x;simp only[agT,Ex.t_mk,List.map,tA] at h1 |-;have hPr:∀v':Bool,(v'=true↔v=true/\CallQ p (.mk k n s l))->(TlB (CallOkE p)).P (zc (.mk k n s l)) 1 v v':=fun v' h=>by
  show v'=true↔v=true/\∀e∈zc (.mk k n s l),CallOkE p e
  rw[h,hq]
 generalize CallQ p (.mk k n s l)=q at *;generalize l.map Ex.t=xl at *;cases v
 ·refine qF tysF_ok Tryz.func78 10 [] ?_;unhygienic intros
  refine qU ?_
  repeat' first|(revert hK K;refine qV2 ?_;intro K hK)|(refine GFork.mk (fun _=>qQ ?_) fun _=>qQ ?_)
  exact hR _ _ ⟨false,hPr false (by simp),rfl,rfl⟩
 ·refine qF tysF_ok Tryz.func78 10 [] ?_;unhygienic intros
  refine qU ?_
  repeat' first|(revert hK K;refine qV2 ?_;intro K hK)|(refine GFork.mk (fun _=>qQ ?_) fun _=>qQ ?_)|(refine qG ?_;refine qD hP h1 ?_;rintro res bx ⟨b1,hb1,rfl,rfl⟩;refine qC ?_)
  exact hR _ _ ⟨b1,hPr b1 (by rw[hb1];simp),rfl,rfl⟩
theorem c_C2 (pt wt lt:List (List T)) (ru:Int):TSCs (TlB (PlOk ru)) (fun y=>[y]) (fun _=>1) pt wt lt ru:=by
 intro x v hx hg;obtain ⟨k,s,t,y,a,b⟩:=x;have hPr:∀v':Bool,(v'=true↔v=true/\((k=8->ru=3\/ru=4)/\(k=10->ru=0)))->(TlB (PlOk ru)).P [Sm.mk k s t y a b] 1 v v':=fun v' h=>by
  show v'=true↔v=true/\∀e∈[Sm.mk k s t y a b],PlOk ru e
  rw[h];simp[PlOk]
 simp only[agT,Sm.t_mk,List.map,tA];generalize y.map Ex.t=yl;generalize a.map Sm.t=al;generalize b.map Sm.t=bl;refine qF tysF_ok Tryz.func81 30 [] ?_;unhygienic intros;have hc:∀k c:Int,cmp .eql k c=true↔k=c:=fun k c=>by cases hO;simp only[Ops.std,sCm,beq_iff_eq]
 have hc0:∀k c:Int,cmp .eql k c=false↔k≠c:=fun k c=>by cases hO;simp[Ops.std,sCm]
 have hn:∀k c:Int,cmp .neq k c=true↔k≠c:=fun k c=>by cases hO;simp[Ops.std,sCm]
 have hn0:∀k c:Int,cmp .neq k c=false↔k=c:=fun k c=>by cases hO;simp[Ops.std,sCm]
 have hfin:∀v':Bool,(v'=true↔v=true/\((k=8->ru=3\/ru=4)/\(k=10->ru=0)))->_:=fun v' h=>hR _ _ ⟨v',hPr v' h,rfl,rfl⟩;clear hR;cases v
 ·refine qU ?_
  repeat' first|(revert hK K;refine qV2 ?_;intro K hK)|(refine GFork.mk (fun _=>qQ ?_) fun _=>qQ ?_)
  all_goals exact hfin _ (by simp_all)
 ·refine qU ?_
  repeat' first|(revert hK K;refine qV2 ?_;intro K hK)|(refine GFork.mk (fun _=>qQ ?_) fun _=>qQ ?_)
  all_goals (refine hfin _ ?_;simp only[hc,hc0,hn,hn0] at *;grind)
def Pa.vP (l:List Pa) (s:ByteArray):Prop:=∃x∈l,(s∈Ex.vss x.when_\/s∈Sm.vss x.l)/\s∉x.params
def Pa.tP (l:List Pa) (s:ByteArray):Prop:=∃x∈l,s∈Ex.tbs x.when_\/s∈Sm.tbs x.l
def Pa.cP (Q:Ex->Prop) (l:List Pa):Prop:=∀x∈l,∀e,(e∈Ex.cls x.when_\/e∈Sm.cls x.l)->Q e
def Pa.kP (l:List Pa):Prop:=∀x∈l,KsOk x.rule (Sm.kss x.l)
def Pa.w (x:Pa):Nat:=Ex.partss x.when_+Sm.partss x.l+Sm.wl (fun _=>1) x.l
def Pa.ws (l:List Pa):Nat:=(l.map Pa.w).sum
theorem pa_step {l:List Pa} {x:Pa} {i:Nat} (h:l.take (i+1)=l.take i++[x]):(∀s,Pa.vP (l.take (i+1)) s↔Pa.vP (l.take i) s\/((s∈Ex.vss x.when_\/s∈Sm.vss x.l)/\s∉x.params))/\(∀s,Pa.tP (l.take (i+1)) s↔Pa.tP (l.take i) s\/(s∈Ex.tbs x.when_\/s∈Sm.tbs x.l))/\
  (∀Q,Pa.cP Q (l.take (i+1))↔Pa.cP Q (l.take i)/\∀e,(e∈Ex.cls x.when_\/e∈Sm.cls x.l)->Q e)/\(Pa.kP (l.take (i+1))↔Pa.kP (l.take i)/\KsOk x.rule (Sm.kss x.l))/\Pa.ws (l.take (i+1))=Pa.ws (l.take i)+x.w:=by
 rw[h];generalize l.take i=m;refine ⟨fun s=>?_,fun s=>?_,fun Q=>?_,?_,?_⟩
 ·simp[Pa.vP,List.mem_append,or_and_right,exists_or]
 ·simp[Pa.tP,List.mem_append,or_and_right,exists_or]
 ·unfold Pa.cP
  constructor
  ·intro h
   exact ⟨fun y hy=>h y (List.mem_append_left _ hy),h x (List.mem_append_right _ (List.mem_singleton.2 rfl))⟩
  ·rintro ⟨h1,h2⟩ y hy
   rcases List.mem_append.1 hy with hy | hy
   ·exact h1 y hy
   ·obtain rfl:=List.mem_singleton.1 hy;exact h2
 ·simp only[Pa.kP,List.mem_append,List.mem_singleton,or_imp,forall_and,forall_eq]
 ·simp[Pa.ws]
theorem Pa.ws_take (l:List Pa) (i:Nat):Pa.ws (l.take i)<=Pa.ws l:=by
 have h:Pa.ws (l.take i++l.drop i)=Pa.ws (l.take i)+Pa.ws (l.drop i):=by
  simp only[Pa.ws,List.map_append,List.sum_append]
 rw[List.take_append_drop] at h;omega
theorem hd_ru (r:Ru):(Pa.ru r).when_=r.hd:=rfl
theorem Pa.vP_of (p:Pg) (s:ByteArray):Pa.vP (Pa.of p) s↔VPof p s:=by
 unfold Pa.vP VPof Fu.vP Ru.vP
 constructor
 ·rintro ⟨x,hx,h1,h2⟩
  rcases List.mem_append.1 hx with hx | hx
  ·obtain ⟨f,hf,rfl⟩:=List.mem_map.1 hx
   rcases h1 with h1 | h1
   ·simp[Pa.fu,Ex.vss] at h1
   ·exact .inl ⟨f,hf,h1,h2⟩
  ·obtain ⟨f,hf,rfl⟩:=List.mem_map.1 hx
   exact .inr ⟨f,hf,h1⟩
 ·rintro (⟨f,hf,h1,h2⟩ | ⟨f,hf,h1⟩)
  ·exact ⟨Pa.fu f,List.mem_append_left _ (List.mem_map_of_mem hf),.inr h1,h2⟩
  ·exact ⟨Pa.ru f,List.mem_append_right _ (List.mem_map_of_mem hf),h1,by simp[Pa.ru]⟩
theorem Pa.tP_of (p:Pg) (s:ByteArray):Pa.tP (Pa.of p) s↔TPof p s:=by
 unfold Pa.tP TPof Fu.tP Ru.tP
 constructor
 ·rintro ⟨x,hx,h1⟩
  rcases List.mem_append.1 hx with hx | hx
  ·obtain ⟨f,hf,rfl⟩:=List.mem_map.1 hx
   rcases h1 with h1 | h1
   ·simp[Pa.fu,Ex.tbs] at h1
   ·exact .inl ⟨f,hf,h1⟩
  ·obtain ⟨f,hf,rfl⟩:=List.mem_map.1 hx
   exact .inr ⟨f,hf,h1⟩
 ·rintro (⟨f,hf,h1⟩ | ⟨f,hf,h1⟩)
  ·exact ⟨Pa.fu f,List.mem_append_left _ (List.mem_map_of_mem hf),.inr h1⟩
  ·exact ⟨Pa.ru f,List.mem_append_right _ (List.mem_map_of_mem hf),h1⟩
theorem Pa.cP_of (p:Pg):Pa.cP (CallOkE p) (Pa.of p)↔CallsOk p:=by
 unfold Pa.cP CallsOk
 constructor
 ·intro h e he
  rcases List.mem_append.1 he with he | he
  ·simp only[Fu.clsL,List.mem_flatMap] at he
   obtain ⟨f,hf,he⟩:=he;exact h (Pa.fu f) (List.mem_append_left _ (List.mem_map_of_mem hf)) e (.inr he)
  ·simp only[Ru.clsL,List.mem_flatMap,List.mem_append] at he
   obtain ⟨f,hf,he⟩:=he;exact h (Pa.ru f) (List.mem_append_right _ (List.mem_map_of_mem hf)) e he
 ·intro h x hx e he
  refine h e ?_;rcases List.mem_append.1 hx with hx | hx
  ·obtain ⟨f,hf,rfl⟩:=List.mem_map.1 hx
   refine List.mem_append_left _ ?_;simp only[Fu.clsL,List.mem_flatMap];rcases he with he | he
   ·simp[Pa.fu,Ex.cls] at he
   ·exact ⟨f,hf,he⟩
  ·obtain ⟨f,hf,rfl⟩:=List.mem_map.1 hx
   refine List.mem_append_right _ ?_;simp only[Ru.clsL,List.mem_flatMap,List.mem_append];exact ⟨f,hf,he⟩
theorem Pa.kP_of (p:Pg) (hg:p.good):Pa.kP (Pa.of p)↔¬PlaceBad p:=by
 unfold Pa.kP PlaceBad Fu.bP Ru.bP;have hr:∀r∈p.rules,r.k≠0:=fun r hr=>by
  have:=hg.1 r hr;unfold Ru.good at this;omega
 constructor
 ·rintro h (⟨f,hf,h8⟩ | ⟨r,hrm,h8⟩)
  ·have:=(h (Pa.fu f) (List.mem_append_left _ (List.mem_map_of_mem hf))).1 h8
   simp[Pa.fu] at this
  ·have h2:=h (Pa.ru r) (List.mem_append_right _ (List.mem_map_of_mem hrm))
   have hk:=hr r hrm;rcases h8 with ⟨hn,h8⟩ | h10
   ·exact hn (h2.1 h8)
   ·exact hk (h2.2 h10)
 ·intro h x hx
  rcases List.mem_append.1 hx with hx | hx
  ·obtain ⟨f,hf,rfl⟩:=List.mem_map.1 hx
   exact ⟨fun h8=>absurd (.inl ⟨f,hf,h8⟩) h,fun _=>rfl⟩
  ·obtain ⟨r,hrm,rfl⟩:=List.mem_map.1 hx
   refine ⟨fun h8=>Classical.byContradiction fun hn=>h (.inr ⟨r,hrm,.inl ⟨hn,h8⟩⟩),fun h10=>absurd (.inr ⟨r,hrm,.inr h10⟩) h⟩
theorem Pa.w_fu (f:Fu):(Pa.fu f).w<=2 * f.sz:=by
 have h1:=Sm.partss_le f.a;have h2:=Sm.wl_le f.a;simp only[Pa.w,Pa.fu,Ex.partss,Fu.sz];omega
theorem Pa.w_ru (r:Ru):(Pa.ru r).w<=1+2 * r.sz:=by
 have h1:=Sm.partss_le r.a;have h2:=Sm.wl_le r.a;have h3:=Ex.parts_le r.p;have h4:Ex.partss r.hd<=r.p.parts:=by
  unfold Ru.hd;split
  ·rw[Ex.partss_one];omega
  ·simp[Ex.partss]
 simp only[Pa.w,hd_ru,Ru.sz];simp only[Pa.ru];omega
theorem Pa.ws_of (p:Pg):Pa.ws (Pa.of p)<=2 * p.sz:=by
 have h1:∀l:List Fu,Pa.ws (l.map Pa.fu)<=2 * Fu.szs l:=by
  intro l
  induction l with
  | nil=>simp[Pa.ws,Fu.szs]
  | cons f l ih=>
   have:=Pa.w_fu f;simp only[Pa.ws,Fu.szs,List.map_cons,List.sum_cons] at *;omega
 have h2:∀l:List Ru,Pa.ws (l.map Pa.ru)<=l.length+2 * Ru.szs l:=by
  intro l
  induction l with
  | nil=>simp[Pa.ws,Ru.szs]
  | cons f l ih=>
   have:=Pa.w_ru f;simp only[Pa.ws,Ru.szs,List.map_cons,List.sum_cons,List.length_cons] at *;omega
 have h3:Pa.ws (Pa.of p)=Pa.ws (p.fns.map Pa.fu)+Pa.ws (p.rules.map Pa.ru):=by simp[Pa.of,Pa.ws]
 have:=h1 p.fns;have:=h2 p.rules;rw[h3,Pg.sz];omega
theorem Pa.lnO (p:Pg):(Pa.of p).length<=p.sz:=by
 rw[Pg.sz,Pa.of,List.length_append,List.length_map,List.length_map];omega
def Pa.okW (x:Pa):Prop:=x.when_.length<=1048576/\(∀y∈x.when_,y.sz<=1048576)/\x.l.length<=1048576/\(∀y∈x.l,y.sz<=1048576)/\x.params.length<=1048576
theorem Pa.ok_of {p:Pg} (hz:p.sz<=1048576) {x:Pa} (hx:x∈Pa.of p):x.okW:=by
 rw[Pg.sz] at hz;rcases List.mem_append.1 hx with hx | hx
 ·obtain ⟨f,hf,rfl⟩:=List.mem_map.1 hx
  have h1:=Fu.szs_mem hf;rw[Fu.sz] at h1;refine ⟨by simp[Pa.fu],by simp[Pa.fu],by simp only[Pa.fu];omega,fun y hy=>?_,by simp only[Pa.fu];omega⟩
  have h2:y.sz<=Sm.szs f.a:=Sm.szs_mem hy;omega
 ·obtain ⟨r,hr,rfl⟩:=List.mem_map.1 hx
  have h1:=Ru.szs_mem hr;rw[Ru.sz] at h1;refine ⟨by simp only[Pa.ru];split<;>simp,fun y hy=>?_,by simp only[Pa.ru];omega,fun y hy=>?_,by simp[Pa.ru]⟩
  ·simp only[Pa.ru] at hy
   split at hy
   ·obtain rfl:=List.mem_singleton.1 hy;omega
   ·simp at hy
  ·have h2:y.sz<=Sm.szs r.a:=Sm.szs_mem hy
   omega
def inv23a (xr xf:List (List T)) (fns:List Fu) (L:Nat) (σ:AS):Prop:=
 ∃(i:Nat) (out:List (List T)),σ=⟨vag 50 [(1,⟨.one,[.ptr 0 0]⟩),(3,⟨.one,[.ow (0,0) 4 out]⟩),(10,⟨.one,[.ro true xf]⟩),(11,litI (Int.ofNat fns.length)),(12,litI (Int.ofNat i))],
  [some [.ro true xr,.ro true xf]],1⟩/\
  i<=fns.length/\out=(fns.take i).map (fun f=>(Pa.fu f).t)/\L=fns.length - i
def inv23b (xr xf:List (List T)) (outF:List (List T)) (rules:List Ru) (L:Nat) (σ:AS):Prop:=
 ∃(i:Nat) (out:List (List T)),σ=⟨vag 50 [(1,⟨.one,[.ptr 0 0]⟩),(3,⟨.one,[.ow (0,0) 4 out]⟩),(26,⟨.one,[.ro true xr]⟩),(27,litI (Int.ofNat rules.length)),(28,litI (Int.ofNat i))],
  [some [.ro true xr,.ro true xf]],1⟩/\
  i<=rules.length/\out=outF++(rules.take i).map (fun f=>(Pa.ru f).t)/\L=rules.length - i
theorem c_partsIn (p:Pg) (hz:p.sz<=1048576):ACl Tryz.prog 76 [agT p.t] [] (fun res bx=>∃els,els=(Pa.of p).map Pa.t/\res=⟨.one,[.ow (0,0) 4 els]⟩/\bx=[]):=by
 obtain ⟨rules,fns⟩:=p;simp only[Pg.sz] at hz;simp only[agT,Pg.t,List.map,tA,Pa.of];obtain ⟨xr,hxr⟩:=qX (rules.map Ru.t);obtain ⟨xf,hxf⟩:=qX (fns.map Fu.t);obtain ⟨res,hres⟩:=qX ((fns.map Pa.fu++rules.map Pa.ru).map Pa.t);rw[<-hxr,<-hxf];simp only[<-hres];refine qF tysF_ok Tryz.func76 50 [.tmp 2] ?_;unhygienic intros;obtain ⟨N,hN⟩:=qX rules.length;have hlr:len xr=N:=lnO hO (by simp[hxr,hN])
 have har:all xr 6:=alO hO (by subst hxr;simp[Ru.t_len])
 obtain ⟨M,hM2⟩:=qX fns.length;have hlf:len xf=M:=lnO hO (by simp[hxf,hM2])
 have haf:all xf 3:=alO hO (by subst hxf;simp[Fu.t_len])
 have happ:∀a b,app a b=a++b:=by intro a b;cases hO;rfl
 revert hK K;refine qW0 ?_;intro K hK;simp only[hlf];refine qL 1 [1,3,10,11,12] (fun r _=>if r=.slot 3 then some 4 else none) (inv23a xr xf fns) ?_ ?_
 ·cbv
  exact ⟨_,0,[],by rw[<-hM2];cbv,by simp,by simp,rfl⟩
 rintro L σ ⟨i,out,rfl,g1,g2,rfl⟩;rw[<-hM2];revert hK K;refine qW0 ?_;intro K hK;refine nC rfl (fun h4=>?_) (fun h4=>?_)
 ·have hlt:i < M:=qv4
  obtain ⟨y,hy,hy',ht,e1⟩:=mpA hO hxf (hM2 ▸ hlt);obtain ⟨name,params,a⟩:=y;replace e1:get xf (nat (Int.ofNat i))=[T.lit (.string name),.sl (strs params),.sl (a.map Sm.t)]:=e1;have hout:(fns.take (i+1)).map (fun f=>(Pa.fu f).t)=out++[[.sl (strs params),.sl [],.sl (a.map Sm.t),.lit (.int .i64 0)]]:=by
   rw[ht,List.map_append,<-g2];rfl
  have hol:out.length<=1048576:=by rw[g2];simp;omega
  generalize strs params=xp at e1 hout;generalize a.map Sm.t=xa at e1 hout;revert hK K;refine qW0 ?_;intro K hK
  repeat (simp only[e1];cbv)
  refine ndC (hlf ▸ ixN hO hlt) (ndC haf (ndN ?_));revert hK K;refine qW0 ?_;intro K hK;refine ndC (alO hO (by simp)) (ndC (aOk_of hO (by simp;omega) (by simp;omega)) (ndN ?_))
  obtain ⟨out2,ho2⟩:=qX ((fns.take (i+1)).map (fun f=>(Pa.fu f).t));rw[<-ho2] at hout;simp only[happ,<-hout];revert hK K;refine qW0 ?_;intro K hK;have e:bin .add .i64 (Int.ofNat i) 1=_:=iSc hO (by omega)
  try cbv
  rw[e];exact ⟨M - (i+1),by omega,i+1,out2,by rw[<-hM2];cbv,by omega,ho2,by rw[hM2]⟩
 ·have hge:i=M:=qw4
  have e2:fns.take i=fns:=List.take_of_length_le (by omega)
  rw[e2] at g2;have hof:out.length=M:=by rw[g2];simp[hM2]
  revert hK K;refine qW0 ?_;intro K hK;simp only[hlr];refine qL 1 [1,3,26,27,28] (fun r _=>if r=.slot 3 then some 4 else none) (inv23b xr xf out rules) ?_ ?_
  ·cbv
   exact ⟨_,0,out,by rw[<-hN];cbv,by simp,by simp,rfl⟩
  rintro L σ ⟨j,outj,rfl,j1,j2,rfl⟩;rw[<-hN];revert hK K;refine qW0 ?_;intro K hK;refine nC rfl (fun h6=>?_) (fun h6=>?_)
  ·have hjt:j < N:=qv6
   obtain ⟨y,hy,hy',ht,e1⟩:=mpA hO hxr (hN ▸ hjt);have hol:outj.length<=2097152:=by rw[j2];simp;omega
   obtain ⟨k,⟨pk,pn,ps,pl⟩,a⟩:=y;have hout:out++(rules.take (j+1)).map (fun f=>(Pa.ru f).t)=outj++[[.sl [],.sl ((if k=4 then [Ex.mk pk pn ps pl] else []).map Ex.t),.sl (a.map Sm.t),.lit (.int .i64 k)]]:=by
    rw[ht,List.map_append,<-List.append_assoc,<-j2];rfl
   simp only[Ru.t,Ex.t_mk,List.cons_append,List.nil_append] at e1;obtain ⟨xpl,hxpl⟩:=qX (pl.map Ex.t);rw[<-hxpl] at e1;generalize a.map Sm.t=xa at e1 hout;obtain ⟨out2,ho2⟩:=qX (out++(rules.take (j+1)).map (fun f=>(Pa.ru f).t));rw[<-ho2] at hout;revert hK K;refine qW0 ?_;intro K hK
   repeat (simp only[e1];cbv)
   refine ndC (hlr ▸ ixN hO hjt) (ndC har (ndN ?_));revert hK K;refine qW0 ?_;intro K hK;refine nC rfl (fun h7=>?_) (fun h7=>?_)
   ·have hk:k=4:=qv7
    rw[if_pos hk,List.map_cons,List.map_nil,Ex.t_mk,<-hxpl] at hout;revert hK K;refine qW0 ?_;intro K hK;refine ndC (alO hO (by simp)) (ndC (aOk_of hO (by simp;omega) (by simp;omega)) (ndN ?_))
    simp only[happ,<-hout];revert hK K;refine qW0 ?_;intro K hK;have e:bin .add .i64 (Int.ofNat j) 1=_:=iSc hO (by omega)
    try cbv
    rw[e];exact ⟨N - (j+1),by omega,j+1,out2,by rw[<-hN];cbv,by omega,ho2,by rw[hN]⟩
   ·have hk:k≠4:=qv7
    rw[if_neg hk,List.map_nil] at hout;revert hK K;refine qW0 ?_;intro K hK;refine ndC (alO hO (by simp)) (ndC (aOk_of hO (by simp;omega) (by simp;omega)) (ndN ?_))
    simp only[happ,<-hout];revert hK K;refine qW0 ?_;intro K hK;have e:bin .add .i64 (Int.ofNat j) 1=_:=iSc hO (by omega)
    try cbv
    rw[e];exact ⟨N - (j+1),by omega,j+1,out2,by rw[<-hN];cbv,by omega,ho2,by rw[hN]⟩
  ·have hge:j=N:=qw6
   have e4:rules.take j=rules:=List.take_of_length_le (by omega)
   rw[e4] at j2;have e5:outj=res:=by
    rw[hres,List.map_append,j2,g2,List.map_map,List.map_map];rfl
   subst e5;revert hK K;refine qW0 ?_;intro K hK;exact hR _ _ ⟨_,rfl,rfl,rfl⟩
open Go.Av Go.Proofs Go.Shelf Go.RowKit Go.Sort
set_option maxRecDepth 100000
set_option maxHeartbeats 4000000
def sortRen:Go.Shelf.Ren:=⟨fun n=>match n with | 190=>136 | 125=>178 | 258=>177 | 128=>211 | 129=>212 | 302=>202 | 303=>203 | 304=>204 | 305=>205 | 306=>206 | 307=>207 | 308=>208 | 309=>209 | 310=>210 | 333=>222 | 329=>223 | 330=>224 | 334=>225 | 335=>226 | 336=>227 | 344=>238 | n=>n,
 fun n=>match n with | 31=>30 | 9=>9 | 3=>3 | 46=>282 | 0=>0 | 51=>310 | 53=>312 | 4=>4 | 183=>302 | 182=>301 | 131=>307 | 5=>5 | 218=>316 | 222=>320 | 228=>326 | 229=>327 | n=>n,fun n=>n⟩
def compRen:Go.Shelf.Ren:=⟨fun n=>match n with | 194=>137 | n=>n,fun n=>match n with | 31=>30 | 9=>9 | 3=>3 | 4=>4 | 0=>0 | n=>n,fun n=>n⟩
theorem sortLays:Lays.n190 Tryz.prog sortRen:=by
 constructor
 all_goals first | rfl|(intro w;rfl)
theorem compLays:Lays.n194 Tryz.prog compRen:=by
 constructor
 all_goals first | rfl|(intro w;rfl)
theorem asc_B (b o cap:Nat) (zs:List (List UInt8)) (w:World) (hH:Holds encStr w b o zs.toArray) (hbs:b < w.heap.size) (hl:zs.length<=1073741824) (hc:zs.length<=cap) :
  Calls Tryz.prog 87 #[.slice (some ⟨b,o,none⟩) zs.length cap] w fun e w'=>e=.returned (.slice (some ⟨b,o,none⟩) (Lib.compact (srt zs)).length cap)/\∃n os q,w'=ascW w b o n q os zs:=by
 have hsort:Calls Tryz.prog 136 #[.slice (some ⟨b,o,none⟩) zs.length cap] w fun e w'=>e=.returned (.tuple #[])/\∃n os,w'=grow (putRow encStr (Sort.ahead w n) b o (srt zs).toArray) os:=Any.slices_Sort_string sortLays b o cap zs w hH hbs (by omega)
 have hcomp:∀n os,Calls Tryz.prog 137 #[.slice (some ⟨b,o,none⟩) zs.length cap] (grow (putRow encStr (Sort.ahead w n) b o (srt zs).toArray) os) fun e w'=>e=.returned (.slice (some ⟨b,o,none⟩) (Lib.compact (srt zs)).length cap)/\∃q,w'=ascW w b o n q os zs:=by
  intro n os;have hH2:Holds encStr (grow (putRow encStr (Sort.ahead w n) b o (srt zs).toArray) os) b o (srt zs).toArray:=
   holds_grow encStr _ os b o _ (by simpa using hbs) (holds_putRow encStr _ b o zs.toArray _ (holds_ahead encStr w n b o _ hH) (by simp[srt_len]))
  have h:=Any.slices_Compact_string compLays b o cap (srt zs) _ hH2 (by rw[srt_len];omega) (by rw[srt_len];omega)
  rw[srt_len] at h;exact h
 generalize hN:zs.length=N at *;clear hH hN
 go_enter Tryz.func87,Tryz.ntmps87
 go_wp2_with (first
  | (go_at_call 136;refine hsort.mono ?_;rintro e w1 ⟨rfl,n,os,rfl⟩;have hcomp:=hcomp n os)
  | (go_at_call 137;refine hcomp.mono ?_;rintro e w2 ⟨rfl,q,rfl⟩))
 go_ret
 exact ⟨rfl,n,os,q,rfl⟩
theorem asc_A (ad:Option Addr) (w:World):Calls Tryz.prog 87 #[.slice ad 0 0] w fun e w'=>e=.returned (.slice ad 0 0)/\w'=w:=by
 have hsort:Calls Tryz.prog 136 #[.slice ad 0 0] w fun e w'=>e=.returned (.tuple #[])/\w'=w:=calls_of_every_depth fun D=>AnyS.slices_Sort_string_none_in sortLays D ad 0 w;have hcomp:Calls Tryz.prog 137 #[.slice ad 0 0] w fun e w'=>e=.returned (.slice ad 0 0)/\w'=w:=Any.slices_Compact_string_empty compLays ad 0 w
 go_enter Tryz.func87,Tryz.ntmps87
 go_wp2_with (first
  | (go_at_call 136;refine hsort.mono ?_;rintro e w1 ⟨rfl,rfl⟩)
  | (go_at_call 137;refine hcomp.mono ?_;rintro e w2 ⟨rfl,rfl⟩))
 go_ret
 exact ⟨rfl,rfl⟩
theorem c_ascending (y:List ByteArray) (els:List (List T)) (he:els=strs y) (hy:y.length<=1073741824) :
  ACl Tryz.prog 87 [⟨.one,[.ow (0,0) 1 els]⟩] [] (fun res bx=>∃els',els'=strs (srtB y)/\res=⟨.one,[.ow (0,0) 1 els']⟩/\bx=[]):=
 acalls_asc asc_A asc_B y els he hy
end Go.Gv
