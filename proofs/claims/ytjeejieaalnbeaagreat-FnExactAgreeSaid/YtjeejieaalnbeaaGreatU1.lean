/- Part U1 of the proof: contracts of functions of the program, each walked once. -/
import Derived.Test.YtjeejieaalnbeaaGreatN11
import Derived.Test.YtjeejieaalnbeaaGreatR1
import Derived.Test.YtjeejieaalnbeaaGreatQ1
import Derived.Test.YtjeejieaalnbeaaGreatS4
import Derived.Test.YtjeejieaalnbeaaGreatK2
set_option linter.all false
namespace Go.Gv
open Go.Av Go.Proofs Go.Shelf Go.RowKit
set_option maxRecDepth 10000
set_option maxHeartbeats 8000000
theorem app_strsU {O:Ops} (hO:O=Ops.std) {els:List (List T)} {out:List ByteArray} (he:els=strs out) (v:ByteArray):O.app els [[T.lit (.string v)]]=strs (out++[v]):=by
 subst hO;subst he;simp[Ops.std,strs]
def invU1 (els:List (List T)) (s:ByteArray) (l:List ByteArray) (N:Nat) (σ:AS):Prop:=
 ∃(i:Nat),σ=⟨vag 18 [(0,⟨.one,[.ro false els]⟩),(1,litS s),(5,litI (Int.ofNat i))],[],1⟩/\i<=l.length/\(∀p x,p < i->l[p]?=some x->x≠s)/\N=l.length - i
theorem c_l8HasL:∀(l:List ByteArray) (els:List (List T)) (s:ByteArray),els=strs l->l.length<=1099511627776->ACl Tryz.prog 114 [⟨.one,[.ro false els]⟩,litS s] [] (fun res bx=>∃b:Bool,(b=true↔s∈l)/\res=litB b/\bx=[]):=by
 intro l els s he hl;refine qF tyK Tryz.func114 18 [.tmp 4] ?_;unhygienic intros;obtain ⟨N,hN⟩:=qX l.length;have hln:len els=N:=lnO hO (by simp[he,hN])
 have ha:all els 1:=alO hO (by rw[he];exact strs_all l)
 rw[<-hN] at hl;revert hK K;refine qW0 ?_;intro K hK;refine qL 0 [0,1,5] kk0 (invU1 els s l) ?_ ?_
 ·cbv
  exact ⟨_,0,by cbv,by simp,fun p x h=>by omega,rfl⟩
 rintro m σ ⟨i,rfl,g1,g2,rfl⟩;rw[<-hN] at g1 |-;revert hK K;refine qW0 ?_;intro K hK;simp only[hln];refine nC rfl (fun h3=>?_) (fun h3=>?_)
 ·have hlt:i < N:=qv3
  have e:bin .add .i64 (Int.ofNat i) 1=_:=iSc hO (by omega)
  have hidx:idx (Int.ofNat i) (len els):=hln ▸ ixN hO hlt;obtain ⟨y,hy⟩:∃y,l[i]?=some y:=⟨_,List.getElem?_eq_getElem (hN ▸ hlt)⟩;have e1:get els (nat (Int.ofNat i))=[T.lit (.string y)]:=by cases hO;rw[he];simp[Ops.std,strs,hy]
  revert hK K;refine qW0 ?_;intro K hK
  repeat (simp only[e1];cbv)
  refine ndC hidx (ndC ha (ndN ?_));revert hK K;refine qW0 ?_;intro K hK;refine nC rfl (fun h5=>?_) (fun h5=>?_)
  ·have hyk:y=s:=qv5
   revert hK K;refine qW0 ?_;intro K hK;exact hR _ _ ⟨_,⟨fun _=>hyk ▸ List.mem_of_getElem? hy,fun _=>rfl⟩,rfl,rfl⟩
  ·have hyk:y≠s:=qv5
   revert hK K;refine qW0 ?_;intro K hK;rw[e];exact ⟨N - (i+1),by omega,i+1,by cbv,by omega,fun p z hp hz=>by
    by_cases hpi:p=i
    ·rw[hpi,hy] at hz;rw[<-Option.some.inj hz];exact hyk
    ·exact g2 p z (by omega) hz,by rw[hN]⟩
 ·have hge:i=N:=qw3
  revert hK K;refine qW0 ?_;intro K hK;refine hR _ _ ⟨_,⟨fun h=>by simp at h,fun h=>?_⟩,rfl,rfl⟩
  obtain ⟨p,hp⟩:=List.mem_iff_getElem?.1 h;exact absurd rfl (g2 p s (by have:=(List.getElem?_eq_some_iff.1 hp).1;omega) hp)
def invU2 (s:ByteArray) (l:List ByteArray) (N:Nat) (σ:AS):Prop:=
 ∃(k:Nat) (y:ByteArray) (els:List (List T)),σ=⟨vag 46 [(1,litS s),(5,⟨.one,[.ow (0,0) 1 els]⟩),(6,litI (Int.ofNat k))],[],1⟩/\els=strs (l.take k++y::l.drop k)/\k<=l.length/\(∀j x,k<=j->l[j]?=some x->ltB s x)/\N=k
theorem c_l12Put (l:List ByteArray) (els:List (List T)) (s:ByteArray) (he:els=strs l) (hl:l.length<=1099511627776) (ha:Asc l) :
  ACl Tryz.prog 160 [⟨.one,[.ow (0,0) 1 els]⟩,litS s] [] (fun res bx=>∃l' els',els'=strs l'/\Asc l'/\(∀t,t∈l'↔t∈l\/t=s)/\l'.length<=l.length+1/\res=⟨.one,[.ow (0,0) 1 els']⟩/\bx=[]):=by
 have hhas:=c_l8HasL l els s he hl;refine qF tyK Tryz.func160 46 [.tmp 4] ?_;unhygienic intros;obtain ⟨N,hN⟩:=qX l.length;have hln:len els=N:=lnO hO (by simp[he,hN])
 rw[<-hN] at hl;revert hK K;refine qW0 ?_;intro K hK;refine qG ?_;refine qD hP hhas ?_;rintro res bx ⟨b,hb,rfl,rfl⟩;refine qC ?_;obtain rfl | rfl:b=true\/b=false:=by cases b<;>simp
 ·revert hK K;refine qW0 ?_;intro K hK
  exact hR _ _ ⟨l,els,he,ha,fun t=>⟨.inl,fun h=>h.elim id fun e=>e ▸ hb.1 rfl⟩,by omega,rfl,rfl⟩
 ·have hns:s∉l:=fun h=>by simpa using hb.2 h
  obtain ⟨els1,hels1⟩:=qX (strs (l++[s]));have happ0:app [] els=els:=by cases hO;rfl
  have happ:app els [[T.lit (.string s)]]=els1:=by rw[hels1];exact app_strsU hO he s
  have ha1:all els 1:=alO hO (by rw[he];exact strs_all l)
  have ha2:all [[T.lit (.string s)]] 1:=alO hO (by simp)
  have hell:els.length=N:=by rw[he,strs_len,hN]
  have ho1:aOk 16 [] els:=aOk_of hO (by rw[hell];simp only[List.length_nil];omega) (by rw[hell];simp only[List.length_nil];omega)
  have ho2:aOk 16 els [[T.lit (.string s)]]:=aOk_of hO (by rw[hell];simp only[List.length_cons,List.length_nil];omega) (by rw[hell];simp only[List.length_cons,List.length_nil];omega)
  have hln1:len els1=N+1:=lnO hO (by simp[hels1,hN])
  have es:bin .sub .i64 (Int.ofNat (N+1)) 1=Int.ofNat N:=by cases hO;simp only[Ops.std,stdBin,Int.ofNat_eq_natCast];rw[i64_id (by omega)];omega
  obtain ⟨N1,hN1⟩:=qX (N+1);rw[<-hN1] at hln1 es;revert hK K;refine qW0 ?_;intro K hK;simp only[happ0,happ];refine ndC ha1 (ndC ho1 (ndC ha2 (ndC ho2 (ndN ?_))));revert hK K;refine qW0 ?_;intro K hK;simp only[hln1,es];revert hK K;refine qW0 ?_;intro K hK;refine qL 0 [1,5,6] kk0 (invU2 s l) ?_ ?_
  ·cbv
   exact ⟨_,N,s,els1,by cbv,by rw[hN,List.take_length,List.drop_length];exact hels1,by omega,fun j x h1 h2=>by have:=(List.getElem?_eq_some_iff.1 h2).1;omega,rfl⟩
  clear hb happ0 happ ha1 ha2 ho1 ho2 hln1 es hels1 els1;rintro m σ ⟨k,y,els2,rfl,hels2,g1,g2,rfl⟩;have hl2:els2.length=N+1:=by rw[hels2,strs_len,List.length_append,List.length_cons,List.length_take,List.length_drop];omega
  have hln2:len els2=N+1:=lnO hO hl2;have hall2:all els2 1:=alO hO (by rw[hels2];exact strs_all _)
  have hset:∀v,set els2 (nadd 0 (nat (Int.ofNat m))) [T.lit (.string v)]=strs (l.take m++v::l.drop m):=fun v=>by
   cases hO
   show els2.set (0+m) _=_
   rw[Nat.zero_add,hels2];simp only[strs,List.map_append,List.map_cons];rw[List.set_append_right _ _ (by simp only[List.length_map,List.length_take];omega),List.length_map,List.length_take,Nat.min_eq_left g1,Nat.sub_self,List.set_cons_zero]
  have hidxm:idx (Int.ofNat (nadd 0 (nat (Int.ofNat m)))) (len els2):=by rw[hln2];cases hO;show (0:Int)<=Int.ofNat (0+m)/\Int.ofNat (0+m) < Int.ofNat (N+1);simp only[Int.ofNat_eq_natCast];omega
  have hidxm':idx (Int.ofNat m) (len els2):=by rw[hln2];exact ixN hO (by omega)
  have hone:one els2 (nadd 0 (nat (Int.ofNat m))) 1:=by
   cases hO
   show 0+m < els2.length/\(els2.getD (0+m) []).length=1
   refine ⟨by omega,?_⟩
   rw[List.getD_eq_getElem?_getD,List.getElem?_eq_getElem (by omega)]
   exact hall2 _ (List.getElem_mem _)
  obtain ⟨fin,hfin⟩:=qX (strs (l.take m++s::l.drop m));have hsetf:=hset s;rw[<-hfin] at hsetf;have hend:(∀x,0 < m->l[m - 1]?=some x->¬ltB s x)->∃l' els',els'=strs l'/\Asc l'/\(∀t,t∈l'↔t∈l\/t=s)/\l'.length<=l.length+1/\(⟨.one,[.ow (0,0) 1 fin]⟩:AV)=⟨.one,[.ow (0,0) 1 els']⟩/\([]:List (Option (List A)))=[]:=fun h=>
   ⟨_,fin,hfin,Asc.put ha hns g2 h g1,fun t=>by rw[put_mem,Or.comm],by rw[List.length_append,List.length_cons,List.length_take,List.length_drop];omega,rfl,rfl⟩
  revert hK K;refine qW0 ?_;intro K hK;refine GFork.mk (fun h3=>?_) (fun h3=>?_)<;>cbv
  ·have hpos:0 < m:=qw3
   obtain ⟨p,hp⟩:=qX (m - 1);obtain ⟨x,hx⟩:∃x,l[p]?=some x:=⟨_,List.getElem?_eq_getElem (by omega)⟩
   have es:bin .sub .i64 (Int.ofNat m) 1=Int.ofNat p:=by rw[hp];cases hO;simp only[Ops.std,stdBin,Int.ofNat_eq_natCast];rw[i64_id (by omega)];omega
   have e1:get els2 (nat (Int.ofNat p))=[T.lit (.string x)]:=by
    cases hO
    show els2.getD p []=_
    rw[hels2,List.getD_eq_getElem?_getD];simp only[strs,List.map_append,List.map_cons];rw[List.getElem?_append_left (by simp[List.length_take];omega),List.getElem?_map,List.getElem?_take,if_pos (by omega),hx]
    rfl
   have e1':get els2 (nadd 0 (nat (Int.ofNat p)))=[T.lit (.string x)]:=by have h:=e1;cases hO;simp only[Ops.std,Nat.zero_add] at h |-;exact h
   have hidxp:idx (Int.ofNat p) (len els2):=by rw[hln2];exact ixN hO (by omega)
   have hidxp':idx (Int.ofNat (nadd 0 (nat (Int.ofNat p)))) (len els2):=by have h:=hidxp;cases hO;simp only[Ops.std,Nat.zero_add] at h |-;exact h
   have hsetx:=hset x;have hnext:l.take m++x::l.drop m=l.take p++x::l.drop p:=by
    have h1:l.take m=l.take p++[x]:=by
     have:=List.take_succ_eq_append_getElem (i:=p) (l:=l) (by omega)
     rw[show p+1=m by omega] at this
     rw[this]
     congr 2
     rw[List.getElem?_eq_getElem (by omega)] at hx
     exact Option.some.inj hx
    have h2:l.drop p=x::l.drop m:=by
     rw[List.drop_eq_getElem_cons (by omega),show p+1=m by omega]
     congr 1
     rw[List.getElem?_eq_getElem (by omega)] at hx
     exact Option.some.inj hx
    rw[h1,h2,List.append_assoc];rfl
   obtain ⟨nx,hnx⟩:=qX (strs (l.take m++x::l.drop m));rw[<-hnx] at hsetx;rw[hnext] at hnx;clear hset hnext h3;revert hK K;refine qW0 ?_;intro K hK;simp only[es]
   repeat (simp only[e1,e1'];cbv)
   refine ndC hidxp (ndC hidxp' (ndN ?_));revert hK K;refine qW0 ?_;intro K hK;have hcmp:scmp .gtr x s=true↔ltB s x:=by cases hO;exact gtr_iff
   refine nC rfl (fun h5=>?_) (fun h5=>?_)
   ·have hlt:=hcmp.1 h5
    clear h5 hcmp;revert hK K;refine qW0 ?_;intro K hK;simp only[es]
    repeat (simp only[e1,e1'];cbv)
    simp only[hsetx];refine ndC hidxp (ndC hidxp' (ndC hidxm' (ndC hone (ndN ?_))));revert hK K;refine qW0 ?_;intro K hK
    try simp only[es]
    revert hK K;refine qW0 ?_;intro K hK;exact ⟨p,by omega,p,x,nx,by cbv,hnx,by omega,fun j z h1 h2=>by
     by_cases hj:j=p
     ·rw[hj,hx] at h2;rw[<-Option.some.inj h2];exact hlt
     ·exact g2 j z (by omega) h2,rfl⟩
   ·have hlt:¬ltB s x:=fun h=>by rw[hcmp.2 h] at h5;simp at h5
    have hend:=hend fun z _ hz=>by rw[<-hp,hx] at hz;rw[<-Option.some.inj hz];exact hlt
    clear h5 hcmp;revert hK K;refine qW0 ?_;intro K hK;simp only[hsetf];refine ndC hidxm' (ndC hone (ndN ?_));revert hK K;refine qW0 ?_;intro K hK;exact hR _ _ hend
  ·have hpos:m=0:=qw3
   clear hset h3;have hend:=hend fun z h _=>by omega
   revert hK K;refine qW0 ?_;intro K hK;simp only[hsetf];refine ndC hidxm' (ndC hone (ndN ?_));revert hK K;refine qW0 ?_;intro K hK;exact hR _ _ hend
abbrev useB (vt tt ct pt:List (List T)) (fn line bad:Bool):Option (List A):=some [.ow (0,0) 1 vt,.ow (0,0) 1 tt,.ow (0,0) 4 ct,.ro true pt,.lit (.bool fn),.lit (.bool line),.lit (.bool bad)]
def Uses (ps V T:List ByteArray) (C:List Ex) (n:Nat) (vs ts:List ByteArray) (cs:List Ex) (vs' ts':List ByteArray) (cs':List Ex):Prop:=
 Asc vs'/\Asc ts'/\(∀s,s∈vs'↔s∈vs\/(s∈V/\s∉ps))/\(∀s,s∈ts'↔s∈ts\/s∈T)/\cs'=cs++C/\vs'.length<=vs.length+n/\ts'.length<=ts.length+n/\C.length<=n
theorem Uses.nil {ps vs ts:List ByteArray} {cs:List Ex} {n:Nat} (h1:Asc vs) (h2:Asc ts):Uses ps [] [] [] n vs ts cs vs ts cs:=⟨h1,h2,by simp,by simp,by simp,by omega,by omega,by simp⟩
theorem Uses.trans {ps V T V' T':List ByteArray} {C C':List Ex} {n n':Nat} {a1 a2 b1 b2 c1 c2:List ByteArray} {a3 b3 c3:List Ex} (h:Uses ps V T C n a1 a2 a3 b1 b2 b3) (h':Uses ps V' T' C' n' b1 b2 b3 c1 c2 c3) :
  Uses ps (V++V') (T++T') (C++C') (n+n') a1 a2 a3 c1 c2 c3:=by
 obtain ⟨g1,g2,g3,g4,g5,g6,g7,g8⟩:=h;obtain ⟨k1,k2,k3,k4,k5,k6,k7,k8⟩:=h';refine ⟨k1,k2,fun s=>?_,fun s=>?_,by rw[k5,g5,List.append_assoc],by omega,by omega,by rw[List.length_append];omega⟩
 ·rw[k3,g3,List.mem_append];grind
 ·rw[k4,g4,List.mem_append,or_assoc]
theorem c_l12Var (ps vs:List ByteArray) (pt vt tt ct:List (List T)) (fn line bad:Bool) (s:ByteArray) (hpt:pt=strs ps) (hpl:ps.length<=1073741824) (hvt:vt=strs vs) (hvl:vs.length<=1073741824) (ha:Asc vs) :
  ACl Tryz.prog 159 [⟨.one,[.ptr 0 0]⟩,litS s] [useB vt tt ct pt fn line bad] (fun res bx=>∃vs' vt',vt'=strs vs'/\Asc vs'/\(∀t,t∈vs'↔t∈vs\/(t=s/\s∉ps))/\vs'.length<=vs.length+1/\res=⟨.tup [],[]⟩/\bx=[useB vt' tt ct pt fn line bad]):=by
 have h1:=c_l8Has ps pt s hpt (by omega)
 have h2:=c_l12Put vs vt s hvt (by omega) ha
 refine qF tyK Tryz.func159 20 [] ?_;unhygienic intros;have hnt:bnot true=false:=by cases hO;rfl
 have hnf:bnot false=true:=by cases hO;rfl
 revert hK K;refine qW1s ?_;intro K hK;refine qG ?_;refine qD hP h1 ?_;rintro res bx ⟨b,hb,rfl,rfl⟩;refine qC ?_;cases b
 ·have hns:s∉ps:=fun h=>by simpa using hb.2 h
  revert hK K;refine qW1s ?_;intro K hK;simp only[hnf];revert hK K;refine qW1s ?_;intro K hK;refine GCall.by (nM []) ?_;refine qC ?_;refine qD hP h2 ?_;rintro res bx ⟨vs',vt',q1,q2,q3,q4,rfl,rfl⟩;refine qC ?_
  revert hK K;refine qW1s ?_;intro K hK;exact hR _ _ ⟨vs',vt',q1,q2,fun t=>by rw[q3];simp[hns],q4,rfl,rfl⟩
 ·have hns:s∈ps:=hb.1 rfl
  revert hK K;refine qW1s ?_;intro K hK;simp only[hnt];revert hK K;refine qW1s ?_;intro K hK;exact hR _ _ ⟨vs,vt,hvt,ha,fun t=>by simp[hns],by omega,rfl,rfl⟩
theorem or_sing {t s:ByteArray} {vs ps:List ByteArray}:(t∈vs\/t=s/\¬s∈ps)↔(t∈vs\/t∈[s]/\t∉ps):=by
 rw[List.mem_singleton]
 constructor
 ·rintro (h | ⟨rfl,h⟩)
  ·exact .inl h
  ·exact .inr ⟨rfl,h⟩
 ·rintro (h | ⟨rfl,h⟩)
  ·exact .inl h
  ·exact .inr ⟨rfl,h⟩
abbrev UseQ (f:FuncId) (av:AV) (VV TT:List ByteArray) (CC:List Ex) (n:Nat):Prop:=∀(ps vs ts:List ByteArray) (cs:List Ex) (pt vt tt ct:List (List T)) (fn line bad:Bool),pt=strs ps->ps.length<=1073741824->vt=strs vs->tt=strs ts->ct=cs.map Ex.t->Asc vs->Asc ts->
 vs.length+n<=1073741824->ts.length+n<=1073741824->cs.length+n<=1073741824->ACl Tryz.prog f [⟨.one,[.ptr 0 0]⟩,av] [useB vt tt ct pt fn line bad]
  (fun res bx=>∃vs' ts' cs' vt' tt' ct',vt'=strs vs'/\tt'=strs ts'/\ct'=cs'.map Ex.t/\Uses ps VV TT CC n vs ts cs vs' ts' cs'/\res=⟨.tup [],[]⟩/\bx=[useB vt' tt' ct' pt fn line bad])
theorem Ex.vss_app:∀a b,Ex.vss (a++b)=Ex.vss a++Ex.vss b/\Ex.tbs (a++b)=Ex.tbs a++Ex.tbs b/\Ex.cls (a++b)=Ex.cls a++Ex.cls b
 | [],b=>by simp[Ex.vss,Ex.tbs,Ex.cls]
 | e::a,b=>by
  obtain ⟨h1,h2,h3⟩:=Ex.vss_app a b;rw[List.cons_append,Ex.vss,Ex.vss,Ex.tbs,Ex.tbs,Ex.cls,Ex.cls,h1,h2,h3];simp
theorem take_one {α:Type} {l:List α} {i:Nat} {x:α} (hx:l[i]?=some x):l.take (i+1)=l.take i++[x]:=by
 obtain ⟨h1,h2⟩:=List.getElem?_eq_some_iff.1 hx;rw[<-h2];exact List.take_succ_eq_append_getElem h1
theorem app_set {O:Ops} (hO:O=Ops.std) {els:List (List T)} {z y:List T}:O.set (O.app els [z]) (O.nadd 0 (O.nat (Int.ofNat (O.len els)))) y=els++[y]:=by
 subst hO;simp[Ops.std]
theorem app_idx {O:Ops} (hO:O=Ops.std) {els:List (List T)} {z:List T}:O.idx (Int.ofNat (O.len els)) (O.len (O.app els [z])):=by
 refine ixN hO ?_;subst hO;simp[Ops.std]
theorem app_one {O:Ops} (hO:O=Ops.std) {els:List (List T)} {z:List T} {k:Nat} (h:∀e∈els,e.length=k) (hz:z.length=k):O.one (O.app els [z]) (O.nadd 0 (O.nat (Int.ofNat (O.len els)))) k:=by
 refine one_of (i:=els.length) hO ?_ ?_ ?_<;>subst hO
 ·simp[Ops.std]
 ·simp[Ops.std]
 ·intro e he
  rcases List.mem_append.1 he with he | he
  ·exact h e he
  ·obtain rfl:=List.mem_singleton.1 he;exact hz
def invU3 (cs0:List A) (ps vs ts:List ByteArray) (cs:List Ex) (pt:List (List T)) (fn line bad:Bool) (V0 T0:List ByteArray) (C0 l:List Ex) (N:Nat) (σ:AS):Prop:=
 ∃(i:Nat) (vs' ts':List ByteArray) (cs':List Ex) (vt tt ct:List (List T)),σ=⟨vag 53 [(0,⟨.one,[.ptr 0 0]⟩),(3,⟨.one,[.ptr 1 0]⟩),(4,litI (Int.ofNat i))],[useB vt tt ct pt fn line bad,some cs0],1⟩/\i<=l.length/\
  vt=strs vs'/\tt=strs ts'/\ct=cs'.map Ex.t/\Uses ps (V0++Ex.vss (l.take i)) (T0++Ex.tbs (l.take i)) (C0++Ex.cls (l.take i)) (1+Ex.partss (l.take i)) vs ts cs vs' ts' cs'/\N=l.length - i
theorem c_l12Expr_step (k n0:Int) (s:ByteArray) (l:List Ex) (hz:(Ex.mk k n0 s l).sz<=1048576) (ih:∀x∈l,UseQ 113 (agT x.t) x.vs x.tb x.cl x.parts) :
  UseQ 113 (agT (Ex.mk k n0 s l).t) (Ex.mk k n0 s l).vs (Ex.mk k n0 s l).tb (Ex.mk k n0 s l).cl (Ex.mk k n0 s l).parts:=by
 intro ps vs ts cs pt vt tt ct fn line bad hpt hpl' hvt htt hct ha1 ha2 hv ht hcl;obtain ⟨hsz,hll,hwl⟩:=sz_inv hz;have hpar:(Ex.mk k n0 s l).parts=1+Ex.partss l:=by rw[Ex.parts]
 rw[hpar] at hv ht hcl |-;obtain ⟨xl,hxl⟩:=qX (l.map Ex.t);have hself:(Ex.mk k n0 s l).t=[.lit (.int .i64 k),.lit (.int .i64 n0),.lit (.string s),.sl xl]:=by rw[Ex.t_mk,hxl]
 have h1:=c_l12Var ps vs pt vt tt ct fn line bad s hpt hpl' hvt (by omega) ha1
 have h2:=c_l12Put ts tt s htt (by omega) ha2
 rw[agT,hself];simp only[List.map,tA];refine qF tyK Tryz.func113 53 [] ?_;unhygienic intros;have hc:∀c:Int,cmp .eql k c=true↔k=c:=fun c=>by cases hO;simp only[Ops.std,sCm,beq_iff_eq]
 conv=>whnf
 clear hK K;apply cutRest (S:=fun u:List (List T)×List (List T)×List (List T)=>⟨vag 53 [(0,⟨.one,[.ptr 0 0]⟩),(3,⟨.one,[.ptr 1 0]⟩)],[useB u.1 u.2.1 u.2.2 pt fn line bad,some [.lit (.int .i64 k),.lit (.int .i64 n0),.lit (.string s),.ro true xl]],1⟩)
  (H:=fun u=>∃vs' ts' cs',u.1=strs vs'/\u.2.1=strs ts'/\u.2.2=cs'.map Ex.t/\Uses ps (if k=3 then [s] else []) (if k=4\/k=9 then [s] else []) (if k=11 then [.mk k n0 s l] else []) 1 vs ts cs vs' ts' cs')
 ·intro rest
  have K:=0;have hK:=True.intro;refine qU ?_
  repeat' first|(refine nWr (id:=9) (nb:=2) (keep:=fun t=>t == 0 || t == 3) (kk:=fun _ _=>none) (by simp at hC;simp[hC]) ?_;cbv;refine rest (_,_,_) ?_)|(revert hK K;refine qS1s ?_;intro K hK)|(refine GFork.mk (fun _=>qQ ?_) fun _=>qQ ?_)|(refine qg [0] ?_;refine qC ?_;refine qD hP h1 ?_;rintro res bx ⟨vs',vt',q1,q2,q3,q4,rfl,rfl⟩;refine qC ?_)|(refine GCall.by (nM []) ?_;refine qC ?_;refine qD hP h2 ?_;rintro res bx ⟨ts',tt',q1,q2,q3,q4,rfl,rfl⟩;refine qC ?_)
  case h1.refine_2.refine_2.refine_2.refine_1=>
   have hk:k=11:=(hc 11).1 (by assumption)
   have hce:∀e∈ct,e.length=4:=by rw[hct];simp[Ex.t_len]
   have hcn:ct.length=cs.length:=by rw[hct];simp
   refine ndC (alO hO (by simp)) (ndC (aOk_of hO (by rw[hcn];simp;omega) (by rw[hcn];simp;omega)) (ndN ?_))
   refine ndC (app_idx hO) (ndN ?_);refine ndC (app_one hO hce rfl) (ndN ?_);obtain ⟨ct2,hct2⟩:=qX ((cs++[Ex.mk k n0 s l]).map Ex.t);have eset:∀z,set (app ct [z]) (nadd 0 (nat (Int.ofNat (len ct)))) [T.lit (.int .i64 k),.lit (.int .i64 n0),.lit (.string s),.sl xl]=ct2:=fun z=>by
    rw[hct2,List.map_append,<-hct,List.map_singleton,hself];exact app_set hO
   rw[eset];refine hK _ ?_;clear hK K
   conv=>whnf
   refine nWr (id:=9) (nb:=2) (keep:=fun t=>t == 0 || t == 3) (kk:=fun _ _=>none) (by first|(simp at hC;simp[hC];done)|(simp[hC];done) | omega | trace_state) ?_
   try cbv
   refine rest (_,_,_) ⟨vs,ts,cs++[Ex.mk k n0 s l],hvt,htt,?_,?_⟩
   ·exact hct2
   ·rw[if_neg (by omega),if_neg (by omega),if_pos hk]
    exact ⟨ha1,ha2,by simp,by simp,rfl,by omega,by omega,Nat.le_refl 1⟩
  case h1.refine_1=>
   have hk:k=3:=(hc 3).1 (by assumption)
   refine ⟨vs',ts,cs,q1,htt,hct,?_⟩;rw[if_pos hk,if_neg (by omega),if_neg (by omega)]
   exact ⟨q2,ha2,fun t=>by rw[q3];exact or_sing,by simp,by simp,q4,by omega,by simp⟩
  case h1.refine_2.refine_1=>
   have hk:k=4:=(hc 4).1 (by assumption)
   refine ⟨vs,ts',cs,hvt,q1,hct,?_⟩;rw[if_neg (by omega),if_pos (.inl hk),if_neg (by omega)]
   exact ⟨ha1,q2,by simp,fun t=>by rw[q3];simp,by simp,by omega,q4,by simp⟩
  case h1.refine_2.refine_2.refine_1=>
   have hk:k=9:=(hc 9).1 (by assumption)
   refine ⟨vs,ts',cs,hvt,q1,hct,?_⟩;rw[if_neg (by omega),if_pos (.inr hk),if_neg (by omega)]
   exact ⟨ha1,q2,by simp,fun t=>by rw[q3];simp,by simp,by omega,q4,by simp⟩
  case h1.refine_2.refine_2.refine_2.refine_2=>
   have n3:k≠3:=fun h=>by have:=(hc 3).2 h;simp_all
   have n4:k≠4:=fun h=>by have:=(hc 4).2 h;simp_all
   have n9:k≠9:=fun h=>by have:=(hc 9).2 h;simp_all
   have n11:k≠11:=fun h=>by have:=(hc 11).2 h;simp_all
   refine ⟨vs,ts,cs,hvt,htt,hct,?_⟩;rw[if_neg n3,if_neg (by omega),if_neg n11]
   exact ⟨ha1,ha2,by simp,by simp,by simp,by omega,by omega,by simp⟩
 ·rintro ⟨vt1,tt1,ct1⟩ ⟨vs1,ts1,cs1,e1,e2,e3,hU⟩
  have K:=0;have hK:=True.intro;simp only at e1 e2 e3;obtain ⟨V0,hV0⟩:=qX ((if k=3 then [s] else []))
  obtain ⟨T0,hT0⟩:=qX ((if k=4\/k=9 then [s] else []))
  obtain ⟨C0,hC0⟩:=qX ((if k=11 then [Ex.mk k n0 s l] else []))
  rw[Ex.vs,Ex.tb,Ex.cl,<-hV0,<-hT0,<-hC0] at hR;rw[<-hV0,<-hT0,<-hC0] at hU;obtain ⟨cs0,hcs0⟩:=qX ([.lit (.int .i64 k),.lit (.int .i64 n0),.lit (.string s),.ro true xl]:List A);obtain ⟨N,hN⟩:=qX l.length;have lx:len xl=N:=lnO hO (by simp[hxl,hN])
  have hal:all xl 4:=alO hO (by rw[hxl];simp[Ex.t_len])
  rw[<-hN] at hll;clear h1 h2 hself hc;revert hK K;refine qW1s ?_;intro K hK;refine qL 2 [0,3,4] kk0 (invU3 cs0 ps vs ts cs pt fn line bad V0 T0 C0 l) ?_ ?_
  ·cbv
   exact ⟨_,0,vs1,ts1,cs1,vt1,tt1,ct1,by rw[hcs0];cbv,by simp,e1,e2,e3,by simpa [Ex.vss,Ex.tbs,Ex.cls,Ex.partss] using hU,rfl⟩
  rintro m σ ⟨i,vs2,ts2,cs2,vt2,tt2,ct2,rfl,g1,e4,e5,e6,hU2,rfl⟩;rw[<-hN] at g1 |-;clear hU e1 e2 e3;rw[hcs0];revert hK K;refine qW1s ?_;intro K hK;simp only[lx];refine nC rfl (fun h3=>?_) (fun h3=>?_)
  ·have hlt:i < N:=qv3
   have e:bin .add .i64 (Int.ofNat i) 1=_:=iSc hO (by omega)
   have hidx:idx (Int.ofNat i) (len xl):=lx ▸ ixN hO hlt;obtain ⟨x,hxm,hx,htk,e1⟩:=mpA hO hxl (hN ▸ hlt);have hpp:Ex.partss (l.take (i+1))=Ex.partss (l.take i)+x.parts:=by rw[htk,Ex.partss_app,Ex.partss_one]
   have hpl:=Ex.partss_take l (i+1);obtain ⟨x1,x2,x3⟩:=Ex.vss_app (l.take i) [x];rw[<-htk] at x1 x2 x3;simp only[Ex.vss,Ex.tbs,Ex.cls,List.append_nil] at x1 x2 x3;obtain ⟨u1,u2,u3,u4,u5,u6,u7,u8⟩:=id hU2;have hcl2:cs2.length+x.parts<=1073741824:=by rw[u5,List.length_append];omega
   have hcall:=ih x hxm ps vs2 ts2 cs2 pt vt2 tt2 ct2 fn line bad hpt hpl' e4 e5 e6 u1 u2 (by omega) (by omega) hcl2
   generalize hxp:x.parts=xp at *;generalize hxv:x.vs=xv at *;generalize hxb:x.tb=xb at *;generalize hxc:x.cl=xc at *;obtain ⟨k',n',s',l'⟩:=x;simp only[agT,Ex.t_mk,List.map,tA] at hcall e1;generalize l'.map Ex.t=xl' at hcall e1;revert hK K;refine qW1s ?_;intro K hK
   repeat (simp only[e1];cbv)
   refine ndC hidx (ndC hal (ndN ?_));revert hK K;refine qW1s ?_;intro K hK;refine qg [0] ?_;refine qC ?_;refine qD hP hcall ?_;rintro res bx ⟨vs3,ts3,cs3,vt3,tt3,ct3,q1,q2,q3,hU3,rfl,rfl⟩;refine qC ?_;revert hK K;refine qW1s ?_;intro K hK;rw[e];have hU4:=hU2.trans hU3;exact ⟨N - (i+1),by omega,i+1,vs3,ts3,cs3,vt3,tt3,ct3,by cbv,by omega,q1,q2,q3,by
    rw[x1,x2,x3,hpp,<-Nat.add_assoc,<-List.append_assoc,<-List.append_assoc,<-List.append_assoc];exact hU4,by rw[hN]⟩
  ·have hge:i=N:=qw3
   revert hK K;refine qW1s ?_;intro K hK;refine FinAt.mk ?_
   try cbv
   subst hge;rw[hN,List.take_length] at hU2;refine hR _ _ ⟨vs2,ts2,cs2,vt2,tt2,ct2,e4,e5,e6,hU2,rfl,?_⟩
   rfl
theorem c_l12Expr (e:Ex) (hz:e.sz<=1048576):UseQ 113 (agT e.t) e.vs e.tb e.cl e.parts:=by
 obtain ⟨m,hm⟩:∃m,SizeOf.sizeOf e=m:=⟨_,rfl⟩
 induction m using Nat.strongRecOn generalizing e with
 | ind m ih=>
  subst hm;obtain ⟨k,n0,s,l⟩:=e;exact c_l12Expr_step k n0 s l hz fun x hx=>ih (SizeOf.sizeOf x) (by have:=List.sizeOf_lt_of_mem hx;simp;omega) x ((sz_inv hz).2.2 x hx) rfl
def BadQ (fn line bad:Bool) (ks:List Int) (bad':Bool):Prop:=bad'=true↔bad=true\/(line=false/\(8:Int)∈ks)\/(fn=false/\(10:Int)∈ks)
theorem BadQ.nil {fn line bad:Bool}:BadQ fn line bad [] bad:=by simp[BadQ]
theorem BadQ.trans {fn line b0 b1 b2:Bool} {k1 k2:List Int} (h:BadQ fn line b0 k1 b1) (h':BadQ fn line b1 k2 b2):BadQ fn line b0 (k1++k2) b2:=by
 unfold BadQ at *;rw[h',h,List.mem_append,List.mem_append]
 constructor
 ·rintro ((h | ⟨h,g⟩ | ⟨h,g⟩) | ⟨h,g⟩ | ⟨h,g⟩)
  ·exact .inl h
  ·exact .inr (.inl ⟨h,.inl g⟩)
  ·exact .inr (.inr ⟨h,.inl g⟩)
  ·exact .inr (.inl ⟨h,.inr g⟩)
  ·exact .inr (.inr ⟨h,.inr g⟩)
 ·rintro (h | ⟨h,g | g⟩ | ⟨h,g | g⟩)
  ·exact .inl (.inl h)
  ·exact .inl (.inr (.inl ⟨h,g⟩))
  ·exact .inr (.inl ⟨h,g⟩)
  ·exact .inl (.inr (.inr ⟨h,g⟩))
  ·exact .inr (.inr ⟨h,g⟩)
theorem BadQ.other {fn line bad:Bool} {k:Int} (h1:k≠8) (h2:k≠10):BadQ fn line bad [k] bad:=by
 unfold BadQ;rw[List.mem_singleton,List.mem_singleton];exact ⟨.inl,fun h=>h.elim id fun h=>h.elim (fun h=>absurd h.2.symm h1) fun h=>absurd h.2.symm h2⟩
theorem BadQ.next {fn line bad:Bool} {k:Int} (h1:k=8) {b:Bool} (hb:b=(bad || !line)):BadQ fn line bad [k] b:=by
 subst h1;subst hb;cases bad<;>cases line<;>simp[BadQ]
theorem BadQ.retn {fn line bad:Bool} {k:Int} (h1:k=10) {b:Bool} (hb:b=(bad || !fn)):BadQ fn line bad [k] b:=by
 subst h1;subst hb;cases bad<;>cases fn<;>simp[BadQ]
theorem use_n {ps vs ts:List ByteArray} {cs:List Ex} (h1:Asc vs) (h2:Asc ts):Uses ps [] ([]++[]) [] 2 vs ts cs vs ts cs:=Uses.nil h1 h2
theorem use_v {ps vs ts vs':List ByteArray} {cs:List Ex} {s:ByteArray} (h2:Asc ts) (q2:Asc vs') (q3:∀t,t∈vs'↔t∈vs\/t=s/\¬s∈ps) (q4:vs'.length<=vs.length+1):Uses ps [s] ([]++[]) [] 2 vs ts cs vs' ts cs:=
 ⟨q2,h2,fun t=>by rw[q3];exact or_sing,by simp,by simp,by omega,by omega,by simp⟩
theorem use_t {ps vs ts ts':List ByteArray} {cs:List Ex} {s:ByteArray} (h1:Asc vs) (q2:Asc ts') (q3:∀t,t∈ts'↔t∈ts\/t=s) (q4:ts'.length<=ts.length+1):Uses ps [] ([s]++[]) [] 2 vs ts cs vs ts' cs:=
 ⟨h1,q2,by simp,fun t=>by rw[q3];simp,by simp,by omega,by omega,by simp⟩
theorem use_vt {ps vs ts vs' ts':List ByteArray} {cs:List Ex} {s t:ByteArray} (q2:Asc vs') (q3:∀t,t∈vs'↔t∈vs\/t=s/\¬s∈ps) (q4:vs'.length<=vs.length+1) (r2:Asc ts') (r3:∀x,x∈ts'↔x∈ts\/x=t) (r4:ts'.length<=ts.length+1):Uses ps [s] ([]++[t]) [] 2 vs ts cs vs' ts' cs:=
 ⟨q2,r2,fun t=>by rw[q3];exact or_sing,fun t=>by rw[r3];simp,by simp,by omega,by omega,by simp⟩
mutual
def Sm.us:Sm->Nat
 | .mk _ _ _ x a b=>2+Ex.partss x+Sm.uss a+Sm.uss b
def Sm.uss:List Sm->Nat
 | []=>0
 | e::l=>Sm.us e+Sm.uss l
end
theorem Sm.vss_app:∀a b,Sm.vss (a++b)=Sm.vss a++Sm.vss b/\Sm.tbs (a++b)=Sm.tbs a++Sm.tbs b/\Sm.cls (a++b)=Sm.cls a++Sm.cls b/\Sm.kss (a++b)=Sm.kss a++Sm.kss b/\Sm.uss (a++b)=Sm.uss a+Sm.uss b
 | [],b=>by simp[Sm.vss,Sm.tbs,Sm.cls,Sm.kss,Sm.uss]
 | e::a,b=>by
  obtain ⟨h1,h2,h3,h4,h5⟩:=Sm.vss_app a b;rw[List.cons_append,Sm.vss,Sm.vss,Sm.tbs,Sm.tbs,Sm.cls,Sm.cls,Sm.kss,Sm.kss,Sm.uss,Sm.uss,h1,h2,h3,h4,h5];simp[Nat.add_assoc]
theorem Sm.uss_take (l:List Sm) (i:Nat):Sm.uss (l.take i)<=Sm.uss l:=by
 have:=(Sm.vss_app (l.take i) (l.drop i)).2.2.2.2;rw[List.take_append_drop] at this;omega
abbrev UseS (f:FuncId) (av:AV) (VV TT:List ByteArray) (CC:List Ex) (KS:List Int) (n:Nat):Prop:=∀(ps vs ts:List ByteArray) (cs:List Ex) (pt vt tt ct:List (List T)) (fn line bad:Bool),pt=strs ps->ps.length<=1073741824->vt=strs vs->tt=strs ts->ct=cs.map Ex.t->Asc vs->Asc ts->
 vs.length+n<=1073741824->ts.length+n<=1073741824->cs.length+n<=1073741824->ACl Tryz.prog f [⟨.one,[.ptr 0 0]⟩,av] [useB vt tt ct pt fn line bad]
  (fun res bx=>∃vs' ts' cs' vt' tt' ct' bad',vt'=strs vs'/\tt'=strs ts'/\ct'=cs'.map Ex.t/\Uses ps VV TT CC n vs ts cs vs' ts' cs'/\BadQ fn line bad KS bad'/\res=⟨.tup [],[]⟩/\bx=[useB vt' tt' ct' pt fn line bad'])
def invU4 (ps vs ts:List ByteArray) (cs:List Ex) (pt:List (List T)) (fn line bad:Bool) (al:List (List T)) (l:List Sm) (N:Nat) (σ:AS):Prop:=
 ∃(i:Nat) (vs' ts':List ByteArray) (cs':List Ex) (vt tt ct:List (List T)) (bad':Bool),σ=⟨vag 17 [(0,⟨.one,[.ptr 0 0]⟩),(1,⟨.one,[.ro true al]⟩),(4,litI (Int.ofNat i))],[useB vt tt ct pt fn line bad'],1⟩/\i<=l.length/\
  vt=strs vs'/\tt=strs ts'/\ct=cs'.map Ex.t/\Uses ps (Sm.vss (l.take i)) (Sm.tbs (l.take i)) (Sm.cls (l.take i)) (Sm.uss (l.take i)) vs ts cs vs' ts' cs'/\BadQ fn line bad (Sm.kss (l.take i)) bad'/\N=l.length - i
theorem c_l12Block_of (l:List Sm) (hl:l.length<=1048576) (al:List (List T)) (hal:al=l.map Sm.t) (ih:∀x∈l,UseS 158 (agT x.t) x.vs x.tb x.cl x.ks x.us):UseS 112 ⟨.one,[.ro true al]⟩ (Sm.vss l) (Sm.tbs l) (Sm.cls l) (Sm.kss l) (Sm.uss l):=by
 intro ps vs ts cs pt vt tt ct fn line bad hpt hpl' hvt htt hct ha1 ha2 hv ht hcl;refine qF tyK Tryz.func112 17 [] ?_;unhygienic intros;obtain ⟨N,hN⟩:=qX l.length;have lx:len al=N:=lnO hO (by simp[hal,hN])
 have hall:all al 6:=alO hO (by rw[hal];simp[Sm.t_len])
 rw[<-hN] at hl;revert hK K;refine qW1 ?_;intro K hK;refine qL 1 [0,1,4] kk0 (invU4 ps vs ts cs pt fn line bad al l) ?_ ?_
 ·cbv
  exact ⟨_,0,vs,ts,cs,vt,tt,ct,bad,by cbv,by simp,hvt,htt,hct,by simpa [Sm.vss,Sm.tbs,Sm.cls,Sm.uss] using Uses.nil ha1 ha2,by simpa [Sm.kss] using BadQ.nil,rfl⟩
 rintro m σ ⟨i,vs2,ts2,cs2,vt2,tt2,ct2,bad2,rfl,g1,e4,e5,e6,hU2,hB2,rfl⟩;rw[<-hN] at g1 |-;revert hK K;refine qW1 ?_;intro K hK;simp only[lx];refine nC rfl (fun h3=>?_) (fun h3=>?_)
 ·have hlt:i < N:=qv3
  have e:bin .add .i64 (Int.ofNat i) 1=_:=iSc hO (by omega)
  have hidx:idx (Int.ofNat i) (len al):=lx ▸ ixN hO hlt;obtain ⟨x,hxm,hx,htk,e1⟩:=mpA hO hal (hN ▸ hlt);obtain ⟨x1,x2,x3,x4,x5⟩:=Sm.vss_app (l.take i) [x];rw[<-htk] at x1 x2 x3 x4 x5;simp only[Sm.vss,Sm.tbs,Sm.cls,Sm.kss,Sm.uss,List.append_nil,Nat.add_zero] at x1 x2 x3 x4 x5;have hpl:=Sm.uss_take l (i+1);obtain ⟨u1,u2,u3,u4,u5,u6,u7,u8⟩:=id hU2;have hcl2:cs2.length+x.us<=1073741824:=by rw[u5,List.length_append];omega
  have hcall:=ih x hxm ps vs2 ts2 cs2 pt vt2 tt2 ct2 fn line bad2 hpt hpl' e4 e5 e6 u1 u2 (by omega) (by omega) hcl2
  generalize x.us=xp at *;generalize x.vs=xv at *;generalize x.tb=xb at *;generalize x.cl=xc at *;generalize x.ks=xk at *;obtain ⟨k',s',t',x',a',b'⟩:=x;simp only[Sm.t_mk,List.map,tA] at hcall e1;generalize x'.map Ex.t=xl' at hcall e1;generalize a'.map Sm.t=al' at hcall e1;generalize b'.map Sm.t=bl' at hcall e1;revert hK K;refine qW1 ?_;intro K hK
  repeat (simp only[e1];cbv)
  refine ndC hidx (ndC hall (ndN ?_));revert hK K;refine qW1 ?_;intro K hK;refine qg [0] ?_;refine qC ?_;refine qD hP hcall ?_;rintro res bx ⟨vs3,ts3,cs3,vt3,tt3,ct3,bad3,q1,q2,q3,hU3,hB3,rfl,rfl⟩;refine qC ?_;revert hK K;refine qW1 ?_;intro K hK;rw[e];have hU4:=hU2.trans hU3;have hB4:=hB2.trans hB3;exact ⟨N - (i+1),by omega,i+1,vs3,ts3,cs3,vt3,tt3,ct3,bad3,by cbv,by omega,q1,q2,q3,by rw[x1,x2,x3,x5];exact hU4,by rw[x4];exact hB4,by rw[hN]⟩
 ·have hge:i=N:=qw3
  revert hK K;refine qW1 ?_;intro K hK;refine FinAt.mk ?_
  try cbv
  subst hge;rw[hN,List.take_length] at hU2 hB2;exact hR _ _ ⟨vs2,ts2,cs2,vt2,tt2,ct2,bad2,e4,e5,e6,hU2,hB2,rfl,rfl⟩
def invU5 (cells:List A) (ps vs ts:List ByteArray) (cs:List Ex) (pt:List (List T)) (fn line bad1:Bool) (V0 T0:List ByteArray) (l:List Ex) (N:Nat) (σ:AS):Prop:=
 ∃(i:Nat) (vs' ts':List ByteArray) (cs':List Ex) (vt tt ct:List (List T)),σ=⟨vag 96 [(0,⟨.one,[.ptr 0 0]⟩),(3,⟨.one,[.ptr 1 0]⟩),(4,litI (Int.ofNat i))],[useB vt tt ct pt fn line bad1,some cells],1⟩/\i<=l.length/\
  vt=strs vs'/\tt=strs ts'/\ct=cs'.map Ex.t/\Uses ps (V0++Ex.vss (l.take i)) (T0++Ex.tbs (l.take i)) (Ex.cls (l.take i)) (2+Ex.partss (l.take i)) vs ts cs vs' ts' cs'/\N=l.length - i
theorem c_l12Stmt_step (k:Int) (s t:ByteArray) (x:List Ex) (a b:List Sm) (hz:(Sm.mk k s t x a b).sz<=1048576) (hA:∀al,al=a.map Sm.t->UseS 112 ⟨.one,[.ro true al]⟩ (Sm.vss a) (Sm.tbs a) (Sm.cls a) (Sm.kss a) (Sm.uss a))
  (hB:∀bl,bl=b.map Sm.t->UseS 112 ⟨.one,[.ro true bl]⟩ (Sm.vss b) (Sm.tbs b) (Sm.cls b) (Sm.kss b) (Sm.uss b)):UseS 158 (agT (Sm.mk k s t x a b).t) (Sm.mk k s t x a b).vs (Sm.mk k s t x a b).tb (Sm.mk k s t x a b).cl (Sm.mk k s t x a b).ks (Sm.mk k s t x a b).us:=by
 intro ps vs ts cs pt vt tt ct fn line bad hpt hpl' hvt htt hct ha1 ha2 hv ht hcl;have hus:(Sm.mk k s t x a b).us=2+Ex.partss x+Sm.uss a+Sm.uss b:=by rw[Sm.us]
 rw[hus] at hv ht hcl |-;obtain ⟨_,_,hxl',hxe,_,_,_⟩:=ssz_inv hz;have ih:=fun e he=>c_l12Expr e (hxe e he);rw[sm_agT];obtain ⟨xl,hxl⟩:=qX (x.map Ex.t);obtain ⟨al,hal⟩:=qX (a.map Sm.t);obtain ⟨bl,hbl⟩:=qX (b.map Sm.t);rw[<-hxl,<-hal,<-hbl];replace hA:=hA al hal;replace hB:=hB bl hbl;have h1:=c_l12Var ps vs pt vt tt ct fn line bad s hpt hpl' hvt (by omega) ha1
 have h2:=c_l12Put ts tt s htt (by omega) ha2
 have h3:=c_l12Put ts tt t htt (by omega) ha2
 refine qF tyK Tryz.func158 96 [] ?_;unhygienic intros;have hc:∀c:Int,cmp .eql k c=true↔k=c:=fun c=>by cases hO;simp only[Ops.std,sCm,beq_iff_eq]
 have hbn:∀c:Bool,bnot c=!c:=fun c=>by cases hO;rfl
 obtain ⟨cells,hcells⟩:=qX ([.lit (.int .i64 k),.lit (.string s),.lit (.string t),.ro true xl,.ro true al,.ro true bl]:List A)
 conv=>whnf
 clear hK K;apply cutRest (S:=fun u:List (List T)×List (List T)×Bool=>⟨vag 96 [(0,⟨.one,[.ptr 0 0]⟩),(3,⟨.one,[.ptr 1 0]⟩)],[useB u.1 u.2.1 ct pt fn line u.2.2,some [.lit (.int .i64 k),.lit (.string s),.lit (.string t),.ro true xl,.ro true al,.ro true bl]],1⟩)
  (H:=fun u=>∃vs' ts',u.1=strs vs'/\u.2.1=strs ts'/\Uses ps (if k=2\/k=7 then [s] else []) ((if k=3\/k=11 then [s] else [])++(if k=7 then [t] else [])) [] 2 vs ts cs vs' ts' cs/\BadQ fn line bad [k] u.2.2)
 ·intro rest
  have K:=0;have hK:=True.intro;refine qU ?_
  repeat' first|(refine nWr (id:=14) (nb:=2) (keep:=fun t=>t == 0 || t == 3) (kk:=fun _ _=>none) (by simp at hC;simp[hC]) ?_;cbv;refine rest (_,_,_) ?_)|(revert hK K;refine qS1 ?_;intro K hK)|(refine GFork.mk (fun _=>qQ ?_) fun _=>qQ ?_)|(refine qg [0] ?_;refine qC ?_;refine qD hP h1 ?_;rintro res bx ⟨vs',vt',q1,q2,q3,q4,rfl,rfl⟩;refine qC ?_)|(refine GCall.by (nM []) ?_;refine qC ?_;refine qD hP h2 ?_;rintro res bx ⟨ts',tt',r1,r2,r3,r4,rfl,rfl⟩;refine qC ?_)|(refine GCall.by (nM []) ?_;refine qC ?_;refine qD hP h3 ?_;rintro res bx ⟨ts',tt',r1,r2,r3,r4,rfl,rfl⟩;refine qC ?_)
  case h1.refine_1=>
   have hk:k=2:=(hc 2).1 (by assumption)
   refine ⟨vs',ts,q1,htt,?_,BadQ.other (by omega) (by omega)⟩
   rw[if_pos (.inl hk),if_neg (by omega),if_neg (by omega)]
   exact use_v ha2 q2 q3 q4
  case h1.refine_2.refine_1=>
   have hk:k=3:=(hc 3).1 (by assumption)
   refine ⟨vs,ts',hvt,r1,?_,BadQ.other (by omega) (by omega)⟩
   rw[if_neg (by omega),if_pos (.inl hk),if_neg (by omega)]
   exact use_t ha1 r2 r3 r4
  case h1.refine_2.refine_2.refine_1=>
   have hk:k=11:=(hc 11).1 (by assumption)
   refine ⟨vs,ts',hvt,r1,?_,BadQ.other (by omega) (by omega)⟩
   rw[if_neg (by omega),if_pos (.inr hk),if_neg (by omega)]
   exact use_t ha1 r2 r3 r4
  case h1.refine_2.refine_2.refine_2.refine_1=>
   have hk:k=7:=(hc 7).1 (by assumption)
   refine ⟨vs',ts',q1,r1,?_,BadQ.other (by omega) (by omega)⟩
   rw[if_pos (.inr hk),if_neg (by omega),if_pos hk]
   exact use_vt q2 q3 q4 r2 r3 r4
  case h1.refine_2.refine_2.refine_2.refine_2.refine_1.refine_1=>
   have hk:k=8:=(hc 8).1 (by assumption)
   refine ⟨vs,ts,hvt,htt,?_,BadQ.next hk (by simp_all)⟩
   rw[if_neg (by omega),if_neg (by omega),if_neg (by omega)]
   exact use_n ha1 ha2
  case h1.refine_2.refine_2.refine_2.refine_2.refine_1.refine_2=>
   have hk:k=8:=(hc 8).1 (by assumption)
   have hb:bad=false:=by assumption
   refine ⟨vs,ts,hvt,htt,?_,BadQ.next hk (by dsimp only;rw[hbn,hb,Bool.false_or])⟩
   rw[if_neg (by omega),if_neg (by omega),if_neg (by omega)]
   exact use_n ha1 ha2
  case h1.refine_2.refine_2.refine_2.refine_2.refine_2.refine_1.refine_1=>
   have hk:k=10:=(hc 10).1 (by assumption)
   refine ⟨vs,ts,hvt,htt,?_,BadQ.retn hk (by simp_all)⟩
   rw[if_neg (by omega),if_neg (by omega),if_neg (by omega)]
   exact use_n ha1 ha2
  case h1.refine_2.refine_2.refine_2.refine_2.refine_2.refine_1.refine_2=>
   have hk:k=10:=(hc 10).1 (by assumption)
   have hb:bad=false:=by assumption
   refine ⟨vs,ts,hvt,htt,?_,BadQ.retn hk (by dsimp only;rw[hbn,hb,Bool.false_or])⟩
   rw[if_neg (by omega),if_neg (by omega),if_neg (by omega)]
   exact use_n ha1 ha2
  case h1.refine_2.refine_2.refine_2.refine_2.refine_2.refine_2=>
   have n2:k≠2:=fun h=>by have:=(hc 2).2 h;simp_all
   have n3:k≠3:=fun h=>by have:=(hc 3).2 h;simp_all
   have n7:k≠7:=fun h=>by have:=(hc 7).2 h;simp_all
   have n8:k≠8:=fun h=>by have:=(hc 8).2 h;simp_all
   have n10:k≠10:=fun h=>by have:=(hc 10).2 h;simp_all
   have n11:k≠11:=fun h=>by have:=(hc 11).2 h;simp_all
   refine ⟨vs,ts,hvt,htt,?_,BadQ.other n8 n10⟩;rw[if_neg (by omega),if_neg (by omega),if_neg (by omega)]
   exact use_n ha1 ha2
 ·rintro ⟨vt1,tt1,bad1⟩ ⟨vs1,ts1,e1,e2,hU,hBad⟩
  have K:=0;have hK:=True.intro;simp only at e1 e2 hBad;have hks:(Sm.mk k s t x a b).ks=[k]++(Sm.kss a++Sm.kss b):=by rw[Sm.ks];rfl
  obtain ⟨V0,hV0⟩:=qX ((if k=2\/k=7 then [s] else []))
  obtain ⟨T0,hT0⟩:=qX ((if k=3\/k=11 then [s] else [])++(if k=7 then [t] else []))
  rw[Sm.vs,Sm.tb,Sm.cl,hks,<-hV0,<-hT0] at hR;rw[<-hV0,<-hT0] at hU;obtain ⟨N,hN⟩:=qX x.length;have lx:len xl=N:=lnO hO (by simp[hxl,hN])
  have hall:all xl 4:=alO hO (by rw[hxl];simp[Ex.t_len])
  rw[<-hN] at hxl';clear h1 h2 h3 hc hks;revert hK K;refine qW1 ?_;intro K hK;refine qL 2 [0,3,4] kk0 (invU5 cells ps vs ts cs pt fn line bad1 V0 T0 x) ?_ ?_
  ·cbv
   exact ⟨_,0,vs1,ts1,cs,vt1,tt1,ct,by rw[hcells];cbv,by simp,e1,e2,hct,by simpa [Ex.vss,Ex.tbs,Ex.cls,Ex.partss] using hU,rfl⟩
  rintro m σ ⟨i,vs2,ts2,cs2,vt2,tt2,ct2,rfl,g1,e4,e5,e6,hU2,rfl⟩;rw[<-hN] at g1 |-;clear hU e1 e2;rw[hcells];revert hK K;refine qW1 ?_;intro K hK;simp only[lx];refine nC rfl (fun h3=>?_) (fun h3=>?_)
  ·have hlt:i < N:=qv3
   have e:bin .add .i64 (Int.ofNat i) 1=_:=iSc hO (by omega)
   have hidx:idx (Int.ofNat i) (len xl):=lx ▸ ixN hO hlt;obtain ⟨z,hxm,hx,htk,e1⟩:=mpA hO hxl (hN ▸ hlt);have hpp:Ex.partss (x.take (i+1))=Ex.partss (x.take i)+z.parts:=by rw[htk,Ex.partss_app,Ex.partss_one]
   have hpl:=Ex.partss_take x (i+1);obtain ⟨x1,x2,x3⟩:=Ex.vss_app (x.take i) [z];rw[<-htk] at x1 x2 x3;simp only[Ex.vss,Ex.tbs,Ex.cls,List.append_nil] at x1 x2 x3;obtain ⟨u1,u2,u3,u4,u5,u6,u7,u8⟩:=id hU2;have hcl2:cs2.length+z.parts<=1073741824:=by rw[u5,List.length_append];omega
   have hcall:=ih z hxm ps vs2 ts2 cs2 pt vt2 tt2 ct2 fn line bad1 hpt hpl' e4 e5 e6 u1 u2 (by omega) (by omega) hcl2
   generalize hxp:z.parts=xp at *;generalize hxv:z.vs=xv at *;generalize hxb:z.tb=xb at *;generalize hxc:z.cl=xc at *;obtain ⟨k',n',s',l'⟩:=z;simp only[agT,Ex.t_mk,List.map,tA] at hcall e1;generalize l'.map Ex.t=xl' at hcall e1;revert hK K;refine qW1 ?_;intro K hK
   repeat (simp only[e1];cbv)
   refine ndC hidx (ndC hall (ndN ?_));revert hK K;refine qW1 ?_;intro K hK;refine qg [0] ?_;refine qC ?_;refine qD hP hcall ?_;rintro res bx ⟨vs3,ts3,cs3,vt3,tt3,ct3,q1,q2,q3,hU3,rfl,rfl⟩;refine qC ?_;revert hK K;refine qW1 ?_;intro K hK;rw[e];have hU4:=hU2.trans hU3;exact ⟨N - (i+1),by omega,i+1,vs3,ts3,cs3,vt3,tt3,ct3,by (try rw[hcells]);cbv,by omega,q1,q2,q3,by
    rw[x1,x2,x3,hpp,<-Nat.add_assoc,<-List.append_assoc,<-List.append_assoc];exact hU4,by rw[hN]⟩
  ·have hge:i=N:=qw3
   subst hge;rw[hN,List.take_length] at hU2;clear h3 g1 lx hall;obtain ⟨u1,u2,u3,u4,u5,u6,u7,u8⟩:=id hU2;have hcl2:cs2.length+Sm.uss a<=1073741824:=by rw[u5,List.length_append];omega
   have hcall:=hA ps vs2 ts2 cs2 pt vt2 tt2 ct2 fn line bad1 hpt hpl' e4 e5 e6 u1 u2 (by omega) (by omega) hcl2
   revert hK K;refine qW1 ?_;intro K hK;refine qg [0] ?_;refine qC ?_;refine qD hP hcall ?_;rintro res bx ⟨vs3,ts3,cs3,vt3,tt3,ct3,bad3,e4,e5,e6,hU3,hB3,rfl,rfl⟩;refine qC ?_;have hU4:=hU2.trans hU3;have hB4:=hBad.trans hB3;clear hU2 hU3 hBad hB3 hcall u1 u2 u3 u4 u5 u6 u7 u8 hcl2;obtain ⟨u1,u2,u3,u4,u5,u6,u7,u8⟩:=id hU4;have hcl2:cs3.length+Sm.uss b<=1073741824:=by rw[u5,List.length_append];omega
   have hcall:=hB ps vs3 ts3 cs3 pt vt3 tt3 ct3 fn line bad3 hpt hpl' e4 e5 e6 u1 u2 (by omega) (by omega) hcl2
   revert hK K;refine qW1 ?_;intro K hK;refine qg [0] ?_;refine qC ?_;refine qD hP hcall ?_;rintro res bx ⟨vs4,ts4,cs4,vt4,tt4,ct4,bad4,e4,e5,e6,hU3,hB3,rfl,rfl⟩;refine qC ?_;revert hK K;refine qW1 ?_;intro K hK;exact hR _ _ ⟨vs4,ts4,cs4,vt4,tt4,ct4,bad4,e4,e5,e6,hU4.trans hU3,by rw[<-List.append_assoc];exact hB4.trans hB3,rfl,rfl⟩
theorem c_l12Stmt (y:Sm) (hz:y.sz<=1048576):UseS 158 (agT y.t) y.vs y.tb y.cl y.ks y.us:=by
 obtain ⟨m,hm⟩:∃m,SizeOf.sizeOf y=m:=⟨_,rfl⟩
 induction m using Nat.strongRecOn generalizing y with
 | ind m ih=>
  subst hm;obtain ⟨k,s,t,x,a,b⟩:=y;obtain ⟨_,_,_,_,h1,h2,h3⟩:=ssz_inv hz;refine c_l12Stmt_step k s t x a b hz (fun al hal=>c_l12Block_of a h1 al hal fun z hzm=>?_) (fun bl hbl=>c_l12Block_of b h2 bl hbl fun z hzm=>?_)
  ·exact ih (SizeOf.sizeOf z) (by have:=List.sizeOf_lt_of_mem hzm;simp;omega) z (h3 z (List.mem_append_left _ hzm)) rfl
  ·exact ih (SizeOf.sizeOf z) (by have:=List.sizeOf_lt_of_mem hzm;simp;omega) z (h3 z (List.mem_append_right _ hzm)) rfl
theorem c_l12Block (l:List Sm) (hl:l.length<=1048576) (hz:∀y∈l,y.sz<=1048576) (al:List (List T)) (hal:al=l.map Sm.t):UseS 112 ⟨.one,[.ro true al]⟩ (Sm.vss l) (Sm.tbs l) (Sm.cls l) (Sm.kss l) (Sm.uss l):=
 c_l12Block_of l hl al hal fun x hx=>c_l12Stmt x (hz x hx)
def Ru.hd (r:Ru):List Ex:=if r.k=4 then [r.p] else []
def Fu.vP (l:List Fu) (s:ByteArray):Prop:=∃f∈l,s∈Sm.vss f.a/\s∉f.params
def Fu.tP (l:List Fu) (s:ByteArray):Prop:=∃f∈l,s∈Sm.tbs f.a
def Fu.clsL (l:List Fu):List Ex:=l.flatMap fun f=>Sm.cls f.a
def Fu.bP (l:List Fu):Prop:=∃f∈l,(8:Int)∈Sm.kss f.a
def Ru.vP (l:List Ru) (s:ByteArray):Prop:=∃r∈l,s∈Ex.vss r.hd\/s∈Sm.vss r.a
def Ru.tP (l:List Ru) (s:ByteArray):Prop:=∃r∈l,s∈Ex.tbs r.hd\/s∈Sm.tbs r.a
def Ru.clsL (l:List Ru):List Ex:=l.flatMap fun r=>Ex.cls r.hd++Sm.cls r.a
def Ru.bP (l:List Ru):Prop:=∃r∈l,(¬(r.k=3\/r.k=4)/\(8:Int)∈Sm.kss r.a)\/(10:Int)∈Sm.kss r.a
def Fu.us (l:List Fu):Nat:=(l.map fun f=>Sm.uss f.a).sum
def Ru.us (l:List Ru):Nat:=(l.map fun r=>Ex.partss r.hd+Sm.uss r.a).sum
mutual
theorem Sm.us_le:∀y:Sm,y.us<=2+2 * y.sz
 | .mk k s t x a b=>by
  have h1:=Sm.uss_le a;have h2:=Sm.uss_le b;have h3:=Ex.partss_le x;rw[Sm.us,Sm.sz];omega
theorem Sm.uss_le:∀l:List Sm,Sm.uss l<=2 * (l.length+Sm.szs l)
 | []=>by simp[Sm.uss]
 | y::l=>by
  have h1:=Sm.us_le y;have h2:=Sm.uss_le l;rw[Sm.uss,Sm.szs,List.length_cons];omega
end
theorem Fu.us_le (l:List Fu):Fu.us l<=2 * Fu.szs l:=by
 induction l with
 | nil=>simp[Fu.us,Fu.szs]
 | cons f l ih=>
  have:=Sm.uss_le f.a;simp only[Fu.us,Fu.szs,List.map_cons,List.sum_cons,Fu.sz] at *;omega
theorem Ru.us_le (l:List Ru):Ru.us l<=l.length+2 * Ru.szs l:=by
 induction l with
 | nil=>simp[Ru.us,Ru.szs]
 | cons r l ih=>
  have h1:=Sm.uss_le r.a;have h2:=Ex.parts_le r.p;have h3:Ex.partss r.hd<=r.p.parts:=by
   unfold Ru.hd;split
   ·rw[Ex.partss_one];omega
   ·simp[Ex.partss]
  simp only[Ru.us,Ru.szs,List.map_cons,List.sum_cons,Ru.sz,List.length_cons] at *;omega
def UsesP (V T:ByteArray->Prop) (C:List Ex) (n:Nat) (vs ts:List ByteArray) (cs:List Ex) (vs' ts':List ByteArray) (cs':List Ex):Prop:=
 Asc vs'/\Asc ts'/\(∀s,s∈vs'↔s∈vs\/V s)/\(∀s,s∈ts'↔s∈ts\/T s)/\cs'=cs++C/\vs'.length<=vs.length+n/\ts'.length<=ts.length+n/\C.length<=n
theorem Uses.toP {ps V T:List ByteArray} {C:List Ex} {n:Nat} {vs ts vs' ts':List ByteArray} {cs cs':List Ex} (h:Uses ps V T C n vs ts cs vs' ts' cs'):UsesP (fun s=>s∈V/\s∉ps) (·∈T) C n vs ts cs vs' ts' cs':=h
theorem UsesP.trans {V T V' T' V2 T2:ByteArray->Prop} {C C' C2:List Ex} {n n' n2:Nat} {a1 a2 b1 b2 c1 c2:List ByteArray} {a3 b3 c3:List Ex} (h:UsesP V T C n a1 a2 a3 b1 b2 b3) (h':UsesP V' T' C' n' b1 b2 b3 c1 c2 c3)
  (hV:∀s,V2 s↔V s\/V' s) (hT:∀s,T2 s↔T s\/T' s) (hC:C2=C++C') (hn:n2=n+n'):UsesP V2 T2 C2 n2 a1 a2 a3 c1 c2 c3:=by
 obtain ⟨g1,g2,g3,g4,g5,g6,g7,g8⟩:=h;obtain ⟨k1,k2,k3,k4,k5,k6,k7,k8⟩:=h';subst hC;subst hn;refine ⟨k1,k2,fun s=>?_,fun s=>?_,by rw[k5,g5,List.append_assoc],by omega,by omega,by rw[List.length_append];omega⟩
 ·rw[k3,g3,hV,or_assoc]
 ·rw[k4,g4,hT,or_assoc]
theorem fu_step {l:List Fu} {f:Fu} {i:Nat} (h:l.take (i+1)=l.take i++[f]):(∀s,Fu.vP (l.take (i+1)) s↔Fu.vP (l.take i) s\/(s∈Sm.vss f.a/\s∉f.params))/\(∀s,Fu.tP (l.take (i+1)) s↔Fu.tP (l.take i) s\/s∈Sm.tbs f.a)/\
  Fu.clsL (l.take (i+1))=Fu.clsL (l.take i)++Sm.cls f.a/\(Fu.bP (l.take (i+1))↔Fu.bP (l.take i)\/(8:Int)∈Sm.kss f.a)/\Fu.us (l.take (i+1))=Fu.us (l.take i)+Sm.uss f.a:=by
 rw[h];generalize l.take i=m;refine ⟨fun s=>?_,fun s=>?_,?_,?_,?_⟩
 ·simp[Fu.vP,List.mem_append,or_and_right,exists_or]
 ·simp[Fu.tP,List.mem_append,or_and_right,exists_or]
 ·simp[Fu.clsL]
 ·simp[Fu.bP,List.mem_append,or_and_right,exists_or]
 ·simp[Fu.us]
theorem ru_step {l:List Ru} {f:Ru} {i:Nat} (h:l.take (i+1)=l.take i++[f]):(∀s,Ru.vP (l.take (i+1)) s↔Ru.vP (l.take i) s\/(s∈Ex.vss f.hd\/s∈Sm.vss f.a))/\(∀s,Ru.tP (l.take (i+1)) s↔Ru.tP (l.take i) s\/(s∈Ex.tbs f.hd\/s∈Sm.tbs f.a))/\
  Ru.clsL (l.take (i+1))=Ru.clsL (l.take i)++(Ex.cls f.hd++Sm.cls f.a)/\(Ru.bP (l.take (i+1))↔Ru.bP (l.take i)\/((¬(f.k=3\/f.k=4)/\(8:Int)∈Sm.kss f.a)\/(10:Int)∈Sm.kss f.a))/\Ru.us (l.take (i+1))=Ru.us (l.take i)+(Ex.partss f.hd+Sm.uss f.a):=by
 rw[h];generalize l.take i=m;refine ⟨fun s=>?_,fun s=>?_,?_,?_,?_⟩
 ·simp[Ru.vP,List.mem_append,or_and_right,exists_or]
 ·simp[Ru.tP,List.mem_append,or_and_right,exists_or]
 ·simp[Ru.clsL]
 ·simp[Ru.bP,List.mem_append,or_and_right,exists_or]
 ·simp[Ru.us]
theorem Fu.us_take (l:List Fu) (i:Nat):Fu.us (l.take i)<=Fu.us l:=by
 have h:Fu.us (l.take i++l.drop i)=Fu.us (l.take i)+Fu.us (l.drop i):=by
  simp only[Fu.us,List.map_append,List.sum_append]
 rw[List.take_append_drop] at h;omega
theorem Ru.us_take (l:List Ru) (i:Nat):Ru.us (l.take i)<=Ru.us l:=by
 have h:Ru.us (l.take i++l.drop i)=Ru.us (l.take i)+Ru.us (l.drop i):=by
  simp only[Ru.us,List.map_append,List.sum_append]
 rw[List.take_append_drop] at h;omega
def NamesQ (p:Pg) (vs ts:List ByteArray) (cs:List Ex) (bad:Bool):Prop:=
 Asc vs/\Asc ts/\(∀s,s∈vs↔Fu.vP p.fns s\/Ru.vP p.rules s)/\(∀s,s∈ts↔Fu.tP p.fns s\/Ru.tP p.rules s)/\cs=Fu.clsL p.fns++Ru.clsL p.rules/\(bad=true↔Fu.bP p.fns\/Ru.bP p.rules)/\
 vs.length<=8388608/\ts.length<=8388608/\cs.length<=8388608
end Go.Gv
