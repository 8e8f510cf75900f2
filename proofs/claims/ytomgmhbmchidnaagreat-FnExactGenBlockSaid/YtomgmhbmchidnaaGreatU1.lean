/- Part U1 of the proof: contracts of functions of the program, each walked once. -/
import Derived.Test.YtomgmhbmchidnaaGreatD8
import Derived.Test.YtomgmhbmchidnaaGreatN5
import Derived.Test.YtomgmhbmchidnaaGreatD14
import Derived.Test.YtomgmhbmchidnaaGreatD13
set_option linter.all false
namespace Go.Gv
open Go.Av Go.Proofs Go.Shelf Go.RowKit
set_option maxRecDepth 10000
set_option maxHeartbeats 8000000
theorem zK1 {O:Ops} (hO:O=Ops.std) {els:List (List T)} {out:List ByteArray} (he:els=strs out) (v:ByteArray):O.app els [[T.lit (.string v)]]=strs (out++[v]):=by
 subst hO;subst he;simp[Ops.std,strs]
def invU1 (els:List (List T)) (s:ByteArray) (l:List ByteArray) (N:Nat) (σ:AS):Prop:=
 ∃(i:Nat),σ=⟨vag 18 [(0,⟨.one,[.ro false els]⟩),(1,litS s),(5,litI (Int.ofNat i))],[],1⟩/\i<=l.length/\(∀p x,p < i->l[p]?=some x->x≠s)/\N=l.length - i
theorem PK0:∀(l:List ByteArray) (els:List (List T)) (s:ByteArray),els=strs l->l.length<=1099511627776->ACl Tryz.prog 109 [⟨.one,[.ro false els]⟩,litS s] [] (fun res bx=>∃b:Bool,(b=true↔s∈l)/\res=litB b/\bx=[]):=by
 intro l els s he hl;refine qF tyK Tryz.func109 18 [.tmp 4] ?_;unhygienic intros
 obtain ⟨N,hN⟩:=qX l.length;have hln:len els=N:=lnO hO (by simp[he,hN])
 have ha:all els 1:=alO hO (by rw[he];exact vA0 l)
 rw[<-hN] at hl;revert hK K;refine qW 0 ?_;intro K hK;refine qL 0 [0,1,5] kk0 (invU1 els s l) ?_ ?_
 ·cbv
  exact ⟨_,0,by cbv,by simp,fun p x h=>by omega,rfl⟩
 rintro m σ ⟨i,rfl,g1,g2,rfl⟩;rw[<-hN] at g1 |-;revert hK K;refine qW 0 ?_;intro K hK;simp only[hln];refine nC rfl (fun h3=>?_) (fun h3=>?_)
 ·have hlt:i < N:=qv3
  have e:bin .add .i64 (Int.ofNat i) 1=_:=iSc hO (by omega)
  have hidx:idx (Int.ofNat i) (len els):=hln ▸ ixN hO hlt;obtain ⟨y,hy⟩:∃y,l[i]?=some y:=⟨_,List.getElem?_eq_getElem (hN ▸ hlt)⟩;have e1:get els (nat (Int.ofNat i))=[T.lit (.string y)]:=by cases hO;rw[he];simp[Ops.std,strs,hy]
  revert hK K;refine qW 0 ?_;intro K hK
  repeat (simp only[e1];cbv)
  refine ndC hidx (ndC ha (ndN ?_));revert hK K;refine qW 0 ?_;intro K hK;refine nC rfl (fun h5=>?_) (fun h5=>?_)
  ·have hyk:y=s:=qv5
   revert hK K;refine qW 0 ?_;intro K hK;exact hR _ _ ⟨_,⟨fun _=>hyk ▸ List.mem_of_getElem? hy,fun _=>rfl⟩,rfl,rfl⟩
  ·have hyk:y≠s:=qv5
   revert hK K;refine qW 0 ?_;intro K hK;rw[e];exact ⟨N - (i+1),by omega,i+1,by cbv,by omega,fun p z hp hz=>by
    by_cases hpi:p=i
    ·rw[hpi,hy] at hz;rw[<-Option.some.inj hz];exact hyk
    ·exact g2 p z (by omega) hz,by rw[hN]⟩
 ·have hge:i=N:=qw3
  revert hK K;refine qW 0 ?_;intro K hK;refine hR _ _ ⟨_,⟨fun h=>by simp at h,fun h=>?_⟩,rfl,rfl⟩
  obtain ⟨p,hp⟩:=List.mem_iff_getElem?.1 h;exact absurd rfl (g2 p s (by have:=(List.getElem?_eq_some_iff.1 hp).1;omega) hp)
def invU2 (s:ByteArray) (l:List ByteArray) (N:Nat) (σ:AS):Prop:=
 ∃(k:Nat) (y:ByteArray) (els:List (List T)),σ=⟨vag 46 [(1,litS s),(5,⟨.one,[.ow (0,0) false 1 els]⟩),(6,litI (Int.ofNat k))],[],1⟩/\els=strs (l.take k++y::l.drop k)/\k<=l.length/\(∀j x,k<=j->l[j]?=some x->ltB s x)/\N=k
theorem wL1 (l:List ByteArray) (els:List (List T)) (s:ByteArray) (he:els=strs l) (hl:l.length<=1099511627776) (ha:Asc l) :
  ACl Tryz.prog 181 [⟨.one,[.ow (0,0) false 1 els]⟩,litS s] [] (fun res bx=>∃l' els',els'=strs l'/\Asc l'/\(∀t,t∈l'↔t∈l\/t=s)/\l'.length<=l.length+1/\res=⟨.one,[.ow (0,0) false 1 els']⟩/\bx=[]):=by
 have hhas:=PK0 l els s he hl;refine qF tyK Tryz.func181 46 [.tmp 4] ?_;unhygienic intros
 obtain ⟨N,hN⟩:=qX l.length;have hln:len els=N:=lnO hO (by simp[he,hN])
 rw[<-hN] at hl;revert hK K;refine qW 0 ?_;intro K hK;refine qG ?_;refine qD hP hhas ?_;rintro res bx ⟨b,hb,rfl,rfl⟩;refine qC ?_;obtain rfl | rfl:b=true\/b=false:=by cases b<;>simp
 ·revert hK K;refine qW 0 ?_;intro K hK
  exact hR _ _ ⟨l,els,he,ha,fun t=>⟨.inl,fun h=>h.elim id fun e=>e ▸ hb.1 rfl⟩,by omega,rfl,rfl⟩
 ·have hns:s∉l:=fun h=>by simpa using hb.2 h
  obtain ⟨els1,hels1⟩:=qX (strs (l++[s]));have happ0:app [] els=els:=by cases hO;rfl
  have happ:app els [[T.lit (.string s)]]=els1:=by rw[hels1];exact zK1 hO he s
  have ha1:all els 1:=alO hO (by rw[he];exact vA0 l)
  have ha2:all [[T.lit (.string s)]] 1:=alO hO (by simp)
  have hell:els.length=N:=by rw[he,tQ0,hN]
  have ho1:aOk 16 [] els:=tL0 hO (by rw[hell];simp only[List.length_nil];omega) (by rw[hell];simp only[List.length_nil];omega)
  have ho2:aOk 16 els [[T.lit (.string s)]]:=tL0 hO (by rw[hell];simp only[List.length_cons,List.length_nil];omega) (by rw[hell];simp only[List.length_cons,List.length_nil];omega)
  have hln1:len els1=N+1:=lnO hO (by simp[hels1,hN])
  have es:bin .sub .i64 (Int.ofNat (N+1)) 1=Int.ofNat N:=by cases hO;simp only[Ops.std,xN0,Int.ofNat_eq_natCast];rw[xV0 (by omega)];omega
  obtain ⟨N1,hN1⟩:=qX (N+1);rw[<-hN1] at hln1 es;revert hK K;refine qW 0 ?_;intro K hK;simp only[happ0,happ];refine ndC ha1 (ndC ho1 (ndC ha2 (ndC ho2 (ndN ?_))));revert hK K;refine qW 0 ?_;intro K hK;simp only[hln1,es];revert hK K;refine qW 0 ?_;intro K hK;refine qL 0 [1,5,6] kk0 (invU2 s l) ?_ ?_
  ·cbv
   exact ⟨_,N,s,els1,by cbv,by rw[hN,List.take_length,List.drop_length];exact hels1,by omega,fun j x h1 h2=>by have:=(List.getElem?_eq_some_iff.1 h2).1;omega,rfl⟩
  clear hb happ0 happ ha1 ha2 ho1 ho2 hln1 es hels1 els1;rintro m σ ⟨k,y,els2,rfl,hels2,g1,g2,rfl⟩;have hl2:els2.length=N+1:=by rw[hels2,tQ0,List.length_append,List.length_cons,List.length_take,List.length_drop];omega
  have hln2:len els2=N+1:=lnO hO hl2;have hall2:all els2 1:=alO hO (by rw[hels2];exact vA0 _)
  have hset:∀v,set els2 (nadd 0 (nat (Int.ofNat m))) [T.lit (.string v)]=strs (l.take m++v::l.drop m):=fun v=>by
   cases hO
   show els2.set (0+m) _=_
   rw[Nat.zero_add,hels2];simp only[strs,List.map_append,List.map_cons];rw[List.set_append_right _ _ (by simp only[List.length_map,List.length_take];omega),List.length_map,List.length_take,Nat.min_eq_left g1,Nat.sub_self,List.set_cons_zero]
  have hidxm:idx (Int.ofNat (nadd 0 (nat (Int.ofNat m)))) (len els2):=by rw[hln2];cases hO;show (0:Int)<=Int.ofNat (0+m)/\Int.ofNat (0+m) < Int.ofNat (N+1);simp only[Int.ofNat_eq_natCast];omega
  have hidxm':idx (Int.ofNat m) (len els2):=by rw[hln2];exact ixN hO (by omega)
  have hone:one els2 (nadd 0 (nat (Int.ofNat m))) 1:=by
   cases hO
   show 0+m < els2.length/\(els2.getD (0+m) []).length=1
   refine ⟨by omega,?_⟩
   rw[List.getD_eq_getElem?_getD,List.getElem?_eq_getElem (by omega)]
   exact hall2 _ (List.getElem_mem _)
  obtain ⟨fin,hfin⟩:=qX (strs (l.take m++s::l.drop m));have hsetf:=hset s;rw[<-hfin] at hsetf;have hend:(∀x,0 < m->l[m - 1]?=some x->¬ltB s x)->∃l' els',els'=strs l'/\Asc l'/\(∀t,t∈l'↔t∈l\/t=s)/\l'.length<=l.length+1/\(⟨.one,[.ow (0,0) false 1 fin]⟩:AV)=⟨.one,[.ow (0,0) false 1 els']⟩/\([]:List (Option (List A)))=[]:=fun h=>
   ⟨_,fin,hfin,Asc.put ha hns g2 h g1,fun t=>by rw[put_mem,Or.comm],by rw[List.length_append,List.length_cons,List.length_take,List.length_drop];omega,rfl,rfl⟩
  revert hK K;refine qW 0 ?_;intro K hK;refine GFork.mk (fun h3=>?_) (fun h3=>?_)<;>cbv
  ·have hpos:0 < m:=qw3
   obtain ⟨p,hp⟩:=qX (m - 1);obtain ⟨x,hx⟩:∃x,l[p]?=some x:=⟨_,List.getElem?_eq_getElem (by omega)⟩
   have es:bin .sub .i64 (Int.ofNat m) 1=Int.ofNat p:=by rw[hp];cases hO;simp only[Ops.std,xN0,Int.ofNat_eq_natCast];rw[xV0 (by omega)];omega
   have e1:get els2 (nat (Int.ofNat p))=[T.lit (.string x)]:=by
    cases hO
    show els2.getD p []=_
    rw[hels2,List.getD_eq_getElem?_getD];simp only[strs,List.map_append,List.map_cons];rw[List.getElem?_append_left (by simp[List.length_take];omega),List.getElem?_map,List.getElem?_take,if_pos (by omega),hx]
    rfl
   have e1':get els2 (nadd 0 (nat (Int.ofNat p)))=[T.lit (.string x)]:=by have h:=e1;cases hO;simp only[Ops.std,Nat.zero_add] at h |-;exact h
   have hidxp:idx (Int.ofNat p) (len els2):=by rw[hln2];exact ixN hO (by omega)
   have hidxp':idx (Int.ofNat (nadd 0 (nat (Int.ofNat p)))) (len els2):=by have h:=hidxp;cases hO;simp only[Ops.std,Nat.zero_add] at h |-;exact h
   have hsetx:=hset x;have hnext:l.take m++x::l.drop m=l.take p++x::l.drop p:=by
    have h1:l.take m=l.take p++[x]:=by
     have:=List.take_succ_eq_append_getElem (i:=p) (l:=l) (by omega)
     rw[show p+1=m by omega] at this
     rw[this]
     congr 2
     rw[List.getElem?_eq_getElem (by omega)] at hx
     exact Option.some.inj hx
    have h2:l.drop p=x::l.drop m:=by
     rw[List.drop_eq_getElem_cons (by omega),show p+1=m by omega]
     congr 1
     rw[List.getElem?_eq_getElem (by omega)] at hx
     exact Option.some.inj hx
    rw[h1,h2,List.append_assoc];rfl
   obtain ⟨nx,hnx⟩:=qX (strs (l.take m++x::l.drop m));rw[<-hnx] at hsetx;rw[hnext] at hnx;clear hset hnext h3;revert hK K;refine qW 0 ?_;intro K hK;simp only[es]
   repeat (simp only[e1,e1'];cbv)
   refine ndC hidxp (ndC hidxp' (ndN ?_));revert hK K;refine qW 0 ?_;intro K hK;have hcmp:scmp .gtr x s=true↔ltB s x:=by cases hO;exact rE1
   refine nC rfl (fun h5=>?_) (fun h5=>?_)
   ·have hlt:=hcmp.1 h5
    clear h5 hcmp;revert hK K;refine qW 0 ?_;intro K hK;simp only[es]
    repeat (simp only[e1,e1'];cbv)
    simp only[hsetx];refine ndC hidxp (ndC hidxp' (ndC hidxm' (ndC hone (ndN ?_))));revert hK K;refine qW 0 ?_;intro K hK
    try simp only[es]
    revert hK K;refine qW 0 ?_;intro K hK;exact ⟨p,by omega,p,x,nx,by cbv,hnx,by omega,fun j z h1 h2=>by
     by_cases hj:j=p
     ·rw[hj,hx] at h2;rw[<-Option.some.inj h2];exact hlt
     ·exact g2 j z (by omega) h2,rfl⟩
   ·have hlt:¬ltB s x:=fun h=>by rw[hcmp.2 h] at h5;simp at h5
    have hend:=hend fun z _ hz=>by rw[<-hp,hx] at hz;rw[<-Option.some.inj hz];exact hlt
    clear h5 hcmp;revert hK K;refine qW 0 ?_;intro K hK;simp only[hsetf];refine ndC hidxm' (ndC hone (ndN ?_));revert hK K;refine qW 0 ?_;intro K hK;exact hR _ _ hend
  ·have hpos:m=0:=qw3
   clear hset h3;have hend:=hend fun z h _=>by omega
   revert hK K;refine qW 0 ?_;intro K hK;simp only[hsetf];refine ndC hidxm' (ndC hone (ndN ?_));revert hK K;refine qW 0 ?_;intro K hK;exact hR _ _ hend
open Go.Av Go.Proofs
variable {I:∀{α:Type},α->α}
def Uses (ps V T:List ByteArray) (C:List Ex) (n:Nat) (vs ts:List ByteArray) (cs:List Ex) (vs' ts':List ByteArray) (cs':List Ex):Prop:=
 Asc vs'/\Asc ts'/\(∀s,s∈vs'↔s∈vs\/(s∈V/\s∉ps))/\(∀s,s∈ts'↔s∈ts\/s∈T)/\cs'=cs++C/\vs'.length<=vs.length+n/\ts'.length<=ts.length+n/\C.length<=n
theorem Uses.nil {ps vs ts:List ByteArray} {cs:List Ex} {n:Nat} (h1:Asc vs) (h2:Asc ts):Uses ps [] [] [] n vs ts cs vs ts cs:=⟨h1,h2,by simp,by simp,by simp,by omega,by omega,by simp⟩
theorem Uses.trans {ps V T V' T':List ByteArray} {C C':List Ex} {n n':Nat} {a1 a2 b1 b2 c1 c2:List ByteArray} {a3 b3 c3:List Ex} (h:Uses ps V T C n a1 a2 a3 b1 b2 b3) (h':Uses ps V' T' C' n' b1 b2 b3 c1 c2 c3) :
  Uses ps (V++V') (T++T') (C++C') (n+n') a1 a2 a3 c1 c2 c3:=by
 obtain ⟨g1,g2,g3,g4,g5,g6,g7,g8⟩:=h;obtain ⟨k1,k2,k3,k4,k5,k6,k7,k8⟩:=h';refine ⟨k1,k2,fun s=>?_,fun s=>?_,by rw[k5,g5,List.append_assoc],by omega,by omega,by rw[List.length_append];omega⟩
 ·rw[k3,g3,List.mem_append];grind
 ·rw[k4,g4,List.mem_append,or_assoc]
theorem Uses.more {ps V T:List ByteArray} {C:List Ex} {n n':Nat} {a1 a2 b1 b2:List ByteArray} {a3 b3:List Ex} (h:Uses ps V T C n a1 a2 a3 b1 b2 b3) (hn:n<=n'):Uses ps V T C n' a1 a2 a3 b1 b2 b3:=by
 obtain ⟨g1,g2,g3,g4,g5,g6,g7,g8⟩:=h;exact ⟨g1,g2,g3,g4,g5,by omega,by omega,by omega⟩
theorem Ex.vss_app:∀a b,Ex.vss (a++b)=Ex.vss a++Ex.vss b/\Ex.tbs (a++b)=Ex.tbs a++Ex.tbs b/\Ex.cls (a++b)=Ex.cls a++Ex.cls b
 | [],b=>by simp[Ex.vss,Ex.tbs,Ex.cls]
 | e::a,b=>by
  obtain ⟨h1,h2,h3⟩:=Ex.vss_app a b;rw[List.cons_append,Ex.vss,Ex.vss,Ex.tbs,Ex.tbs,Ex.cls,Ex.cls,h1,h2,h3];simp
def BadQ (fn line bad:Bool) (ks:List Int) (bad':Bool):Prop:=bad'=true↔bad=true\/(line=false/\(8:Int)∈ks)\/(fn=false/\(10:Int)∈ks)
theorem BadQ.nil {fn line bad:Bool}:BadQ fn line bad [] bad:=by simp[BadQ]
theorem BadQ.trans {fn line b0 b1 b2:Bool} {k1 k2:List Int} (h:BadQ fn line b0 k1 b1) (h':BadQ fn line b1 k2 b2):BadQ fn line b0 (k1++k2) b2:=by
 unfold BadQ at *;rw[h',h,List.mem_append,List.mem_append]
 constructor
 ·rintro ((h | ⟨h,g⟩ | ⟨h,g⟩) | ⟨h,g⟩ | ⟨h,g⟩)
  ·exact .inl h
  ·exact .inr (.inl ⟨h,.inl g⟩)
  ·exact .inr (.inr ⟨h,.inl g⟩)
  ·exact .inr (.inl ⟨h,.inr g⟩)
  ·exact .inr (.inr ⟨h,.inr g⟩)
 ·rintro (h | ⟨h,g | g⟩ | ⟨h,g | g⟩)
  ·exact .inl (.inl h)
  ·exact .inl (.inr (.inl ⟨h,g⟩))
  ·exact .inr (.inl ⟨h,g⟩)
  ·exact .inl (.inr (.inr ⟨h,g⟩))
  ·exact .inr (.inr ⟨h,g⟩)
theorem BadQ.other {fn line bad:Bool} {k:Int} (h1:k≠8) (h2:k≠10):BadQ fn line bad [k] bad:=by
 unfold BadQ;rw[List.mem_singleton,List.mem_singleton];exact ⟨.inl,fun h=>h.elim id fun h=>h.elim (fun h=>absurd h.2.symm h1) fun h=>absurd h.2.symm h2⟩
theorem BadQ.next {fn line bad:Bool} {k:Int} (h1:k=8) {b:Bool} (hb:b=(bad || !line)):BadQ fn line bad [k] b:=by
 subst h1;subst hb;cases bad<;>cases line<;>simp[BadQ]
theorem BadQ.retn {fn line bad:Bool} {k:Int} (h1:k=10) {b:Bool} (hb:b=(bad || !fn)):BadQ fn line bad [k] b:=by
 subst h1;subst hb;cases bad<;>cases fn<;>simp[BadQ]
mutual
def Sm.us:Sm->Nat
 | .mk _ _ _ x a b=>2+Ex.partss x+Sm.uss a+Sm.uss b
def Sm.uss:List Sm->Nat
 | []=>0
 | e::l=>Sm.us e+Sm.uss l
end
theorem Sm.vss_app:∀a b,Sm.vss (a++b)=Sm.vss a++Sm.vss b/\Sm.tbs (a++b)=Sm.tbs a++Sm.tbs b/\Sm.cls (a++b)=Sm.cls a++Sm.cls b/\Sm.kss (a++b)=Sm.kss a++Sm.kss b/\Sm.uss (a++b)=Sm.uss a+Sm.uss b
 | [],b=>by simp[Sm.vss,Sm.tbs,Sm.cls,Sm.kss,Sm.uss]
 | e::a,b=>by
  obtain ⟨h1,h2,h3,h4,h5⟩:=Sm.vss_app a b;rw[List.cons_append,Sm.vss,Sm.vss,Sm.tbs,Sm.tbs,Sm.cls,Sm.cls,Sm.kss,Sm.kss,Sm.uss,Sm.uss,h1,h2,h3,h4,h5];simp[Nat.add_assoc]
theorem Sm.uss_take (l:List Sm) (i:Nat):Sm.uss (l.take i)<=Sm.uss l:=by
 have:=(Sm.vss_app (l.take i) (l.drop i)).2.2.2.2;rw[List.take_append_drop] at this;omega
structure Us where
 vs:List ByteArray
 ts:List ByteArray
 cs:List Ex
 ps:List ByteArray
 fn:Bool
 line:Bool
 bad:Bool
@[simp,reducible] def uB (I:∀{α:Type},α->α) (u:Us):Option (List A):=some [.ow (0,0) false 1 (I (u.vs.map strT)),.ow (0,0) false 1 (I (u.ts.map strT)),.ow (0,0) false 4 (I (u.cs.map Ex.t)),.ro true (I (u.ps.map strT)),.lit (.bool (I u.fn)),.lit (.bool (I u.line)),.lit (.bool (I u.bad))]
structure Us.ok (n:Nat) (u:Us):Prop where
 p:u.ps.length<=1073741824
 a:Asc u.vs
 b:Asc u.ts
 v:u.vs.length+n<=1073741824
 t:u.ts.length+n<=1073741824
 c:u.cs.length+n<=1073741824
structure Usd (V T:List ByteArray) (C:List Ex) (K:List Int) (n:Nat) (u w:Us):Prop where
 us:Uses u.ps V T C n u.vs u.ts u.cs w.vs w.ts w.cs
 bd:BadQ u.fn u.line u.bad K w.bad
 ps:w.ps=u.ps
 fn:w.fn=u.fn
 ln:w.line=u.line
theorem Usd.trans {V T V' T':List ByteArray} {C C':List Ex} {K K':List Int} {n m:Nat} {a b c:Us} (h:Usd V T C K n a b) (g:Usd V' T' C' K' m b c):Usd (V++V') (T++T') (C++C') (K++K') (n+m) a c:=by
 obtain ⟨g1,g2,g3,g4,g5⟩:=g;rw[h.ps] at g1 g3;rw[h.fn,h.ln] at g2;exact ⟨h.us.trans g1,h.bd.trans g2,g3,g4.trans h.fn,g5.trans h.ln⟩
theorem Us.ok.less {n m:Nat} {u:Us} (h:u.ok m) (hn:n<=m):u.ok n:=⟨h.p,h.a,h.b,by have:=h.v;omega,by have:=h.t;omega,by have:=h.c;omega⟩
theorem Us.ok.next {V T:List ByteArray} {C:List Ex} {K:List Int} {n m k:Nat} {u w:Us} (h:u.ok k) (g:Usd V T C K n u w) (hk:n+m<=k):w.ok m:=by
 obtain ⟨g1,g2,g3,g4,g5,g6,g7,g8⟩:=g.us;exact ⟨by rw[g.ps];exact h.p,g1,g2,by have:=h.v;omega,by have:=h.t;omega,by have:=h.c;rw[g5,List.length_append];omega⟩
theorem Usd.nil {n:Nat} {u:Us} (h:u.ok n):Usd [] [] [] [] 0 u u:=⟨.nil h.a h.b,.nil,rfl,rfl,rfl⟩
abbrev UseI (I:∀{α:Type},α->α) (f:FuncId) (av:AV) (V T:List ByteArray) (C:List Ex) (K:List Int) (n:Nat):Prop:=∀u:Us,u.ok n->ACl Tryz.prog f [⟨.one,[.ptr 0 0]⟩,av] [uB @I u] (fun res bx=>∃w:Us,Usd V T C K n u w/\res=⟨.tup [],[]⟩/\bx=[uB @I w])
theorem tJ0 (hI:II @I) (l:List ByteArray) (s:ByteArray) (hl:l.length<=1099511627776) (ha:Asc l) :
  ACl Tryz.prog 181 [⟨.one,[.ow (0,0) false 1 (I (l.map strT))]⟩,litS s] [] (fun res bx=>∃l':List ByteArray,(Asc l'/\(∀t,t∈l'↔t∈l\/t=s)/\l'.length<=l.length+1)/\res=⟨.one,[.ow (0,0) false 1 (I (l'.map strT))]⟩/\bx=[]):=by
 simp only[hI.e];refine acI (wL1 l _ s rfl hl ha) ?_;rintro res bx ⟨l',els,rfl,h1,h2,h3,h4,h5⟩;exact ⟨l',⟨h1,h2,h3⟩,h4,h5⟩
theorem WQ0 (hI:II @I) (s:ByteArray):UseI @I 180 (litS s) [s] [] [] [] 1:=by
 intro u hu;have hv:=hu.v;have hp:=hu.p;have c1:=QB.of hI (ZD0 u.ps (I (u.ps.map strT)) s (by rw[hI.e];rfl) (by omega))
 have c2:=tJ0 hI u.vs s (by omega) hu.a
 refine qN hI tyK Tryz.func180 20 [] ?_;unhygienic intros
 refine qB 1 ?_
 repeat' first|refine qA 1 ?_|refine qJ (nN []) ?_|refine qJe (nM []) fun x hx=>?_|refine qp ?_ ?_|refine qk (fun h=>?_) fun h=>?_|fail
 ·exact hR _ _ ⟨{ u with vs:=x },⟨⟨hx.1,hu.b,fun t=>by rw[hx.2.1,List.mem_singleton];exact ⟨fun q=>q.elim .inl fun q=>.inr ⟨q,q ▸ h⟩,fun q=>q.elim .inl fun q=>.inr q.1⟩,by simp,by simp,by have:=hx.2.2;exact this,by simp,by simp⟩,.nil,rfl,rfl,rfl⟩,rfl,rfl⟩
 ·exact hR _ _ ⟨u,⟨⟨hu.a,hu.b,fun t=>⟨.inl,fun q=>q.elim id fun q=>absurd ((List.mem_singleton.1 q.1) ▸ Classical.not_not.1 h) q.2⟩,by simp,by simp,by omega,by omega,by simp⟩,.nil,rfl,rfl,rfl⟩,rfl,rfl⟩
abbrev exB (I:∀{α:Type},α->α) (e:Ex):Option (List A):=some [.lit (.int .i64 (I e.k)),.lit (.int .i64 (I e.n)),.lit (.string (I e.s)),.ro true (I (e.l.map Ex.t))]
theorem Ex.vs_eq (e:Ex):e.vs=(if e.k=3 then [e.s] else [])++Ex.vss e.l:=by cases e;rw[Ex.vs];rfl
theorem Ex.tb_eq (e:Ex):e.tb=(if e.k=4\/e.k=9 then [e.s] else [])++Ex.tbs e.l:=by cases e;rw[Ex.tb];rfl
theorem Ex.cl_eq (e:Ex):e.cl=(if e.k=11 then [e] else [])++Ex.cls e.l:=by cases e;rw[Ex.cl];rfl
theorem Ex.pr_eq (e:Ex):e.parts=1+Ex.partss e.l:=by cases e;rw[Ex.parts];rfl
theorem Ex.sz_l {e:Ex} (h:e.sz<=1048576):e.l.length<=1048576/\∀x∈e.l,x.sz<=1048576:=by cases e;exact (sz_inv h).2
theorem Usd.tab {u:Us} {x:List ByteArray} {s:ByteArray} (h:u.ok 1) (hx:Asc x/\(∀t,t∈x↔t∈u.ts\/t=s)/\x.length<=u.ts.length+1):Usd [] [s] [] [] 1 u { u with ts:=x }:=⟨⟨h.a,hx.1,by simp,by simp[hx.2.1],by simp,by simp,hx.2.2,by simp⟩,.nil,rfl,rfl,rfl⟩
theorem Usd.call {u:Us} (e:Ex) (h:u.ok 1):Usd [] [] [e] [] 1 u { u with cs:=u.cs++[e] }:=⟨⟨h.a,h.b,by simp,by simp,rfl,by simp,by simp,by simp⟩,.nil,rfl,rfl,rfl⟩
theorem Usd.more {V T:List ByteArray} {C:List Ex} {K:List Int} {n m:Nat} {u w:Us} (h:Usd V T C K n u w) (hn:n<=m):Usd V T C K m u w:=⟨h.us.more hn,h.bd,h.ps,h.fn,h.ln⟩
theorem Ex.vss_one (e:Ex):Ex.vss [e]=e.vs/\Ex.tbs [e]=e.tb/\Ex.cls [e]=e.cl:=by simp[Ex.vss,Ex.tbs,Ex.cls]
theorem dM0 (hI:II @I):∀e:Ex,e.sz<=1048576->UseI @I 108 (eA @I e) e.vs e.tb e.cl [] e.parts:=by
 refine Ex.ind fun e ih hz u hu=>?_;obtain ⟨hl,hx0⟩:=Ex.sz_l hz;rw[Ex.pr_eq] at hu |-;have hv:=hu.v;have ht:=hu.t;have hcc:=hu.c;have c1:=WQ0 hI (I e.s) u (hu.less (by omega))
 have c2:=tJ0 hI u.ts (I e.s) (by omega) hu.b
 rw[Ex.vs_eq,Ex.tb_eq,Ex.cl_eq];refine qN hI tyK Tryz.func108 53 [] ?_;unhygienic intros
 refine qB 1 ?_
 repeat' first|refine qAs 1 ?_|refine qJe (nN [0]) fun x hx=>?_|refine qJe (nM []) fun x hx=>?_|refine qp ?_ ?_|refine qk (fun h=>?_) fun h=>?_<;>try(exfalso;omega)|fail
 all_goals refine qLf 2 [0,3,4] kk0 (fun a:Nat×Us=>⟨vag 53 [(0,⟨.one,[.ptr 0 0]⟩),(3,⟨.one,[.ptr 1 0]⟩),(4,litI (Int.ofNat (I a.1)))],[uB @I a.2,exB @I e],1⟩) (fun a=>a.1<=e.l.length/\Usd ((if e.k=3 then [e.s] else [])++Ex.vss (e.l.take a.1)) ((if e.k=4\/e.k=9 then [e.s] else [])++Ex.tbs (e.l.take a.1)) ((if e.k=11 then [e] else [])++Ex.cls (e.l.take a.1)) [] (1+Ex.partss (e.l.take a.1)) u a.2) (fun a=>e.l.length - a.1) ?_ fun a ha=>?_
 all_goals first
  | (obtain ⟨i,w⟩:=a;obtain ⟨ha1,ha2⟩:=ha;simp only at ha1 ha2 |-;have hp:=Ex.partss_take e.l (i+1);have c9:=fun h:i < e.l.length=>ih _ (zB0 h) (hx0 _ (zB0 h)) w (hu.next ha2 (by have:=Ex.partss_at h;omega));refine qB 2 ?_;(repeat' first|refine qA 2 ?_|refine qJe (nN [0]) fun x hx=>?_|refine qp ?_ ?_|refine qk (fun h=>?_) fun h=>?_|fail);(exact ⟨(i+1,x),by (try simp only[A.reset,zD0,hI.e]);rfl,⟨by simp only;omega,by have:=ha2.trans hx;simp only[yP0 h,Ex.vss_app,Ex.partss_app,Ex.vss_one,Ex.partss_one] at this |-;simpa [List.append_assoc,Nat.add_assoc] using this⟩,by simp only;omega⟩);(rw[List.take_of_length_le (by omega)] at ha2;exact hR _ _ ⟨w,ha2,rfl,by simp[hI.e]⟩))
  | cbv
 all_goals first
  | exact ⟨(0,x),by simp only[hI.e];rfl,⟨by simp,by simpa [*,Ex.vss,Ex.tbs,Ex.cls,Ex.partss,hI.e] using hx⟩⟩
  | exact ⟨(0,{ u with ts:=x }),by simp only[hI.e];rfl,⟨by simp,by simpa [*,Ex.vss,Ex.tbs,Ex.cls,Ex.partss,hI.e] using Usd.tab (hu.less (by omega)) hx⟩⟩
  | exact ⟨(0,{ u with cs:=u.cs++[e] }),by simp only[hI.e];rfl,⟨by simp,by simpa [*,Ex.vss,Ex.tbs,Ex.cls,Ex.partss] using Usd.call e (hu.less (by omega))⟩⟩
  | exact ⟨(0,u),by simp only[hI.e];rfl,⟨by simp,by simpa [*,Ex.vss,Ex.tbs,Ex.cls,Ex.partss] using (Usd.nil hu).more (by omega)⟩⟩
theorem Usd.kd {u:Us} {k:Int} (h:u.ok 0) (h8:k≠8) (h10:k≠10):Usd [] [] [] [k] 0 u u:=⟨.nil h.a h.b,.other h8 h10,rfl,rfl,rfl⟩
theorem Usd.bd8 {u:Us} {k:Int} {b:Bool} (h:u.ok 0) (hb:k=8/\b=(u.bad || !u.line)\/k=10/\b=(u.bad || !u.fn)):Usd [] [] [] [k] 0 u { u with bad:=b }:=⟨.nil h.a h.b,hb.elim (fun q=>.next q.1 q.2) fun q=>.retn q.1 q.2,rfl,rfl,rfl⟩
theorem Sm.vss_one (e:Sm):Sm.vss [e]=e.vs/\Sm.tbs [e]=e.tb/\Sm.cls [e]=e.cl/\Sm.kss [e]=e.ks/\Sm.uss [e]=e.us:=by simp[Sm.vss,Sm.tbs,Sm.cls,Sm.kss,Sm.uss]
theorem Sm.vss_at {l:List Sm} {i:Nat} (h:i < l.length):Sm.vss (l.take (i+1))=Sm.vss (l.take i)++(l[i]!).vs/\Sm.tbs (l.take (i+1))=Sm.tbs (l.take i)++(l[i]!).tb/\Sm.cls (l.take (i+1))=Sm.cls (l.take i)++(l[i]!).cl/\Sm.kss (l.take (i+1))=Sm.kss (l.take i)++(l[i]!).ks/\Sm.uss (l.take (i+1))=Sm.uss (l.take i)+(l[i]!).us:=by
 have:=Sm.vss_app (l.take i) [l[i]!];rwa[<-yP0 h,(Sm.vss_one _).1,(Sm.vss_one _).2.1,(Sm.vss_one _).2.2.1,(Sm.vss_one _).2.2.2.1,(Sm.vss_one _).2.2.2.2] at this
theorem Sm.us_eq (y:Sm):y.vs=((if y.k=2\/y.k=7 then [y.s] else [])++Ex.vss y.x)++Sm.vss y.a++Sm.vss y.b/\y.tb=(((if y.k=3\/y.k=11 then [y.s] else [])++(if y.k=7 then [y.tt] else []))++Ex.tbs y.x)++Sm.tbs y.a++Sm.tbs y.b/\y.cl=([]++Ex.cls y.x)++Sm.cls y.a++Sm.cls y.b/\y.ks=([y.k]++[])++Sm.kss y.a++Sm.kss y.b/\y.us=2+Ex.partss y.x+Sm.uss y.a+Sm.uss y.b:=by
 obtain ⟨k,s,t,x,a,b⟩:=y;exact ⟨by rw[Sm.vs];rfl,by rw[Sm.tb];rfl,by rw[Sm.cl];rfl,by rw[Sm.ks];rfl,by rw[Sm.us];rfl⟩
abbrev BlkI (I:∀{α:Type},α->α) (l:List Sm):Prop:=UseI @I 107 (smA @I l) (Sm.vss l) (Sm.tbs l) (Sm.cls l) (Sm.kss l) (Sm.uss l)
theorem uC0 (hI:II @I) (l:List Sm) (hl:l.length<=1048576) (ih:∀y∈l,UseI @I 179 (sA @I y) y.vs y.tb y.cl y.ks y.us):BlkI @I l:=by
 intro u hu;refine qN hI tyK Tryz.func107 17 [] ?_;unhygienic intros
 refine qB 1 ?_;refine qLf 1 [0,1,4] kk0 (fun a:Nat×Us=>⟨vag 17 [(0,⟨.one,[.ptr 0 0]⟩),(1,smA @I l),(4,litI (Int.ofNat (I a.1)))],[uB @I a.2],1⟩) (fun a=>a.1<=l.length/\Usd (Sm.vss (l.take a.1)) (Sm.tbs (l.take a.1)) (Sm.cls (l.take a.1)) (Sm.kss (l.take a.1)) (Sm.uss (l.take a.1)) u a.2) (fun a=>l.length - a.1) ?_ fun a ha=>?_
 ·cbv
  exact ⟨(0,u),by simp only[hI.e];rfl,⟨by simp,by simpa [Sm.vss,Sm.tbs,Sm.cls,Sm.kss,Sm.uss] using Usd.nil hu⟩⟩
 obtain ⟨i,w⟩:=a;obtain ⟨ha1,ha2⟩:=ha;simp only at ha1 ha2 |-;have hp:=Sm.uss_take l (i+1);have ht:=fun h:i < l.length=>Sm.vss_at h;have c9:=fun h:i < l.length=>ih _ (zB0 h) w (hu.next ha2 (by have:=(ht h).2.2.2.2;omega))
 refine qB 1 ?_
 repeat' first|refine qA 1 ?_|refine qJe (nN [0]) fun x hx=>?_|refine qp ?_ ?_|refine qk (fun h=>?_) fun h=>?_|fail
 ·exact ⟨(i+1,x),by (try simp only[A.reset,zD0,hI.e]);rfl,⟨by simp only;omega,by simpa only [ht h] using ha2.trans hx⟩,by simp only;omega⟩
 ·rw[List.take_of_length_le (by omega)] at ha2
  exact hR _ _ ⟨w,ha2,rfl,by simp[hI.e]⟩
theorem KA0 (hI:II @I):∀y:Sm,y.sz<=1048576->UseI @I 179 (sA @I y) y.vs y.tb y.cl y.ks y.us:=by
 refine Sm.ind fun y ih hz u hu=>?_;obtain ⟨hxl,hxs,hal,hbl,hab⟩:=Sm.sz_l hz;have hA:=uC0 hI y.a hal fun z hz=>ih z (List.mem_append_left _ hz) (hab z (List.mem_append_left _ hz));have hB':=uC0 hI y.b hbl fun z hz=>ih z (List.mem_append_right _ hz) (hab z (List.mem_append_right _ hz));obtain ⟨e1,e2,e3,e4,e5⟩:=Sm.us_eq y;rw[e1,e2,e3,e4,e5];rw[e5] at hu;have hv:=hu.v;have ht:=hu.t
 have c1:=WQ0 hI (I y.s) u (hu.less (by omega))
 have c2:=tJ0 hI u.ts (I y.s) (by omega) hu.b
 have c3:=tJ0 hI u.ts (I y.tt) (by omega) hu.b
 have c4:=fun (w:Us) (h:Usd [I y.s] [] [] [] 1 u w)=>tJ0 hI w.ts (I y.tt) (by have:=(hu.next (m:=1) h (by omega)).t;omega) (hu.next (m:=1) h (by omega)).b
 clear ih;refine qN hI tyK Tryz.func179 96 [] ?_;unhygienic intros
 refine qB 1 ?_
 repeat' first|refine qA 1 ?_|refine qJe (nN [0]) fun x hx=>?_|refine qJe (nM []) fun x hx=>?_|refine qp ?_ ?_|refine qk (fun h=>?_) fun h=>?_<;>try(exfalso;omega)|fail
 all_goals refine qLf 2 [0,3,4] kk0 (fun a:Nat×Us=>⟨vag 96 [(0,⟨.one,[.ptr 0 0]⟩),(3,⟨.one,[.ptr 1 0]⟩),(4,litI (Int.ofNat (I a.1)))],[uB @I a.2,some (sA @I y).cs],1⟩) (fun a=>a.1<=y.x.length/\Usd ((if y.k=2\/y.k=7 then [y.s] else [])++Ex.vss (y.x.take a.1)) (((if y.k=3\/y.k=11 then [y.s] else [])++(if y.k=7 then [y.tt] else []))++Ex.tbs (y.x.take a.1)) ([]++Ex.cls (y.x.take a.1)) ([y.k]++[]) (2+Ex.partss (y.x.take a.1)) u a.2) (fun a=>y.x.length - a.1) ?_ fun a ha=>?_
 all_goals first
  | (obtain ⟨i,w⟩:=a;obtain ⟨ha1,ha2⟩:=ha;simp only at ha1 ha2 |-;have hp:=Ex.partss_take y.x (i+1);have hp0:=Ex.partss_take y.x i;have c9:=fun h:i < y.x.length=>dM0 hI _ (hxs _ (zB0 h)) w (hu.next ha2 (by have:=Ex.partss_at h;omega));have c8:=hA w (hu.next ha2 (by omega));clear c1 c2 c3 c4;have c7:=fun w' (h:Usd (Sm.vss y.a) (Sm.tbs y.a) (Sm.cls y.a) (Sm.kss y.a) (Sm.uss y.a) w w')=>hB' w' ((hu.next (m:=Sm.uss y.a+Sm.uss y.b) ha2 (by omega)).next h (Nat.le_refl _));refine qB 2 ?_;(repeat' first|refine qA 2 ?_|refine qJe (nN [0]) fun x hx=>?_|refine qp ?_ ?_|refine qk (fun h=>?_) fun h=>?_|fail);(exact ⟨(i+1,x),by (try simp only[A.reset,zD0,hI.e]);rfl,⟨by simp only;omega,by have:=ha2.trans hx;simp only[yP0 h,Ex.vss_app,Ex.partss_app,Ex.vss_one,Ex.partss_one] at this |-;simpa [List.append_assoc,Nat.add_assoc] using this⟩,by simp only;omega⟩);(rw[List.take_of_length_le (by omega)] at ha2;exact hR _ _ ⟨_,(ha2.trans (by assumption)).trans hx,rfl,by simp[hI.e]⟩))
  | cbv
 all_goals have kd:∀{V T C n} {w:Us},Usd V T C [] n u w->n<=2->y.k≠8->y.k≠10->Usd (V++[]) (T++[]) (C++[]) ([]++[y.k]) (n+0) u w:=fun h hn h8 h10=>h.trans (.kd (hu.next h (by omega)) h8 h10)
 all_goals first
  | exact ⟨(0,x),by simp only[hI.e];rfl,⟨by simp,by simpa [*,Ex.vss,Ex.tbs,Ex.cls,Ex.partss,hI.e] using (kd hx (by omega) (by omega) (by omega)).more (m:=2) (by omega)⟩⟩
  | exact ⟨(0,{ u with ts:=x }),by simp only[hI.e];rfl,⟨by simp,by simpa [*,Ex.vss,Ex.tbs,Ex.cls,Ex.partss,hI.e] using (kd (Usd.tab (hu.less (by omega)) hx) (by omega) (by omega) (by omega)).more (m:=2) (by omega)⟩⟩
  | (rename_i w0 hw0;exact ⟨(0,{ w0 with ts:=x }),by simp only[hI.e];rfl,⟨by simp,by simpa [*,Ex.vss,Ex.tbs,Ex.cls,Ex.partss,hI.e] using (kd (hw0.trans (Usd.tab (hu.next hw0 (by omega)) hx)) (by omega) (by omega) (by omega)).more (m:=2) (by omega)⟩⟩)
  | exact ⟨(0,{ u with bad:=true }),by simp only[hI.e];rfl,⟨by simp,by simpa [*,Ex.vss,Ex.tbs,Ex.cls,Ex.partss,hI.e] using (Usd.bd8 (u:=u) (k:=y.k) (b:=true) (hu.less (by omega)) (by simp[*])).more (m:=2) (by omega)⟩⟩
  | exact ⟨(0,{ u with bad:=bnot u.line }),by simp only[hI.e];rfl,⟨by simp,by simpa [*,Ex.vss,Ex.tbs,Ex.cls,Ex.partss,hI.e] using (Usd.bd8 (k:=y.k) (b:=bnot u.line) (hu.less (by omega)) (by cases hq:u.line<;>simp[*,F.r18,F.r19])).more (m:=2) (by omega)⟩⟩
  | exact ⟨(0,{ u with bad:=bnot u.fn }),by simp only[hI.e];rfl,⟨by simp,by simpa [*,Ex.vss,Ex.tbs,Ex.cls,Ex.partss,hI.e] using (Usd.bd8 (k:=y.k) (b:=bnot u.fn) (hu.less (by omega)) (by cases hq:u.fn<;>simp[*,F.r18,F.r19])).more (m:=2) (by omega)⟩⟩
  | exact ⟨(0,u),by simp only[hI.e];rfl,⟨by simp,by simpa [*,Ex.vss,Ex.tbs,Ex.cls,Ex.partss,hI.e] using (kd (Usd.nil hu) (by omega) (by omega) (by omega)).more (m:=2) (by omega)⟩⟩
  | trace_state
variable {I:∀{α:Type},α->α}
abbrev useB (vt tt ct pt:List (List T)) (fn line bad:Bool):Option (List A):=some [.ow (0,0) false 1 vt,.ow (0,0) false 1 tt,.ow (0,0) false 4 ct,.ro true pt,.lit (.bool fn),.lit (.bool line),.lit (.bool bad)]
abbrev UseS (f:FuncId) (av:AV) (VV TT:List ByteArray) (CC:List Ex) (KS:List Int) (n:Nat):Prop:=∀(ps vs ts:List ByteArray) (cs:List Ex) (pt vt tt ct:List (List T)) (fn line bad:Bool),pt=strs ps->ps.length<=1073741824->vt=strs vs->tt=strs ts->ct=cs.map Ex.t->Asc vs->Asc ts->
 vs.length+n<=1073741824->ts.length+n<=1073741824->cs.length+n<=1073741824->ACl Tryz.prog f [⟨.one,[.ptr 0 0]⟩,av] [useB vt tt ct pt fn line bad]
  (fun res bx=>∃vs' ts' cs' vt' tt' ct' bad',vt'=strs vs'/\tt'=strs ts'/\ct'=cs'.map Ex.t/\Uses ps VV TT CC n vs ts cs vs' ts' cs'/\BadQ fn line bad KS bad'/\res=⟨.tup [],[]⟩/\bx=[useB vt' tt' ct' pt fn line bad'])
theorem UseI.to {f:FuncId} {av:AV} {V T:List ByteArray} {C:List Ex} {K:List Int} {n:Nat} (h:UseI @id f av V T C K n):UseS f av V T C K n:=by
 intro ps vs ts cs pt vt tt ct fn line bad hpt hpl hvt htt hct ha1 ha2 hv ht hc;subst hpt hvt htt hct;refine acI (h ⟨vs,ts,cs,ps,fn,line,bad⟩ ⟨hpl,ha1,ha2,hv,ht,hc⟩) ?_;rintro res bx ⟨⟨vs',ts',cs',ps',fn',ln',bad'⟩,⟨h1,h2,h3,h4,h5⟩,h6,h7⟩;simp only at h1 h2 h3 h4 h5;subst h3 h4 h5;exact ⟨vs',ts',cs',_,_,_,bad',rfl,rfl,rfl,h1,h2,h6,h7⟩
abbrev UseQ (f:FuncId) (av:AV) (VV TT:List ByteArray) (CC:List Ex) (n:Nat):Prop:=∀(ps vs ts:List ByteArray) (cs:List Ex) (pt vt tt ct:List (List T)) (fn line bad:Bool),pt=strs ps->ps.length<=1073741824->vt=strs vs->tt=strs ts->ct=cs.map Ex.t->Asc vs->Asc ts->
 vs.length+n<=1073741824->ts.length+n<=1073741824->cs.length+n<=1073741824->ACl Tryz.prog f [⟨.one,[.ptr 0 0]⟩,av] [useB vt tt ct pt fn line bad]
  (fun res bx=>∃vs' ts' cs' vt' tt' ct',vt'=strs vs'/\tt'=strs ts'/\ct'=cs'.map Ex.t/\Uses ps VV TT CC n vs ts cs vs' ts' cs'/\res=⟨.tup [],[]⟩/\bx=[useB vt' tt' ct' pt fn line bad])
theorem DG0 (e:Ex) (hz:e.sz<=1048576):UseQ 108 (agT e.t) e.vs e.tb e.cl e.parts:=by
 rw[rL1];intro ps vs ts cs pt vt tt ct fn line bad h1 h2 h3 h4 h5 h6 h7 h8 h9 h10;refine acI ((dM0 (I:=@id) rfl e hz).to ps vs ts cs pt vt tt ct fn line bad h1 h2 h3 h4 h5 h6 h7 h8 h9 h10) ?_;rintro res bx ⟨vs',ts',cs',vt',tt',ct',bad',q1,q2,q3,q4,q5,q6,q7⟩;obtain rfl:bad'=bad:=Bool.eq_iff_iff.2 (by simpa [BadQ] using q5)
 exact ⟨vs',ts',cs',vt',tt',ct',q1,q2,q3,q4,q6,q7⟩
theorem rA0 (l:List Sm) (hl:l.length<=1048576) (hz:∀y∈l,y.sz<=1048576) (al:List (List T)) (hal:al=l.map Sm.t):UseS 107 ⟨.one,[.ro true al]⟩ (Sm.vss l) (Sm.tbs l) (Sm.cls l) (Sm.kss l) (Sm.uss l):=by
 subst hal;exact (uC0 (I:=@id) rfl l hl fun y hy=>KA0 rfl y (hz y hy)).to
def Ru.hd (r:Ru):List Ex:=if r.k=4 then [r.p] else []
def Fu.vP (l:List Fu) (s:ByteArray):Prop:=∃f∈l,s∈Sm.vss f.a/\s∉f.params
def Fu.tP (l:List Fu) (s:ByteArray):Prop:=∃f∈l,s∈Sm.tbs f.a
def Fu.clsL (l:List Fu):List Ex:=l.flatMap fun f=>Sm.cls f.a
def Fu.bP (l:List Fu):Prop:=∃f∈l,(8:Int)∈Sm.kss f.a
def Ru.vP (l:List Ru) (s:ByteArray):Prop:=∃r∈l,s∈Ex.vss r.hd\/s∈Sm.vss r.a
def Ru.tP (l:List Ru) (s:ByteArray):Prop:=∃r∈l,s∈Ex.tbs r.hd\/s∈Sm.tbs r.a
def Ru.clsL (l:List Ru):List Ex:=l.flatMap fun r=>Ex.cls r.hd++Sm.cls r.a
def Ru.bP (l:List Ru):Prop:=∃r∈l,(¬(r.k=3\/r.k=4)/\(8:Int)∈Sm.kss r.a)\/(10:Int)∈Sm.kss r.a
def Fu.us (l:List Fu):Nat:=(l.map fun f=>Sm.uss f.a).sum
def Ru.us (l:List Ru):Nat:=(l.map fun r=>Ex.partss r.hd+Sm.uss r.a).sum
mutual
theorem Sm.us_le:∀y:Sm,y.us<=2+2 * y.sz
 | .mk k s t x a b=>by
  have h1:=Sm.uss_le a;have h2:=Sm.uss_le b;have h3:=Ex.partss_le x;rw[Sm.us,Sm.sz];omega
theorem Sm.uss_le:∀l:List Sm,Sm.uss l<=2 * (l.length+Sm.szs l)
 | []=>by simp[Sm.uss]
 | y::l=>by
  have h1:=Sm.us_le y;have h2:=Sm.uss_le l;rw[Sm.uss,Sm.szs,List.length_cons];omega
end
theorem Fu.us_le (l:List Fu):Fu.us l<=2 * Fu.szs l:=by
 induction l with
 | nil=>simp[Fu.us,Fu.szs]
 | cons f l ih=>
  have:=Sm.uss_le f.a;simp only[Fu.us,Fu.szs,List.map_cons,List.sum_cons,Fu.sz] at *;omega
theorem Ru.us_le (l:List Ru):Ru.us l<=l.length+2 * Ru.szs l:=by
 induction l with
 | nil=>simp[Ru.us,Ru.szs]
 | cons r l ih=>
  have h1:=Sm.uss_le r.a;have h2:=Ex.parts_le r.p;have h3:Ex.partss r.hd<=r.p.parts:=by
   unfold Ru.hd;split
   ·rw[Ex.partss_one];omega
   ·simp[Ex.partss]
  simp only[Ru.us,Ru.szs,List.map_cons,List.sum_cons,Ru.sz,List.length_cons] at *;omega
def UsesP (V T:ByteArray->Prop) (C:List Ex) (n:Nat) (vs ts:List ByteArray) (cs:List Ex) (vs' ts':List ByteArray) (cs':List Ex):Prop:=
 Asc vs'/\Asc ts'/\(∀s,s∈vs'↔s∈vs\/V s)/\(∀s,s∈ts'↔s∈ts\/T s)/\cs'=cs++C/\vs'.length<=vs.length+n/\ts'.length<=ts.length+n/\C.length<=n
theorem Uses.toP {ps V T:List ByteArray} {C:List Ex} {n:Nat} {vs ts vs' ts':List ByteArray} {cs cs':List Ex} (h:Uses ps V T C n vs ts cs vs' ts' cs'):UsesP (fun s=>s∈V/\s∉ps) (·∈T) C n vs ts cs vs' ts' cs':=h
theorem UsesP.trans {V T V' T' V2 T2:ByteArray->Prop} {C C' C2:List Ex} {n n' n2:Nat} {a1 a2 b1 b2 c1 c2:List ByteArray} {a3 b3 c3:List Ex} (h:UsesP V T C n a1 a2 a3 b1 b2 b3) (h':UsesP V' T' C' n' b1 b2 b3 c1 c2 c3)
  (hV:∀s,V2 s↔V s\/V' s) (hT:∀s,T2 s↔T s\/T' s) (hC:C2=C++C') (hn:n2=n+n'):UsesP V2 T2 C2 n2 a1 a2 a3 c1 c2 c3:=by
 obtain ⟨g1,g2,g3,g4,g5,g6,g7,g8⟩:=h;obtain ⟨k1,k2,k3,k4,k5,k6,k7,k8⟩:=h';subst hC;subst hn;refine ⟨k1,k2,fun s=>?_,fun s=>?_,by rw[k5,g5,List.append_assoc],by omega,by omega,by rw[List.length_append];omega⟩
 ·rw[k3,g3,hV,or_assoc]
 ·rw[k4,g4,hT,or_assoc]
theorem rJ1 {l:List Fu} {f:Fu} {i:Nat} (h:l.take (i+1)=l.take i++[f]):(∀s,Fu.vP (l.take (i+1)) s↔Fu.vP (l.take i) s\/(s∈Sm.vss f.a/\s∉f.params))/\(∀s,Fu.tP (l.take (i+1)) s↔Fu.tP (l.take i) s\/s∈Sm.tbs f.a)/\
  Fu.clsL (l.take (i+1))=Fu.clsL (l.take i)++Sm.cls f.a/\(Fu.bP (l.take (i+1))↔Fu.bP (l.take i)\/(8:Int)∈Sm.kss f.a)/\Fu.us (l.take (i+1))=Fu.us (l.take i)+Sm.uss f.a:=by
 rw[h];generalize l.take i=m;refine ⟨fun s=>?_,fun s=>?_,?_,?_,?_⟩
 ·simp[Fu.vP,List.mem_append,or_and_right,exists_or]
 ·simp[Fu.tP,List.mem_append,or_and_right,exists_or]
 ·simp[Fu.clsL]
 ·simp[Fu.bP,List.mem_append,or_and_right,exists_or]
 ·simp[Fu.us]
theorem tH1 {l:List Ru} {f:Ru} {i:Nat} (h:l.take (i+1)=l.take i++[f]):(∀s,Ru.vP (l.take (i+1)) s↔Ru.vP (l.take i) s\/(s∈Ex.vss f.hd\/s∈Sm.vss f.a))/\(∀s,Ru.tP (l.take (i+1)) s↔Ru.tP (l.take i) s\/(s∈Ex.tbs f.hd\/s∈Sm.tbs f.a))/\
  Ru.clsL (l.take (i+1))=Ru.clsL (l.take i)++(Ex.cls f.hd++Sm.cls f.a)/\(Ru.bP (l.take (i+1))↔Ru.bP (l.take i)\/((¬(f.k=3\/f.k=4)/\(8:Int)∈Sm.kss f.a)\/(10:Int)∈Sm.kss f.a))/\Ru.us (l.take (i+1))=Ru.us (l.take i)+(Ex.partss f.hd+Sm.uss f.a):=by
 rw[h];generalize l.take i=m;refine ⟨fun s=>?_,fun s=>?_,?_,?_,?_⟩
 ·simp[Ru.vP,List.mem_append,or_and_right,exists_or]
 ·simp[Ru.tP,List.mem_append,or_and_right,exists_or]
 ·simp[Ru.clsL]
 ·simp[Ru.bP,List.mem_append,or_and_right,exists_or]
 ·simp[Ru.us]
theorem Fu.us_take (l:List Fu) (i:Nat):Fu.us (l.take i)<=Fu.us l:=by
 have h:Fu.us (l.take i++l.drop i)=Fu.us (l.take i)+Fu.us (l.drop i):=by
  simp only[Fu.us,List.map_append,List.sum_append]
 rw[List.take_append_drop] at h;omega
theorem Ru.us_take (l:List Ru) (i:Nat):Ru.us (l.take i)<=Ru.us l:=by
 have h:Ru.us (l.take i++l.drop i)=Ru.us (l.take i)+Ru.us (l.drop i):=by
  simp only[Ru.us,List.map_append,List.sum_append]
 rw[List.take_append_drop] at h;omega
def NF0 (p:Pg) (vs ts:List ByteArray) (cs:List Ex) (bad:Bool):Prop:=
 Asc vs/\Asc ts/\(∀s,s∈vs↔Fu.vP p.fns s\/Ru.vP p.rules s)/\(∀s,s∈ts↔Fu.tP p.fns s\/Ru.tP p.rules s)/\cs=Fu.clsL p.fns++Ru.clsL p.rules/\(bad=true↔Fu.bP p.fns\/Ru.bP p.rules)/\
 vs.length<=8388608/\ts.length<=8388608/\cs.length<=8388608
def kkU (r:Root) (c:Nat):Option Nat:=match r with
 | .box 1=>match c with
  | 0=>some 1
  | 1=>some 1
  | 2=>some 4
  | 3=>some 1
  | _=>none
 | _=>none
def invU6 (pc:List A) (l:List Fu) (N:Nat) (σ:AS):Prop:=
 ∃(i:Nat) (vs' ts':List ByteArray) (cs':List Ex) (vt tt ct pt:List (List T)) (fn line bad:Bool),σ=⟨vag 95 [(1,⟨.one,[.ptr 0 0]⟩),(3,⟨.one,[.ptr 1 0]⟩),(4,litI (Int.ofNat i))],[some pc,useB vt tt ct pt fn line bad],1⟩/\i<=l.length/\
  vt=strs vs'/\tt=strs ts'/\ct=cs'.map Ex.t/\UsesP (Fu.vP (l.take i)) (Fu.tP (l.take i)) (Fu.clsL (l.take i)) (Fu.us (l.take i)) [] [] [] vs' ts' cs'/\(bad=true↔Fu.bP (l.take i))/\N=l.length - i
def invU7 (pc:List A) (p:Pg) (l:List Ru) (N:Nat) (σ:AS):Prop:=
 ∃(i:Nat) (vs' ts':List ByteArray) (cs':List Ex) (vt tt ct:List (List T)) (line bad:Bool),σ=⟨vag 95 [(1,⟨.one,[.ptr 0 0]⟩),(3,⟨.one,[.ptr 1 0]⟩),(5,litI (Int.ofNat i))],[some pc,useB vt tt ct [] false line bad],1⟩/\i<=l.length/\
  vt=strs vs'/\tt=strs ts'/\ct=cs'.map Ex.t/\UsesP (fun s=>Fu.vP p.fns s\/Ru.vP (l.take i) s) (fun s=>Fu.tP p.fns s\/Ru.tP (l.take i) s) (Fu.clsL p.fns++Ru.clsL (l.take i)) (Fu.us p.fns+Ru.us (l.take i)) [] [] [] vs' ts' cs'/\(bad=true↔Fu.bP p.fns\/Ru.bP (l.take i))/\N=l.length - i
theorem DF0 (p:Pg) (hz:p.sz<=1048576):ACl Tryz.prog 58 [agT p.t] [] (fun res bx=>∃vs ts cs vt tt ct pt fn line bad,NF0 p vs ts cs bad/\vt=strs vs/\tt=strs ts/\ct=cs.map Ex.t/\res=⟨.one,[.ptr 1 0]⟩/\bx=[some [.ro true (p.rules.map Ru.t),.ro true (p.fns.map Fu.t)],useB vt tt ct pt fn line bad]):=by
 rw[Pg.sz] at hz;have hrz:∀r∈p.rules,r.sz<=1048576:=fun r hr=>by have:=Ru.szs_mem hr;omega
 have hfz:∀f∈p.fns,f.sz<=1048576:=fun f hf=>by have:=Fu.szs_mem hf;omega
 have hfu:=Fu.us_le p.fns;have hru:=Ru.us_le p.rules;rw[fP0];obtain ⟨rl,hrl⟩:=qX (p.rules.map Ru.t);obtain ⟨fl,hfl⟩:=qX (p.fns.map Fu.t);rw[<-hrl,<-hfl];refine qF tyK Tryz.func58 95 [.tmp 2] ?_;unhygienic intros
 obtain ⟨pc,hpc⟩:=qX ([.ro true rl,.ro true fl]:List A);obtain ⟨N,hN⟩:=qX p.fns.length;obtain ⟨M,hM'⟩:=qX p.rules.length;have lf:len fl=N:=lnO hO (by simp[hfl,hN])
 have lr:len rl=M:=lnO hO (by simp[hrl,hM'])
 have hallf:all fl 3:=alO hO (by rw[hfl];simp[Fu.t_len])
 have hallr:all rl 6:=alO hO (by rw[hrl];simp[Ru.t_len])
 revert hK K;refine qW 0 ?_;intro K hK;refine nW (nb:=2) (keep:=fun t=>t == 1 || t == 3 || t == 4) (kk:=kkU) (by simp at hC;simp[hC]) ?_
 try cbv
 refine nZ (.box 1) 3 ?_
 try cbv
 refine qL 2 [1,3,4] kk0 (invU6 pc p.fns) ?_ ?_
 ·cbv
  exact ⟨_,0,[],[],[],[],[],[],[],false,false,false,by rw[hpc];cbv,by simp,rfl,rfl,rfl,⟨trivial,trivial,by simp[Fu.vP],by simp[Fu.tP],by simp[Fu.clsL],by simp,by simp,by simp[Fu.clsL]⟩,by simp[Fu.bP],rfl⟩
 rintro m σ ⟨i,vs2,ts2,cs2,vt2,tt2,ct2,pt2,fn2,line2,bad2,rfl,g1,e4,e5,e6,hU2,hB2,rfl⟩;rw[<-hN] at g1 |-;rw[hpc];revert hK K;refine qW 0 ?_;intro K hK;simp only[lf];refine nC rfl (fun h3=>?_) (fun h3=>?_)
 ·have hlt:i < N:=qv3
  have e:bin .add .i64 (Int.ofNat i) 1=_:=iSc hO (by omega)
  have hidx:idx (Int.ofNat i) (len fl):=lf ▸ ixN hO hlt;obtain ⟨f,hfm,hf,htk,e1⟩:=mpA hO hfl (hN ▸ hlt);obtain ⟨s1,s2,s3,s4,s5⟩:=rJ1 htk;have hpl:=Fu.us_take p.fns (i+1);obtain ⟨u1,u2,u3,u4,u5,u6,u7,u8⟩:=id hU2;simp only[List.length_nil,Nat.zero_add,List.nil_append] at u5 u6 u7;have hcl2:cs2.length+Sm.uss f.a<=1073741824:=by rw[u5];omega
  have hfs:=hfz f hfm;rw[Fu.sz] at hfs;have hpn:f.params.length<=1073741824:=by omega
  obtain ⟨pt,hpt⟩:=qX (strs f.params);obtain ⟨al,hal⟩:=qX (f.a.map Sm.t);have hcall:=rA0 f.a (by omega) (fun y hy=>by have:=Sm.szs_mem hy;omega) al hal f.params vs2 ts2 cs2 pt vt2 tt2 ct2 true false bad2 hpt hpn e4 e5 e6 u1 u2 (by omega) (by omega) hcl2
  have e2:get fl (nat (Int.ofNat i))=[T.lit (.string f.name),.sl pt,.sl al]:=by rw[hpt,hal];exact e1
  generalize f.name=fname at e2;clear hru hrz hfz hfs;refine qO ?_
  repeat' first|(revert hK K;refine qV 0 ?_;intro K hK)|(refine qK (fun _=>?_) fun _=>?_)|(simp only[e2];try cbv)|(with_reducible refine ndC ?h ?_;case h=>first | exact hidx | exact hallf)|(refine qg (nN [1]) ?_;refine qC ?_;refine qD hP hcall ?_;rintro res bx ⟨vs3,ts3,cs3,vt3,tt3,ct3,bad3,q1,q2,q3,hU3,hB3,rfl,rfl⟩;refine qC ?_)|fail
  rw[e];exact ⟨N - (i+1),by omega,i+1,vs3,ts3,cs3,vt3,tt3,ct3,pt,true,false,bad3,by (try rw[hpc]);cbv,by omega,q1,q2,q3,hU2.trans hU3.toP s1 s2 s3 s5,by rw[s4,<-hB2];simpa [BadQ] using hB3,by rw[hN]⟩
 ·have hge:i=N:=qw3
  subst hge;rw[hN,List.take_length] at hU2 hB2;clear h3 g1 lf hallf hfz;revert hK K;refine qW 0 ?_;intro K hK;refine nZ (.box 1) 3 ?_
  try cbv
  refine qL 2 [1,3,5] kk0 (invU7 pc p p.rules) ?_ ?_
  ·cbv
   exact ⟨_,0,vs2,ts2,cs2,vt2,tt2,ct2,line2,bad2,by rw[hpc];cbv,by simp,e4,e5,e6,by simpa [Ru.vP,Ru.tP,Ru.clsL,Ru.us] using hU2,by simpa [Ru.bP] using hB2,rfl⟩
  clear hU2 hB2 e4 e5 e6;rintro m σ ⟨i,vs2,ts2,cs2,vt2,tt2,ct2,line2,bad2,rfl,g1,e4,e5,e6,hU2,hB2,rfl⟩;rw[<-hM'] at g1 |-;rw[hpc];revert hK K;refine qW 0 ?_;intro K hK;simp only[lr];refine nC rfl (fun h3=>?_) (fun h3=>?_)
  ·have hlt:i < M:=qv3
   have e:bin .add .i64 (Int.ofNat i) 1=_:=iSc hO (by omega)
   have hidx:idx (Int.ofNat i) (len rl):=lr ▸ ixN hO hlt;obtain ⟨f,hfm,hf,htk,e1⟩:=mpA hO hrl (hM' ▸ hlt);obtain ⟨s1,s2,s3,s4,s5⟩:=tH1 htk;have hpl:=Ru.us_take p.rules (i+1);obtain ⟨u1,u2,u3,u4,u5,u6,u7,u8⟩:=id hU2;simp only[List.length_nil,Nat.zero_add,List.nil_append] at u5 u6 u7;have hfs:=hrz f hfm;rw[Ru.sz] at hfs;obtain ⟨al,hal⟩:=qX (f.a.map Sm.t);have hc:∀c:Int,cmp .eql f.k c=true↔f.k=c:=fun c=>by cases hO;simp only[Ops.std,sCm,beq_iff_eq]
   have hcf:∀c:Int,f.k≠c->cmp .eql f.k c=false:=fun c h=>by
    cases hb:cmp .eql f.k c with
    | false=>rfl
    | true=>exact absurd ((hc c).1 hb) h
   by_cases k4:f.k=4
   ·have hhd:f.hd=[f.p]:=by rw[Ru.hd,if_pos k4]
    rw[hhd] at s1 s2 s3 s5;simp only[Ex.vss,Ex.tbs,Ex.cls,List.append_nil,Ex.partss,Nat.add_zero] at s1 s2 s3 s5;have c3:=hcf 3 (by omega)
    have c4:=(hc 4).2 k4;have hcl1:cs2.length+f.p.parts<=1073741824:=by rw[u5];omega
    have hcall1:=DG0 f.p (by omega) [] vs2 ts2 cs2 [] vt2 tt2 ct2 false true bad2 rfl (by simp) e4 e5 e6 u1 u2 (by omega) (by omega) hcl1
    have hB2':∀bad3,BadQ false true bad2 (Sm.kss f.a) bad3->(bad3=true↔Fu.bP p.fns\/Ru.bP (p.rules.take (i+1))):=fun bad3 h=>by
     rw[s4,<-or_assoc,<-hB2];simpa [BadQ,k4] using h
    have hcall2:∀vs3 ts3 cs3 vt3 tt3 ct3,vt3=strs vs3->tt3=strs ts3->ct3=cs3.map Ex.t->Uses [] f.p.vs f.p.tb f.p.cl f.p.parts vs2 ts2 cs2 vs3 ts3 cs3->_:=fun vs3 ts3 cs3 vt3 tt3 ct3 a1 a2 a3 hU=>rA0 f.a (by omega) (fun y hy=>by have:=Sm.szs_mem hy;omega) al hal [] vs3 ts3 cs3 [] vt3 tt3 ct3 false true bad2 rfl (by simp) a1 a2 a3 hU.1 hU.2.1 (by have:=hU.2.2.2.2.2.1;omega) (by have:=hU.2.2.2.2.2.2.1;omega) (by rw[hU.2.2.2.2.1,List.length_append,u5];have:=hU.2.2.2.2.2.2.2;omega)
    generalize hfp:f.p=fp at *;obtain ⟨ek,en,es,el⟩:=fp;have e2:get rl (nat (Int.ofNat i))=[T.lit (.int .i64 f.k),.lit (.int .i64 ek),.lit (.int .i64 en),.lit (.string es),.sl (el.map Ex.t),.sl al]:=Eq.trans e1 (by rw[Ru.t,hfp,Ex.t_mk,hal];rfl)
    simp only[agT,Ex.t_mk,List.map,tA] at hcall1;generalize el.map Ex.t=xl' at hcall1 e2;clear hru hrz hfs;refine qO ?_
    repeat' first|(revert hK K;refine qV 0 ?_;intro K hK)|(refine qK (fun _=>?_) fun _=>?_)|(simp only[e2,c3,c4];try cbv)|(with_reducible refine ndC ?h ?_;case h=>first | exact hidx | exact hallr)|(refine qg (nN [1]) ?_;refine qC ?_;refine qD hP hcall1 ?_;rintro res bx ⟨vs3,ts3,cs3,vt3,tt3,ct3,q1,q2,q3,hU3,rfl,rfl⟩;refine qC ?_)|(refine qg (nN [1]) ?_;refine qC ?_;refine qD hP ((hcall2 vs3 ts3 cs3 vt3 tt3 ct3 q1 q2 q3 hU3)) ?_;rintro res bx ⟨vs4,ts4,cs4,vt4,tt4,ct4,bad4,r1,r2,r3,hU4,hB4,rfl,rfl⟩;refine qC ?_)|fail
    rw[e];have hU5:=hU3.trans hU4;exact ⟨M - (i+1),by omega,i+1,vs4,ts4,cs4,vt4,tt4,ct4,true,bad4,by (try rw[hpc]);cbv,by omega,r1,r2,r3,hU2.trans hU5.toP (fun s=>by rw[s1];simp[or_assoc]) (fun s=>by rw[s2];simp[or_assoc]) (by rw[s3];simp) (by rw[s5];omega),hB2' _ hB4,by rw[hM']⟩
   ·have hhd:f.hd=[]:=by rw[Ru.hd,if_neg k4]
    rw[hhd] at s1 s2 s3 s5;simp only[Ex.vss,Ex.tbs,Ex.cls,List.nil_append,Ex.partss,Nat.zero_add,List.not_mem_nil,false_or] at s1 s2 s3 s5;have c4:=hcf 4 k4;have hcl1:cs2.length+Sm.uss f.a<=1073741824:=by rw[u5];omega
    by_cases k3:f.k=3
    ·have c3:=(hc 3).2 k3
     have hB2':∀bad3,BadQ false true bad2 (Sm.kss f.a) bad3->(bad3=true↔Fu.bP p.fns\/Ru.bP (p.rules.take (i+1))):=fun bad3 h=>by
      rw[s4,<-or_assoc,<-hB2];simpa [BadQ,k3,k4] using h
     have hcall2:=rA0 f.a (by omega) (fun y hy=>by have:=Sm.szs_mem hy;omega) al hal [] vs2 ts2 cs2 [] vt2 tt2 ct2 false true bad2 rfl (by simp) e4 e5 e6 u1 u2 (by omega) (by omega) hcl1
     generalize hfp:f.p=fp at *;obtain ⟨ek,en,es,el⟩:=fp;have e2:get rl (nat (Int.ofNat i))=[T.lit (.int .i64 f.k),.lit (.int .i64 ek),.lit (.int .i64 en),.lit (.string es),.sl (el.map Ex.t),.sl al]:=Eq.trans e1 (by rw[Ru.t,hfp,Ex.t_mk,hal];rfl)
     generalize el.map Ex.t=xl' at e2;clear hru hrz hfs;refine qO ?_
     repeat' first|(revert hK K;refine qV 0 ?_;intro K hK)|(refine qK (fun _=>?_) fun _=>?_)|(simp only[e2,c3,c4];try cbv)|(with_reducible refine ndC ?h ?_;case h=>first | exact hidx | exact hallr)|(refine qg (nN [1]) ?_;refine qC ?_;refine qD hP hcall2 ?_;rintro res bx ⟨vs4,ts4,cs4,vt4,tt4,ct4,bad4,r1,r2,r3,hU4,hB4,rfl,rfl⟩;refine qC ?_)|fail
     rw[e];exact ⟨M - (i+1),by omega,i+1,vs4,ts4,cs4,vt4,tt4,ct4,true,bad4,by (try rw[hpc]);cbv,by omega,r1,r2,r3,hU2.trans hU4.toP (fun s=>by rw[s1];simp[or_assoc]) (fun s=>by rw[s2];simp[or_assoc]) (by rw[s3];simp) (by rw[s5];omega),hB2' _ hB4,by rw[hM']⟩
    ·have c3:=hcf 3 k3
     have hB2':∀bad3,BadQ false false bad2 (Sm.kss f.a) bad3->(bad3=true↔Fu.bP p.fns\/Ru.bP (p.rules.take (i+1))):=fun bad3 h=>by
      rw[s4,<-or_assoc,<-hB2];simpa [BadQ,k3,k4] using h
     have hcall2:=rA0 f.a (by omega) (fun y hy=>by have:=Sm.szs_mem hy;omega) al hal [] vs2 ts2 cs2 [] vt2 tt2 ct2 false false bad2 rfl (by simp) e4 e5 e6 u1 u2 (by omega) (by omega) hcl1
     generalize hfp:f.p=fp at *;obtain ⟨ek,en,es,el⟩:=fp;have e2:get rl (nat (Int.ofNat i))=[T.lit (.int .i64 f.k),.lit (.int .i64 ek),.lit (.int .i64 en),.lit (.string es),.sl (el.map Ex.t),.sl al]:=Eq.trans e1 (by rw[Ru.t,hfp,Ex.t_mk,hal];rfl)
     generalize el.map Ex.t=xl' at e2;clear hru hrz hfs;refine qO ?_
     repeat' first|(revert hK K;refine qV 0 ?_;intro K hK)|(refine qK (fun _=>?_) fun _=>?_)|(simp only[e2,c3,c4];try cbv)|(with_reducible refine ndC ?h ?_;case h=>first | exact hidx | exact hallr)|(refine qg (nN [1]) ?_;refine qC ?_;refine qD hP hcall2 ?_;rintro res bx ⟨vs4,ts4,cs4,vt4,tt4,ct4,bad4,r1,r2,r3,hU4,hB4,rfl,rfl⟩;refine qC ?_)|fail
     rw[e];exact ⟨M - (i+1),by omega,i+1,vs4,ts4,cs4,vt4,tt4,ct4,false,bad4,by (try rw[hpc]);cbv,by omega,r1,r2,r3,hU2.trans hU4.toP (fun s=>by rw[s1];simp[or_assoc]) (fun s=>by rw[s2];simp[or_assoc]) (by rw[s3];simp) (by rw[s5];omega),hB2' _ hB4,by rw[hM']⟩
  ·have hge:i=M:=qw3
   subst hge;rw[hM',List.take_length] at hU2 hB2;clear h3 g1;revert hK K;refine qW 0 ?_;intro K hK;obtain ⟨u1,u2,u3,u4,u5,u6,u7,u8⟩:=hU2;simp only[List.length_nil,Nat.zero_add,List.nil_append,List.not_mem_nil,false_or] at u3 u4 u5 u6 u7;exact hR _ _ ⟨vs2,ts2,cs2,vt2,tt2,ct2,[],false,line2,bad2,⟨u1,u2,u3,u4,u5,hB2,by omega,by omega,by rw[u5];omega⟩,e4,e5,e6,rfl,rfl⟩
variable {I:∀{α:Type},α->α}
def IsFn (l:List Fu) (s:ByteArray):Prop:=∃f∈l,f.name=s
theorem FnAtP.ge {l:List Fu} {s:ByteArray} {r:Int} (h:FnAtP l s r):0<=r↔IsFn l s:=by
 rcases h with ⟨i,f,rfl,h1,h2,h3⟩ | ⟨rfl,h1⟩
 ·exact ⟨fun _=>⟨f,List.mem_of_getElem? h1,h2⟩,fun _=>Int.natCast_nonneg i⟩
 ·exact ⟨fun h=>by omega,fun ⟨f,hf,he⟩=>absurd he (h1 f hf)⟩
def TwoP (p:Pg) (ts:List ByteArray) (s:ByteArray):Prop:=s∈ts\/IsFn p.fns s
def pA1 (p:Pg) (vs ts:List ByteArray):Prop:=(∃s∈vs,TwoP p ts s)\/(∃s∈ts,IsFn p.fns s)\/∃f∈p.fns,∃s∈f.params,TwoP p ts s
@[simp,reducible] def unB (I:∀{α:Type},α->α) (vs ts:List ByteArray) (cs:List Ex) (pt:List (List T)) (fn line bad:Bool):Option (List A):=some [.ow (0,0) false 1 (I (vs.map strT)),.ow (0,0) false 1 (I (ts.map strT)),.ow (0,0) false 4 (I (cs.map Ex.t)),.ro true (I pt),.lit (.bool (I fn)),.lit (.bool (I line)),.lit (.bool (I bad))]
theorem UP0 {l:List Fu} {s:ByteArray} {r:Int} (h:FnAtP l s r):-1<=r/\(0<=r->r.toNat < l.length):=by
 rcases h with ⟨i,f,rfl,h2,_⟩ | ⟨rfl,_⟩
 ·exact ⟨by show (-1:Int)<=(i:Int);omega,fun _=>(List.getElem?_eq_some_iff.1 h2).1⟩
 ·exact ⟨by omega,fun h=>by omega⟩
theorem vX0 {α:Type} [Inhabited α] {Q:α->Prop} {l:List α} {i:Nat} (h:i < l.length) (h1:∀x∈l.take i,¬Q x) (h2:¬Q l[i]!):∀x∈l.take (i+1),¬Q x:=qD0 h h1 h2
section
variable (hI:II @I) (p:Pg) (hz:p.sz<=1048576)
include hI hz
theorem PN0 (s:ByteArray):ACl Tryz.prog 60 [pA @I p,litS s] [] (fun res bx=>∃r:Int,(FnAtP p.fns s r∧-1<=r/\(0<=r->r.toNat < p.fns.length))/\res=litI (I r)/\bx=[]):=by
 rw[Pg.sz] at hz;simp only[pA,hI.e];exact acI (TQ0 _ _ p.fns rfl s (by omega)) fun _ _ ⟨r,h1,h2,h3⟩=>⟨r,⟨h1,UP0 h1⟩,h2,h3⟩
theorem KB0 (vs ts:List ByteArray) (cs:List Ex) (pt:List (List T)) (fn line bad:Bool) (hv:vs.length<=8388608) (ht:ts.length<=8388608) :
  ACl Tryz.prog 59 [pA @I p,⟨.one,[.ptr 0 0]⟩] [unB @I vs ts cs pt fn line bad] (fun res bx=>res=litB (I (bB (pA1 p vs ts)))/\bx=[unB @I vs ts cs pt fn line bad]):=by
 have c1:=fun s=>QB.of hI (PK0 ts (I (ts.map strT)) s (by rw[hI.e];rfl) (by omega))
 have c2:=PN0 hI p hz;have hfz:∀f∈p.fns,f.params.length<=1048576:=fun f hf=>by have:=Fu.szs_mem hf;rw[Pg.sz] at hz;rw[Fu.sz] at this;omega
 have hfl:p.fns.length<=1048576:=by rw[Pg.sz] at hz;omega
 have hge:∀{s:ByteArray} {x:Int},FnAtP p.fns (I s) x->(0<=x↔IsFn p.fns s):=fun h=>by rw[hI.e] at h;exact h.ge
 refine qN hI tyK Tryz.func59 101 [.tmp 4] ?_;unhygienic intros
 refine qB 1 ?_;refine qLf 2 [1,2,5] kk0 (fun i:Nat=>⟨vag 101 [(1,⟨.one,[.ptr 0 0]⟩),(2,⟨.one,[.ptr 1 0]⟩),(5,litI (Int.ofNat (I i)))],[unB @I vs ts cs pt fn line bad,some (pA @I p).cs],1⟩) (fun i=>i<=vs.length/\∀s∈vs.take i,¬TwoP p ts s) (fun i=>vs.length - i) ?_ fun i hi=>?_
 ·cbv
  exact ⟨0,by simp only[hI.e];rfl,by simp,by simp⟩
 have q1:i < vs.length->_:=fun hh=>by have:=F.n7 i vs.length (I (vs.map strT)) (by rw[hI.e];simp) hh;rwa[F.r1] at this
 by_cases hh:i < vs.length
 ·have q1:=q1 hh
  refine qB 1 ?_
  repeat' first|refine qA 1 ?_|refine qJ (nN []) ?_|refine qJe (nN []) fun x hx=>?_|refine qp ?_ ?_|refine qk (fun h=>?_) fun h=>?_<;>try(exfalso;omega)|fail
  ·exact hR _ _ ⟨liP hI ⟨fun _=>.inl ⟨_,zB0 hh,.inl h⟩,fun _=>rfl⟩,rfl⟩
  ·exact hR _ _ ⟨liP hI ⟨fun _=>.inl ⟨_,zB0 hh,.inr ((hge hx.1).1 h)⟩,fun _=>rfl⟩,rfl⟩
  ·exact ⟨i+1,by (try simp only[A.reset,zD0,hI.e,List.append_assoc,Bool.or_false,zC0]);rfl,⟨by omega,vX0 hh hi.2 fun q=>q.elim (by assumption) fun q=>h ((hge hx.1).2 q)⟩,by omega⟩
 rw[List.take_of_length_le (by omega)] at hi
 have n1:=hi.2;clear hi q1;refine qB 1 ?_
 repeat' first|refine qA 1 ?_|refine qp ?_ ?_|refine qk (fun h=>?_) fun h=>?_<;>try(exfalso;omega)|fail
 refine qLf 2 [1,2,6] kk0 (fun i:Nat=>⟨vag 101 [(1,⟨.one,[.ptr 0 0]⟩),(2,⟨.one,[.ptr 1 0]⟩),(6,litI (Int.ofNat (I i)))],[unB @I vs ts cs pt fn line bad,some (pA @I p).cs],1⟩) (fun i=>i<=ts.length/\∀s∈ts.take i,¬IsFn p.fns s) (fun i=>ts.length - i) ?_ fun i hi=>?_
 ·cbv
  exact ⟨0,by simp only[hI.e];rfl,by simp,by simp⟩
 have q1:i < ts.length->_:=fun hh=>by have:=F.n7 i ts.length (I (ts.map strT)) (by rw[hI.e];simp) hh;rwa[F.r1] at this
 by_cases hh:i < ts.length
 ·have q1:=q1 hh
  refine qB 1 ?_
  repeat' first|refine qA 1 ?_|refine qJ (nN []) ?_|refine qJe (nN []) fun x hx=>?_|refine qp ?_ ?_|refine qk (fun h=>?_) fun h=>?_<;>try(exfalso;omega)|fail
  ·exact hR _ _ ⟨liP hI ⟨fun _=>.inr (.inl ⟨_,zB0 hh,(hge hx.1).1 h⟩),fun _=>rfl⟩,rfl⟩
  ·exact ⟨i+1,by (try simp only[A.reset,zD0,hI.e,List.append_assoc,Bool.or_false,zC0]);rfl,⟨by omega,vX0 hh hi.2 fun q=>h ((hge hx.1).2 q)⟩,by omega⟩
 rw[List.take_of_length_le (by omega)] at hi
 have n2:=hi.2;clear hi q1;refine qB 1 ?_
 repeat' first|refine qA 1 ?_|refine qp ?_ ?_|refine qk (fun h=>?_) fun h=>?_<;>try(exfalso;omega)|fail
 refine qLf 2 [1,2,7] kk0 (fun i:Nat=>⟨vag 101 [(1,⟨.one,[.ptr 0 0]⟩),(2,⟨.one,[.ptr 1 0]⟩),(7,litI (Int.ofNat (I i)))],[unB @I vs ts cs pt fn line bad,some (pA @I p).cs],1⟩) (fun i=>i<=p.fns.length/\∀f∈p.fns.take i,¬∃s∈f.params,TwoP p ts s) (fun i=>p.fns.length - i) ?_ fun i hi=>?_
 ·cbv
  exact ⟨0,by simp only[hI.e];rfl,by simp,by simp⟩
 by_cases hh:i < p.fns.length
 ·have hpl:=hfz _ (zB0 hh)
  refine qB 1 ?_
  repeat' first|refine qA 1 ?_|refine qp ?_ ?_|refine qk (fun h=>?_) fun h=>?_<;>try(exfalso;omega)|fail
  refine qLf 2 [1,2,7,8] kk0 (fun j:Nat=>⟨vag 101 [(1,⟨.one,[.ptr 0 0]⟩),(2,⟨.one,[.ptr 1 0]⟩),(7,litI (Int.ofNat (I i))),(8,litI (Int.ofNat (I j)))],[unB @I vs ts cs pt fn line bad,some (pA @I p).cs],1⟩) (fun j=>j<=(p.fns[i]!).params.length/\∀s∈(p.fns[i]!).params.take j,¬TwoP p ts s) (fun j=>(p.fns[i]!).params.length - j) ?_ fun j hj=>?_
  ·cbv
   exact ⟨0,by simp only[hI.e];rfl,by simp,by simp⟩
  refine qB 1 ?_
  repeat' first|refine qA 1 ?_|refine qJ (nN []) ?_|refine qJe (nN []) fun x hx=>?_|refine qp ?_ ?_|refine qk (fun h=>?_) fun h=>?_<;>try(exfalso;omega)|fail
  ·exact hR _ _ ⟨liP hI ⟨fun _=>.inr (.inr ⟨_,zB0 hh,_,zB0 ‹_›,.inl h⟩),fun _=>rfl⟩,rfl⟩
  ·exact hR _ _ ⟨liP hI ⟨fun _=>.inr (.inr ⟨_,zB0 hh,_,zB0 ‹_›,.inr ((hge hx.1).1 h)⟩),fun _=>rfl⟩,rfl⟩
  ·exact ⟨j+1,by (try simp only[A.reset,zD0,hI.e,List.append_assoc,Bool.or_false,zC0]);rfl,⟨by omega,vX0 ‹_› hj.2 fun q=>q.elim (by assumption) fun q=>h ((hge hx.1).2 q)⟩,by omega⟩
  ·rw[List.take_of_length_le (by omega)] at hj
   exact ⟨i+1,by (try simp only[A.reset,zD0,hI.e,List.append_assoc,Bool.or_false,zC0]);rfl,⟨by omega,vX0 hh hi.2 fun ⟨s,a,b⟩=>hj.2 s a b⟩,by omega⟩
 ·rw[List.take_of_length_le (by omega)] at hi
  refine qB 1 ?_
  repeat' first|refine qA 1 ?_|refine qp ?_ ?_|refine qk (fun h=>?_) fun h=>?_<;>try(exfalso;omega)|fail
  exact hR _ _ ⟨liP hI ⟨fun q=>by simp at q,fun q=>by rcases q with ⟨s,a,b⟩ | ⟨s,a,b⟩ | ⟨f,a,b⟩<;>first | exact absurd b (n1 s a) | exact absurd b (n2 s a) | exact absurd b (hi.2 f a)⟩,rfl⟩
end
def VN0 (p:Pg) (vs:List ByteArray):Prop:=(p.good->Asc vs/\∀s,s∈vs↔Fu.vP p.fns s\/Ru.vP p.rules s)/\(¬p.good->vs=[])
def pQ0 (p:Pg) (vs:List ByteArray):Prop:=(p.good->Asc vs/\∀s,s∈vs↔Fu.tP p.fns s\/Ru.tP p.rules s)/\(¬p.good->vs=[])
def VPof (p:Pg) (s:ByteArray):Prop:=Fu.vP p.fns s\/Ru.vP p.rules s
def TPof (p:Pg) (s:ByteArray):Prop:=Fu.tP p.fns s\/Ru.tP p.rules s
def BothS (p:Pg):Prop:=(∃s,VPof p s/\(TPof p s\/IsFn p.fns s))\/(∃s,TPof p s/\IsFn p.fns s)\/∃f∈p.fns,∃s∈f.params,TPof p s\/IsFn p.fns s
def qF0 (p:Pg) (e:Ex):Prop:=∃i f,FnAtP p.fns e.s (Int.ofNat i)/\p.fns[i]?=some f/\e.l.length<=f.params.length
def nQ0 (p:Pg):Prop:=∀e∈Fu.clsL p.fns++Ru.clsL p.rules,qF0 p e
def mZ0 (p:Pg):Prop:=Fu.bP p.fns\/Ru.bP p.rules
def CheckIs (p:Pg) (r:Int):Prop:=(¬p.good/\r=1)\/(p.good/\BothS p/\r=2)\/(p.good/\¬BothS p/\¬nQ0 p/\r=3)\/(p.good/\¬BothS p/\nQ0 p/\mZ0 p/\r=4)\/(p.good/\¬BothS p/\nQ0 p/\¬mZ0 p/\r=0)
theorem CheckIs.unique {p:Pg} {a b:Int} (h:CheckIs p a) (h':CheckIs p b):a=b:=by
 unfold CheckIs at *
 grind
theorem BothS.iff {p:Pg} {vs ts:List ByteArray} {cs:List Ex} {bad:Bool} (h:NF0 p vs ts cs bad):pA1 p vs ts↔BothS p:=by
 obtain ⟨_,_,h3,h4,_⟩:=h;unfold pA1 BothS TwoP VPof TPof;refine or_congr (exists_congr fun s=>?_) (or_congr (exists_congr fun s=>?_) (exists_congr fun f=>and_congr_right fun _=>exists_congr fun s=>and_congr_right fun _=>?_))
 ·rw[h3,h4]
 ·rw[h4]
 ·rw[h4]
variable {I:∀{α:Type},α->α}
theorem Ex.szl_le (e:Ex):e.l.length<=e.sz:=by cases e;rw[Ex.sz,Ex.l];omega
mutual
theorem Ex.cl_sz:∀(e:Ex),∀x∈e.cl,x.sz<=e.sz
 | .mk k n s l,x,hx=>by
  rw[Ex.cl] at hx;rcases List.mem_append.1 hx with hx | hx
  ·split at hx
   ·obtain rfl:=List.mem_singleton.1 hx;exact Nat.le_refl _
   ·simp at hx
  ·have:=Ex.cls_sz l x hx
   rw[Ex.sz];omega
theorem Ex.cls_sz:∀(l:List Ex),∀x∈Ex.cls l,x.sz<=Ex.szs l
 | [],x,hx=>by simp[Ex.cls] at hx
 | e::l,x,hx=>by
  rw[Ex.cls] at hx;rw[Ex.szs];rcases List.mem_append.1 hx with hx | hx
  ·have:=Ex.cl_sz e x hx;omega
  ·have:=Ex.cls_sz l x hx;omega
end
mutual
theorem Sm.cl_sz:∀(e:Sm),∀x∈e.cl,x.sz<=e.sz
 | .mk k s t y a b,x,hx=>by
  rw[Sm.cl] at hx;rw[Sm.sz];rcases List.mem_append.1 hx with hx | hx
  ·rcases List.mem_append.1 hx with hx | hx
   ·have:=Ex.cls_sz y x hx;omega
   ·have:=Sm.cls_sz a x hx;omega
  ·have:=Sm.cls_sz b x hx;omega
theorem Sm.cls_sz:∀(l:List Sm),∀x∈Sm.cls l,x.sz<=Sm.szs l
 | [],x,hx=>by simp[Sm.cls] at hx
 | e::l,x,hx=>by
  rw[Sm.cls] at hx;rw[Sm.szs];rcases List.mem_append.1 hx with hx | hx
  ·have:=Sm.cl_sz e x hx;omega
  ·have:=Sm.cls_sz l x hx;omega
end
theorem Ru.hd_sz (r:Ru):Ex.szs r.hd<=r.p.sz:=by
 unfold Ru.hd;split
 ·simp[Ex.szs]
 ·simp[Ex.szs]
theorem rP1 {p:Pg} {x:Ex} (hx:x∈Fu.clsL p.fns++Ru.clsL p.rules):x.sz<=p.sz:=by
 rw[Pg.sz];rcases List.mem_append.1 hx with hx | hx
 ·simp only[Fu.clsL,List.mem_flatMap] at hx
  obtain ⟨f,hf,hx⟩:=hx;have h1:=Sm.cls_sz f.a x hx;have h2:=Fu.szs_mem hf;rw[Fu.sz] at h2;omega
 ·simp only[Ru.clsL,List.mem_flatMap] at hx
  obtain ⟨f,hf,hx⟩:=hx;have h2:=Ru.szs_mem hf;rw[Ru.sz] at h2;rcases List.mem_append.1 hx with hx | hx
  ·have h1:=Ex.cls_sz f.hd x hx
   have:=Ru.hd_sz f;omega
  ·have h1:=Sm.cls_sz f.a x hx
   omega
structure Uq where
 vs:List ByteArray
 ts:List ByteArray
 cs:List Ex
 pt:List (List T)
 fn:Bool
 line:Bool
 bad:Bool
@[simp,reducible] def uqB (I:∀{α:Type},α->α) (u:Uq):Option (List A):=unB @I u.vs u.ts u.cs u.pt u.fn u.line u.bad
theorem PJ0 {p:Pg} {e:Ex} {r:Int} (h:FnAtP p.fns e.s r):qF0 p e↔0<=r/\e.l.length<=(p.fns[r.toNat]!).params.length:=by
 constructor
 ·rintro ⟨i,f,h1,h2,h3⟩
  obtain rfl:=h.unique h1;exact ⟨Int.natCast_nonneg i,by rw[List.getElem!_eq_getElem?_getD];simp only[Int.ofNat_eq_natCast,Int.toNat_natCast,h2];exact h3⟩
 ·rintro ⟨h1,h2⟩
  have hl:=(UP0 h).2 h1;exact ⟨r.toNat,_,by rw[show Int.ofNat r.toNat=r from Int.toNat_of_nonneg h1];exact h,List.getElem?_eq_getElem hl,by rwa[List.getElem!_eq_getElem?_getD,List.getElem?_eq_getElem hl] at h2⟩
theorem pA_I (hI:II @I) (p:Pg):agT p.t=pA @I p:=by rw[fP0];simp only[pA,hI.e]
section
variable (hI:II @I) (p:Pg) (hz:p.sz<=1048576)
include hI hz
theorem wM1:ACl Tryz.prog 58 [pA @I p] [] (fun res bx=>∃u:Uq,NF0 p u.vs u.ts u.cs u.bad/\res=⟨.one,[.ptr 1 0]⟩/\bx=[some (pA @I p).cs,uqB @I u]):=by
 have h:=DF0 p hz;rw[fP0] at h;simp only[pA,uqB,unB,hI.e];refine acI h ?_;rintro res bx ⟨vs,ts,cs,vt,tt,ct,pt,fn,line,bad,h1,rfl,rfl,rfl,rfl,rfl⟩;exact ⟨⟨vs,ts,cs,pt,fn,line,bad⟩,h1,rfl,rfl⟩
theorem zB1:ACl Tryz.prog 22 [pA @I p] [] (fun res bx=>∃r:Int,CheckIs p r/\res=litI r/\bx=[]):=by
 have c1:=QB.of hI (ZN0 p hz);rw[pA_I hI] at c1;have c2:=wM1 hI p hz;have c3:=fun (u:Uq) (h:NF0 p u.vs u.ts u.cs u.bad)=>KB0 hI p hz u.vs u.ts u.cs u.pt u.fn u.line u.bad h.2.2.2.2.2.2.1 h.2.2.2.2.2.2.2.1;have c4:=PN0 hI p hz;have hesz:=fun e he=>Nat.le_trans (rP1 (p:=p) (x:=e) he) hz;have hfz:∀f∈p.fns,f.params.length<=1048576:=fun f hf=>by have:=Fu.szs_mem hf;rw[Pg.sz] at hz;rw[Fu.sz] at this;omega
 refine qN hI tyK Tryz.func22 58 [.tmp 2] ?_;unhygienic intros
 refine qB 0 ?_
 repeat' first|refine qA 0 ?_|refine qJ (nN []) ?_|refine qJe (nN []) fun x hx=>?_|refine qJ (nN [2]) ?_|refine qp ?_ ?_|refine qk (fun h=>?_) fun h=>?_|fail
 ·exact hR _ _ ⟨1,.inl ⟨h,rfl⟩,rfl,rfl⟩
 ·exact hR _ _ ⟨2,.inr (.inl ⟨Classical.not_not.1 ‹_›,(BothS.iff hx).1 h,rfl⟩),rfl,rfl⟩
 rename Uq=>w
 have hb:¬BothS p:=fun q=>h ((BothS.iff hx).2 q);have hg:p.good:=Classical.not_not.1 (by assumption)
 obtain ⟨_,_,_,_,hcs,hbad,_,_,hcl⟩:=hx;rw[<-hcs] at hesz;have hco:nQ0 p↔∀e∈w.cs,qF0 p e:=by rw[hcs];exact Iff.rfl
 clear c1 c2 c3;refine qLf 3 [1,3,4] kk0 (fun i:Nat=>⟨vag 58 [(1,⟨.one,[.ptr 0 0]⟩),(3,⟨.one,[.ptr 2 0]⟩),(4,litI (Int.ofNat (I i)))],[some (pA @I p).cs,some (pA @I p).cs,uqB @I w],1⟩) (fun i=>i<=w.cs.length/\∀e∈w.cs.take i,qF0 p e) (fun i=>w.cs.length - i) ?_ fun i hi=>?_
 ·cbv
  exact ⟨0,by simp only[hI.e];rfl,by simp,by simp⟩
 have q1:i < w.cs.length->_:=fun hh=>by have:=F.n7 i w.cs.length (I (w.cs.map Ex.t)) (by rw[hI.e];simp) hh;rwa[F.r1] at this
 by_cases hh:i < w.cs.length
 ·have q1:=q1 hh
  have hl:(w.cs[i]!).l.length<=1048576:=by have:=hesz _ (zB0 hh);have:=Ex.szl_le w.cs[i]!;omega
  refine qB 0 ?_
  repeat' first|refine qA 0 ?_|refine qJe (nN []) fun x hx=>?_|refine qp ?_ ?_|refine qk (fun h=>?_) fun h=>?_<;>try(exfalso;omega)|fail
  all_goals (have hq:=PJ0 (p:=p) (e:=w.cs[i]!) (by rw[<-hI.e (w.cs[i]!).s];exact hx.1))
  ·exact hR _ _ ⟨3,.inr (.inr (.inl ⟨hg,hb,fun q=>by have:=(hq.1 (hco.1 q _ (zB0 hh))).1;omega,rfl⟩)),rfl,rfl⟩
  ·exact hR _ _ ⟨3,.inr (.inr (.inl ⟨hg,hb,fun q=>by have:=(hq.1 (hco.1 q _ (zB0 hh))).2;omega,rfl⟩)),rfl,rfl⟩
  ·exact ⟨i+1,by (try simp only[A.reset,zD0,hI.e,List.append_assoc,Bool.or_false,zC0]);rfl,⟨by omega,qD0 hh hi.2 (hq.2 ⟨by omega,by omega⟩)⟩,by omega⟩
 rw[List.take_of_length_le (by omega)] at hi
 have hc:=hco.2 hi.2;clear hi q1;refine qB 0 ?_
 repeat' first|refine qA 0 ?_|refine qp ?_ ?_|refine qk (fun h=>?_) fun h=>?_<;>try(exfalso;omega)|fail
 ·exact hR _ _ ⟨4,.inr (.inr (.inr (.inl ⟨hg,hb,hc,hbad.1 h,rfl⟩))),rfl,rfl⟩
 ·exact hR _ _ ⟨0,.inr (.inr (.inr (.inr ⟨hg,hb,hc,fun q=>h (hbad.2 q),rfl⟩))),rfl,rfl⟩
end
def Pa.vP (l:List Pa) (s:ByteArray):Prop:=∃x∈l,(s∈Ex.vss x.when_\/s∈Sm.vss x.l)/\s∉x.params
def Pa.tP (l:List Pa) (s:ByteArray):Prop:=∃x∈l,s∈Ex.tbs x.when_\/s∈Sm.tbs x.l
def Pa.cP (Q:Ex->Prop) (l:List Pa):Prop:=∀x∈l,∀e,(e∈Ex.cls x.when_\/e∈Sm.cls x.l)->Q e
def Pa.kP (l:List Pa):Prop:=∀x∈l,KsOk x.rule (Sm.kss x.l)
def Pa.w (x:Pa):Nat:=Ex.partss x.when_+Sm.partss x.l+Sm.wl (fun _=>1) x.l
def Pa.ws (l:List Pa):Nat:=(l.map Pa.w).sum
theorem hd_ru (r:Ru):(Pa.ru r).when_=r.hd:=rfl
theorem Pa.vP_of (p:Pg) (s:ByteArray):Pa.vP (Pa.of p) s↔VPof p s:=by
 unfold Pa.vP VPof Fu.vP Ru.vP
 constructor
 ·rintro ⟨x,hx,h1,h2⟩
  rcases List.mem_append.1 hx with hx | hx
  ·obtain ⟨f,hf,rfl⟩:=List.mem_map.1 hx
   rcases h1 with h1 | h1
   ·simp[Pa.fu,Ex.vss] at h1
   ·exact .inl ⟨f,hf,h1,h2⟩
  ·obtain ⟨f,hf,rfl⟩:=List.mem_map.1 hx
   exact .inr ⟨f,hf,h1⟩
 ·rintro (⟨f,hf,h1,h2⟩ | ⟨f,hf,h1⟩)
  ·exact ⟨Pa.fu f,List.mem_append_left _ (List.mem_map_of_mem hf),.inr h1,h2⟩
  ·exact ⟨Pa.ru f,List.mem_append_right _ (List.mem_map_of_mem hf),h1,by simp[Pa.ru]⟩
theorem Pa.tP_of (p:Pg) (s:ByteArray):Pa.tP (Pa.of p) s↔TPof p s:=by
 unfold Pa.tP TPof Fu.tP Ru.tP
 constructor
 ·rintro ⟨x,hx,h1⟩
  rcases List.mem_append.1 hx with hx | hx
  ·obtain ⟨f,hf,rfl⟩:=List.mem_map.1 hx
   rcases h1 with h1 | h1
   ·simp[Pa.fu,Ex.tbs] at h1
   ·exact .inl ⟨f,hf,h1⟩
  ·obtain ⟨f,hf,rfl⟩:=List.mem_map.1 hx
   exact .inr ⟨f,hf,h1⟩
 ·rintro (⟨f,hf,h1⟩ | ⟨f,hf,h1⟩)
  ·exact ⟨Pa.fu f,List.mem_append_left _ (List.mem_map_of_mem hf),.inr h1⟩
  ·exact ⟨Pa.ru f,List.mem_append_right _ (List.mem_map_of_mem hf),h1⟩
theorem Pa.cP_of (p:Pg):Pa.cP (qF0 p) (Pa.of p)↔nQ0 p:=by
 unfold Pa.cP nQ0
 constructor
 ·intro h e he
  rcases List.mem_append.1 he with he | he
  ·simp only[Fu.clsL,List.mem_flatMap] at he
   obtain ⟨f,hf,he⟩:=he;exact h (Pa.fu f) (List.mem_append_left _ (List.mem_map_of_mem hf)) e (.inr he)
  ·simp only[Ru.clsL,List.mem_flatMap,List.mem_append] at he
   obtain ⟨f,hf,he⟩:=he;exact h (Pa.ru f) (List.mem_append_right _ (List.mem_map_of_mem hf)) e he
 ·intro h x hx e he
  refine h e ?_;rcases List.mem_append.1 hx with hx | hx
  ·obtain ⟨f,hf,rfl⟩:=List.mem_map.1 hx
   refine List.mem_append_left _ ?_;simp only[Fu.clsL,List.mem_flatMap];rcases he with he | he
   ·simp[Pa.fu,Ex.cls] at he
   ·exact ⟨f,hf,he⟩
  ·obtain ⟨f,hf,rfl⟩:=List.mem_map.1 hx
   refine List.mem_append_right _ ?_;simp only[Ru.clsL,List.mem_flatMap,List.mem_append];exact ⟨f,hf,he⟩
theorem Pa.kP_of (p:Pg) (hg:p.good):Pa.kP (Pa.of p)↔¬mZ0 p:=by
 unfold Pa.kP mZ0 Fu.bP Ru.bP;have hr:∀r∈p.rules,r.k≠0:=fun r hr=>by
  have:=hg.1 r hr;unfold Ru.good at this;omega
 constructor
 ·rintro h (⟨f,hf,h8⟩ | ⟨r,hrm,h8⟩)
  ·have:=(h (Pa.fu f) (List.mem_append_left _ (List.mem_map_of_mem hf))).1 h8
   simp[Pa.fu] at this
  ·have h2:=h (Pa.ru r) (List.mem_append_right _ (List.mem_map_of_mem hrm))
   have hk:=hr r hrm;rcases h8 with ⟨hn,h8⟩ | h10
   ·exact hn (h2.1 h8)
   ·exact hk (h2.2 h10)
 ·intro h x hx
  rcases List.mem_append.1 hx with hx | hx
  ·obtain ⟨f,hf,rfl⟩:=List.mem_map.1 hx
   exact ⟨fun h8=>absurd (.inl ⟨f,hf,h8⟩) h,fun _=>rfl⟩
  ·obtain ⟨r,hrm,rfl⟩:=List.mem_map.1 hx
   refine ⟨fun h8=>Classical.byContradiction fun hn=>h (.inr ⟨r,hrm,.inl ⟨hn,h8⟩⟩),fun h10=>absurd (.inr ⟨r,hrm,.inr h10⟩) h⟩
theorem Pa.w_fu (f:Fu):(Pa.fu f).w<=2 * f.sz:=by
 have h1:=Sm.partss_le f.a;have h2:=Sm.wl_le f.a;simp only[Pa.w,Pa.fu,Ex.partss,Fu.sz];omega
theorem Pa.w_ru (r:Ru):(Pa.ru r).w<=1+2 * r.sz:=by
 have h1:=Sm.partss_le r.a;have h2:=Sm.wl_le r.a;have h3:=Ex.parts_le r.p;have h4:Ex.partss r.hd<=r.p.parts:=by
  unfold Ru.hd;split
  ·rw[Ex.partss_one];omega
  ·simp[Ex.partss]
 simp only[Pa.w,hd_ru,Ru.sz];simp only[Pa.ru];omega
theorem Pa.ws_of (p:Pg):Pa.ws (Pa.of p)<=2 * p.sz:=by
 have h1:∀l:List Fu,Pa.ws (l.map Pa.fu)<=2 * Fu.szs l:=by
  intro l
  induction l with
  | nil=>simp[Pa.ws,Fu.szs]
  | cons f l ih=>
   have:=Pa.w_fu f;simp only[Pa.ws,Fu.szs,List.map_cons,List.sum_cons] at *;omega
 have h2:∀l:List Ru,Pa.ws (l.map Pa.ru)<=l.length+2 * Ru.szs l:=by
  intro l
  induction l with
  | nil=>simp[Pa.ws,Ru.szs]
  | cons f l ih=>
   have:=Pa.w_ru f;simp only[Pa.ws,Ru.szs,List.map_cons,List.sum_cons,List.length_cons] at *;omega
 have h3:Pa.ws (Pa.of p)=Pa.ws (p.fns.map Pa.fu)+Pa.ws (p.rules.map Pa.ru):=by simp[Pa.of,Pa.ws]
 have:=h1 p.fns;have:=h2 p.rules;rw[h3,Pg.sz];omega
theorem Pa.lnO (p:Pg):(Pa.of p).length<=p.sz:=by
 rw[Pg.sz,Pa.of,List.length_append,List.length_map,List.length_map];omega
def Pa.okW (x:Pa):Prop:=x.when_.length<=1048576/\(∀y∈x.when_,y.sz<=1048576)/\x.l.length<=1048576/\(∀y∈x.l,y.sz<=1048576)/\x.params.length<=1048576
theorem Pa.ok_of {p:Pg} (hz:p.sz<=1048576) {x:Pa} (hx:x∈Pa.of p):x.okW:=by
 rw[Pg.sz] at hz;rcases List.mem_append.1 hx with hx | hx
 ·obtain ⟨f,hf,rfl⟩:=List.mem_map.1 hx
  have h1:=Fu.szs_mem hf;rw[Fu.sz] at h1;refine ⟨by simp[Pa.fu],by simp[Pa.fu],by simp only[Pa.fu];omega,fun y hy=>?_,by simp only[Pa.fu];omega⟩
  have h2:y.sz<=Sm.szs f.a:=Sm.szs_mem hy;omega
 ·obtain ⟨r,hr,rfl⟩:=List.mem_map.1 hx
  have h1:=Ru.szs_mem hr;rw[Ru.sz] at h1;refine ⟨by simp only[Pa.ru];split<;>simp,fun y hy=>?_,by simp only[Pa.ru];omega,fun y hy=>?_,by simp[Pa.ru]⟩
  ·simp only[Pa.ru] at hy
   split at hy
   ·obtain rfl:=List.mem_singleton.1 hy;omega
   ·simp at hy
  ·have h2:y.sz<=Sm.szs r.a:=Sm.szs_mem hy
   omega
end Go.Gv
