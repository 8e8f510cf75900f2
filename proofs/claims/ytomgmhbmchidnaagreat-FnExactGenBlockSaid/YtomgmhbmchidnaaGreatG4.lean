/- Part G4 of the proof: contracts of functions of the program, each walked once. -/
import Derived.Test.YtomgmhbmchidnaaGreatG3
import Derived.Test.YtomgmhbmchidnaaGreatU1
import Derived.Test.YtomgmhbmchidnaaGreatN5
set_option linter.all false
namespace Go.Gv
open Go.Av Go.Proofs
set_option maxRecDepth 10000
set_option maxHeartbeats 8000000
variable {I:∀{α:Type},α->α}
theorem Sm.Sh.lx {y:Sm} (h:y.Sh):y.x.length<=1048576:=by cases h;assumption
theorem TN0 (hI:II @I):∀(y:Sm) (_:y.Sh),Pk @I 137 [smA @I y.a] (fun s=>pB s y.a) (Sm.partss y.a)/\Pk @I 137 [smA @I y.b] (fun s=>pB s y.b) (Sm.partss y.b):=by
 refine Sm.ind fun y ih hy=>?_;obtain ⟨_,_,_,la,lb,hs⟩:=hy;have ha:=fun z (hz:z∈y.a)=>hs z (List.mem_append_left _ hz);have hb:=fun z (hz:z∈y.b)=>hs z (List.mem_append_right _ hz);exact ⟨uB0 hI y.a la (fun z hz=>⟨(ha z hz).lx,(ha z hz).ex⟩) fun z hz=>ih z (List.mem_append_left _ hz) (ha z hz),
  uB0 hI y.b lb (fun z hz=>⟨(hb z hz).lx,(hb z hz).ex⟩) fun z hz=>ih z (List.mem_append_right _ hz) (hb z hz)⟩
theorem nJ0 (hI:II @I) (l:List Sm) (hm:l.length<=1048576) (hs:∀y∈l,y.Sh):Pk @I 137 [smA @I l] (fun s=>pB s l) (Sm.partss l):=
 uB0 hI l hm (fun z hz=>⟨(hs z hz).lx,(hs z hz).ex⟩) fun z hz=>TN0 hI z (hs z hz)
structure Pg.Sh (p:Pg):Prop where
 lf:p.fns.length<=1048576
 lr:p.rules.length<=1048576
 f:∀f∈p.fns,f.a.length<=1048576/\∀y∈f.a,y.Sh
 r:∀r∈p.rules,(r.a.length<=1048576/\∀y∈r.a,y.Sh)/\(r.k=4->r.p.Sh)
 sz:p.parts<=4194304
def pF (s:Po) (f:Fu):Po:=pB s f.a
def pR (s:Po) (r:Ru):Po:=pB (if r.k=4 then pE s r.p else s) r.a
def po0:Po:=([⟨0,0,⟨⟨[]⟩⟩⟩,⟨1,0,⟨⟨[]⟩⟩⟩,⟨1,1,⟨⟨[]⟩⟩⟩],[])
def Pg.pool (p:Pg):Po:=p.rules.foldl pR (p.fns.foldl pF po0)
theorem dD0 {l:List Fu} {i:Nat} (h:i < l.length):Fu.partss (l.take i)+Sm.partss (l[i]!).a<=Fu.partss l:=by
 have h1:=congrArg Fu.partss (List.take_append_drop (i+1) l);rw[Fu.partss_app,yP0 h,Fu.partss_app,Fu.partss_one] at h1;omega
theorem NU0 {l:List Ru} {i:Nat} (h:i < l.length):Ru.partss (l.take i)+(l[i]!).parts<=Ru.partss l:=by
 have h1:=congrArg Ru.partss (List.take_append_drop (i+1) l);rw[Ru.partss_app,yP0 h,Ru.partss_app,Ru.partss_one] at h1;omega
theorem UC0 (s:Po):∀l:List Fu,Less s (l.foldl pF s) (Fu.partss l)
 | []=>by simp[Less]
 | f::l=>by
  have h1:=rV0 s f.a;have h2:=UC0 (pF s f) l;rw[List.foldl_cons];have h3:=Fu.partss_app [f] l;rw[Fu.partss_one] at h3;simp only[List.cons_append,List.nil_append] at h3;unfold Less pF at *;omega
theorem xG1 (s:Po) (r:Ru):Less s (pR s r) r.parts:=by
 have h2:=rV0 (if r.k=4 then pE s r.p else s) r.a
 have h1:=bK0 s r.p;unfold pR Ru.parts Less at *
 split at h2<;>rename_i h<;>simp only[h,if_true,if_false]<;>omega
theorem UB0 (s:Po):∀l:List Ru,Less s (l.foldl pR s) (Ru.partss l)
 | []=>by simp[Less]
 | f::l=>by
  have h1:=xG1 s f;have h2:=UB0 (pR s f) l;rw[List.foldl_cons];have h3:=Ru.partss_app [f] l;rw[Ru.partss_one] at h3;simp only[List.cons_append,List.nil_append] at h3;unfold Less at *;omega
theorem MX0 (hI:II @I) (p:Pg) (hp:p.Sh):ACl Tryz.prog 71 [pA @I p] [] (fun res bx=>res=⟨.one,[.ptr 1 0]⟩/\bx=[some (pA @I p).cs,plB @I p.pool.1 p.pool.2]):=by
 have hz:=hp.sz;rw[Pg.parts] at hz;have hlf:=hp.lf;have hlr:=hp.lr;refine qN hI tyK Tryz.func71 58 [.tmp 2] ?_;unhygienic intros
 have c1:=fun n h=>TK0 hI n h;refine qB 0 ?_
 repeat' first|refine qA 0 ?_|refine qJ (nN []) ?_|refine qp ?_ ?_|refine qk (fun h=>?_) fun h=>?_|fail
 clear c1;have h0:po0.1.length=3/\po0.2.length=0:=⟨rfl,rfl⟩;refine qLf 2 [0,1,3,4] (kkB 1 1 1) (fun i:Nat=>⟨vag 58 [(0,pA @I p),(1,⟨.one,[.ptr 0 0]⟩),(3,⟨.one,[.ptr 1 0]⟩),(4,litI (Int.ofNat (I i)))],[some (pA @I p).cs,plB @I ((p.fns.take i).foldl pF po0).1 ((p.fns.take i).foldl pF po0).2],1⟩) (fun i=>i<=p.fns.length) (fun i=>p.fns.length - i) ?_ fun i hi=>?_
 ·cbv
  exact ⟨0,by simp[hI.e,po0,Vl.t];rfl,by omega⟩
 have hq:=UC0 po0 (p.fns.take i);unfold Less at hq;have c1:=fun hh=>nJ0 hI _ (hp.f _ (zB0 (l:=p.fns) (i:=i) hh)).1 (hp.f _ (zB0 hh)).2 ((p.fns.take i).foldl pF po0) (by have:=dD0 hh;omega) (by have:=dD0 hh;omega)
 refine qB 0 ?_
 repeat' first|refine qA 0 ?_|refine qJ (nN [1]) ?_|refine qp ?_ ?_|refine qk (fun h=>?_) fun h=>?_|fail
 ·exact ⟨i+1,by (try simp only[A.reset,zD0,hI.e,List.append_assoc,Bool.or_false,zC0,xW0 pF po0 h,pF]);rfl,by omega,by omega⟩
 have ht:p.fns.take i=p.fns:=List.take_of_length_le (by omega)
 rw[ht] at hq |-;clear c1;refine qLf 2 [0,1,3,5] kk0 (fun i:Nat=>⟨vag 58 [(0,pA @I p),(1,⟨.one,[.ptr 0 0]⟩),(3,⟨.one,[.ptr 1 0]⟩),(5,litI (Int.ofNat (I i)))],[some (pA @I p).cs,plB @I ((p.rules.take i).foldl pR (p.fns.foldl pF po0)).1 ((p.rules.take i).foldl pR (p.fns.foldl pF po0)).2],1⟩) (fun i=>i<=p.rules.length) (fun i=>p.rules.length - i) ?_ fun i hi=>?_
 ·cbv
  exact ⟨0,by simp[hI.e];rfl,by omega⟩
 have hq2:=UB0 (p.fns.foldl pF po0) (p.rules.take i);unfold Less at hq2;obtain ⟨s,hs⟩:=qX ((p.rules.take i).foldl pR (p.fns.foldl pF po0));rw[<-hs] at hq2 |-;have hz2:∀h:i < p.rules.length,(¬(p.rules[i]!).k=4->Ru.partss (p.rules.take i)+Sm.partss (p.rules[i]!).a<=Ru.partss p.rules)/\((p.rules[i]!).k=4->Ru.partss (p.rules.take i)+(p.rules[i]!).p.parts+Sm.partss (p.rules[i]!).a<=Ru.partss p.rules):=fun h=>by
  have:=NU0 h;rw[Ru.parts] at this;exact ⟨fun h4=>by rw[if_neg h4] at this;omega,fun h4=>by rw[if_pos h4] at this;omega⟩
 have c1:=fun hh (h4:(p.rules[i]!).k=4)=>WP0 hI _ ((hp.r _ (zB0 (l:=p.rules) (i:=i) hh)).2 h4) s (by have:=(hz2 hh).2 h4;omega) (by have:=(hz2 hh).2 h4;omega)
 have c2:=fun hh (h4:¬(p.rules[i]!).k=4)=>nJ0 hI _ (hp.r _ (zB0 (l:=p.rules) (i:=i) hh)).1.1 (hp.r _ (zB0 hh)).1.2 s (by have:=(hz2 hh).1 h4;omega) (by have:=(hz2 hh).1 h4;omega)
 have c3:=fun hh (h4:(p.rules[i]!).k=4)=>nJ0 hI _ (hp.r _ (zB0 (l:=p.rules) (i:=i) hh)).1.1 (hp.r _ (zB0 hh)).1.2 (pE s (p.rules[i]!).p) (by have:=(hz2 hh).2 h4;have:=bK0 s (p.rules[i]!).p;unfold Less at this;omega) (by have:=(hz2 hh).2 h4;have:=bK0 s (p.rules[i]!).p;unfold Less at this;omega)
 refine qB 0 ?_
 repeat' first|refine qA 0 ?_|refine qJ (nN [1]) ?_|refine qp ?_ ?_|refine qk (fun h=>?_) fun h=>?_|fail
 ·have hi':i < p.rules.length:=‹_›
  exact ⟨i+1,by (try simp only[A.reset,zD0,hI.e,List.append_assoc,Bool.or_false,zC0,xW0 pR (p.fns.foldl pF po0) hi',<-hs,pR,if_pos h]);rfl,by omega,by omega⟩
 ·have hi':i < p.rules.length:=‹_›
  exact ⟨i+1,by (try simp only[A.reset,zD0,hI.e,List.append_assoc,Bool.or_false,zC0,xW0 pR (p.fns.foldl pF po0) hi',<-hs,pR,if_neg h]);rfl,by omega,by omega⟩
 ·have ht:p.rules.take i=p.rules:=List.take_of_length_le (by omega)
  (refine hR _ _ ⟨?_,?_⟩<;>(simp[-List.getElem!_eq_getElem?_getD,hI.e,F.d1,F.d2,F.d3,F.d4,F.d5,F.d6,F.d7,F.d8,litI,litS,litB,Pg.pool,hs,ht];done))
variable {I:∀{α:Type},α->α}
structure Un where
 vs:List ByteArray
 ts:List ByteArray
 ct:List (List T)
 pt:List (List T)
 fn:Bool
 line:Bool
 bad:Bool
structure UnOk (p:Pg) (u:Un):Prop where
 v:Asc u.vs
 t:Asc u.ts
 vi:∀s,s∈u.vs↔Fu.vP p.fns s\/Ru.vP p.rules s
 ti:∀s,s∈u.ts↔Fu.tP p.fns s\/Ru.tP p.rules s
 vl:u.vs.length<=8388608
 tl:u.ts.length<=8388608
theorem wN1 (hI:II @I) (p:Pg) (hz:p.sz<=1048576):ACl Tryz.prog 58 [pA @I p] [] (fun res bx=>∃u:Un,UnOk p u/\res=⟨.one,[.ptr 1 0]⟩/\bx=[some (pA @I p).cs,some [.ow (0,0) false 1 (I (u.vs.map strT)),.ow (0,0) false 1 (I (u.ts.map strT)),.ow (0,0) false 4 (I u.ct),.ro true (I u.pt),.lit (.bool (I u.fn)),.lit (.bool (I u.line)),.lit (.bool (I u.bad))]]):=by
 have h:=DF0 p hz;rw[fP0] at h;simp only[pA,hI.e];refine acI h ?_;rintro res bx ⟨vs,ts,cs,vt,tt,ct,pt,fn,line,bad,⟨h1,h2,h3,h4,h5,h6,h7,h8,h9⟩,rfl,rfl,rfl,rfl,rfl⟩;exact ⟨⟨vs,ts,_,pt,fn,line,bad⟩,⟨h1,h2,h3,h4,h7,h8⟩,rfl,rfl⟩
@[simp,reducible] def Un.g (u:Un) (p:Pg) (fn:Int):Gx:=⟨p,fn,u.vs,u.ts,p.pool.1,p.pool.2⟩
@[simp,reducible] def nwB (I:∀{α:Type},α->α) (p:Pg) (fn:Int) (u:Un):List (Option (List A)):=[some (pA @I p).cs,some (pA @I p).cs,some [.dead,.dead,.ow (0,0) false 4 (I u.ct),.ro true (I u.pt),.lit (.bool (I u.fn)),.lit (.bool (I u.line)),.lit (.bool (I u.bad))],some (pA @I p).cs,plB @I p.pool.1 p.pool.2,
 some [.ro true (I (p.rules.map Ru.t)),.ro true (I (p.fns.map Fu.t)),.lit (.int .i64 (I fn)),.ptr 4 0,.ow (0,0) false 1 (I (u.vs.map strT)),.ow (0,0) false 1 (I (u.ts.map strT)),.lit (.bool true),.nil,.lit (.bool false)]]
theorem wK1 (hI:II @I) (p:Pg) (fn:Int) (hp:p.Sh) (hz:p.sz<=1048576) :
  ACl Tryz.prog 32 [pA @I p,litI fn] [] (fun res bx=>∃u:Un,UnOk p u/\res=⟨.one,[.ptr 5 0]⟩/\bx=nwB @I p fn u):=by
 have c1:=MX0 hI p hp;have c2:=wN1 hI p hz;refine qN hI tyK Tryz.func32 22 [.tmp 4] ?_;unhygienic intros
 refine qB 0 ?_
 repeat' first|refine qA 0 ?_|refine qJe (nN []) fun x hx=>?_|refine qJ (nN []) ?_|refine qp ?_ ?_|refine qk (fun h=>?_) fun h=>?_|fail
 refine hR _ _ ⟨x,hx,rfl,?_⟩;simp[hI.e]
variable {I:∀{α:Type},α->α}
theorem Ex.ok.sh:∀(e:Ex),e.ok->e.sz<=1048576->e.Sh:=by
 refine Ex.ind fun e ih h hz=>?_;obtain ⟨k,n,s,l⟩:=e;obtain ⟨h1,h2⟩:=exok_iff.1 h;obtain ⟨_,hl,hx⟩:=sz_inv hz;refine .mk (fun h6=>?_) (fun h0=>?_) hl fun x hx'=>ih x hx' (h2 x hx') (hx x hx')
 ·have h6:k=6:=h6
  subst h6;obtain ⟨_,h⟩:=h1;simp at h;exact h.2
 ·have h0:k=1:=h0
  subst h0;obtain ⟨_,h⟩:=h1;simp at h;exact ⟨h.1,h.2.1⟩
theorem Sm.ok.sh:∀(y:Sm),y.ok->y.sz<=1048576->y.Sh:=by
 refine Sm.ind fun y ih h hz=>?_;obtain ⟨k,s,t,x,a,b⟩:=y;obtain ⟨⟨h0,h1⟩,h2⟩:=smok_iff.1 h;obtain ⟨_,_,hx,hxs,ha,hb,hab⟩:=pZ0 hz;refine .mk (fun h5=>?_) (fun e he=>(h0 e he).1.sh _ (hxs e he)) hx ha hb fun z hz'=>ih z hz' (h2 z hz') (hab z hz');have h5:k=5\/k=6:=h5;obtain ⟨_,_,_,h⟩:=h1;rcases h5 with rfl | rfl<;>(simp at h;exact h.2)
theorem BodyP.sh {l:List Sm} (h:BodyP l) (hz:∀y∈l,y.sz<=1048576):l.length<=1048576/\∀y∈l,y.Sh:=⟨by have:=h.2;omega,fun y hy=>(h.1 y hy).1.sh y (hz y hy)⟩
theorem Pg.good.sh {p:Pg} (h:p.good) (hz:p.sz<=1048576):p.Sh:=by
 have hz':=hz;rw[Pg.sz] at hz;have hr:∀r∈p.rules,r.sz<=1048576:=fun r hr=>by have:=Ru.szs_mem hr;omega
 have hf:∀r∈p.fns,r.sz<=1048576:=fun r hr=>by have:=Fu.szs_mem hr;omega
 have hpr:=Ru.partss_le p.rules;have hpf:=Fu.partss_le p.fns;refine ⟨by omega,by omega,fun f hf'=>?_,fun r hr'=>?_,by rw[Pg.parts];omega⟩
 ·obtain ⟨i,hi⟩:=List.mem_iff_getElem?.1 hf'
  have:=hf f hf';rw[Fu.sz] at this;exact (h.2.1 i f hi).2.2.2.sh fun y hy=>by have:=Sm.szs_mem hy;omega
 ·have:=hr r hr'
  rw[Ru.sz] at this;rcases h.1 r hr' with ⟨h1,_,h3⟩ | ⟨h1,h2,h3⟩
  ·exact ⟨h3.sh fun y hy=>by have:=Sm.szs_mem hy;omega,fun h4=>by omega⟩
  ·exact ⟨h3.sh fun y hy=>by have:=Sm.szs_mem hy;omega,fun _=>h2.1.sh _ (by omega)⟩
theorem dA0 {α:Type} [DecidableEq α] (a:α):∀(l:List α) (j:Nat),j < l.idxOf a->l[j]?≠some a
 | [],j,h=>by simp at h
 | b::l,j,h=>by
  rw[List.idxOf_cons] at h
  by_cases hb:b=a
  ·simp[hb] at h
  ·have hb':(b == a)=false:=by simp[hb]
   rw[hb'] at h;cases j with
   | zero=>simp[hb]
   | succ j=>simp;exact dA0 a l j (by simpa using h)
theorem XM0 {α:Type} [DecidableEq α] (l:List α) (a:α):(∃i:Nat,ixOf l a=Int.ofNat i/\l[i]?=some a/\∀j < i,l[j]?≠some a)\/(ixOf l a=-1/\a∉l):=by
 by_cases hm:a∈l
 ·have hi:=List.idxOf_lt_length_of_mem hm
  exact .inl ⟨l.idxOf a,by rw[ixOf,if_pos hm];rfl,by rw[List.getElem?_eq_getElem hi,List.getElem_idxOf],fun j hj=>dA0 a l j hj⟩
 ·exact .inr ⟨by rw[ixOf,if_neg hm],hm⟩
theorem wP1 (hI:II @I) (p:Pg) (hl:p.fns.length<=1048576):FnOk @I 60 p:=by
 intro s;simp only[hI.e];refine acI (TQ0 _ _ p.fns rfl s hl) ?_;rintro res bx ⟨r,hr,rfl,rfl⟩;refine ⟨?_,rfl⟩;have:r=fnIx p s:=by
  refine hr.unique ?_;rw[fnIx];rcases XM0 (p.fns.map Fu.name) s with ⟨i,h1,h2,h3⟩ | ⟨h1,h2⟩
  ·rw[List.getElem?_map,Option.map_eq_some_iff] at h2
   obtain ⟨f,hf,hn⟩:=h2;refine .inl ⟨i,f,h1,hf,hn,fun j g hj hg hn=>h3 j hj ?_⟩;rw[List.getElem?_map,hg,<-hn];rfl
  ·exact .inr ⟨h1,fun f hf hn=>h2 (List.mem_map.2 ⟨f,hf,hn⟩)⟩
 rw[this]
theorem wH1 (hI:II @I):yC1 @I 183 operS:=by
 refine qN hI tyK Tryz.func183 2 [.tmp 0] ?_;unhygienic intros
 refine qB 0 ?_;exact hR _ _ ⟨by simp only[hI.e];rfl,rfl⟩
theorem KC0 (hI:II @I) (l:List Sm) (hz:l.length+Sm.szs l<=1048576):ACl Tryz.prog 30 [smA @I l] [] (fun res bx=>∃b:Bool,(b=true↔BodyP l)/\res=litB b/\bx=[]):=by
 simp only[smA,hI.e];exact hT0 l _ rfl hz
variable {I:∀{α:Type},α->α}
def kJ1 (p:Pg) (fn:Int) (l:List Sm) (c:List Ik):Prop:=∃u:Un,UnOk p u/\c=if (u.g p fn).lb operS l then [] else (u.g p fn).lc operS l
def GenIs (p:Pg) (fn:Int) (l:List Sm) (c:List Ik):Prop:=(CheckIs p 0/\BodyP l∧-1<=fn/\fn < p.fns.length->kJ1 p fn l c)/\(¬(CheckIs p 0/\BodyP l∧-1<=fn/\fn < p.fns.length)->c=[])
theorem mT0 {p:Pg} (hp:p.Sh):p.pool.1.length<=8388608/\p.pool.2.length<=8388608:=by
 have h1:=UC0 po0 p.fns;have h2:=UB0 (p.fns.foldl pF po0) p.rules;have h3:=hp.sz;have h0:po0.1.length=3/\po0.2.length=0:=⟨rfl,rfl⟩;unfold Less at h1 h2;rw[Pg.parts] at h3;unfold Pg.pool;omega
theorem GT0 {p:Pg} (hg:p.good):∀f∈p.fns,f.params.length<=1048576:=fun f hf=>by
 obtain ⟨i,hi⟩:=List.mem_iff_getElem?.1 hf;have:=(hg.2.1 i f hi).2.2.1.2;omega
theorem gx_ok {p:Pg} (hg:p.good) (hp:p.Sh) {u:Un} (hu:UnOk p u) {fn:Int} (h1:-1<=fn) (h2:fn < p.fns.length):(u.g p fn).Ok:=by
 refine ⟨h1,h2,hu.vl,hu.tl,(mT0 hp).1,(mT0 hp).2,?_⟩;rw[Gx.ps]
 split
 ·simp
 ·rename_i h
  have h:¬fn < 0:=h;have:=GT0 hg _ (zB0 (l:=p.fns) (i:=fn.toNat) (by omega))
  show (p.fns[fn.toNat]!).params.length<=_
  omega
theorem hZ0 (hI:II @I) (p:Pg) (fn:Int) (l:List Sm) (hz:p.sz<=1048576) (hl:l.length+Sm.szs l<=1048576) (hb:(CheckIs p 0/\BodyP l∧-1<=fn/\fn < p.fns.length)->∀u,UnOk p u->((u.g p fn).lc operS l).length<=274877906944) :
  ACl Tryz.prog 8 [pA @I p,litI fn,smA @I l] [] (fun res bx=>∃c:List Ik,GenIs p fn l c/\res=⟨.one,[.ow (0,0) false 2 (I (c.map Ik.t))]⟩/\bx=[]):=by
 have c1:=zB1 hI p hz;have c2:=KC0 hI l hl;have c3:=rN0;refine qN hI tyK Tryz.func8 41 [.tmp 6] ?_;unhygienic intros
 have e0:bin .sub .i64 (Int.ofNat (I p.fns.length)) 1=(p.fns.length:Int) - 1:=by
  have hp:p.fns.length<=1048576:=by rw[Pg.sz] at hz;omega
  cases hO;rw[hI.e];exact xV0 (x:=(p.fns.length:Int) - 1) (by omega)
 refine qB 0 ?_
 repeat' first|refine qA 0 ?_|refine qJe (nN []) fun x hx=>?_|refine qJ (nN []) ?_|refine qp ?_ ?_|refine qk (fun h=>?_) fun h=>?_|fail
 ·exact hR _ _ ⟨[],⟨fun q=>absurd (CheckIs.unique hx q.1) h,fun _=>rfl⟩,by simp[hI.e],rfl⟩
 ·exact hR _ _ ⟨[],⟨fun q=>absurd (hx.2 q.2.1) h,fun _=>rfl⟩,by simp[hI.e],rfl⟩
 ·exact hR _ _ ⟨[],⟨fun q=>absurd (hx.2 ⟨q.2.2.1,by rw[e0];omega⟩) h,fun _=>rfl⟩,by simp[hI.e],rfl⟩
 rename_i r hr h1 b hb' h2;have h1:r=0:=Classical.not_not.1 h1;subst h1;have hlb:=hb'.1 (Classical.not_not.1 h2);have hfn:=hx.1 (Classical.not_not.1 h);rw[e0] at hfn;have hok:CheckIs p 0/\BodyP l∧-1<=fn/\fn < p.fns.length:=⟨hr,hlb,hfn.1,by omega⟩
 have hg:p.good:=by rcases hr with ⟨_,h⟩ | ⟨h,_⟩ | ⟨h,_⟩ | ⟨h,_⟩ | ⟨h,_⟩<;>first | exact h|(exfalso;omega)
 clear hb' hx h h2 c1 c2 c3;have c4:=wK1 hI p fn (hg.sh hz) hz;refine qJe (nN []) fun u hu=>?_;have hE:Env @I operS (u.g p fn):=⟨by decide,gx_ok hg (hg.sh hz) hu hok.2.2.1 hok.2.2.2,GT0 hg,wP1 hI p (hg.sh hz).lf,wH1 hI⟩
 have hsl:l.length<=1048576/\∀y∈l,y.Sh:=hlb.sh fun y hy=>by have:=Sm.szs_mem hy;omega
 have c5:=hR0 hI operS (u.g p fn) l hsl.1 (fun y hy=>DB0 hI operS _ hE y (hsl.2 y hy)) [] false (by have:=hb hok u hu;simp only[List.length_nil];omega)
 have en:I (List.map Ik.t ([]:List Ik))=[]:=by rw[hI.e];rfl
 simp only[mkS,en,List.nil_append,Bool.false_or] at c5;intro K hK;refine hK _ ?_;clear hK K c4
 (conv=>whnf)
 (first|(with_reducible refine atId ?_) | skip)
 refine nW (nb:=7) (keep:=fun t=>t == 0 || t == 2 || t == 7) (kk:=kkB 6 7 2) (by simp at hC;simp[hC]) ?_
 cbv
 refine qA 0 ?_;intro K hK;refine GCall.by (nN [6,5]) ?_
 cbv
 (try simp only[hseg,F.r1,F.r7])
 refine qY hP c5 ?_ rfl;refine Nx.mk ?_
 cbv
 revert hK K
 repeat' first|refine qA 0 ?_|refine qp ?_ ?_|refine qk (fun h=>?_) fun h=>?_|fail
 ·exact hR _ _ ⟨[],⟨fun _=>⟨u,hu,by rw[if_pos h]⟩,fun q=>absurd hok q⟩,by simp[hI.e],rfl⟩
 ·exact hR _ _ ⟨_,⟨fun _=>⟨u,hu,by rw[if_neg h]⟩,fun q=>absurd hok q⟩,rfl,rfl⟩
end Go.Gv
