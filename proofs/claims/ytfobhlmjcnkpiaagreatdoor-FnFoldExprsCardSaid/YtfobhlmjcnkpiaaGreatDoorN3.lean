/- Part N3 of the proof: contracts of functions of the program, each walked once. -/
import Derived.Test.YtfobhlmjcnkpiaaGreatDoorN2
import Derived.Test.YtfobhlmjcnkpiaaGreatDoorD7
import Derived.Test.YtfobhlmjcnkpiaaGreatDoorD9
set_option linter.all false
namespace Go.Gv
open Go.Av Go.Proofs
set_option maxRecDepth 10000
set_option maxHeartbeats 8000000
variable {I:∀{α:Type},α->α}
mutual
def Sm.cnt:Sm->Nat
 | .mk _ _ _ _ a b=>1+Sm.cnts a+Sm.cnts b
def Sm.cnts:List Sm->Nat
 | []=>0
 | e::l=>Sm.cnt e+Sm.cnts l
end
mutual
def Sm.dep:Sm->Nat
 | .mk _ _ _ _ a b=>1+max (Sm.deps a) (Sm.deps b)
def Sm.deps:List Sm->Nat
 | []=>0
 | e::l=>max (Sm.dep e) (Sm.deps l)
end
theorem Sm.cnts_app:∀a b,Sm.cnts (a++b)=Sm.cnts a+Sm.cnts b
 | [],b=>by simp[Sm.cnts]
 | e::a,b=>by rw[List.cons_append,Sm.cnts,Sm.cnts,Sm.cnts_app a b];omega
theorem Sm.cnts_one (x:Sm):Sm.cnts [x]=x.cnt:=by simp[Sm.cnts]
theorem Sm.cnts_take (l:List Sm) (i:Nat):Sm.cnts (l.take i)<=Sm.cnts l:=by
 have:=congrArg Sm.cnts (List.take_append_drop i l);rw[Sm.cnts_app] at this;omega
theorem Sm.deps_le {l:List Sm} {m:Nat}:Sm.deps l<=m↔∀x∈l,x.dep<=m:=by
 induction l with
 | nil=>simp[Sm.deps]
 | cons a l ih=>rw[Sm.deps,List.forall_mem_cons,<-ih];omega
theorem Sm.dep_pos (e:Sm):1<=e.dep:=by cases e;rw[Sm.dep];omega
theorem Sm.szs_mem:∀{l:List Sm} {x:Sm},x∈l->x.sz<=Sm.szs l
 | [],x,h=>by simp at h
 | y::l,x,h=>by
  rw[Sm.szs];rcases List.mem_cons.1 h with rfl | h
  ·omega
  ·have:=Sm.szs_mem h;omega
theorem dY0 {k:Int} {s t:ByteArray} {x:List Ex} {a b:List Sm} (h:(Sm.mk k s t x a b).sz<=1048576):s.size<=1048576/\t.size<=1048576/\x.length<=1048576/\(∀e∈x,e.sz<=1048576)/\a.length<=1048576/\b.length<=1048576/\∀y∈a++b,y.sz<=1048576:=by
 rw[Sm.sz] at h;refine ⟨by omega,by omega,by omega,fun e he=>?_,by omega,by omega,fun y hy=>?_⟩
 ·have:=Ex.szs_mem he;omega
 ·rcases List.mem_append.1 hy with hy | hy
  ·have:=Sm.szs_mem hy;omega
  ·have:=Sm.szs_mem hy;omega
inductive Sm.ok:Sm->Prop where
 | mk {k:Int} {s t:ByteArray} {x:List Ex} {a b:List Sm} (hx:∀e∈x,e.good) (h:uD0 k s t x.length a.length b.length (XR0 x)) (hl:∀y∈a++b,Sm.ok y):Sm.ok (.mk k s t x a b)
theorem smok_iff {k:Int} {s t:ByteArray} {x:List Ex} {a b:List Sm}:(Sm.mk k s t x a b).ok↔((∀e∈x,e.good)/\uD0 k s t x.length a.length b.length (XR0 x))/\∀y∈a++b,Sm.ok y:=⟨fun h=>by cases h with | mk hx h hl=>exact ⟨⟨hx,h⟩,hl⟩,fun h=>.mk h.1.1 h.1.2 h.2⟩
def Sm.good (y:Sm):Prop:=y.ok/\y.cnt<=60/\y.dep<=5
theorem zZ1 {a b:List Sm} {i:Nat} {x:Sm} (hi:i < a.length) (h:a.take (i+1)=a.take i++[x]):(a++b).take (0+(i+1))=(a++b).take (0+i)++[x]:=by
 rw[Nat.zero_add,Nat.zero_add,List.take_append_of_le_length (by omega),List.take_append_of_le_length (by omega),h]
theorem zY1 {a b:List Sm} {i:Nat} {x:Sm} (h:b.take (i+1)=b.take i++[x]):(a++b).take (a.length+(i+1))=(a++b).take (a.length+i)++[x]:=by
 rw[List.take_length_add_append,List.take_length_add_append,h,List.append_assoc]
abbrev mZ1 (f:FuncId):Prop:=∀r:Sm,r.sz<=1048576->ACl Tryz.prog f [agT r.t] [] (fun res bx=>∃b:Bool,(b=true↔r.good)/\res=litB b/\bx=[])
def lowS (l:List Sm) (d i:Nat):Prop:=(∀x∈l.take i,x.dep+(d+1)<=6)/\1+Sm.cnts (l.take i)<=60
theorem xB1 {k:Int} {s t:ByteArray} {x:List Ex} {a b:List Sm} {d:Nat} (hd:d<=5):lowS (a++b) d (a.length+b.length)↔(Sm.mk k s t x a b).dep+d<=6/\(Sm.mk k s t x a b).cnt<=60:=by
 unfold lowS;rw[<-List.length_append,List.take_length,Sm.dep,Sm.cnt,Sm.cnts_app,<-Nat.add_assoc];refine and_congr_left fun _=>?_;rw[show 1+max (Sm.deps a) (Sm.deps b)+d<=6↔Sm.deps a<=5 - d/\Sm.deps b<=5 - d by omega,Sm.deps_le,Sm.deps_le,List.forall_mem_append]
 exact and_congr (forall_congr' fun x=>forall_congr' fun _=>by omega) (forall_congr' fun x=>forall_congr' fun _=>by omega)
def lowL (L:List Sm) (d:Nat):Prop:=(∀x∈L,x.dep+(d+1)<=6)/\1+Sm.cnts L<=60
theorem XJ0 {L:List Sm} {x:Sm} {d n m:Nat} (h1:n<=60↔lowL L d) (h2:n<=60->n=1+Sm.cnts L) (h3:m<=60↔x.dep+(d+1)<=6/\x.cnt<=60) (h4:m<=60->m=x.cnt):(n+m<=60↔lowL (L++[x]) d)/\(n+m<=60->n+m=1+Sm.cnts (L++[x])):=by
 have hc:Sm.cnts (L++[x])=Sm.cnts L+x.cnt:=by rw[Sm.cnts_app,Sm.cnts_one]
 refine ⟨⟨fun q=>?_,fun ⟨q1,q2⟩=>?_⟩,fun q=>?_⟩
 ·have a:=h2 (by omega)
  have b:=h4 (by omega)
  have c:=h1.1 (by omega)
  have e:=h3.1 (by omega)
  exact ⟨fun y hy=>(List.mem_append.1 hy).elim (c.1 y) fun hy=>by obtain rfl:=List.mem_singleton.1 hy;exact e.1,by omega⟩
 ·have a:=h1.2 ⟨fun y hy=>q1 y (List.mem_append_left _ hy),by omega⟩
  have b:=h4 (h3.2 ⟨q1 x (by simp),by omega⟩)
  have:=h2 a;omega
 ·have a:=h2 (by omega)
  have b:=h4 (by omega)
  omega
theorem XK0 {L M:List Sm} {d:Nat} (h:lowL (L++M) d):lowL L d:=⟨fun y hy=>h.1 y (List.mem_append_left _ hy),by have:=h.2;rw[Sm.cnts_app] at this;omega⟩
theorem Sm.deps_app:∀a b,Sm.deps (a++b)=max (Sm.deps a) (Sm.deps b)
 | [],b=>by simp[Sm.deps]
 | e::a,b=>by rw[List.cons_append,Sm.deps,Sm.deps,Sm.deps_app a b];omega
theorem Sm.cnt_eq (y:Sm):y.cnt=1+Sm.cnts (y.a++y.b)/\y.dep=1+Sm.deps (y.a++y.b):=by
 cases y;rw[Sm.cnt,Sm.dep,Sm.cnts_app];exact ⟨by simp only[Sm.a,Sm.b];omega,by simp only[Sm.a,Sm.b,Sm.deps_app]⟩
theorem xC1 {y:Sm} {d:Nat} (hd:d<=5):lowL (y.a++y.b) d↔y.dep+d<=6/\y.cnt<=60:=by
 obtain ⟨h1,h2⟩:=Sm.cnt_eq y;rw[h1,h2,lowL,show 1+Sm.deps (y.a++y.b)+d<=6↔Sm.deps (y.a++y.b)<=5 - d by omega,Sm.deps_le]
 exact and_congr_left fun _=>forall_congr' fun x=>forall_congr' fun _=>by omega
theorem Sm.sz_l {y:Sm} (h:y.sz<=1048576):y.x.length<=1048576/\(∀e∈y.x,e.sz<=1048576)/\y.a.length<=1048576/\y.b.length<=1048576/\∀z∈y.a++y.b,z.sz<=1048576:=by cases y;exact (dY0 h).2.2
theorem Sm.sz_s {y:Sm} (h:y.sz<=1048576):y.s.size<=1048576/\y.tt.size<=1048576:=by cases y;exact ⟨(dY0 h).1,(dY0 h).2.1⟩
theorem Sm.ok_eq (y:Sm):y.ok↔((∀e∈y.x,e.good)/\uD0 y.k y.s y.tt y.x.length y.a.length y.b.length (XR0 y.x))/\∀z∈y.a++y.b,z.ok:=by cases y;exact smok_iff
section
variable (hI:II @I)
include hI
theorem ML0:∀(y:Sm) (d:Nat),d<=6->y.sz<=1048576->ACl Tryz.prog 150 [sA @I y,litI (Int.ofNat (I d))] [] (fun res bx=>∃n:Nat,(n+60 * d<=421/\(n<=60↔y.dep+d<=6/\y.cnt<=60)/\(n<=60->n=y.cnt))/\res=litI (Int.ofNat (I n))/\bx=[]):=by
 refine Sm.ind fun y ih d hd hz=>?_;obtain ⟨_,_,hal,hbl,hab⟩:=Sm.sz_l hz;have hdp:=Sm.dep_pos y;have hc:=(Sm.cnt_eq y).1;have hlo:=xC1 (y:=y) (d:=d);refine qN hI tyK Tryz.func150 53 [.tmp 4] ?_;unhygienic intros
 refine qB 0 ?_
 repeat' first|refine qA 0 ?_|refine qp ?_ ?_|refine qk (fun h=>?_) fun h=>?_|fail
 ·exact hR _ _ ⟨61,⟨by omega,by omega,by omega⟩,by rw[hI.e];rfl,rfl⟩
 have hd':d<=5:=by omega
 have hlo:=hlo hd';refine qLf 1 [1,2,5,6] kk0 (fun a:Nat×Nat=>⟨vag 53 [(1,litI (Int.ofNat (I d))),(2,⟨.one,[.ptr 0 0]⟩),(5,litI (Int.ofNat (I a.2))),(6,litI (Int.ofNat (I a.1)))],[some (sA @I y).cs],1⟩) (fun a=>a.1<=y.a.length/\a.2+60 * d<=421/\(a.2<=60↔lowL (y.a.take a.1) d)/\(a.2<=60->a.2=1+Sm.cnts (y.a.take a.1))) (fun a=>y.a.length - a.1) ?_ fun a ha=>?_
 ·cbv
  exact ⟨(0,1),by simp only[hI.e];rfl,by simp,by omega,by simp[lowL,Sm.cnts],by simp[Sm.cnts]⟩
 obtain ⟨i,n⟩:=a;obtain ⟨h1,h2,h3,h4⟩:=ha;simp only at h1 h2 h3 h4 |-;have c1:=fun (hh:i < y.a.length)=>ih _ (List.mem_append_left _ (zD0 hh)) (d+1) (by omega) (hab _ (List.mem_append_left _ (zD0 hh)))
 refine qB 0 ?_
 repeat' first|refine qA 0 ?_|refine qJe (nN []) fun x hx=>?_|refine qp ?_ ?_|refine qk (fun h=>?_) fun h=>?_|fail
 ·obtain ⟨g1,g2⟩:=XJ0 h3 h4 hx.2.1 hx.2.2
  rw[<-zZ0 ‹_›] at g1 g2;exact ⟨(i+1,n+x),by (try simp only[A.reset,hI.e]);rfl,⟨by simp only;omega,by simp only;have:=hx.1;omega,g1,g2⟩,by simp only;omega⟩
 all_goals clear c1
 all_goals have h3:n<=60↔lowL y.a d:=⟨fun q=>by have:=h3.1 q;rwa[List.take_of_length_le (by omega)] at this,fun q=>h3.2 (XK0 (M:=y.a.drop i) (by rwa[List.take_append_drop]))⟩
 all_goals have h4:n<=60->n=1+Sm.cnts y.a:=fun q=>by have:=h4 q;rwa[List.take_of_length_le (by omega)] at this
 all_goals refine qLf 1 [1,2,5,7] kk0 (fun a:Nat×Nat=>⟨vag 53 [(1,litI (Int.ofNat (I d))),(2,⟨.one,[.ptr 0 0]⟩),(5,litI (Int.ofNat (I a.2))),(7,litI (Int.ofNat (I a.1)))],[some (sA @I y).cs],1⟩) (fun a=>a.1<=y.b.length/\a.2+60 * d<=421/\(a.2<=60↔lowL (y.a++y.b.take a.1) d)/\(a.2<=60->a.2=1+Sm.cnts (y.a++y.b.take a.1))) (fun a=>y.b.length - a.1) ?_ fun a ha=>?_
 all_goals first
  | (obtain ⟨i,n⟩:=a;obtain ⟨h1,h2,h3,h4⟩:=ha;simp only at h1 h2 h3 h4 |-;have c1:=fun (hh:i < y.b.length)=>ih _ (List.mem_append_right _ (zD0 hh)) (d+1) (by omega) (hab _ (List.mem_append_right _ (zD0 hh)));refine qB 0 ?_;(repeat' first|refine qA 0 ?_|refine qJe (nN []) fun x hx=>?_|refine qp ?_ ?_|refine qk (fun h=>?_) fun h=>?_|fail);(obtain ⟨g1,g2⟩:=XJ0 h3 h4 hx.2.1 hx.2.2;rw[List.append_assoc,<-zZ0 (by assumption)] at g1 g2;exact ⟨(i+1,n+x),by (try simp only[A.reset,hI.e]);rfl,⟨by simp only;omega,by simp only;have:=hx.1;omega,g1,g2⟩,by simp only;omega⟩);(exact hR _ _ ⟨n,⟨h2,⟨fun q=>absurd q h,fun q=>h3.2 (XK0 (M:=y.b.drop i) (by rw[List.append_assoc,List.take_append_drop];exact hlo.2 q))⟩,fun q=>absurd q h⟩,rfl,rfl⟩);(rw[List.take_of_length_le (by omega)] at h3 h4;exact hR _ _ ⟨n,⟨h2,h3.trans hlo,fun q=>by rw[h4 q,hc]⟩,rfl,rfl⟩))
  | (cbv;exact ⟨(0,n),by simp only[hI.e];rfl,by simp,h2,by simpa using h3,by simpa using h4⟩)
theorem dJ0 (l:List Sm) (hl:l.length<=1048576) (ih:∀z∈l,ACl Tryz.prog 151 [sA @I z] [] (fun res bx=>res=litB (I (bB z.ok))/\bx=[])):ACl Tryz.prog 169 [smA @I l] [] (fun res bx=>res=litB (I (bB (∀z∈l,z.ok)))/\bx=[]):=by
 refine qN hI tyK Tryz.func169 16 [.tmp 2] ?_;unhygienic intros
 refine qB 0 ?_;refine qLf 0 [0,3] kk0 (fun i:Nat=>⟨vag 16 [(0,smA @I l),(3,litI (Int.ofNat (I i)))],[],1⟩) (fun i=>i<=l.length/\∀x∈l.take i,x.ok) (fun i=>l.length - i) ?_ fun i hi=>?_
 ·cbv
  exact ⟨0,by simp only[hI.e];rfl,by simp,by simp⟩
 have c1:=fun (hh:i < l.length)=>ih _ (zD0 hh);refine qB 0 ?_
 repeat' first|refine qA 0 ?_|refine qJ (nN []) ?_|refine qp ?_ ?_|refine qk (fun h=>?_) fun h=>?_|fail
 ·exact hR _ _ ⟨liP hI ⟨fun q=>by simp at q,fun q=>absurd (q _ (zD0 ‹_›)) h⟩,rfl⟩
 ·exact ⟨i+1,by (try simp only[A.reset,xV0,hI.e,List.append_assoc,Bool.or_false,pE0]);rfl,⟨by omega,gD0 ‹_› hi.2 (Classical.not_not.1 h)⟩,by omega⟩
 ·rw[List.take_of_length_le (by omega)] at hi
  exact hR _ _ ⟨liP hI ⟨fun _=>hi.2,fun _=>rfl⟩,rfl⟩
theorem rR1:∀y:Sm,y.sz<=1048576->ACl Tryz.prog 151 [sA @I y] [] (fun res bx=>res=litB (I (bB y.ok))/\bx=[]):=by
 refine Sm.ind fun y ih hz=>?_;obtain ⟨hxl,hxs,hal,hbl,hab⟩:=Sm.sz_l hz;obtain ⟨hs,ht⟩:=Sm.sz_s hz;have hy:=Sm.ok_eq y;rw[List.forall_mem_append] at hy;have c2:=FX0 hI y hs ht;have c3:=dJ0 hI y.a hal fun z hz'=>ih z (List.mem_append_left _ hz') (hab z (List.mem_append_left _ hz'));have c4:=dJ0 hI y.b hbl fun z hz'=>ih z (List.mem_append_right _ hz') (hab z (List.mem_append_right _ hz'))
 refine qN hI tyK Tryz.func151 30 [.tmp 2] ?_;unhygienic intros
 refine qB 0 ?_;refine qLf 1 [1,3] kk0 (fun i:Nat=>⟨vag 30 [(1,⟨.one,[.ptr 0 0]⟩),(3,litI (Int.ofNat (I i)))],[some (sA @I y).cs],1⟩) (fun i=>i<=y.x.length/\∀x∈y.x.take i,x.good) (fun i=>y.x.length - i) ?_ fun i hi=>?_
 ·cbv
  exact ⟨0,by simp only[hI.e];rfl,by simp,by simp⟩
 have c1:=fun (hh:i < y.x.length)=>gA0 hI _ (hxs _ (zD0 hh));refine qB 0 ?_
 repeat' first|refine qA 0 ?_|refine qJ (nN []) ?_|refine qp ?_ ?_|refine qk (fun h=>?_) fun h=>?_|fail
 ·exact hR _ _ ⟨liP hI ⟨fun q=>by simp at q,fun q=>absurd ((hy.1 q).1.1 _ (zD0 ‹_›)) h⟩,rfl⟩
 ·exact ⟨i+1,by (try simp only[A.reset,xV0,hI.e,List.append_assoc,Bool.or_false,pE0]);rfl,⟨by omega,gD0 ‹_› hi.2 (Classical.not_not.1 h)⟩,by omega⟩
 all_goals (rw[List.take_of_length_le (by omega)] at hi;have hg:=hi.2;clear hi ih hxs hab c1 c2 c3 c4;refine hR _ _ ⟨liP hI ?_,rfl⟩;rw[hy];(try rw[hI.e,xT0]);first|(simp_all;done)|(simp_all;grind))
theorem DM0 (y:Sm) (hz:y.sz<=1048576):ACl Tryz.prog 117 [sA @I y] [] (fun res bx=>res=litB (I (bB y.good))/\bx=[]):=by
 have c1:=ML0 hI y 1 (by omega) hz
 rw[<-lit1 hI] at c1;have c2:=rR1 hI y hz;refine qN hI tyK Tryz.func117 10 [.tmp 2] ?_;unhygienic intros
 refine qB 0 ?_
 repeat' first|refine qA 0 ?_|refine qJe (nN []) fun x hx=>?_|refine qJ (nN []) ?_|refine qp ?_ ?_|refine qk (fun h=>?_) fun h=>?_|fail
 ·exact hR _ _ ⟨liP hI (by rw[hI.e,xT0,Sm.good];have:=hx.2.1.1 h;exact ⟨fun q=>⟨q,this.2,by omega⟩,fun q=>q.1⟩),rfl⟩
 ·exact hR _ _ ⟨liP hI ⟨fun q=>by simp at q,fun q=>absurd (hx.2.1.2 ⟨by have:=q.2.2;omega,q.2.1⟩) h⟩,rfl⟩
end
theorem ZQ0:mZ1 117:=fun y hz=>by rw[sA_I (I:=@id) rfl];exact QB.to (DM0 (I:=@id) rfl y hz)
open Go.Av Go.Proofs Go.Shelf Go.RowKit
def uE0 (l:List Sm):Prop:=(∀x∈l,x.good)/\l.length<=20
def qH0 (e:Ex):Prop:=e=.mk 0 0 ⟨⟨[]⟩⟩ []
def Ru.good (r:Ru):Prop:=((r.k=1\/r.k=2\/r.k=3)/\qH0 r.p/\uE0 r.a)\/(r.k=4/\r.p.good/\uE0 r.a)
def ParP (l:List ByteArray) (i:Nat):Prop:=∀p s,p < i->l[p]?=some s->xU0 s/\s∉l.take p
def FnAtP (l:List Fu) (s:ByteArray) (r:Int):Prop:=(∃(i:Nat) (f:Fu),r=Int.ofNat i/\l[i]?=some f/\f.name=s/\∀p g,p < i->l[p]?=some g->g.name≠s)\/(r=-1/\∀f∈l,f.name≠s)
theorem FnAtP.unique {l:List Fu} {s:ByteArray} {r r':Int} (h:FnAtP l s r) (h':FnAtP l s r'):r=r':=by
 rcases h with ⟨i,f,rfl,h1,h2,h3⟩ | ⟨rfl,h1⟩<;>rcases h' with ⟨j,g,rfl,k1,k2,k3⟩ | ⟨rfl,k1⟩
 ·rcases Nat.lt_trichotomy i j with h | h | h
  ·exact absurd h2 (k3 i f h h1)
  ·rw[h]
  ·exact absurd k2 (h3 j g h k1)
 ·exact absurd h2 (k1 f (List.mem_of_getElem? h1))
 ·exact absurd k2 (h1 g (List.mem_of_getElem? k1))
 ·rfl
def FuP (l:List Fu) (i:Nat) (f:Fu):Prop:=xU0 f.name/\FnAtP l f.name (Int.ofNat i)/\(ParP f.params f.params.length/\f.params.length<=4)/\uE0 f.a
def Pg.good (p:Pg):Prop:=(∀r∈p.rules,r.good)/\(∀i f,p.fns[i]?=some f->FuP p.fns i f)/\p.rules.length<=10/\p.fns.length<=6
theorem YP0 {l:List ByteArray} {s:ByteArray} (h:s∈l):s.size<=mV0 l:=by
 induction l with
 | nil=>simp at h
 | cons a l ih=>
  rcases List.mem_cons.1 h with rfl | h
  ·simp[mV0]
  ·have:=ih h;simp[mV0] at this |-;omega
theorem Ru.szs_mem {l:List Ru} {s:Ru} (h:s∈l):s.sz<=Ru.szs l:=by
 induction l with
 | nil=>simp at h
 | cons a l ih=>
  rcases List.mem_cons.1 h with rfl | h
  ·simp[Ru.szs]
  ·have:=ih h;simp[Ru.szs] at this |-;omega
theorem Fu.szs_mem {l:List Fu} {s:Fu} (h:s∈l):s.sz<=Fu.szs l:=by
 induction l with
 | nil=>simp at h
 | cons a l ih=>
  rcases List.mem_cons.1 h with rfl | h
  ·simp[Fu.szs]
  ·have:=ih h;simp[Fu.szs] at this |-;omega
theorem YV0 (r:Ru) (ek en:Int) (es:ByteArray) (el:List Ex) (h:r.p=.mk ek en es el):agT r.t=⟨.agg,[.lit (.int .i64 r.k),.lit (.int .i64 ek),.lit (.int .i64 en),.lit (.string es),.ro true (el.map Ex.t),.ro true (r.a.map Sm.t)]⟩:=by
 rw[Ru.t,h,Ex.t_mk];rfl
theorem QQ0 (f:Fu):agT f.t=⟨.agg,[.lit (.string f.name),.ro true (strs f.params),.ro true (f.a.map Sm.t)]⟩:=rfl
theorem HF0 (p:Pg):agT p.t=⟨.agg,[.ro true (p.rules.map Ru.t),.ro true (p.fns.map Fu.t)]⟩:=rfl
def invG1 (xl:List (List T)) (l:List Sm) (N:Nat) (σ:AS):Prop:=
 ∃(i:Nat),σ=⟨vag 19 [(0,⟨.one,[.ro true xl]⟩),(3,litI (Int.ofNat i))],[],1⟩/\i<=l.length/\(∀x∈l.take i,x.good)/\N=l.length - i
abbrev kH1 (f:FuncId):Prop:=∀(l:List Sm) (xl:List (List T)),xl=l.map Sm.t->l.length+Sm.szs l<=1048576->ACl Tryz.prog f [⟨.one,[.ro true xl]⟩] [] (fun res bx=>∃b:Bool,(b=true↔uE0 l)/\res=litB b/\bx=[])
theorem WV0:kH1 77:=by
 intro l xl hxl hz;have hl:l.length<=1048576:=by omega
 have ih:=fun (x:Sm) (hx:x∈l)=>ZQ0 x (by have:=Sm.szs_mem hx;omega)
 clear hz;refine qF tyK Tryz.func77 19 [.tmp 2] ?_;unhygienic intros
 obtain ⟨N,hN⟩:=qX l.length;have hlen:len xl=N:=lnO hO (by simp[hxl,hN])
 have ha:all xl 6:=alO hO (by subst hxl;simp[Sm.t_len])
 have hnt:bnot true=false:=by cases hO;rfl
 have hnf:bnot false=true:=by cases hO;rfl
 rw[<-hN] at hl;revert hK K;refine qW 0 ?_;intro K hK;refine qL 0 [0,3] kk0 (invG1 xl l) ?_ ?_
 ·cbv
  exact ⟨_,0,by cbv,by simp,by simp,rfl⟩
 rintro m σ ⟨i,rfl,g1,g2,rfl⟩;rw[<-hN] at g1 |-;revert hK K;refine qW 0 ?_;intro K hK;simp only[hlen];refine nC rfl (fun h3=>?_) (fun h3=>?_)
 ·have hlt:i < N:=qv3
  obtain ⟨x,hx,hx',ht,e1⟩:=mpA hO hxl (hN ▸ hlt);have e:bin .add .i64 (Int.ofNat i) 1=_:=iSc hO (by omega)
  have hidx:idx (Int.ofNat i) (len xl):=hlen ▸ ixN hO hlt;have hcall:=ih x hx;obtain ⟨o,ho⟩:=qX x.good;rw[<-ho] at hcall;obtain ⟨k',s',t',x',a',b'⟩:=x;simp only[agT,Sm.t_mk,List.map,tA] at hcall e1;generalize x'.map Ex.t=xl' at hcall e1;generalize a'.map Sm.t=al' at hcall e1;generalize b'.map Sm.t=bl' at hcall e1;revert hK K;refine qW 0 ?_;intro K hK
  repeat (simp only[e1];cbv)
  refine ndC hidx (ndC ha (ndN ?_));revert hK K;refine qW 0 ?_;intro K hK;refine qG ?_;refine qD hP hcall ?_;rintro res bx ⟨b,hb,rfl,rfl⟩;refine qC ?_;cases b
  ·revert hK K;refine qW 0 ?_;intro K hK
   simp only[hnf];revert hK K;refine qW 0 ?_;intro K hK;exact hR _ _ ⟨_,⟨fun h=>by simp at h,fun h=>absurd (hb.2 (ho ▸ h.1 _ hx)) (by simp)⟩,rfl,rfl⟩
  ·have hok:=hb.1 rfl
   rw[ho] at hok;revert hK K;refine qW 0 ?_;intro K hK;simp only[hnt];revert hK K;refine qW 0 ?_;intro K hK;rw[e];refine ⟨N - (i+1),by omega,i+1,by cbv,by omega,?_,by rw[hN]⟩
   rw[ht];intro y hy;rcases List.mem_append.1 hy with hy | hy
   ·exact g2 y hy
   obtain rfl:=List.mem_singleton.1 hy;exact hok
 ·have hge:i=N:=qw3
  rw[List.take_of_length_le (by omega)] at g2
  have hq:uE0 l↔N<=20:=by rw[hN];exact ⟨fun h=>h.2,fun h=>⟨g2,h⟩⟩
  revert hK K;refine qW 0 ?_;intro K hK
  try simp only[hlen]
  refine hR _ _ ⟨_,?_,rfl,rfl⟩;rw[hq];clear hM hP hC hR;cases hO;simp only[Ops.std,sCm,decide_eq_true_eq,Int.ofNat_eq_natCast];omega
theorem DF0 (k n:Int) (s:ByteArray) (l:List Ex) (xl:List (List T)) (hxl:xl=l.map Ex.t):ACl Tryz.prog 113 [⟨.agg,[.lit (.int .i64 k),.lit (.int .i64 n),.lit (.string s),.ro true xl]⟩] [] (fun res bx=>∃b:Bool,(b=true↔qH0 (.mk k n s l))/\res=litB b/\bx=[]):=by
 have hq:qH0 (.mk k n s l)↔k=0/\n=0/\s=⟨⟨[]⟩⟩/\xl.length=0:=by
  unfold qH0;rw[hxl,List.length_map,List.length_eq_zero_iff];simp
 rw[hq];clear hq;refine qF tyK Tryz.func113 22 [.tmp 2] ?_;unhygienic intros
 refine qO ?_
 repeat' first|(revert hK K;refine qV 0 ?_;intro K hK)|(refine qK (fun _=>?_) fun _=>?_)|fail
 all_goals (refine hR _ _ ⟨_,?_,rfl,rfl⟩;clear hR hM hP hC hseg hxl;cases hO;simp only[Ops.std,sCm,sqL,beq_iff_eq,Int.ofNat_eq_natCast] at *;first | omega|(simp_all;done)|(simp_all;omega) | grind)
theorem DG0 (r:Ru) (hz:r.sz<=1048576):ACl Tryz.prog 73 [agT r.t] [] (fun res bx=>∃b:Bool,(b=true↔r.good)/\res=litB b/\bx=[]):=by
 obtain ⟨k,⟨ek,en,es,el⟩,a⟩:=r;simp only[Ru.sz] at hz;rw[YV0 _ ek en es el rfl];obtain ⟨xl,hxl⟩:=qX (el.map Ex.t);obtain ⟨al,hal⟩:=qX (a.map Sm.t);have h1:=DF0 ek en es el xl hxl;have h2:=ZY0 (.mk ek en es el) (by omega)
 have h3:=WV0 a al hal (by omega)
 rw[agT,Ex.t_mk] at h2;simp only[List.map,tA] at h2;have hq:Ru.good ⟨k,.mk ek en es el,a⟩↔((k=1\/k=2\/k=3)/\qH0 (.mk ek en es el)/\uE0 a)\/(k=4/\(Ex.mk ek en es el).good/\uE0 a):=Iff.rfl;rw[hq];generalize qH0 (.mk ek en es el)=pz at *;generalize (Ex.mk ek en es el).good=pe at *;generalize uE0 a=pb at *;rw[<-hxl,<-hal];rw[<-hxl] at h2;clear hq hz hxl hal;refine qF tyK Tryz.func73 27 [.tmp 2] ?_;unhygienic intros
 refine qO ?_
 repeat' first|(revert hK K;refine qV 0 ?_;intro K hK)|(refine qK (fun _=>?_) fun _=>?_)|(refine qG ?_;refine qD hP h1 ?_;rintro res bx ⟨r,hr,rfl,rfl⟩;refine qC ?_)|(refine qG ?_;refine qD hP h2 ?_;rintro res bx ⟨r,hr,rfl,rfl⟩;refine qC ?_)|(refine qG ?_;refine qD hP h3 ?_;rintro res bx ⟨r,hr',rfl,rfl⟩;refine qC ?_)|fail
 all_goals (refine hR _ _ ⟨_,?_,rfl,rfl⟩;clear hR hM hP hC hseg h1 h2 h3;cases hO;simp only[Ops.std,sCm,beq_iff_eq] at *;first | omega|(simp_all;done)|(simp_all;omega) | grind)
def invG2 (els:List (List T)) (l:List ByteArray) (N:Nat) (σ:AS):Prop:=
 ∃(i:Nat),σ=⟨vag 29 [(0,⟨.one,[.ro true els]⟩),(3,litI (Int.ofNat i))],[],1⟩/\i<=l.length/\ParP l i/\N=l.length - i
theorem TG0 (l:List ByteArray) (els:List (List T)) (he:els=strs l) (hz:l.length+mV0 l<=1048576) :
  ACl Tryz.prog 76 [⟨.one,[.ro true els]⟩] [] (fun res bx=>∃b:Bool,(b=true↔ParP l l.length/\l.length<=4)/\res=litB b/\bx=[]):=by
 have hl:l.length<=1048576:=by omega
 have hnm:=fun (s:ByteArray) (hs:s∈l)=>xR0 s (by have:=YP0 hs;omega)
 clear hz;refine qF tyK Tryz.func76 29 [.tmp 2] ?_;unhygienic intros
 obtain ⟨N,hN⟩:=qX l.length;have hln:len els=N:=lnO hO (by simp[he,hN])
 have ha:all els 1:=alO hO (by rw[he];exact kE0 l)
 have hnt:bnot true=false:=by cases hO;rfl
 have hnf:bnot false=true:=by cases hO;rfl
 rw[<-hN] at hl;revert hK K;refine qW 0 ?_;intro K hK;refine qL 0 [0,3] kk0 (invG2 els l) ?_ ?_
 ·cbv
  exact ⟨_,0,by cbv,by simp,fun p s h=>by omega,rfl⟩
 rintro m σ ⟨i,rfl,g1,g2,rfl⟩;rw[<-hN] at g1 |-;revert hK K;refine qW 0 ?_;intro K hK;simp only[hln];refine nC rfl (fun h3=>?_) (fun h3=>?_)
 ·have hlt:i < N:=qv3
  obtain ⟨y,hy⟩:∃y,l[i]?=some y:=⟨_,List.getElem?_eq_getElem (hN ▸ hlt)⟩;have e:bin .add .i64 (Int.ofNat i) 1=_:=iSc hO (by omega)
  have hidx:idx (Int.ofNat i) (len els):=hln ▸ ixN hO hlt;have e1:get els (nat (Int.ofNat i))=[T.lit (.string y)]:=by cases hO;rw[he];simp[Ops.std,strs,hy]
  obtain ⟨pre,hpre⟩:=qX (strs (l.take i));have eseg:seg 0 (nsub (nat (Int.ofNat i)) 0) els=pre:=by cases hO;rw[hpre,he];simp[Ops.std,strs,List.map_take]
  have nb:bnd (Int.ofNat i) (len els):=by rw[hln];cases hO;exact ⟨Int.natCast_nonneg _,Int.ofNat_le.2 g1⟩
  have nl:le 0 (nat (Int.ofNat i)):=by cases hO;exact Nat.zero_le _
  have hcall:=hnm y (List.mem_of_getElem? hy);have hhas:=TA0 (l.take i) pre y hpre (by rw[List.length_take];omega)
  have hgood:xU0 y->y∉l.take i->ParP l (i+1):=fun h1 h2 p s hp hs=>by
   by_cases hpi:p=i
   ·rw[hpi,hy] at hs;rw[<-Option.some.inj hs,hpi];exact ⟨h1,h2⟩
   ·exact g2 p s (by omega) hs
  have hbad:ParP l l.length->xU0 y/\y∉l.take i:=fun h=>h i y (hN ▸ hlt) hy;generalize xU0 y=py at *;generalize hin:(y∈l.take i)=pin at *;clear hin;revert hK K;refine qW 0 ?_;intro K hK
  repeat (simp only[e1];cbv)
  refine ndC hidx (ndC ha (ndN ?_));refine qG ?_;refine qD hP hcall ?_;rintro res bx ⟨r,hr,rfl,rfl⟩;refine qC ?_;cases r
  ·revert hK K;refine qW 0 ?_;intro K hK
   try simp only[hnf]
   revert hK K;refine qW 0 ?_;intro K hK;exact hR _ _ ⟨_,⟨fun h=>by simp at h,fun h=>absurd (hr.2 (hbad h.1).1) (by simp)⟩,rfl,rfl⟩
  ·revert hK K;refine qW 0 ?_;intro K hK
   try simp only[hnt]
   revert hK K;refine qW 0 ?_;intro K hK
   repeat (simp only[e1,eseg];cbv)
   refine ndC nb (ndC nl (ndC ha (ndC hidx (ndC ha (ndN ?_)))));refine qG ?_;refine qD hP hhas ?_;rintro res bx ⟨r,hr2,rfl,rfl⟩;refine qC ?_;cases r
   ·revert hK K;refine qW 0 ?_;intro K hK
    rw[e];exact ⟨N - (i+1),by omega,i+1,by cbv,by omega,hgood (hr.1 rfl) (fun h=>by have:=hr2.2 h;simp at this),by rw[hN]⟩
   ·revert hK K;refine qW 0 ?_;intro K hK
    exact hR _ _ ⟨_,⟨fun h=>by simp at h,fun h=>absurd (hr2.1 rfl) (hbad h.1).2⟩,rfl,rfl⟩
 ·have hge:i=N:=qw3
  have hq:(ParP l l.length/\l.length<=4)↔N<=4:=by rw[hge,hN] at g2;rw[hN];exact ⟨fun h=>h.2,fun h=>⟨g2,h⟩⟩
  revert hK K;refine qW 0 ?_;intro K hK
  try simp only[hln]
  refine hR _ _ ⟨_,?_,rfl,rfl⟩;rw[hq];clear hM hP hC hR;cases hO;simp only[Ops.std,sCm,decide_eq_true_eq,Int.ofNat_eq_natCast];omega
def invG3 (rt ft:List (List T)) (s:ByteArray) (l:List Fu) (N:Nat) (σ:AS):Prop:=
 ∃(i:Nat),σ=⟨vag 22 [(1,litS s),(2,⟨.one,[.ptr 0 0]⟩),(5,litI (Int.ofNat i))],[some [.ro true rt,.ro true ft]],1⟩/\i<=l.length/\(∀p g,p < i->l[p]?=some g->g.name≠s)/\N=l.length - i
theorem rY1 (rt ft:List (List T)) (l:List Fu) (hft:ft=l.map Fu.t) (s:ByteArray) (hl:l.length<=1048576) :
  ACl Tryz.prog 75 [⟨.agg,[.ro true rt,.ro true ft]⟩,litS s] [] (fun res bx=>∃r:Int,FnAtP l s r/\res=litI r/\bx=[]):=by
 refine qF tyK Tryz.func75 22 [.tmp 4] ?_;unhygienic intros
 obtain ⟨N,hN⟩:=qX l.length;have hlen:len ft=N:=lnO hO (by simp[hft,hN])
 have ha:all ft 3:=alO hO (by subst hft;simp[Fu.t_len])
 rw[<-hN] at hl;revert hK K;refine qW 0 ?_;intro K hK;refine qL 1 [1,2,5] kk0 (invG3 rt ft s l) ?_ ?_
 ·cbv
  exact ⟨_,0,by cbv,by simp,fun p g h=>by omega,rfl⟩
 rintro m σ ⟨i,rfl,g1,g2,rfl⟩;rw[<-hN] at g1 |-;revert hK K;refine qW 0 ?_;intro K hK;simp only[hlen];refine nC rfl (fun h3=>?_) (fun h3=>?_)
 ·have hlt:i < N:=qv3
  obtain ⟨x,hx,hx',ht,e1⟩:=mpA hO hft (hN ▸ hlt);have e:bin .add .i64 (Int.ofNat i) 1=_:=iSc hO (by omega)
  have hidx:idx (Int.ofNat i) (len ft):=hlen ▸ ixN hO hlt;obtain ⟨nm,hnm⟩:=qX x.name;rw[Fu.t,<-hnm] at e1
  dsimp only at e1
  generalize x.params.map strT=pt at e1;generalize x.a.map Sm.t=at' at e1;revert hK K;refine qW 0 ?_;intro K hK
  repeat (simp only[e1];cbv)
  refine ndC hidx (ndC ha (ndN ?_));revert hK K;refine qW 0 ?_;intro K hK;refine nC rfl (fun h5=>?_) (fun h5=>?_)
  ·have hyk:nm=s:=qv5
   revert hK K;refine qW 0 ?_;intro K hK;exact hR _ _ ⟨_,.inl ⟨i,x,rfl,hx',hnm.symm.trans hyk,g2⟩,rfl,rfl⟩
  ·have hyk:nm≠s:=qv5
   revert hK K;refine qW 0 ?_;intro K hK;rw[e];exact ⟨N - (i+1),by omega,i+1,by cbv,by omega,fun p z hp hz=>by
    by_cases hpi:p=i
    ·rw[hpi,hx'] at hz;rw[<-Option.some.inj hz,<-hnm];exact hyk
    ·exact g2 p z (by omega) hz,by rw[hN]⟩
 ·have hge:i=N:=qw3
  revert hK K;refine qW 0 ?_;intro K hK;refine hR _ _ ⟨_,.inr ⟨rfl,fun f hf=>?_⟩,rfl,rfl⟩;obtain ⟨p,hp⟩:=List.mem_iff_getElem?.1 hf;exact g2 p f (by have:=(List.getElem?_eq_some_iff.1 hp).1;omega) hp
abbrev kC1 (f:FuncId):Prop:=∀p:Pg,p.sz<=1048576->ACl Tryz.prog f [agT p.t] [] (fun res bx=>∃b:Bool,(b=true↔p.good)/\res=litB b/\bx=[])
def invG4 (rt ft:List (List T)) (l:List Ru) (N:Nat) (σ:AS):Prop:=
 ∃(i:Nat),σ=⟨vag 66 [(1,⟨.one,[.ptr 0 0]⟩),(3,litI (Int.ofNat i))],[some [.ro true rt,.ro true ft]],1⟩/\i<=l.length/\(∀x∈l.take i,x.good)/\N=l.length - i
def invG5 (rt ft:List (List T)) (l:List Fu) (N:Nat) (σ:AS):Prop:=
 ∃(i:Nat),σ=⟨vag 66 [(1,⟨.one,[.ptr 0 0]⟩),(4,litI (Int.ofNat i))],[some [.ro true rt,.ro true ft]],1⟩/\i<=l.length/\(∀q f,q < i->l[q]?=some f->FuP l q f)/\N=l.length - i
theorem pN0:kC1 37:=by
 rintro ⟨rs,fs⟩ hz;simp only[Pg.sz] at hz;rw[HF0];have hr1:=fun (r:Ru) (h:r∈rs)=>DG0 r (by have:=Ru.szs_mem h;omega)
 have hfz:=fun (f:Fu) (h:f∈fs)=>(by have:=Fu.szs_mem h;omega:f.sz<=1048576)
 obtain ⟨rt,hrt⟩:=qX (rs.map Ru.t);obtain ⟨ft,hft⟩:=qX (fs.map Fu.t);have hfn:=fun s=>rY1 rt ft fs hft s (by omega)
 have hq:Pg.good ⟨rs,fs⟩↔(∀r∈rs,r.good)/\(∀i f,fs[i]?=some f->FuP fs i f)/\rs.length<=10/\fs.length<=6:=Iff.rfl;simp only[<-hrt,<-hft];rw[hq];clear hq;obtain ⟨NR,hNR⟩:=qX rs.length;obtain ⟨NF,hNF⟩:=qX fs.length;have hR1:NR<=1048576:=by omega
 have hF1:NF<=1048576:=by omega
 clear hz;refine qF tyK Tryz.func37 66 [.tmp 2] ?_;unhygienic intros
 have lr:len rt=NR:=lnO hO (by simp[hrt,hNR])
 have lf:len ft=NF:=lnO hO (by simp[hft,hNF])
 have har:all rt 6:=alO hO (by subst hrt;simp[Ru.t_len])
 have haf:all ft 3:=alO hO (by subst hft;simp[Fu.t_len])
 have hnt:bnot true=false:=by cases hO;rfl
 have hnf:bnot false=true:=by cases hO;rfl
 revert hK K;refine qW 0 ?_;intro K hK;refine qL 1 [1,3] kk0 (invG4 rt ft rs) ?_ ?_
 ·cbv
  exact ⟨_,0,by cbv,by simp,by simp,rfl⟩
 rintro m σ ⟨i,rfl,g1,g2,rfl⟩;rw[<-hNR] at g1;revert hK K;refine qW 0 ?_;intro K hK;simp only[lr];refine nC rfl (fun h3=>?_) (fun h3=>?_)
 ·have hlt:i < NR:=qv3
  obtain ⟨x,hx,hx',ht,e1⟩:=mpA hO hrt (hNR ▸ hlt);have e:bin .add .i64 (Int.ofNat i) 1=_:=iSc hO (by omega)
  have hidx:idx (Int.ofNat i) (len rt):=lr ▸ ixN hO hlt;have hcall:=hr1 x hx;obtain ⟨o,ho⟩:=qX x.good;rw[<-ho] at hcall;obtain ⟨⟨ek,en,es,el⟩,hp⟩:∃e,x.p=e:=⟨_,rfl⟩;have hagt:=YV0 x ek en es el hp;simp only[agT] at hagt hcall;rw[hagt] at hcall;rw[Ru.t,hp,Ex.t_mk] at e1;simp only[List.cons_append,List.nil_append] at e1;generalize x.k=k' at hcall e1;generalize el.map Ex.t=el' at hcall e1;generalize x.a.map Sm.t=al' at hcall e1
  revert hK K;refine qW 0 ?_;intro K hK
  repeat (simp only[e1];cbv)
  refine ndC hidx (ndC har (ndN ?_));revert hK K;refine qW 0 ?_;intro K hK;refine qG ?_;refine qD hP hcall ?_;rintro res bx ⟨b,hb,rfl,rfl⟩;refine qC ?_;cases b
  ·revert hK K;refine qW 0 ?_;intro K hK
   simp only[hnf];revert hK K;refine qW 0 ?_;intro K hK;exact hR _ _ ⟨_,⟨fun h=>by simp at h,fun h=>absurd (hb.2 (ho ▸ h.1 _ hx)) (by simp)⟩,rfl,rfl⟩
  ·have hok:=hb.1 rfl
   rw[ho] at hok;revert hK K;refine qW 0 ?_;intro K hK;simp only[hnt];revert hK K;refine qW 0 ?_;intro K hK;rw[e];refine ⟨rs.length - (i+1),by omega,i+1,by cbv,by omega,?_,rfl⟩
   rw[ht];intro y hy;rcases List.mem_append.1 hy with hy | hy
   ·exact g2 y hy
   obtain rfl:=List.mem_singleton.1 hy;exact hok
 have hge:i=NR:=qw3;have hrok:∀r∈rs,r.good:=by rw[List.take_of_length_le (by omega)] at g2;exact g2
 clear g2 g1 h3 hge hr1;revert hK K;refine qW 0 ?_;intro K hK;refine qL 1 [1,4] kk0 (invG5 rt ft fs) ?_ ?_
 ·cbv
  exact ⟨_,0,by cbv,by simp,fun q f h=>by omega,rfl⟩
 rintro m2 σ ⟨i,rfl,g1,g2,rfl⟩;rw[<-hNF] at g1;revert hK K;refine qW 0 ?_;intro K hK;simp only[lf];refine nC rfl (fun h3=>?_) (fun h3=>?_)
 ·have hlt:i < NF:=qv3
  obtain ⟨x,hx,hx',ht,e1⟩:=mpA hO hft (hNF ▸ hlt);have e:bin .add .i64 (Int.ofNat i) 1=_:=iSc hO (by omega)
  have hidx:idx (Int.ofNat i) (len ft):=lf ▸ ixN hO hlt;have hxz:=hfz x hx;unfold Fu.sz at hxz;have hc1:=xR0 x.name (by omega)
  have hc2:=hfn x.name;have hc3:=TG0 x.params (strs x.params) rfl (by omega)
  have hc4:=WV0 x.a (x.a.map Sm.t) rfl (by omega)
  have hq:FuP fs i x↔xU0 x.name/\FnAtP fs x.name (Int.ofNat i)/\(ParP x.params x.params.length/\x.params.length<=4)/\uE0 x.a:=Iff.rfl;have hgood:FuP fs i x->∀q f,q < i+1->fs[q]?=some f->FuP fs q f:=fun h q f hq hf=>by
   by_cases hqi:q=i
   ·rw[hqi,hx'] at hf;rw[<-Option.some.inj hf,hqi];exact h
   ·exact g2 q f (by omega) hf
  have hbad:(∀i f,fs[i]?=some f->FuP fs i f)->FuP fs i x:=fun h=>h i x hx';have huq:∀r,FnAtP fs x.name r->(FnAtP fs x.name (Int.ofNat i)↔r=Int.ofNat i):=fun r h=>⟨fun h'=>h.unique h',fun h'=>h' ▸ h⟩;generalize FuP fs i x=fp at *;generalize (ParP x.params x.params.length/\x.params.length<=4)=pp at *;generalize xU0 x.name=np at *;generalize uE0 x.a=bp at *;rw[Fu.t] at e1
  change get ft (nat (Int.ofNat i))=[T.lit (.string x.name),.sl (strs x.params),.sl (x.a.map Sm.t)] at e1
  generalize strs x.params=pt at *;generalize x.a.map Sm.t=at' at *;obtain ⟨nm,hnm⟩:=qX x.name;rw[<-hnm] at e1 hc1 hc2 huq hq;revert hK K;refine qW 0 ?_;intro K hK
  repeat (simp only[e1];cbv)
  refine ndC hidx (ndC haf (ndN ?_));revert hK K;refine qW 0 ?_;intro K hK;refine qG ?_;refine qD hP hc1 ?_;rintro res bx ⟨b,hb1,rfl,rfl⟩;refine qC ?_;cases b
  ·revert hK K;refine qW 0 ?_;intro K hK
   try simp only[hnf]
   revert hK K;refine qW 0 ?_;intro K hK;exact hR _ _ ⟨_,⟨fun h=>by simp at h,fun h=>absurd (hb1.2 (hq.1 (hbad h.2.1)).1) (by simp)⟩,rfl,rfl⟩
  revert hK K;refine qW 0 ?_;intro K hK
  try simp only[hnt]
  revert hK K;refine qW 0 ?_;intro K hK;refine qG ?_;refine qD hP hc2 ?_;rintro res bx ⟨r,hb2,rfl,rfl⟩;refine qC ?_;have hu:=huq r hb2;clear huq hb2 hc2;refine GFork.mk (fun h5=>?_) (fun h5=>?_)<;>cbv
  ·have hne:r≠Int.ofNat i:=qv5
   revert hK K;refine qW 0 ?_;intro K hK;exact hR _ _ ⟨_,⟨fun h=>by simp at h,fun h=>absurd (hu.1 (hq.1 (hbad h.2.1)).2.1) hne⟩,rfl,rfl⟩
  ·have hne:r=Int.ofNat i:=qv5
   revert hK K;refine qW 0 ?_;intro K hK;refine qG ?_;refine qD hP hc3 ?_;rintro res bx ⟨b,hb3,rfl,rfl⟩;refine qC ?_;cases b
   ·revert hK K;refine qW 0 ?_;intro K hK
    try simp only[hnf]
    revert hK K;refine qW 0 ?_;intro K hK;exact hR _ _ ⟨_,⟨fun h=>by simp at h,fun h=>absurd (hb3.2 (hq.1 (hbad h.2.1)).2.2.1) (by simp)⟩,rfl,rfl⟩
   revert hK K;refine qW 0 ?_;intro K hK
   try simp only[hnt]
   revert hK K;refine qW 0 ?_;intro K hK;refine qG ?_;refine qD hP hc4 ?_;rintro res bx ⟨b,hb4,rfl,rfl⟩;refine qC ?_;cases b
   ·revert hK K;refine qW 0 ?_;intro K hK
    try simp only[hnf]
    revert hK K;refine qW 0 ?_;intro K hK;exact hR _ _ ⟨_,⟨fun h=>by simp at h,fun h=>absurd (hb4.2 (hq.1 (hbad h.2.1)).2.2.2) (by simp)⟩,rfl,rfl⟩
   have hok:=hq.2 ⟨hb1.1 rfl,hu.2 hne,hb3.1 rfl,hb4.1 rfl⟩;revert hK K;refine qW 0 ?_;intro K hK
   try simp only[hnt]
   revert hK K;refine qW 0 ?_;intro K hK;rw[e];exact ⟨fs.length - (i+1),by omega,i+1,by cbv,by omega,hgood hok,rfl⟩
 ·have hge:i=NF:=qw3
  have hfok:∀i f,fs[i]?=some f->FuP fs i f:=fun q f hf=>g2 q f (by have:=(List.getElem?_eq_some_iff.1 hf).1;omega) hf
  have hq:((∀r∈rs,r.good)/\(∀i f,fs[i]?=some f->FuP fs i f)/\rs.length<=10/\fs.length<=6)↔NR<=10/\NF<=6:=by rw[hNR,hNF];exact ⟨fun h=>h.2.2,fun h=>⟨hrok,hfok,h⟩⟩
  rw[hq] at hR;clear hq hrok hfok g2;refine qO ?_
  repeat' first|(revert hK K;refine qV 0 ?_;intro K hK)|(refine qK (fun _=>?_) fun _=>?_)|(simp only[lr,lf];try cbv)|fail
  all_goals (refine hR _ _ ⟨_,?_,rfl,rfl⟩;clear hR hM hP hC hseg hfn hfz har haf hrt hft hNR hNF;cases hO;simp only[Ops.std,sCm,beq_iff_eq,decide_eq_true_eq,decide_eq_false_iff_not,Int.ofNat_eq_natCast] at *;first | omega|(simp_all;done)|(simp_all;omega) | grind)
end Go.Gv
