/- Part G3 of the proof: contracts of functions of the program, each walked once. -/
import Derived.Test.YtomgmhbmchidnaaGreatG2
set_option linter.all false
namespace Go.Gv
open Go.Av Go.Proofs
set_option maxRecDepth 10000
set_option maxHeartbeats 8000000
variable {I:∀{α:Type},α->α}
theorem Gx.snode_else {O:List ByteArray} {E:Gx} {k:Int} {s t:ByteArray} {x:List Ex} {a b:List Ik} (h5:¬k=5) (h6:¬k=6) (h7:¬k=7):E.snode O k s t x a b=(x.map (E.c O)).flatten++E.slast k s x.length:=by rw[Gx.snode,if_neg h5,if_neg h6,if_neg h7]
theorem Gx.snodeB_else {O:List ByteArray} {E:Gx} {k:Int} {s t:ByteArray} {x:List Ex} {a b:Bool} (h5:¬k=5) (h6:¬k=6) (h7:¬k=7):E.snodeB O k s t x a b=((x.map (E.b O)).any id || E.slastB k s):=by rw[Gx.snodeB,if_neg h5,if_neg h6,if_neg h7]
theorem DB0 (hI:II @I) (O:List ByteArray) (E:Gx) (hE:Env @I O E):∀(y:Sm) (_:y.Sh),Sp @I E 72 [sA @I y] (E.sc O y) (E.sb O y):=by
 refine Sm.ind fun y ih hy=>?_;have hy':=hy;obtain ⟨h5,hx,lx,la,lb,hs⟩:=hy;have cA:=hR0 hI O E y.a la fun z hz=>ih z (List.mem_append_left _ hz) (hs z (List.mem_append_left _ hz));have cB:=hR0 hI O E y.b lb fun z hz=>ih z (List.mem_append_right _ hz) (hs z (List.mem_append_right _ hz));intro code bad hl;rw[Gx.sc_eq] at hl |-;rw[Gx.sb_eq];rw[List.length_cons] at hl;have hl3:code.length<=274877906943:=by omega
 have c1:=vF0 hI E;have c2:=fun s=>qA0 hI false E.ts s (by have:=hE.ok.ts;omega)
 have c3:=fun h=>qH1 hI O E hE y hy' (h5 (.inl h)) cA cB (code++[pt 1 0]) (I (bad || decide ((0:Int) < 0))) (by rw[Gx.snode,if_pos h] at hl;simp only[List.length_append,List.length_cons,List.length_nil];omega)
 have c4:=fun (h:y.k=6)=>WN0 hI O E hE y hy' (fun h=>h5 (.inr h)) (.inl h) cA (code++[pt 1 0]) (I (bad || decide ((0:Int) < 0))) (by rw[Gx.snode,if_neg (by omega),if_pos h] at hl;rw[if_pos h];simp only[List.length_append,List.length_cons,List.length_nil];omega)
 have c5:y.k=7->∀(code':List Ik) (bad:Bool),code'.length<=code.length+2->_:=fun h code' bad hc=>by
  have q:=WN0 hI O E hE y hy' (fun h=>h5 (.inr h)) (.inr h) cA code' bad (by rw[Gx.snode,if_neg (by omega),if_neg (by omega),if_pos h] at hl;rw[if_neg (by omega)];simp only[List.length_append,List.length_cons,List.length_nil] at hl |-;omega)
  rw[if_neg (by omega),if_neg (by omega)] at q
  exact q
 have hb:y.k=7->code.length+(rW0 [⟨37,0⟩] [⟨38,0⟩,E.nm y.s 6 4] (E.lc O y.a)).length<=274877906944:=fun h=>by rw[Gx.snode,if_neg (by omega),if_neg (by omega),if_pos h] at hl;simp only[List.length_append,List.length_cons,List.length_nil] at hl |-;omega
 have c6:=hP0 hI E hE.ok;refine qN hI tyK Tryz.func72 139 [] ?_;unhygienic intros
 refine qB 2 ?_
 repeat' first|refine qA 2 ?_|refine qJ (nN [0,1]) ?_|refine qJ (nN []) ?_|refine qp ?_ ?_|refine qk (fun h=>?_) fun h=>?_|fail
 ·(refine hR _ _ ⟨?_,?_⟩<;>(simp[-List.getElem!_eq_getElem?_getD,hI.e,F.d1,F.d2,F.d3,F.d4,F.d5,F.d6,F.d7,F.d8,litI,litS,litB,Gx.snode,Gx.snodeB,pt,h];done))
 ·(refine hR _ _ ⟨?_,?_⟩<;>(simp[-List.getElem!_eq_getElem?_getD,hI.e,F.d1,F.d2,F.d3,F.d4,F.d5,F.d6,F.d7,F.d8,litI,litS,litB,Gx.snode,Gx.snodeB,pt,h];done))
 ·(refine hR _ _ ⟨?_,?_⟩<;>(simp[-List.getElem!_eq_getElem?_getD,hI.e,F.d1,F.d2,F.d3,F.d4,F.d5,F.d6,F.d7,F.d8,litI,litS,litB,Gx.snode,Gx.snodeB,pt,h,Bool.or_assoc];done))
 rw[Gx.snode_else ‹_› ‹_› ‹_›] at hl hR;rw[Gx.snodeB_else ‹_› ‹_› ‹_›] at hR;rw[List.length_append] at hl;refine qLf 3 [0,3,4] kk0 (fun i:Nat=>⟨vag 139 [(0,⟨.one,[.ptr 0 0]⟩),(3,⟨.one,[.ptr 2 0]⟩),(4,litI (Int.ofNat (I i)))],[mkS @I E (code++⟨1,0⟩::((y.x.take i).map (E.c O)).flatten) (I (bad || ((y.x.take i).map (E.b O)).any id)),plS @I E,some (sA @I y).cs],1⟩) (fun i=>i<=y.x.length) (fun i=>y.x.length - i) ?_ fun i hi=>?_
 ·cbv
  exact ⟨0,by simp[hI.e,pt];rfl,by omega⟩
 have hi3:=GZ0 (E.c O) y.x (i+1);clear c3 c4 c5;have c9:=fun h=>hQ0 hI O E hE _ (hx _ (zB0 (l:=y.x) (i:=i) h)) (code++⟨1,0⟩::((y.x.take i).map (E.c O)).flatten) (I (bad || ((y.x.take i).map (E.b O)).any id)) (by rw[XW0 _ h,List.length_append] at hi3;rw[List.length_append,List.length_cons];omega)
 have hi4:=GZ0 (E.c O) y.x i;have hi5:(((y.x.take i).map (E.c O)).flatten).length<=274877906944:=by omega
 refine qB 2 ?_
 repeat' first|refine qA 2 ?_|refine qJ (nN [0,1]) ?_|refine qJ (nN []) ?_|refine qp ?_ ?_|refine qk (fun h=>?_) fun h=>?_|fail
 ·exact ⟨i+1,by (try simp only[A.reset,zD0,hI.e,List.append_assoc,Bool.or_false,zC0,XW0 (E.c O) h,gB0 (E.b O) h,<-Bool.or_assoc,List.cons_append]);rfl,by omega,by omega⟩
 all_goals (
  rw[List.take_of_length_le (by omega)] at *
  have hneg:¬(y.x.length:Int) < 0:=by omega
  clear c1 c2 c6 c9 cA cB hb ih hi3 hi4 hi5 hl;generalize (y.x.map (E.b O)).any id=q at *)
 all_goals first|(refine hR _ _ ⟨?_,?_⟩<;>(simp[-List.getElem!_eq_getElem?_getD,hI.e,F.d1,F.d2,F.d3,F.d4,F.d5,F.d6,F.d7,F.d8,litI,litS,litB,Gx.slast,Gx.slastB,pt,Bool.or_assoc, *];done))|(cases bad<;>cases q<;>first|(refine hR _ _ ⟨?_,?_⟩<;>(simp[-List.getElem!_eq_getElem?_getD,hI.e,F.d1,F.d2,F.d3,F.d4,F.d5,F.d6,F.d7,F.d8,litI,litS,litB,Gx.slast,Gx.slastB,pt,Bool.or_assoc, *];done))|(simp_all;done))
variable {I:∀{α:Type},α->α}
abbrev Po:=List Vl×List ByteArray
def addB (l:List ByteArray) (v:ByteArray):List ByteArray:=if ixOf l v < 0 then l++[v] else l
def pS (s:Po) (k n:Int) (t:ByteArray):Po:=if k=1 then (addV s.1 ⟨1,n,⟨⟨[]⟩⟩⟩,s.2) else if k=2 then (addV s.1 ⟨2,0,t⟩,s.2) else if k=10\/k=18 then (s.1,addB s.2 t) else s
mutual
def pE (s:Po):Ex->Po
 | .mk k n t l=>pL (pS s k n t) l
def pL (s:Po):List Ex->Po
 | []=>s
 | e::l=>pL (pE s e) l
end
mutual
def pM (s:Po):Sm->Po
 | .mk _ _ _ x a b=>pB (pB (pL s x) a) b
def pB (s:Po):List Sm->Po
 | []=>s
 | y::l=>pB (pM s y) l
end
theorem jF0 (s:Po):∀l,pL s l=l.foldl pE s
 | []=>rfl
 | e::l=>by rw[pL,jF0 (pE s e) l];rfl
theorem UD0 (s:Po):∀l,pB s l=l.foldl pM s
 | []=>rfl
 | e::l=>by rw[pB,UD0 (pM s e) l];rfl
theorem pE_eq (s:Po) (e:Ex):pE s e=e.l.foldl pE (pS s e.k e.n e.s):=by cases e;rw[pE,jF0];rfl
theorem pM_eq (s:Po) (y:Sm):pM s y=pB (pB (pL s y.x) y.a) y.b:=by cases y;rw[pM];rfl
theorem xW0 {α β:Type} [Inhabited α] (f:β->α->β) (s:β) {l:List α} {i:Nat} (h:i < l.length):(l.take (i+1)).foldl f s=f ((l.take i).foldl f s) l[i]!:=by rw[yP0 h,List.foldl_append];rfl
def Less (s t:Po) (n:Nat):Prop:=t.1.length<=s.1.length+n/\t.2.length<=s.2.length+n
theorem HR0 (s:Po) (k n:Int) (t:ByteArray):Less s (pS s k n t) 1:=by
 unfold pS addV addB Less
 repeat' split
 all_goals simp
mutual
theorem bK0 (s:Po):∀e:Ex,Less s (pE s e) e.parts
 | .mk k n t l=>by
  have h1:=HR0 s k n t;have h2:=jE0 (pS s k n t) l;rw[pE,Ex.parts];unfold Less at *;omega
theorem jE0 (s:Po):∀l:List Ex,Less s (pL s l) (Ex.partss l)
 | []=>by simp[pL,Less]
 | e::l=>by
  have h1:=bK0 s e;have h2:=jE0 (pE s e) l;rw[pL,Ex.partss];unfold Less at *;omega
end
mutual
theorem tP1 (s:Po):∀y:Sm,Less s (pM s y) y.parts
 | .mk k n t x a b=>by
  have h1:=jE0 s x;have h2:=rV0 (pL s x) a;have h3:=rV0 (pB (pL s x) a) b;rw[pM,Sm.parts];unfold Less at *;omega
theorem rV0 (s:Po):∀l:List Sm,Less s (pB s l) (Sm.partss l)
 | []=>by simp[pB,Less]
 | e::l=>by
  have h1:=tP1 s e;have h2:=rV0 (pM s e) l;rw[pB,Sm.partss];unfold Less at *;omega
end
theorem PB0 {l:List Ex} {i:Nat} (h:i < l.length):Ex.partss (l.take i)+l[i]!.parts<=Ex.partss l:=by
 have h1:=congrArg Ex.partss (List.take_append_drop (i+1) l);rw[Ex.partss_app,yP0 h,Ex.partss_app,Ex.partss_one] at h1;omega
theorem MC0 (l:List Ex) (i:Nat):Ex.partss (l.take i)<=Ex.partss l:=by
 have h1:=congrArg Ex.partss (List.take_append_drop i l);rw[Ex.partss_app] at h1;omega
theorem pY1 {l:List Sm} {i:Nat} (h:i < l.length):Sm.partss (l.take i)+l[i]!.parts<=Sm.partss l:=by
 have h1:=congrArg Sm.partss (List.take_append_drop (i+1) l);rw[Sm.partss_app,yP0 h,Sm.partss_app,Sm.partss_one] at h1;omega
abbrev Pk (I:∀{α:Type},α->α) (f:FuncId) (args:List AV) (g:Po->Po) (n:Nat):Prop:=∀s:Po,s.1.length+n<=137438953472->s.2.length+n<=137438953472->
 ACl Tryz.prog f (⟨.one,[.ptr 0 0]⟩::args) [plB @I s.1 s.2] (fun res bx=>res=⟨.tup [],[]⟩/\bx=[plB @I (g s).1 (g s).2])
theorem WP0 (hI:II @I):∀(e:Ex) (_:e.Sh),Pk @I 138 [eA @I e] (fun s=>pE s e) e.parts:=by
 refine Ex.ind fun e ih he=>?_;intro s h1 h2;obtain ⟨_,hn,hm,hs⟩:=he;have hp:e.parts=1+Ex.partss e.l:=by cases e;rw[Ex.parts];rfl
 rw[hp] at h1 h2;simp only[pE_eq s e];have c1:=fun h=>TK0 hI (I e.n) (by rw[hI.e];exact hn h)
 have c2:=PM0 hI;have c3:=fun k n t=>MZ0 hI s.1 s.2 k n t (by omega)
 have c4:=fun t=>qA0 hI false s.2 t (by omega)
 refine qN hI tyK Tryz.func138 57 [] ?_;unhygienic intros
 refine qB 1 ?_
 repeat' first|refine qA 1 ?_|refine qJ (nN []) ?_|refine qJ (nN [0]) ?_|refine qp ?_ ?_|refine qk (fun h=>?_) fun h=>?_|fail
 all_goals (try exact absurd ‹_› h)
 all_goals (
  refine qLf 2 [0,3,4] kk0 (fun i:Nat=>⟨vag 57 [(0,⟨.one,[.ptr 0 0]⟩),(3,⟨.one,[.ptr 1 0]⟩),(4,litI (Int.ofNat (I i)))],[plB @I ((e.l.take i).foldl pE (pS s e.k e.n e.s)).1 ((e.l.take i).foldl pE (pS s e.k e.n e.s)).2,some (eA @I e).cs],1⟩) (fun i=>i<=e.l.length) (fun i=>e.l.length - i) ?_ fun i hi=>?_
  ·cbv
   clear c1 c2 c3 c4 ih;exact ⟨0,by simp[hI.e,pS,addB, *];rfl,by omega⟩
  clear c1 c2 c3 c4;have hk:=HR0 s e.k e.n e.s;have hq:=jE0 (pS s e.k e.n e.s) (e.l.take i);rw[jF0] at hq;unfold Less at hk hq;have c9:=fun h=>ih _ (zB0 (l:=e.l) (i:=i) h) (hs _ (zB0 h)) ((e.l.take i).foldl pE (pS s e.k e.n e.s)) (by have:=PB0 h;omega) (by have:=PB0 h;omega)
  refine qB 1 ?_
  repeat' first|refine qA 1 ?_|refine qJ (nN [0]) ?_|refine qp ?_ ?_|refine qk (fun h=>?_) fun h=>?_|fail
  ·exact ⟨i+1,by (try simp only[A.reset,zD0,hI.e,List.append_assoc,Bool.or_false,zC0,xW0 pE (pS s e.k e.n e.s) h]);rfl,by omega,by omega⟩
  ·rw[List.take_of_length_le (by omega)] at *
   (refine hR _ _ ⟨?_,?_⟩<;>(simp[-List.getElem!_eq_getElem?_getD,hI.e,F.d1,F.d2,F.d3,F.d4,F.d5,F.d6,F.d7,F.d8,litI,litS,litB,hI.e];done))
  )
theorem uB0 (hI:II @I) (l:List Sm) (hm:l.length<=1048576) (hx:∀y∈l,y.x.length<=1048576/\∀e∈y.x,e.Sh) (ih:∀y∈l,Pk @I 137 [smA @I y.a] (fun s=>pB s y.a) (Sm.partss y.a)/\Pk @I 137 [smA @I y.b] (fun s=>pB s y.b) (Sm.partss y.b)):Pk @I 137 [smA @I l] (fun s=>pB s l) (Sm.partss l):=by
 intro s h1 h2;simp only[UD0 s l];refine qN hI tyK Tryz.func137 46 [] ?_;unhygienic intros
 refine qB 1 ?_;refine qLf 1 [0,1,4] kk0 (fun i:Nat=>⟨vag 46 [(0,⟨.one,[.ptr 0 0]⟩),(1,smA @I l),(4,litI (Int.ofNat (I i)))],[plB @I ((l.take i).foldl pM s).1 ((l.take i).foldl pM s).2],1⟩) (fun i=>i<=l.length) (fun i=>l.length - i) ?_ fun i hi=>?_
 ·cbv
  exact ⟨0,by simp[hI.e];rfl,by omega⟩
 have hq:=rV0 s (l.take i);rw[UD0] at hq;obtain ⟨p,hp⟩:=qX ((l.take i).foldl pM s);rw[<-hp] at hq |-;unfold Less at hq;refine qB 1 ?_
 repeat' first|refine qA 1 ?_|refine qJ (nN [0]) ?_|refine qp ?_ ?_|refine qk (fun h=>?_) fun h=>?_|fail
 ·have hy:=hx _ (zB0 h)
  have hp2:=pY1 h;have hyp:(l[i]!).parts=Ex.partss (l[i]!).x+Sm.partss (l[i]!).a+Sm.partss (l[i]!).b:=by cases l[i]!;rw[Sm.parts];rfl
  refine qLf 1 [0,1,4,5] kk0 (fun j:Nat=>⟨vag 46 [(0,⟨.one,[.ptr 0 0]⟩),(1,smA @I l),(4,litI (Int.ofNat (I i))),(5,litI (Int.ofNat (I j)))],[plB @I (((l[i]!).x.take j).foldl pE p).1 (((l[i]!).x.take j).foldl pE p).2],1⟩) (fun j=>j<=(l[i]!).x.length) (fun j=>(l[i]!).x.length - j) ?_ fun j hj=>?_
  ·cbv
   exact ⟨0,by simp[hI.e];rfl,by omega⟩
  have hi':=h;have hq2:=jE0 p ((l[i]!).x.take j);rw[jF0] at hq2;have hq3:=MC0 (l[i]!).x j;have hq4:=rV0 (((l[i]!).x.take j).foldl pE p) (l[i]!).a;unfold Less at hq2 hq4;have c1:=fun h=>WP0 hI _ (hy.2 _ (zB0 (l:=(l[i]!).x) (i:=j) h)) (((l[i]!).x.take j).foldl pE p) (by have:=PB0 h;omega) (by have:=PB0 h;omega)
  have c2:=(ih _ (zB0 hi')).1;have c3:=(ih _ (zB0 hi')).2;refine qB 1 ?_
  repeat' first|refine qA 1 ?_|refine qJ (nN [0]) ?_|refine qp ?_ ?_|refine qk (fun h=>?_) fun h=>?_|fail
  ·exact ⟨j+1,by (try simp only[A.reset,zD0,hI.e,List.append_assoc,Bool.or_false,zC0,xW0 pE p h]);rfl,by omega,by omega⟩
  ·have ht:(l[i]!).x.take j=(l[i]!).x:=List.take_of_length_le (by omega)
   exact ⟨i+1,by (try simp only[A.reset,zD0,hI.e,List.append_assoc,Bool.or_false,zC0,xW0 pM s hi',<-hp,pM_eq,jF0,ht]);rfl,by omega,by omega⟩
 ·have ht:l.take i=l:=List.take_of_length_le (by omega)
  (refine hR _ _ ⟨?_,?_⟩<;>(simp[-List.getElem!_eq_getElem?_getD,hI.e,F.d1,F.d2,F.d3,F.d4,F.d5,F.d6,F.d7,F.d8,litI,litS,litB,hI.e,hp,ht];done))
end Go.Gv
