/- Part PN3 of the proof: contracts of functions of the program, each walked once. -/
import Derived.Test.YtnmkmfancgcaeaaGreatDoorPN2
import Derived.Test.YtnmkmfancgcaeaaGreatDoorPD5
set_option linter.all false
namespace Go.Gv
open Go.Av Go.Proofs
set_option maxRecDepth 10000
set_option maxHeartbeats 8000000
variable {I:∀{α:Type},α->α}
mutual
def Ex.depth:Ex->Nat
 | .mk _ _ _ l=>1+Ex.depths l
def Ex.depths:List Ex->Nat
 | []=>0
 | e::l=>max (Ex.depth e) (Ex.depths l)
end
theorem Ex.depths_le {l:List Ex} {m:Nat}:Ex.depths l<=m↔∀x∈l,x.depth<=m:=by
 induction l with
 | nil=>simp[Ex.depths]
 | cons a l ih=>rw[Ex.depths,List.forall_mem_cons,<-ih];omega
theorem Ex.depth_pos (e:Ex):1<=e.depth:=by cases e;rw[Ex.depth];omega
theorem Ex.parts_pos (e:Ex):1<=e.parts:=by cases e;rw[Ex.parts];omega
theorem Ex.szs_mem:∀{l:List Ex} {x:Ex},x∈l->x.sz<=Ex.szs l
 | [],x,h=>by simp at h
 | y::l,x,h=>by
  rw[Ex.szs];rcases List.mem_cons.1 h with rfl | h
  ·omega
  ·have:=Ex.szs_mem h;omega
theorem Ex.partss_take (l:List Ex) (i:Nat):Ex.partss (l.take i)<=Ex.partss l:=by
 have:=congrArg Ex.partss (List.take_append_drop i l);rw[Ex.partss_app] at this;omega
inductive Ex.ok:Ex->Prop where
 | mk {k n:Int} {s:ByteArray} {l:List Ex} (h:vL0 k n s l.length) (hl:∀x∈l,Ex.ok x):Ex.ok (.mk k n s l)
theorem GV0 {k n:Int} {s:ByteArray} {l:List Ex}:(Ex.mk k n s l).ok↔vL0 k n s l.length/\∀x∈l,Ex.ok x:=⟨fun h=>by cases h with | mk h hl=>exact ⟨h,hl⟩,fun h=>.mk h.1 h.2⟩
def Ex.good (e:Ex):Prop:=e.ok/\e.parts<=100/\e.depth<=10
theorem sz_inv {k n:Int} {s:ByteArray} {l:List Ex} (h:(Ex.mk k n s l).sz<=1048576):s.size<=1048576/\l.length<=1048576/\∀x∈l,x.sz<=1048576:=by
 rw[Ex.sz] at h;exact ⟨by omega,by omega,fun x hx=>by have:=Ex.szs_mem hx;omega⟩
def lowX (l:List Ex) (d i:Nat):Prop:=(∀x∈l.take i,x.depth+(d+1)<=11)/\1+Ex.partss (l.take i)<=100
theorem GN0 {k n:Int} {s:ByteArray} {l:List Ex} {d:Nat} (hd:d<=10):lowX l d l.length↔(Ex.mk k n s l).depth+d<=11/\(Ex.mk k n s l).parts<=100:=by
 unfold lowX;rw[List.take_length,Ex.depth,Ex.parts];refine and_congr_left fun _=>?_;rw[show 1+Ex.depths l+d<=11↔Ex.depths l<=10 - d by omega,Ex.depths_le]
 exact forall_congr' fun x=>forall_congr' fun _=>by omega
theorem MF0 {l:List Ex} {d i:Nat} (h:lowX l d l.length):lowX l d i:=by
 unfold lowX at *;rw[List.take_length] at h;exact ⟨fun x hx=>h.1 x (List.mem_of_mem_take hx),by have:=Ex.partss_take l i;omega⟩
theorem ME0 {l:List Ex} {d i:Nat} {x:Ex} (ht:l.take (i+1)=l.take i++[x]):lowX l d (i+1)↔lowX l d i/\x.depth+(d+1)<=11/\1+Ex.partss (l.take i)+x.parts<=100:=by
 unfold lowX;rw[ht,Ex.partss_app,Ex.partss_one];simp only[List.mem_append,List.mem_singleton]
 constructor
 ·rintro ⟨h1,h2⟩;exact ⟨⟨fun y hy=>h1 y (.inl hy),by omega⟩,h1 x (.inr rfl),by omega⟩
 ·rintro ⟨⟨h1,h2⟩,h3,h4⟩
  refine ⟨fun y hy=>?_,by omega⟩
  rcases hy with hy | rfl
  ·exact h1 y hy
  ·exact h3
def yF1 (l:List Ex) (d i:Nat):Prop:=∀x∈l.take i,x.ok/\x.depth+(d+1)<=11
def Ex.goodAt (r:Ex) (d:Nat):Prop:=r.ok/\r.depth+d<=11/\r.parts<=100
abbrev uV1 (f:FuncId):Prop:=∀r:Ex,r.sz<=1048576->ACl Tryz.prog f [agT r.t] [] (fun res bx=>∃b:Bool,(b=true↔r.good)/\res=litB b/\bx=[])
theorem Ex.ok_eq (e:Ex):e.ok↔vL0 e.k e.n e.s e.l.length/\∀x∈e.l,x.ok:=by cases e;exact GV0
theorem Ex.sz3 {e:Ex} (h:e.sz<=1048576):e.s.size<=1048576/\e.l.length<=1048576/\∀x∈e.l,x.sz<=1048576:=by cases e;exact sz_inv h
theorem Ex.partss_at {l:List Ex} {i:Nat} (h:i < l.length):Ex.partss (l.take (i+1))=Ex.partss (l.take i)+(l[i]!).parts:=by rw[zU0 h,Ex.partss_app,Ex.partss_one]
theorem jM0 {α:Type} [Inhabited α] {p:α->Prop} {l:List α} {i:Nat} (h:i < l.length) (h1:∀x∈l.take i,p x) (h2:p l[i]!):∀x∈l.take (i+1),p x:=by
 rw[zU0 h];exact fun x hx=>(List.mem_append.1 hx).elim (h1 x) fun q=>List.mem_singleton.1 q ▸ h2
theorem lowE {e:Ex} {d:Nat} (hd:d<=10):lowX e.l d e.l.length↔e.depth+d<=11/\e.parts<=100:=by cases e;exact GN0 hd
theorem GM0 {l:List Ex} {d i n m:Nat} (h:i < l.length) (h1:n<=100↔lowX l d i) (h2:n<=100->n=1+Ex.partss (l.take i)) (h3:m<=100↔(l[i]!).depth+(d+1)<=11/\(l[i]!).parts<=100) (h4:m<=100->m=(l[i]!).parts):(n+m<=100↔lowX l d (i+1))/\(n+m<=100->n+m=1+Ex.partss (l.take (i+1))):=by
 rw[ME0 (zU0 h),<-h1,Ex.partss_at h];refine ⟨⟨fun q=>?_,fun ⟨q1,q2,q3⟩=>?_⟩,fun q=>?_⟩
 ·have a:=h2 (by omega)
  have b:=h4 (by omega)
  exact ⟨by omega,(h3.1 (by omega)).1,by omega⟩
 ·have a:=h2 q1
  have b:=h4 (h3.2 ⟨q2,by omega⟩)
  omega
 ·have a:=h2 (by omega)
  have b:=h4 (by omega)
  omega
section
variable (hI:II @I)
include hI
theorem lit1:(litI 1:AV)=litI (Int.ofNat (I 1)):=by rw[hI.e];rfl
theorem QT0:∀(e:Ex) (d:Nat),d<=11->e.sz<=1048576->ACl Tryz.prog 46 [eA @I e,litI (Int.ofNat (I d))] [] (fun res bx=>∃n:Nat,(n+100 * d<=1301/\(n<=100↔e.depth+d<=11/\e.parts<=100)/\(n<=100->n=e.parts))/\res=litI (Int.ofNat (I n))/\bx=[]):=by
 refine Ex.ind fun e ih d hd hz=>?_;obtain ⟨_,hl,hx0⟩:=Ex.sz3 hz;have hdp:=Ex.depth_pos e;have hpe:e.parts=1+Ex.partss e.l:=by cases e;rw[Ex.parts];rfl
 have hlo:=lowE (e:=e) (d:=d);refine qN hI tyK Tryz.func46 31 [.tmp 4] ?_;unhygienic intros
 refine qB 0 ?_;refine qk (fun h=>?_) fun h=>?_
 ·refine qA 0 ?_
  exact hR _ _ ⟨101,⟨by omega,by omega,by omega⟩,by rw[hI.e];rfl,rfl⟩
 have hd':d<=10:=by omega
 have hlo:=hlo hd';refine qA 0 ?_;refine qLf 1 [1,2,5,6] kk0 (fun a:Nat×Nat=>⟨vag 31 [(1,litI (Int.ofNat (I d))),(2,⟨.one,[.ptr 0 0]⟩),(5,litI (Int.ofNat (I a.2))),(6,litI (Int.ofNat (I a.1)))],[some (eA @I e).cs],1⟩) (fun a=>a.1<=e.l.length/\a.2+100 * d<=1301/\(a.2<=100↔lowX e.l d a.1)/\(a.2<=100->a.2=1+Ex.partss (e.l.take a.1))) (fun a=>e.l.length - a.1) ?_ fun a ha=>?_
 ·cbv
  exact ⟨(0,1),by simp only[hI.e];rfl,by simp,by omega,by simp[lowX,Ex.partss],by simp[Ex.partss]⟩
 obtain ⟨i,n⟩:=a;obtain ⟨h1,h2,h3,h4⟩:=ha;simp only at h1 h2 h3 h4 |-;have c1:=fun (hh:i < e.l.length)=>ih _ (zB0 hh) (d+1) (by omega) (hx0 _ (zB0 hh))
 refine qB 0 ?_
 repeat' first|refine qA 0 ?_|refine qJe (nN []) fun x hx=>?_|refine qp ?_ ?_|refine qk (fun h=>?_) fun h=>?_|fail
 ·obtain ⟨g1,g2⟩:=GM0 ‹_› h3 h4 hx.2.1 hx.2.2
  exact ⟨(i+1,n+x),by (try simp only[A.reset,hI.e]);rfl,⟨by simp only;omega,by simp only;have:=hx.1;omega,g1,g2⟩,by simp only;omega⟩
 ·exact hR _ _ ⟨n,⟨h2,⟨fun q=>absurd q h,fun q=>h3.2 (MF0 (hlo.2 q))⟩,fun q=>absurd q h⟩,rfl,rfl⟩
 ·obtain rfl:i=e.l.length:=by omega
  rw[List.take_length] at h4;exact hR _ _ ⟨n,⟨h2,h3.trans hlo,fun q=>by rw[h4 q,hpe]⟩,rfl,rfl⟩
theorem xA1:∀(e:Ex),e.sz<=1048576->ACl Tryz.prog 47 [eA @I e] [] (fun res bx=>res=litB (I (bB e.ok))/\bx=[]):=by
 refine Ex.ind fun e ih hz=>?_;obtain ⟨hs,hl,hx0⟩:=Ex.sz3 hz;have he:=Ex.ok_eq e;have c2:=KY0 hI e hs;refine qN hI tyK Tryz.func47 20 [.tmp 2] ?_;unhygienic intros
 refine qB 0 ?_;refine qLf 1 [1,3] kk0 (fun i:Nat=>⟨vag 20 [(1,⟨.one,[.ptr 0 0]⟩),(3,litI (Int.ofNat (I i)))],[some (eA @I e).cs],1⟩) (fun i=>i<=e.l.length/\∀x∈e.l.take i,x.ok) (fun i=>e.l.length - i) ?_ fun i hi=>?_
 ·cbv
  exact ⟨0,by simp only[hI.e];rfl,by simp,by simp⟩
 have c1:=fun (hh:i < e.l.length)=>ih _ (zB0 hh) (hx0 _ (zB0 hh));refine qB 0 ?_
 repeat' first|refine qA 0 ?_|refine qJ (nN []) ?_|refine qp ?_ ?_|refine qk (fun h=>?_) fun h=>?_|fail
 ·exact hR _ _ ⟨liP hI ⟨fun q=>by simp at q,fun q=>absurd ((he.1 q).2 _ (zB0 ‹_›)) h⟩,rfl⟩
 ·exact ⟨i+1,by (try simp only[A.reset,wE0,hI.e,List.append_assoc,Bool.or_false,wC0]);rfl,⟨by omega,jM0 ‹_› hi.2 (Classical.not_not.1 h)⟩,by omega⟩
 ·rw[List.take_of_length_le (by omega)] at hi
  exact hR _ _ ⟨liP hI (by rw[hI.e,xJ0,he];exact ⟨fun q=>⟨q,hi.2⟩,fun q=>q.1⟩),rfl⟩
theorem XB0 (e:Ex) (hz:e.sz<=1048576):ACl Tryz.prog 20 [eA @I e] [] (fun res bx=>res=litB (I (bB e.good))/\bx=[]):=by
 have c1:=QT0 hI e 1 (by omega) hz
 rw[<-lit1 hI] at c1;have c2:=xA1 hI e hz;refine qN hI tyK Tryz.func20 10 [.tmp 2] ?_;unhygienic intros
 refine qB 0 ?_
 repeat' first|refine qA 0 ?_|refine qJe (nN []) fun x hx=>?_|refine qJ (nN []) ?_|refine qp ?_ ?_|refine qk (fun h=>?_) fun h=>?_|fail
 ·exact hR _ _ ⟨liP hI (by rw[hI.e,xJ0,Ex.good];have:=hx.2.1.1 h;exact ⟨fun q=>⟨q,this.2,by omega⟩,fun q=>q.1⟩),rfl⟩
 ·exact hR _ _ ⟨liP hI ⟨fun q=>by simp at q,fun q=>absurd (hx.2.1.2 ⟨by have:=q.2.2;omega,q.2.1⟩) h⟩,rfl⟩
theorem YU0:∀(e:Ex) (d:Nat),d<=11->e.sz<=1048576->ACl Tryz.prog 54 [eA @I e,litI (Int.ofNat (I d))] [] (fun res bx=>∃n:Nat,(n<=101/\(n<=100↔e.goodAt d)/\(n<=100->n=e.parts))/\res=litI (Int.ofNat (I n))/\bx=[]):=by
 refine Ex.ind fun e ih d hd hz=>?_;obtain ⟨hs,hl,hx0⟩:=Ex.sz3 hz;have hdp:=Ex.depth_pos e;have hpe:e.parts=1+Ex.partss e.l:=by cases e;rw[Ex.parts];rfl
 have hde:e.depth=1+Ex.depths e.l:=by cases e;rw[Ex.depth];rfl
 have he:=Ex.ok_eq e;have c2:=dH0 hI e hs;refine qN hI tyK Tryz.func54 32 [.tmp 4] ?_;unhygienic intros
 refine qB 0 ?_
 repeat' first|refine qA 0 ?_|refine qJ (nN []) ?_|refine qp ?_ ?_|refine qk (fun h=>?_) fun h=>?_|fail
 ·exact hR _ _ ⟨101,⟨by omega,⟨fun q=>by omega,fun q=>by have:=q.2.1;omega⟩,by omega⟩,by rw[hI.e];rfl,rfl⟩
 ·exact hR _ _ ⟨101,⟨by omega,⟨fun q=>by omega,fun q=>absurd (he.1 q.1).1 h⟩,by omega⟩,by rw[hI.e];rfl,rfl⟩
 have hh:=Classical.not_not.1 h;have hd':d<=10:=by omega
 clear c2 h;refine qLf 1 [1,5,16,17,18] kk0 (fun a:Nat×Nat=>⟨vag 32 [(1,litI (Int.ofNat (I d))),(5,litI (Int.ofNat (I a.2))),(16,⟨.one,[.ro true (I (e.l.map Ex.t))]⟩),(17,litI (Int.ofNat (I e.l.length))),(18,litI (Int.ofNat (I a.1)))],[some (eA @I e).cs],1⟩) (fun a=>a.1<=e.l.length/\a.2=1+Ex.partss (e.l.take a.1)/\a.2<=100/\yF1 e.l d a.1) (fun a=>e.l.length - a.1) ?_ fun a ha=>?_
 ·cbv
  exact ⟨(0,1),by simp only[hI.e];rfl,by simp,by simp[Ex.partss],by simp,by simp[yF1]⟩
 obtain ⟨i,n⟩:=a;obtain ⟨h1,h2,h3,h4⟩:=ha;simp only at h1 h2 h3 h4 |-;have c1:=fun (hh:i < e.l.length)=>ih _ (zB0 hh) (d+1) (by omega) (hx0 _ (zB0 hh))
 refine qB 0 ?_
 repeat' first|refine qA 0 ?_|refine qJe (nN []) fun x hx=>?_|refine qp ?_ ?_|refine qk (fun h=>?_) fun h=>?_|fail
 ·have hm:=zB0 (l:=e.l) ‹_›
  have p1:=Ex.partss_at (l:=e.l) ‹_›;have p2:=Ex.partss_take e.l (i+1);have p3:=Ex.depths_le.1 (Nat.le_refl _) _ hm;refine hR _ _ ⟨101,⟨by omega,⟨fun q=>by omega,fun ⟨q1,q2,q3⟩=>?_⟩,by omega⟩,by rw[hI.e];rfl,rfl⟩
  have p4:=hx.2.1.2 ⟨(he.1 q1).2 _ hm,by omega,by omega⟩
  have:=hx.2.2 p4;omega
 ·have p1:=Ex.partss_at (l:=e.l) ‹_›
  have p4:x<=100:=by omega
  have g:=hx.2.1.1 p4;have:=hx.2.2 p4;exact ⟨(i+1,n+x),by (try simp only[A.reset,hI.e]);rfl,⟨by simp only;omega,by simp only;omega,by simp only;omega,jM0 ‹_› h4 ⟨g.1,by have:=g.2.1;omega⟩⟩,by simp only;omega⟩
 ·obtain rfl:i=e.l.length:=by omega
  rw[yF1,List.take_length] at h4;rw[List.take_length] at h2;have hdl:Ex.depths e.l<=10 - d:=Ex.depths_le.2 fun x hx=>by have:=(h4 x hx).2;omega
  exact hR _ _ ⟨n,⟨by omega,⟨fun _=>⟨he.2 ⟨hh,fun x hx=>(h4 x hx).1⟩,by omega,by omega⟩,fun _=>h3⟩,fun _=>by omega⟩,rfl,rfl⟩
theorem XC0 (e:Ex) (hz:e.sz<=1048576):ACl Tryz.prog 24 [eA @I e] [] (fun res bx=>res=litB (I (bB e.good))/\bx=[]):=by
 have c1:=YU0 hI e 1 (by omega) hz
 rw[<-lit1 hI] at c1;refine qN hI tyK Tryz.func24 6 [.tmp 2] ?_;unhygienic intros
 refine qB 0 ?_
 repeat' first|refine qA 0 ?_|refine qJe (nN []) fun x hx=>?_|refine qp ?_ ?_|refine qk (fun h=>?_) fun h=>?_|fail
 exact hR _ _ ⟨liP hI (by rw[F.k4,hI.e,show (Int.ofNat x<=100)=(x<=100) from nl3 x 100,hx.2.1,Ex.goodAt,Ex.good];exact ⟨fun q=>⟨q.1,q.2.2,by have:=q.2.1;omega⟩,fun q=>⟨q.1,by have:=q.2.2;omega,q.2.1⟩⟩),rfl⟩
end
theorem qH0:uV1 24:=fun e hz=>by rw[vW1];exact QB.to (XC0 (I:=@id) rfl e hz)
theorem dR0:uV1 20:=fun e hz=>by rw[vW1];exact QB.to (XB0 (I:=@id) rfl e hz)
end Go.Gv
