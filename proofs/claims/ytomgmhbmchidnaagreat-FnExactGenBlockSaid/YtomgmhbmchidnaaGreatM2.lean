/- Part M2 of the proof: contracts of functions of the program, each walked once. -/
import Derived.Test.YtomgmhbmchidnaaGreatM1
import Derived.Test.YtomgmhbmchidnaaGreatS1
set_option linter.all false
namespace Go.Gv
open Go.Av Go.Proofs Go.RowKit
set_option maxRecDepth 100000
set_option maxHeartbeats 4000000
def cs {α:Type} (f:α->Nat) (l:List α):Nat:=(l.map f).sum
theorem FL0 {α:Type} [Inhabited α] (f:α->Nat) {l:List α} {i:Nat} (h:i < l.length):cs f (l.take (i+1))=cs f (l.take i)+f l[i]!:=by rw[yP0 h];simp[cs]
theorem FK0 {α:Type} (f:α->Nat) (l:List α) (i:Nat):cs f (l.take i)<=cs f l:=by
 have h:=congrArg (cs f) (List.take_append_drop i l);simp only[cs,List.map_append,List.sum_append] at h |-;omega
def str1 (_:ByteArray):Nat:=1
theorem uW1 (s:ByteArray):str1 s=1:=rfl
mutual
def Ex.mk':Ex->Nat
 | .mk _ _ _ l=>3+Ex.mks' l
def Ex.mks':List Ex->Nat
 | []=>0
 | e::l=>Ex.mk' e+Ex.mks' l
end
theorem Ex.mks'_eq:∀l,Ex.mks' l=cs Ex.mk' l
 | []=>rfl
 | e::l=>by rw[Ex.mks',Ex.mks'_eq l];simp[cs]
theorem Ex.mk'_eq (e:Ex):e.mk'=3+cs Ex.mk' e.l:=by cases e;rw[Ex.mk',Ex.mks'_eq];rfl
mutual
def Sm.mk':Sm->Nat
 | .mk _ _ _ x a b=>3+cs Ex.mk' x+Sm.mks' a+Sm.mks' b
def Sm.mks':List Sm->Nat
 | []=>0
 | e::l=>Sm.mk' e+Sm.mks' l
end
theorem Sm.mks'_eq:∀l,Sm.mks' l=cs Sm.mk' l
 | []=>rfl
 | e::l=>by rw[Sm.mks',Sm.mks'_eq l];simp[cs]
theorem Sm.mk'_eq (e:Sm):e.mk'=3+cs Ex.mk' e.x+cs Sm.mk' e.a+cs Sm.mk' e.b:=by cases e;rw[Sm.mk',Sm.mks'_eq,Sm.mks'_eq];rfl
def Ru.mk' (r:Ru):Nat:=4+cs Ex.mk' r.p.l+cs Sm.mk' r.a
theorem Ru.mk'_eq (r:Ru):r.mk'=4+cs Ex.mk' r.p.l+cs Sm.mk' r.a:=rfl
def Fu.mk' (f:Fu):Nat:=1+cs str1 f.params+cs Sm.mk' f.a
theorem Fu.mk'_eq (f:Fu):f.mk'=1+cs str1 f.params+cs Sm.mk' f.a:=rfl
def MkQ (f:FuncId) (els:List (List T)) (c:Nat):Prop:=∀(S:Nat->Prop) (w0 w:World) (u:Value) (own own0:List Nat) (k:Int),RepL S w0 (.own els) u own->(∀b∈own,b∈own0)->(∀b∈own0,b < w0.heap.size)->Wk own0 w0 w->0<=k->k+(c:Int)<=1000000000->
 Calls Tryz.prog f #[u,.int .i64 k] w fun e w'=>e=.returned (.int .i64 (k+(c:Int)))/\Wk own0 w0 w'
theorem HD0 {S:Nat->Prop} {w:World} {b o:Nat} {x:ByteArray} {q:List Nat} (h:RepLC S w b o (strT x) q):w.cell? ⟨b,o,none⟩=some (.string x):=by
 obtain ⟨u0,q0,r0,e0,c0,⟨rfl,_⟩,_⟩:=h;exact c0
theorem jQ0 (l:List ByteArray) (hl:l.length<=1048576):MkQ 95 (l.map strT) (cs str1 l):=by
 intro S w0 w u own own0 k0 hr hs hlt hW h0 hk;obtain ⟨ad,cap,rfl,hcap,hel⟩:=uW0 hr (k:=1) (by intro e he;simp only[List.mem_map] at he;obtain ⟨x,_,rfl⟩:=he;rfl)
 rw[List.length_map] at hcap hel |-;generalize hN:l.length=N at *
 go_enter Tryz.func95,Tryz.ntmps95
 go_wp2
 go_loopw [1,5] (fun v i wr=>∃j:Nat,j<=N/\i=.int .i64 j/\v=.int .i64 (k0+(cs str1 (l.take j):Int))/\Wk own0 w0 wr) (fun _ i _=>N - (intOf i).toNat)
 case atStart=>exact ⟨0,Nat.zero_le _,rfl,by simp[cs],hW⟩
 case round=>
  obtain ⟨j,hj,rfl,rfl,hWr⟩:=hrel;clear hW hr
  by_cases hjN:j < N
  ·have hjl:j < l.length:=by omega
   obtain ⟨b,o,rfl,hb,hbl,hfz,hE⟩:=hel.resolve_left (fun e=>by rw[List.map_eq_nil_iff] at e;subst e;simp at hjl)
   obtain ⟨q,hq,hrow⟩:=hE j (strT l[j]!) (by simp[hjl])
   have hb0:=hs b hb;simp only[Nat.mul_one] at hrow hfz;obtain a0:=HD0 hrow;have hpp:=FL0 str1 hjl;have hpe:=uW1 l[j]!;have hpt:=FK0 str1 l (j+1);clear hel hE hrow hN;generalize cs str1 (l.take j)=pt at *
   go_wp2_with (first
    | (go_at_call 48;refine (fT0 _ (by omega) (by omega) _).mono ?_;rintro e w1 ⟨s1,rfl,hk1⟩;have hX1:=hWr.keeps hlt hk1;obtain ⟨v0,d0,_⟩:=hX1.cell b _ _ hb0 a0;have f0:w1.frozen? ⟨b,o+j,none⟩=false:=(hX1.frz _ _ hb0).trans (hfz j (by omega))))
   go_roundw
   case rel=>exact ⟨j+1,by omega,by simp,by congr 1;omega,(hX1.set hb0 a0 rfl _)⟩
   case measure=>simp[intOf];omega
  ·have e:l.take j=l:=List.take_of_length_le (by omega)
   rw[e];have e2:j=N:=by omega
   clear hel hN e hjN
   go_wp2
   go_ret
   exact ⟨by simp,hWr⟩
theorem tG1 {S:Nat->Prop} {w:World} {b o:Nat} {x:Ex} {q:List Nat} (h:RepLC S w b o (Ex.o x) q):w.cell? ⟨b,o,none⟩=some (.int .i64 x.k)/\w.cell? ⟨b,o+1,none⟩=some (.int .i64 x.n)/\w.cell? ⟨b,o+2,none⟩=some (.string x.s)/\(∃ad n c q',(∀y∈q',y∈q)/\w.cell? ⟨b,o+3,none⟩=some (.slice ad n c)/\RepL S w (.own (x.l.map Ex.o)) (.slice ad n c) q'):=by
 rw[Ex.o_eq] at h;obtain ⟨u0,q0,r0,e0,c0,⟨rfl,_⟩,u1,q1,r1,e1,c1,⟨rfl,_⟩,u2,q2,r2,e2,c2,⟨rfl,_⟩,u3,q3,r3,e3,c3,h3,_⟩:=h;obtain ⟨ad3,cap3,rfl,g3⟩:=h3;exact ⟨c0,c1,c2,⟨ad3,_,cap3,q3,fun y hy=>by subst e0 e1 e2 e3;simp[hy],c3,ad3,cap3,rfl,g3⟩⟩
theorem qU0 (l:List Ex) (ih:∀x∈l,MkQ 49 (x.l.map Ex.o) (cs Ex.mk' x.l)) (hl:l.length<=1048576):MkQ 49 (l.map Ex.o) (cs Ex.mk' l):=by
 intro S w0 w u own own0 k0 hr hs hlt hW h0 hk;obtain ⟨ad,cap,rfl,hcap,hel⟩:=uW0 hr (k:=4) (by intro e he;simp only[List.mem_map] at he;obtain ⟨x,_,rfl⟩:=he;exact x.o_len)
 rw[List.length_map] at hcap hel |-;generalize hN:l.length=N at *
 go_enter Tryz.func49,Tryz.ntmps49
 go_wp2
 go_loopw [1,5] (fun v i wr=>∃j:Nat,j<=N/\i=.int .i64 j/\v=.int .i64 (k0+(cs Ex.mk' (l.take j):Int))/\Wk own0 w0 wr) (fun _ i _=>N - (intOf i).toNat)
 case atStart=>exact ⟨0,Nat.zero_le _,rfl,by simp[cs],hW⟩
 case round=>
  obtain ⟨j,hj,rfl,rfl,hWr⟩:=hrel;clear hW hr
  by_cases hjN:j < N
  ·have hjl:j < l.length:=by omega
   obtain ⟨b,o,rfl,hb,hbl,hfz,hE⟩:=hel.resolve_left (fun e=>by rw[List.map_eq_nil_iff] at e;subst e;simp at hjl)
   obtain ⟨q,hq,hrow⟩:=hE j (Ex.o l[j]!) (by rw[List.getElem?_map,List.getElem?_eq_getElem hjl,List.getElem!_eq_getElem?_getD,List.getElem?_eq_getElem hjl];rfl)
   have hb0:=hs b hb;obtain ⟨a0,a1,a2,⟨ad3,n3,cp3,q3,hq3,a3,hr3⟩⟩:=tG1 hrow;obtain ⟨v0,d0,_⟩:=hWr.cell b _ _ hb0 a0;have f0:wr.frozen? ⟨b,o+j * 4,none⟩=false:=(hWr.frz _ _ hb0).trans (hfz (j * 4) (by omega))
   obtain ⟨v1,d1,_⟩:=hWr.cell b _ _ hb0 a1;have f1:wr.frozen? ⟨b,o+j * 4+1,none⟩=false:=(hWr.frz _ _ hb0).trans (by rw[Nat.add_assoc];exact hfz (j * 4+1) (by omega))
   have hpp:=FL0 Ex.mk' hjl;have hpe:=Ex.mk'_eq l[j]!;have hpt:=FK0 Ex.mk' l (j+1);have hcall3:=fun w' hW' k'=>(ih (l[j]!) (zB0 hjl)) S w0 w' _ q3 own0 k' hr3 (fun y hy=>hs y (hq y (hq3 y hy))) hlt hW';clear hel hE hrow ih hN;generalize cs Ex.mk' l[j]!.l=m3 at *;generalize cs Ex.mk' (l.take j)=pt at *
   go_wp2_with (first
    | (go_at_call 48;refine (fT0 _ (by omega) (by omega) _).mono ?_;rintro e w1 ⟨s1,rfl,hk1⟩;have hX1:=((hWr.set hb0 a0 rfl _).set hb0 a1 rfl _).keeps hlt hk1;obtain ⟨v2,d2,_⟩:=hX1.cell b _ _ hb0 a2;have f2:w1.frozen? ⟨b,o+j * 4+2,none⟩=false:=(hX1.frz _ _ hb0).trans (by rw[Nat.add_assoc];exact hfz (j * 4+2) (by omega));obtain ⟨v3,d3,g3⟩:=hX1.cell b _ _ hb0 a3;have g3:=g3 rfl;subst g3)
    | (go_at_call 49;refine (hcall3 _ (hX1.set hb0 a2 rfl _) _ (by omega) (by omega)).mono ?_;rintro e w2 ⟨rfl,hX2⟩))
   go_roundw
   case rel=>exact ⟨j+1,by omega,by simp,by congr 1;omega,hX2⟩
   case measure=>simp[intOf];omega
  ·have e:l.take j=l:=List.take_of_length_le (by omega)
   rw[e];have e2:j=N:=by omega
   clear ih hel hN e hjN
   go_wp2
   go_ret
   exact ⟨by simp,hWr⟩
theorem tE1 {S:Nat->Prop} {w:World} {b o:Nat} {x:Sm} {q:List Nat} (h:RepLC S w b o (Sm.o x) q):w.cell? ⟨b,o,none⟩=some (.int .i64 x.k)/\w.cell? ⟨b,o+1,none⟩=some (.string x.s)/\w.cell? ⟨b,o+2,none⟩=some (.string x.tt)/\(∃ad n c q',(∀y∈q',y∈q)/\w.cell? ⟨b,o+3,none⟩=some (.slice ad n c)/\RepL S w (.own (x.x.map Ex.o)) (.slice ad n c) q')/\(∃ad n c q',(∀y∈q',y∈q)/\w.cell? ⟨b,o+4,none⟩=some (.slice ad n c)/\RepL S w (.own (x.a.map Sm.o)) (.slice ad n c) q')/\(∃ad n c q',(∀y∈q',y∈q)/\w.cell? ⟨b,o+5,none⟩=some (.slice ad n c)/\RepL S w (.own (x.b.map Sm.o)) (.slice ad n c) q'):=by
 rw[Sm.o_eq] at h;obtain ⟨u0,q0,r0,e0,c0,⟨rfl,_⟩,u1,q1,r1,e1,c1,⟨rfl,_⟩,u2,q2,r2,e2,c2,⟨rfl,_⟩,u3,q3,r3,e3,c3,h3,u4,q4,r4,e4,c4,h4,u5,q5,r5,e5,c5,h5,_⟩:=h;obtain ⟨ad3,cap3,rfl,g3⟩:=h3;obtain ⟨ad4,cap4,rfl,g4⟩:=h4;obtain ⟨ad5,cap5,rfl,g5⟩:=h5;exact ⟨c0,c1,c2,⟨ad3,_,cap3,q3,fun y hy=>by subst e0 e1 e2 e3 e4 e5;simp[hy],c3,ad3,cap3,rfl,g3⟩,⟨ad4,_,cap4,q4,fun y hy=>by subst e0 e1 e2 e3 e4 e5;simp[hy],c4,ad4,cap4,rfl,g4⟩,⟨ad5,_,cap5,q5,fun y hy=>by subst e0 e1 e2 e3 e4 e5;simp[hy],c5,ad5,cap5,rfl,g5⟩⟩
theorem vY0 (l:List Sm) (ih:∀x∈l,MkQ 49 (x.x.map Ex.o) (cs Ex.mk' x.x)/\MkQ 16 (x.a.map Sm.o) (cs Sm.mk' x.a)/\MkQ 16 (x.b.map Sm.o) (cs Sm.mk' x.b)) (hl:l.length<=1048576):MkQ 16 (l.map Sm.o) (cs Sm.mk' l):=by
 intro S w0 w u own own0 k0 hr hs hlt hW h0 hk;obtain ⟨ad,cap,rfl,hcap,hel⟩:=uW0 hr (k:=6) (by intro e he;simp only[List.mem_map] at he;obtain ⟨x,_,rfl⟩:=he;exact x.o_len)
 rw[List.length_map] at hcap hel |-;generalize hN:l.length=N at *
 go_enter Tryz.func16,Tryz.ntmps16
 go_wp2
 go_loopw [1,5] (fun v i wr=>∃j:Nat,j<=N/\i=.int .i64 j/\v=.int .i64 (k0+(cs Sm.mk' (l.take j):Int))/\Wk own0 w0 wr) (fun _ i _=>N - (intOf i).toNat)
 case atStart=>exact ⟨0,Nat.zero_le _,rfl,by simp[cs],hW⟩
 case round=>
  obtain ⟨j,hj,rfl,rfl,hWr⟩:=hrel;clear hW hr
  by_cases hjN:j < N
  ·have hjl:j < l.length:=by omega
   obtain ⟨b,o,rfl,hb,hbl,hfz,hE⟩:=hel.resolve_left (fun e=>by rw[List.map_eq_nil_iff] at e;subst e;simp at hjl)
   obtain ⟨q,hq,hrow⟩:=hE j (Sm.o l[j]!) (by rw[List.getElem?_map,List.getElem?_eq_getElem hjl,List.getElem!_eq_getElem?_getD,List.getElem?_eq_getElem hjl];rfl)
   have hb0:=hs b hb;obtain ⟨a0,a1,a2,⟨ad3,n3,cp3,q3,hq3,a3,hr3⟩,⟨ad4,n4,cp4,q4,hq4,a4,hr4⟩,⟨ad5,n5,cp5,q5,hq5,a5,hr5⟩⟩:=tE1 hrow;obtain ⟨v0,d0,_⟩:=hWr.cell b _ _ hb0 a0;have f0:wr.frozen? ⟨b,o+j * 6,none⟩=false:=(hWr.frz _ _ hb0).trans (hfz (j * 6) (by omega))
   have hpp:=FL0 Sm.mk' hjl;have hpe:=Sm.mk'_eq l[j]!;have hpt:=FK0 Sm.mk' l (j+1);have hcall3:=fun w' hW' k'=>(ih (l[j]!) (zB0 hjl)).1 S w0 w' _ q3 own0 k' hr3 (fun y hy=>hs y (hq y (hq3 y hy))) hlt hW';have hcall4:=fun w' hW' k'=>(ih (l[j]!) (zB0 hjl)).2.1 S w0 w' _ q4 own0 k' hr4 (fun y hy=>hs y (hq y (hq4 y hy))) hlt hW';have hcall5:=fun w' hW' k'=>(ih (l[j]!) (zB0 hjl)).2.2 S w0 w' _ q5 own0 k' hr5 (fun y hy=>hs y (hq y (hq5 y hy))) hlt hW'
   clear hel hE hrow ih hN;generalize cs Ex.mk' l[j]!.x=m3 at *;generalize cs Sm.mk' l[j]!.a=m4 at *;generalize cs Sm.mk' l[j]!.b=m5 at *;generalize cs Sm.mk' (l.take j)=pt at *
   go_wp2_with (first
    | (go_at_call 16;refine (hcall5 _ hX4 _ (by omega) (by omega)).mono ?_;rintro e w5 ⟨rfl,hX5⟩)
    | (go_at_call 16;refine (hcall4 _ hX3 _ (by omega) (by omega)).mono ?_;rintro e w4 ⟨rfl,hX4⟩;obtain ⟨v5,d5,g5⟩:=hX4.cell b _ _ hb0 a5;have g5:=g5 rfl;subst g5)
    | (go_at_call 49;refine (hcall3 _ (hX2.set hb0 a2 rfl _) _ (by omega) (by omega)).mono ?_;rintro e w3 ⟨rfl,hX3⟩;obtain ⟨v4,d4,g4⟩:=hX3.cell b _ _ hb0 a4;have g4:=g4 rfl;subst g4)
    | (go_at_call 48;refine (fT0 _ (by omega) (by omega) _).mono ?_;rintro e w2 ⟨s2,rfl,hk2⟩;have hX2:=(hX1.set hb0 a1 rfl _).keeps hlt hk2;obtain ⟨v2,d2,_⟩:=hX2.cell b _ _ hb0 a2;have f2:w2.frozen? ⟨b,o+j * 6+2,none⟩=false:=(hX2.frz _ _ hb0).trans (by rw[Nat.add_assoc];exact hfz (j * 6+2) (by omega));obtain ⟨v3,d3,g3⟩:=hX2.cell b _ _ hb0 a3;have g3:=g3 rfl;subst g3)
    | (go_at_call 48;refine (fT0 _ (by omega) (by omega) _).mono ?_;rintro e w1 ⟨s1,rfl,hk1⟩;have hX1:=(hWr.set hb0 a0 rfl _).keeps hlt hk1;obtain ⟨v1,d1,_⟩:=hX1.cell b _ _ hb0 a1;have f1:w1.frozen? ⟨b,o+j * 6+1,none⟩=false:=(hX1.frz _ _ hb0).trans (by rw[Nat.add_assoc];exact hfz (j * 6+1) (by omega))))
   go_roundw
   case rel=>exact ⟨j+1,by omega,by simp,by congr 1;omega,hX5⟩
   case measure=>simp[intOf];omega
  ·have e:l.take j=l:=List.take_of_length_le (by omega)
   rw[e];have e2:j=N:=by omega
   clear ih hel hN e hjN
   go_wp2
   go_ret
   exact ⟨by simp,hWr⟩
theorem tF1 {S:Nat->Prop} {w:World} {b o:Nat} {x:Ru} {q:List Nat} (h:RepLC S w b o (Ru.o x) q):w.cell? ⟨b,o,none⟩=some (.int .i64 x.k)/\w.cell? ⟨b,o+1,none⟩=some (.int .i64 x.p.k)/\w.cell? ⟨b,o+2,none⟩=some (.int .i64 x.p.n)/\w.cell? ⟨b,o+3,none⟩=some (.string x.p.s)/\(∃ad n c q',(∀y∈q',y∈q)/\w.cell? ⟨b,o+4,none⟩=some (.slice ad n c)/\RepL S w (.own (x.p.l.map Ex.o)) (.slice ad n c) q')/\(∃ad n c q',(∀y∈q',y∈q)/\w.cell? ⟨b,o+5,none⟩=some (.slice ad n c)/\RepL S w (.own (x.a.map Sm.o)) (.slice ad n c) q'):=by
 rw[Ru.o_eq] at h;obtain ⟨u0,q0,r0,e0,c0,⟨rfl,_⟩,u1,q1,r1,e1,c1,⟨rfl,_⟩,u2,q2,r2,e2,c2,⟨rfl,_⟩,u3,q3,r3,e3,c3,⟨rfl,_⟩,u4,q4,r4,e4,c4,h4,u5,q5,r5,e5,c5,h5,_⟩:=h;obtain ⟨ad4,cap4,rfl,g4⟩:=h4;obtain ⟨ad5,cap5,rfl,g5⟩:=h5;exact ⟨c0,c1,c2,c3,⟨ad4,_,cap4,q4,fun y hy=>by subst e0 e1 e2 e3 e4 e5;simp[hy],c4,ad4,cap4,rfl,g4⟩,⟨ad5,_,cap5,q5,fun y hy=>by subst e0 e1 e2 e3 e4 e5;simp[hy],c5,ad5,cap5,rfl,g5⟩⟩
theorem bM0 (l:List Ru) (ih:∀x∈l,MkQ 49 (x.p.l.map Ex.o) (cs Ex.mk' x.p.l)/\MkQ 16 (x.a.map Sm.o) (cs Sm.mk' x.a)) (hl:l.length<=1048576):MkQ 46 (l.map Ru.o) (cs Ru.mk' l):=by
 intro S w0 w u own own0 k0 hr hs hlt hW h0 hk;obtain ⟨ad,cap,rfl,hcap,hel⟩:=uW0 hr (k:=6) (by intro e he;simp only[List.mem_map] at he;obtain ⟨x,_,rfl⟩:=he;exact x.o_len)
 rw[List.length_map] at hcap hel |-;generalize hN:l.length=N at *
 go_enter Tryz.func46,Tryz.ntmps46
 go_wp2
 go_loopw [1,5] (fun v i wr=>∃j:Nat,j<=N/\i=.int .i64 j/\v=.int .i64 (k0+(cs Ru.mk' (l.take j):Int))/\Wk own0 w0 wr) (fun _ i _=>N - (intOf i).toNat)
 case atStart=>exact ⟨0,Nat.zero_le _,rfl,by simp[cs],hW⟩
 case round=>
  obtain ⟨j,hj,rfl,rfl,hWr⟩:=hrel;clear hW hr
  by_cases hjN:j < N
  ·have hjl:j < l.length:=by omega
   obtain ⟨b,o,rfl,hb,hbl,hfz,hE⟩:=hel.resolve_left (fun e=>by rw[List.map_eq_nil_iff] at e;subst e;simp at hjl)
   obtain ⟨q,hq,hrow⟩:=hE j (Ru.o l[j]!) (by rw[List.getElem?_map,List.getElem?_eq_getElem hjl,List.getElem!_eq_getElem?_getD,List.getElem?_eq_getElem hjl];rfl)
   have hb0:=hs b hb;obtain ⟨a0,a1,a2,a3,⟨ad4,n4,cp4,q4,hq4,a4,hr4⟩,⟨ad5,n5,cp5,q5,hq5,a5,hr5⟩⟩:=tF1 hrow;obtain ⟨v0,d0,_⟩:=hWr.cell b _ _ hb0 a0;have f0:wr.frozen? ⟨b,o+j * 6,none⟩=false:=(hWr.frz _ _ hb0).trans (hfz (j * 6) (by omega))
   obtain ⟨v1,d1,_⟩:=hWr.cell b _ _ hb0 a1;have f1:wr.frozen? ⟨b,o+j * 6+1,none⟩=false:=(hWr.frz _ _ hb0).trans (by rw[Nat.add_assoc];exact hfz (j * 6+1) (by omega))
   obtain ⟨v2,d2,_⟩:=hWr.cell b _ _ hb0 a2;have f2:wr.frozen? ⟨b,o+j * 6+2,none⟩=false:=(hWr.frz _ _ hb0).trans (by rw[Nat.add_assoc];exact hfz (j * 6+2) (by omega))
   have hpp:=FL0 Ru.mk' hjl;have hpe:=Ru.mk'_eq l[j]!;have hpt:=FK0 Ru.mk' l (j+1);have hcall4:=fun w' hW' k'=>(ih (l[j]!) (zB0 hjl)).1 S w0 w' _ q4 own0 k' hr4 (fun y hy=>hs y (hq y (hq4 y hy))) hlt hW';have hcall5:=fun w' hW' k'=>(ih (l[j]!) (zB0 hjl)).2 S w0 w' _ q5 own0 k' hr5 (fun y hy=>hs y (hq y (hq5 y hy))) hlt hW';clear hel hE hrow ih hN;generalize cs Ex.mk' l[j]!.p.l=m4 at *;generalize cs Sm.mk' l[j]!.a=m5 at *
   generalize cs Ru.mk' (l.take j)=pt at *
   go_wp2_with (first
    | (go_at_call 48;refine (fT0 _ (by omega) (by omega) _).mono ?_;rintro e w1 ⟨s1,rfl,hk1⟩;have hX1:=(((hWr.set hb0 a0 rfl _).set hb0 a1 rfl _).set hb0 a2 rfl _).keeps hlt hk1;obtain ⟨v3,d3,_⟩:=hX1.cell b _ _ hb0 a3;have f3:w1.frozen? ⟨b,o+j * 6+3,none⟩=false:=(hX1.frz _ _ hb0).trans (by rw[Nat.add_assoc];exact hfz (j * 6+3) (by omega));obtain ⟨v4,d4,g4⟩:=hX1.cell b _ _ hb0 a4;have g4:=g4 rfl;subst g4)
    | (go_at_call 49;refine (hcall4 _ (hX1.set hb0 a3 rfl _) _ (by omega) (by omega)).mono ?_;rintro e w2 ⟨rfl,hX2⟩;obtain ⟨v5,d5,g5⟩:=hX2.cell b _ _ hb0 a5;have g5:=g5 rfl;subst g5)
    | (go_at_call 16;refine (hcall5 _ hX2 _ (by omega) (by omega)).mono ?_;rintro e w3 ⟨rfl,hX3⟩))
   go_roundw
   case rel=>exact ⟨j+1,by omega,by simp,by congr 1;omega,hX3⟩
   case measure=>simp[intOf];omega
  ·have e:l.take j=l:=List.take_of_length_le (by omega)
   rw[e];have e2:j=N:=by omega
   clear ih hel hN e hjN
   go_wp2
   go_ret
   exact ⟨by simp,hWr⟩
theorem rw_Fn {S:Nat->Prop} {w:World} {b o:Nat} {x:Fu} {q:List Nat} (h:RepLC S w b o (Fu.o x) q):w.cell? ⟨b,o,none⟩=some (.string x.name)/\(∃ad n c q',(∀y∈q',y∈q)/\w.cell? ⟨b,o+1,none⟩=some (.slice ad n c)/\RepL S w (.own (x.params.map strT)) (.slice ad n c) q')/\(∃ad n c q',(∀y∈q',y∈q)/\w.cell? ⟨b,o+2,none⟩=some (.slice ad n c)/\RepL S w (.own (x.a.map Sm.o)) (.slice ad n c) q'):=by
 rw[Fu.o_eq] at h;obtain ⟨u0,q0,r0,e0,c0,⟨rfl,_⟩,u1,q1,r1,e1,c1,h1,u2,q2,r2,e2,c2,h2,_⟩:=h;obtain ⟨ad1,cap1,rfl,g1⟩:=h1;obtain ⟨ad2,cap2,rfl,g2⟩:=h2;exact ⟨c0,⟨ad1,_,cap1,q1,fun y hy=>by subst e0 e1 e2;simp[hy],c1,ad1,cap1,rfl,g1⟩,⟨ad2,_,cap2,q2,fun y hy=>by subst e0 e1 e2;simp[hy],c2,ad2,cap2,rfl,g2⟩⟩
theorem UE0 (l:List Fu) (ih:∀x∈l,MkQ 95 (x.params.map strT) (cs str1 x.params)/\MkQ 16 (x.a.map Sm.o) (cs Sm.mk' x.a)) (hl:l.length<=1048576):MkQ 47 (l.map Fu.o) (cs Fu.mk' l):=by
 intro S w0 w u own own0 k0 hr hs hlt hW h0 hk;obtain ⟨ad,cap,rfl,hcap,hel⟩:=uW0 hr (k:=3) (by intro e he;simp only[List.mem_map] at he;obtain ⟨x,_,rfl⟩:=he;exact x.o_len)
 rw[List.length_map] at hcap hel |-;generalize hN:l.length=N at *
 go_enter Tryz.func47,Tryz.ntmps47
 go_wp2
 go_loopw [1,5] (fun v i wr=>∃j:Nat,j<=N/\i=.int .i64 j/\v=.int .i64 (k0+(cs Fu.mk' (l.take j):Int))/\Wk own0 w0 wr) (fun _ i _=>N - (intOf i).toNat)
 case atStart=>exact ⟨0,Nat.zero_le _,rfl,by simp[cs],hW⟩
 case round=>
  obtain ⟨j,hj,rfl,rfl,hWr⟩:=hrel;clear hW hr
  by_cases hjN:j < N
  ·have hjl:j < l.length:=by omega
   obtain ⟨b,o,rfl,hb,hbl,hfz,hE⟩:=hel.resolve_left (fun e=>by rw[List.map_eq_nil_iff] at e;subst e;simp at hjl)
   obtain ⟨q,hq,hrow⟩:=hE j (Fu.o l[j]!) (by rw[List.getElem?_map,List.getElem?_eq_getElem hjl,List.getElem!_eq_getElem?_getD,List.getElem?_eq_getElem hjl];rfl)
   have hb0:=hs b hb;obtain ⟨a0,⟨ad1,n1,cp1,q1,hq1,a1,hr1⟩,⟨ad2,n2,cp2,q2,hq2,a2,hr2⟩⟩:=rw_Fn hrow;have hpp:=FL0 Fu.mk' hjl;have hpe:=Fu.mk'_eq l[j]!;have hpt:=FK0 Fu.mk' l (j+1);have hcall1:=fun w' hW' k'=>(ih (l[j]!) (zB0 hjl)).1 S w0 w' _ q1 own0 k' hr1 (fun y hy=>hs y (hq y (hq1 y hy))) hlt hW';have hcall2:=fun w' hW' k'=>(ih (l[j]!) (zB0 hjl)).2 S w0 w' _ q2 own0 k' hr2 (fun y hy=>hs y (hq y (hq2 y hy))) hlt hW'
   clear hel hE hrow ih hN;generalize cs str1 l[j]!.params=m1 at *;generalize cs Sm.mk' l[j]!.a=m2 at *;generalize cs Fu.mk' (l.take j)=pt at *
   go_wp2_with (first
    | (go_at_call 48;refine (fT0 _ (by omega) (by omega) _).mono ?_;rintro e w1 ⟨s1,rfl,hk1⟩;have hX1:=hWr.keeps hlt hk1;obtain ⟨v0,d0,_⟩:=hX1.cell b _ _ hb0 a0;have f0:w1.frozen? ⟨b,o+j * 3,none⟩=false:=(hX1.frz _ _ hb0).trans (hfz (j * 3) (by omega));obtain ⟨v1,d1,g1⟩:=hX1.cell b _ _ hb0 a1;have g1:=g1 rfl;subst g1)
    | (go_at_call 95;refine (hcall1 _ (hX1.set hb0 a0 rfl _) _ (by omega) (by omega)).mono ?_;rintro e w2 ⟨rfl,hX2⟩;obtain ⟨v2,d2,g2⟩:=hX2.cell b _ _ hb0 a2;have g2:=g2 rfl;subst g2)
    | (go_at_call 16;refine (hcall2 _ hX2 _ (by omega) (by omega)).mono ?_;rintro e w3 ⟨rfl,hX3⟩))
   go_roundw
   case rel=>exact ⟨j+1,by omega,by simp,by congr 1;omega,hX3⟩
   case measure=>simp[intOf];omega
  ·have e:l.take j=l:=List.take_of_length_le (by omega)
   rw[e];have e2:j=N:=by omega
   clear ih hel hN e hjN
   go_wp2
   go_ret
   exact ⟨by simp,hWr⟩
theorem Wk.to {own:List Nat} {w w':World} (h:Wk own w w'):Keeps own w w':=⟨h.os,h.tape,h.output,h.size,h.out⟩
theorem XK0 {own:List Nat} {w0 w:World} (h:Keeps own w0 w) {b o:Nat} (hb:b∈own) (u:Value):Keeps own w0 (w.setCell ⟨b,o,none⟩ u):=
 ⟨h.os,h.tape,h.output,by rw[World.size_setCell];exact h.size,fun b' hb' hn=>by rw[heap_setCell_other _ _ _ _ (fun e=>hn (by rw[e];exact hb))];exact h.block b' hb' hn⟩
theorem nR1 (b o n cap:Nat) (k0:Int) (w:World) (hn:n<=274877906944) (hc:n<=cap) (h0:0<=k0) (hk:k0<=1048576)
  (hcell:∀x,x < n * 2->∃v,w.cell? ⟨b,o+x,none⟩=some v) (hfz:∀x,x < n * 2->w.frozen? ⟨b,o+x,none⟩=false) :
  Calls Tryz.prog 17 #[.slice (some ⟨b,o,none⟩) n cap,.int .i64 k0] w fun e w'=>e=.returned (.int .i64 (k0+2 * n))/\Keeps [b] w w'/\(∀x:Nat,x < n * 2->w'.cell? ⟨b,o+x,none⟩=some (.int .i64 (k0+x))):=by
 go_enter Tryz.func17,Tryz.ntmps17
 go_wp2
 go_loopw [1,5] (fun v i wr=>∃k:Nat,k<=n/\i=.int .i64 k/\v=.int .i64 (k0+2 * k)/\(∀x,x < n * 2->∃v,wr.cell? ⟨b,o+x,none⟩=some v)/\(∀x,x < n * 2->wr.frozen? ⟨b,o+x,none⟩=false)/\(∀x:Nat,x < k * 2->wr.cell? ⟨b,o+x,none⟩=some (.int .i64 (k0+x)))/\Keeps [b] w wr)
  (fun _ i _=>n - (intOf i).toNat)
 case atStart=>exact ⟨0,Nat.zero_le _,rfl,by simp,hcell,hfz,fun x hx=>by omega,Keeps.refl _ _⟩
 case round=>
  obtain ⟨k,hk2,rfl,rfl,h1,h2,h3,h4⟩:=hrel;clear hcell hfz
  by_cases hlt:k < n
  ·obtain ⟨v0,hv0⟩:=h1 (k * 2) (by omega)
   obtain ⟨v1,hv1⟩:=h1 (k * 2+1) (by omega)
   have f0:=h2 (k * 2) (by omega)
   have f1:=h2 (k * 2+1) (by omega)
   rw[<-Nat.add_assoc] at hv1 f1;have R:∀x0 x1:Value,(∀x,x < n * 2->∃v,((wr.setCell ⟨b,o+k * 2,none⟩ x0).setCell ⟨b,o+k * 2+1,none⟩ x1).cell? ⟨b,o+x,none⟩=some v)/\(∀x,x < n * 2->((wr.setCell ⟨b,o+k * 2,none⟩ x0).setCell ⟨b,o+k * 2+1,none⟩ x1).frozen? ⟨b,o+x,none⟩=false)/\
     (∀x:Nat,x < k * 2->((wr.setCell ⟨b,o+k * 2,none⟩ x0).setCell ⟨b,o+k * 2+1,none⟩ x1).cell? ⟨b,o+x,none⟩=some (.int .i64 (k0+x)))/\((wr.setCell ⟨b,o+k * 2,none⟩ x0).setCell ⟨b,o+k * 2+1,none⟩ x1).cell? ⟨b,o+k * 2,none⟩=some x0/\((wr.setCell ⟨b,o+k * 2,none⟩ x0).setCell ⟨b,o+k * 2+1,none⟩ x1).cell? ⟨b,o+k * 2+1,none⟩=some x1/\
     Keeps [b] w ((wr.setCell ⟨b,o+k * 2,none⟩ x0).setCell ⟨b,o+k * 2+1,none⟩ x1):=by
    intro x0 x1;have hA:(wr.setCell ⟨b,o+k * 2,none⟩ x0).cell? ⟨b,o+k * 2+1,none⟩=some v1:=by rw[World.cell?_setCell_other _ _ _ _ (by simp)];exact hv1
    have c0:((wr.setCell ⟨b,o+k * 2,none⟩ x0).setCell ⟨b,o+k * 2+1,none⟩ x1).cell? ⟨b,o+k * 2,none⟩=some x0:=by rw[World.cell?_setCell_other _ _ _ _ (by simp)];exact World.cell?_setCell_same _ _ _ hv0
    have c1:((wr.setCell ⟨b,o+k * 2,none⟩ x0).setCell ⟨b,o+k * 2+1,none⟩ x1).cell? ⟨b,o+k * 2+1,none⟩=some x1:=World.cell?_setCell_same _ _ _ hA;have oth:∀x,x≠k * 2->x≠k * 2+1->((wr.setCell ⟨b,o+k * 2,none⟩ x0).setCell ⟨b,o+k * 2+1,none⟩ x1).cell? ⟨b,o+x,none⟩=wr.cell? ⟨b,o+x,none⟩:=fun x n1 n2=>by
     rw[World.cell?_setCell_other _ _ _ _ (by first|(simp;done)|(simp;omega)),World.cell?_setCell_other _ _ _ _ (by first|(simp;done)|(simp;omega))]
    refine ⟨fun x hx=>?_,fun x hx=>by rw[World.frozen?_setCell,World.frozen?_setCell];exact h2 x hx,fun x hx=>by rw[oth x (by omega) (by omega)];exact h3 x hx,c0,c1,XK0 (XK0 h4 (by simp) x0) (by simp) x1⟩
    by_cases e0:x=k * 2
    ·subst e0;exact ⟨_,c0⟩
    by_cases e1:x=k * 2+1
    ·subst e1;exact ⟨_,c1⟩
    ·rw[oth x e0 e1];exact h1 x hx
   clear h1 h2 h3 h4
   go_wp2
   go_roundw
   case rel=>
    obtain ⟨r1,r2,r3,r4,r5,r6⟩:=R (.int .i64 (k0+2 * k)) (.int .i64 (k0+2 * k+1));refine ⟨k+1,by omega,by simp,by congr 1;omega,r1,r2,fun x hx=>?_,r6⟩
    by_cases e0:x=k * 2
    ·subst e0;rw[r4];congr 2;omega
    by_cases e1:x=k * 2+1
    ·subst e1;rw[<-Nat.add_assoc,r5];congr 2;omega
    ·exact r3 x (by omega)
   case measure=>simp[intOf];omega
  ·have e2:k=n:=by omega
   subst e2
   go_wp2
   go_ret
   exact ⟨rfl,h4,h3⟩
theorem mJ1 (b o n cap:Nat) (k0:Int) (w:World) (hn:n<=274877906944) (hc:n<=cap) (h0:0<=k0) (hk:k0<=1048576)
  (hcell:∀x:Nat,x < n * 2->w.cell? ⟨b,o+x,none⟩=some (.int .i64 (k0+x))) :
  Calls Tryz.prog 18 #[.slice (some ⟨b,o,none⟩) n cap,.int .i64 k0] w fun e w'=>e=.returned (.int .i64 (k0+2 * n))/\Keeps [] w w':=by
 go_enter Tryz.func18,Tryz.ntmps18
 go_wp2
 go_loopw [1,5] (fun v i wr=>∃k:Nat,k<=n/\i=.int .i64 k/\v=.int .i64 (k0+2 * k)/\wr=w) (fun _ i _=>n - (intOf i).toNat)
 case atStart=>exact ⟨0,Nat.zero_le _,rfl,by simp,rfl⟩
 case round=>
  obtain ⟨k,hk2,rfl,rfl,rfl⟩:=hrel
  by_cases hlt:k < n
  ·have c0:=hcell (k * 2) (by omega)
   have c1:=hcell (k * 2+1) (by omega)
   rw[<-Nat.add_assoc] at c1;rw[show k0+((k * 2:Nat):Int)=k0+2 * k by omega] at c0
   rw[show k0+((k * 2+1:Nat):Int)=k0+2 * k+1 by omega] at c1
   clear hcell
   go_wp2
   go_roundw
   case rel=>exact ⟨k+1,by omega,by simp,by congr 1;omega,by simp⟩
   case measure=>simp[intOf];omega
  ·have e2:k=n:=by omega
   subst e2
   go_wp2
   go_ret
   exact ⟨rfl,Keeps.refl _ _⟩
theorem rX0 (w:World) (x:Obj):Keeps [] w (w.alloc x):=by
 refine ⟨rfl,rfl,rfl,?_,fun b hb _=>?_⟩
 ·show w.heap.size<=(w.heap.push x).size
  rw[Array.size_push];omega
 ·show (w.heap.push x)[b]?=w.heap[b]?
  rw[Array.getElem?_push,if_neg (Nat.ne_of_lt hb)]
theorem vP0 (w:World) (cs:Array Value) (t:TypeId) (j:Nat):(w.alloc (.cells cs t)).cell? ⟨w.heap.size,j,none⟩=cs[j]?:=by
 have h:(w.alloc (.cells cs t)).heap[w.heap.size]?=some (.cells cs t):=by
  show (w.heap.push _)[w.heap.size]?=_
  rw[Array.getElem?_push,if_pos rfl]
 unfold World.cell?;simp only[h]
 rfl
theorem wQ0 {S:Nat->Prop} {w w':World} {t:T} {u:Value} {own O:List Nat} (h:RepL S w t u own) (hk:Keeps O w w') (hS:∀b,S b->b < w.heap.size/\b∉O) (ho:∀b∈own,b∉O):RepL S w' t u own:=
 RepL.mono (fun _ h=>h) (fun b hb=>hk.block b (hS b hb).1 (hS b hb).2) t u own (fun b hb=>hk.block b (RepL.lt t u own h b hb) (ho b hb)) h
theorem MF0 {o1 o2:List Nat} {w wa w1 w2:World} (ka:Keeps [] w wa) (k1:Keeps o1 wa w1) (k2:Keeps o2 w1 w2) (h1:∀b∈o1,b < w.heap.size) (h2:∀b∈o2,b < w.heap.size):Keeps (o1++o2) w w2:=
 ⟨k2.os.trans (k1.os.trans ka.os),k2.tape.trans (k1.tape.trans ka.tape),k2.output.trans (k1.output.trans ka.output),Nat.le_trans ka.size (Nat.le_trans k1.size k2.size),fun b hb hn=>by
  simp only[List.mem_append,not_or] at hn;have s1:=ka.size;have s2:=k1.size;rw[k2.block b (by omega) hn.2,k1.block b (by omega) hn.1,ka.block b hb (by simp)]⟩
theorem nQ1 (els1 els2:List (List T)) (n1 n2:Nat) (hR:MkQ 46 els1 n1) (hF:MkQ 47 els2 n2) (S:Nat->Prop) (w:World) (u1 u2:Value) (own1 own2:List Nat) (k:Int) (r1:RepL S w (.own els1) u1 own1) (r2:RepL S w (.own els2) u2 own2)
  (hnd:(own1++own2).Nodup) (hS:∀b,S b->b < w.heap.size/\b∉own1++own2) (h0:0<=k) (hk:k+(n1:Int)+(n2:Int)<=1000000000) :
  Calls Tryz.prog 15 #[.agg #[u1,u2],.int .i64 k] w fun e w'=>e=.returned (.int .i64 (k+n1+n2))/\Keeps (own1++own2) w w':=by
 have l1:=RepL.lt _ _ _ r1;have l2:=RepL.lt _ _ _ r2;have hd:∀b∈own2,b∉own1:=fun b h2 h1=>(List.nodup_append.1 hnd).2.2 b h1 b h2 rfl;obtain ⟨ad1,cap1,rfl,-⟩:=id r1;obtain ⟨ad2,cap2,rfl,-⟩:=id r2;generalize els1.length=N1 at *;generalize els2.length=N2 at *
 go_enter Tryz.func15,Tryz.ntmps15
 go_wp2_with (first
  | (go_at_call 47;refine (hF S w1 w1 _ own2 own2 _ r2b (fun _ h=>h) l2b (Wk.refl _ _) (by omega) (by omega)).mono ?_;rintro e w2 ⟨rfl,hX2⟩)
  | (go_at_call 46;have ka:=rX0 w (.cells #[.slice ad1 N1 cap1,.slice ad2 N2 cap2] 34);refine (hR S _ _ _ own1 own1 _ (wQ0 r1 ka (fun b hb=>⟨(hS b hb).1,by simp⟩) (fun b _=>by simp)) (fun _ h=>h) (fun b hb=>Nat.lt_of_lt_of_le (l1 b hb) ka.size) (Wk.refl _ _) (by omega) (by omega)).mono ?_;rintro e w1 ⟨rfl,hX1⟩;have hbx:w1.cell? ⟨w.heap.size,1,none⟩=some (.slice ad2 N2 cap2):=(by rw[cell?_congr (hX1.out w.heap.size (by rw[World.size_alloc];omega) (fun h=>by have:=l1 _ h;omega)),vP0];rfl);have k1:=hX1.to;have r2b:=wQ0 (wQ0 r2 ka (fun b hb=>⟨(hS b hb).1,by simp⟩) (fun b _=>by simp)) k1 (fun b hb=>⟨Nat.lt_of_lt_of_le (hS b hb).1 ka.size,fun h=>(hS b hb).2 (List.mem_append_left _ h)⟩) hd;have l2b:=fun b hb=>Nat.lt_of_lt_of_le (Nat.lt_of_lt_of_le (l2 b hb) ka.size) k1.size))
 go_ret
 refine ⟨rfl,?_⟩;have k2:=hX2.to;exact MF0 ka k1 k2 l1 l2
end Go.Gv
