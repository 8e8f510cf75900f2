/- Part P1 of the proof: contracts of functions of the program, each walked once. -/
import Derived.Test.YtnmkmfancgcaeaaGreatDoorR2
import Derived.Test.YtnmkmfancgcaeaaGreatDoorQ5
import Derived.Test.YtnmkmfancgcaeaaGreatDoorD13
import Derived.Deep.RegionWith
set_option linter.all false
namespace Go.Gv
open Go.Av Go.Proofs
set_option maxRecDepth 10000
set_option maxHeartbeats 8000000
variable {I:∀{α:Type},α->α}
open Go.RowKit
def All (w:World) (b:Nat):Prop:=b < w.heap.size
theorem GdW.all {w:World} (h:GdW w):Gd w (All w):=fun x hx=>h x hx
theorem nM0 {P:Program} {f:FuncId} {args:List AV} {R:AV->List (Option (List A))->Prop} (h:ACl P f args [] R) (w:World) (hg:GdW w) (vals:Array Value) (hv:RpS (Go.Av.Env.zero (All w) (All w) [] w) args vals.toList []) :
  Calls P f vals w fun e w'=>∃v,e=.returned v/\Keeps [] w w'/\∃res bx' S' bl' o1,R res bx'/\RepV (Go.Av.Env.zero S' S' bl' w') res v o1/\o1.Nodup/\(∀b∈o1,w.heap.size<=b)/\∀b,S' b->b < w'.heap.size/\b∉o1:=by
 refine (h w vals (All w) (All w) [] [] [] hv ⟨rfl,rfl⟩ (by simp) (fun _ h=>h) (fun b hb=>⟨hb,by simp⟩) hg.all).mono ?_
 rintro e w' ⟨v,rfl,res,bx',S',bl',o1,o2,hR,hv,_,hnd,hs,_,_,hk,ho,_⟩;exact ⟨v,rfl,hk,res,bx',S',bl',o1,hR,hv,(List.nodup_append.1 hnd).1,fun b hb=>(ho b (List.mem_append_left _ hb)).elim (fun h=>by simp at h) id,fun b hb=>⟨(hs b hb).1,fun h=>(hs b hb).2 (List.mem_append_left _ h)⟩⟩
theorem UC0 {E:Go.Av.Env} {c:A} {v:Value} {own:List Nat} (h:RepV E ⟨.one,[c]⟩ v own):RepA E c v own:=by
 obtain ⟨⟨ht,ha⟩,u,us,p,q,h1,rfl,h3,h4⟩:=h;have h2:us=[]:=h4.1;have h5:q=[]:=h4.2;subst h2 h5;have:v=u:=by cases v<;>simp[flat,isTuple,zZ0] at h1 ht ha |-<;>exact h1
 rw[this,List.append_nil];exact h3
theorem HX0 {S:Nat->Prop} {w:World} {g:zR0} {k:Nat} {els:List (List T)} {u:Value} {own:List Nat} {bl:List Nat} (h:RepA (Go.Av.Env.zero S S bl w) (.ow g true k els) u own):RepL S w (.own els) u own:=by
 obtain ⟨ad,cap,h1,h2,h3,h4⟩:=h;refine ⟨ad,cap,h1,h2,?_⟩;rcases h4 with ⟨h4,h5,_⟩ | ⟨b,o,arr,ty,fz,n,g1,g2,g3,g4,g5,g6⟩
 ·exact .inl ⟨h5,h4⟩
 ·refine .inr ⟨b,o,arr,ty,fz,n,g1,g2,g3,fun x hx hy=>g5 x hx ?_,g6⟩
  rw[zB0 h3] at hy;have:=Nat.mul_le_mul_right k h2;omega
mutual
def fr:T->Bool
 | .lit _=>true
 | .sl _=>false
 | .own els=>frE els
def frC:List T->Bool
 | []=>true
 | c::cs=>fr c && frC cs
def frE:List (List T)->Bool
 | []=>true
 | e::es=>frC e && frE es
end
mutual
theorem fr_L {S S':Nat->Prop} {w:World}:∀(t:T) (u:Value) (own:List Nat),fr t=true->RepL S w t u own->RepL S' w t u own
 | .lit v,u,own,_,h=>by simpa only [RepL] using h
 | .sl els,u,own,hf,h=>by simp[fr] at hf
 | .own els,u,own,hf,h=>by
  simp only[RepL] at h |-;simp only[fr] at hf;obtain ⟨ad,cap,h1,h2,h3⟩:=h;refine ⟨ad,cap,h1,h2,h3.imp id ?_⟩;rintro ⟨b,o,arr,ty,fz,own',g1,g2,g3,g4,g5⟩;exact ⟨b,o,arr,ty,fz,own',g1,g2,g3,g4,GU0 b o els own' hf g5⟩
theorem GV0 {S S':Nat->Prop} {w:World} (b:Nat):∀(o:Nat) (cs:List T) (own:List Nat),frC cs=true->RepLC S w b o cs own->RepLC S' w b o cs own
 | _,[],own,_,h=>by simpa only [RepLC] using h
 | o,c::cs,own,hf,h=>by
  simp only[frC,Bool.and_eq_true] at hf;simp only[RepLC] at h |-;obtain ⟨u,o1,o2,h0,h1,h2,h3⟩:=h;exact ⟨u,o1,o2,h0,h1,fr_L c u o1 hf.1 h2,GV0 b (o+1) cs o2 hf.2 h3⟩
theorem GU0 {S S':Nat->Prop} {w:World} (b:Nat):∀(o:Nat) (es:List (List T)) (own:List Nat),frE es=true->RepLE S w b o es own->RepLE S' w b o es own
 | _,[],own,_,h=>by simpa only [RepLE] using h
 | o,e::es,own,hf,h=>by
  simp only[frE,Bool.and_eq_true] at hf;simp only[RepLE] at h |-;obtain ⟨o1,o2,h0,h1,h2⟩:=h;exact ⟨o1,o2,h0,GV0 b o e o1 hf.1 h1,GU0 b (o+e.length) es o2 hf.2 h2⟩
end
mutual
theorem Ex.o_fr:∀e:Ex,frC e.o=true
 | .mk k n s l=>by rw[Ex.o.eq_1];simp only[frC,fr,Ex.os_fr l];rfl
theorem Ex.os_fr:∀l:List Ex,frE (Ex.os l)=true
 | []=>rfl
 | e::l=>by rw[Ex.os.eq_2,frE,Ex.o_fr e,Ex.os_fr l];rfl
end
theorem Ex.map_fr (l:List Ex):frE (l.map Ex.o)=true:=by rw[<-Ex.os_map,Ex.os_fr]
abbrev EA (w:World):Go.Av.Env:=Go.Av.Env.zero (All w) (All w) [] w
theorem tB0 {w w':World} (hk:Keeps [] w w') {av:AV} {v:Value} (h:RepV (EA w) av v []):RepV (EA w') av v []:=by
 have le:Env.Le none (EA w) (EA w'):=⟨fun b hb=>Nat.lt_of_lt_of_le hb hk.size,fun b hb=>Nat.lt_of_lt_of_le hb hk.size,fun b hb=>hk.block b (hb.elim id id) (by simp),fun _ _ hb=>hb,fun r c g d k els' _ he=>by simp[Go.Av.Env.zero] at he⟩
 obtain ⟨sh,cs⟩:=av;cases sh with
 | any=>exact h
 | one=>exact ⟨h.1,RpA.go le (by simp) (xD0 cs) h.2⟩
 | agg=>exact ⟨h.1,RpA.go le (by simp) (xD0 cs) h.2⟩
 | tup ns=>exact ⟨h.1,RpA.go le (by simp) (xD0 cs) h.2⟩
theorem HY0 {E:Go.Av.Env} {c:A} {v:Value} {own:List Nat} (h:RepA E c v own):RepV E ⟨.one,[c]⟩ v own:=by
 have h1:=h.oneC;exact ⟨h1,by rw[yG0 h1];exact ⟨v,[],own,[],rfl,by simp,h,rfl,rfl⟩⟩
theorem sl1 {w:World} {a:AV} {v:Value} (h:RepV (EA w) a v []) {avs:List AV} {vs:List Value} (h2:RpS (EA w) avs vs []):RpS (EA w) (a::avs) (v::vs) []:=⟨v,vs,[],[],rfl,rfl,h,h2⟩
theorem sli {w:World} {n:Int} {avs:List AV} {vs:List Value} (h2:RpS (EA w) avs vs []):RpS (EA w) (litI n::avs) (.int .i64 n::vs) []:=sl1 (HY0 (c:=.lit (.int .i64 n)) (v:=.int .i64 n) ⟨rfl,rfl,rfl⟩) h2
theorem FL0 {f:FuncId} {args:List AV} {n:Int} (h:ACl Tryz.prog f args [] (fun res bx=>res=litI n/\bx=[])) {w:World} (hg:GdW w) {vals:Array Value} (hv:RpS (EA w) args vals.toList []):Calls Tryz.prog f vals w fun e w'=>e=.returned (.int .i64 n)/\Keeps [] w w':=by
 refine (nM0 h w hg vals hv).mono ?_;rintro e w' ⟨v,rfl,hk,res,bx',S',bl',o1,⟨rfl,_⟩,hr,_⟩;have h:=(UC0 hr).1;exact ⟨by rw[h],hk⟩
theorem XD0 {f:FuncId} {args:List AV} {n:Bool} (h:ACl Tryz.prog f args [] (fun res bx=>res=litB n/\bx=[])) {w:World} (hg:GdW w) {vals:Array Value} (hv:RpS (EA w) args vals.toList []):Calls Tryz.prog f vals w fun e w'=>e=.returned (.bool n)/\Keeps [] w w':=by
 refine (nM0 h w hg vals hv).mono ?_;rintro e w' ⟨v,rfl,hk,res,bx',S',bl',o1,⟨rfl,_⟩,hr,_⟩;have h:=(UC0 hr).1;exact ⟨by rw[h],hk⟩
abbrev eI (e:Ex):AV:=eA @id e
@[reducible] def eV (e:Ex) (u:Value):Value:=.agg #[.int .i64 e.k,.int .i64 e.n,.string e.s,u]
theorem agg_ex {E:Go.Av.Env} {k n:Int} {s:ByteArray} {c:A} {v:Value} {own:List Nat} (h:RepV E ⟨.agg,[.lit (.int .i64 k),.lit (.int .i64 n),.lit (.string s),c]⟩ v own):∃u,v=.agg #[.int .i64 k,.int .i64 n,.string s,u]/\RepA E c u own:=by
 obtain ⟨ha,u0,us0,p0,q0,h1,rfl,⟨rfl,_,rfl⟩,u1,us1,p1,q1,rfl,rfl,⟨rfl,_,rfl⟩,u2,us2,p2,q2,rfl,rfl,⟨rfl,_,rfl⟩,u3,us3,p3,q3,rfl,rfl,h3,h4⟩:=h;have h2:us3=[]:=h4.1;have h5:q3=[]:=h4.2;subst h2 h5;have ha:zZ0 v=true:=ha;cases v<;>simp[zZ0] at ha
 rename_i cs;refine ⟨u3,?_,by simpa using h3⟩
 congr 1
 exact Array.toList_inj.1 (by simpa [flat] using h1)
structure OwnE (w:World) (e:Ex) (u:Value) (o:List Nat):Prop where
 r:RepL NoS w (.own (e.l.map Ex.o)) u o
 nd:o.Nodup
theorem OwnE.lt {w:World} {e:Ex} {u:Value} {o:List Nat} (h:OwnE w e u o):∀b∈o,b < w.heap.size:=RepL.lt _ _ _ h.r
theorem OwnE.keeps {w w':World} {e:Ex} {u:Value} {o O:List Nat} (h:OwnE w e u o) (hk:Keeps O w w') (ho:∀b∈o,b∉O):OwnE w' e u o:=
 ⟨RepL.mono (fun _ h=>h) (fun _ h=>h.elim) _ _ _ (fun b hb=>hk.block b (h.lt b hb) (ho b hb)) h.r,h.nd⟩
theorem GW0 {w:World} {e:Ex} {u:Value} {S:Nat->Prop} (hS:∀b,S b->b < w.heap.size) (h:RepS S w (.sl (e.l.map Ex.t)) u):RepV (EA w) (eI e) (eV e u) []:=by
 have h':=RepS.mono (S':=All w) hS (fun _ _=>rfl) _ _ h;exact ⟨rfl,_,_,[],[],rfl,rfl,⟨rfl,rfl,rfl⟩,_,_,[],[],rfl,rfl,⟨rfl,rfl,rfl⟩,_,_,[],[],rfl,rfl,⟨rfl,rfl,rfl⟩,_,_,[],[],rfl,rfl,⟨h',rfl⟩,rfl,rfl⟩
theorem OwnE.read {w:World} {e:Ex} {u:Value} {o:List Nat} (h:OwnE w e u o):RepV (EA w) (eI e) (eV e u) []:=by
 have a1:=RepL.toS (S':=All w) (fun b hb=>hb.elim) _ _ _ h.lt h.r;simp only[T.er,Ex.map_erR] at a1;exact GW0 (fun _ h=>h) a1
structure RdE (n:Nat) (w:World) (e:Ex) (u:Value):Prop where
 r:RepS (fun b=>b < n) w (.sl (e.l.map Ex.t)) u
 lt:n<=w.heap.size
theorem RdE.keeps {n:Nat} {w w':World} {e:Ex} {u:Value} {O:List Nat} (h:RdE n w e u) (hk:Keeps O w w') (hO:∀b∈O,n<=b):RdE n w' e u:=
 ⟨RepS.mono (fun _ h=>h) (fun b hb=>hk.block b (Nat.lt_of_lt_of_le hb h.lt) (fun q=>by have:=hO b q;omega)) _ _ h.r,Nat.le_trans h.lt hk.size⟩
theorem RdE.read {n:Nat} {w:World} {e:Ex} {u:Value} (h:RdE n w e u):RepV (EA w) (eI e) (eV e u) []:=GW0 (fun b hb=>Nat.lt_of_lt_of_le hb h.lt) h.r
theorem NV0 (e:Ex) (hz:e.sz<=1048576) {w:World} (hg:GdW w) {v:Value} (hv:RepV (EA w) (eI e) v []):Calls Tryz.prog 7 #[v] w fun r w'=>∃ad n c o,r=.returned (eV e (.slice ad n c))/\Keeps [] w w'/\OwnE w' e (.slice ad n c) o/\∀b∈o,w.heap.size<=b:=by
 refine (nM0 (HL0 (I:=@id) rfl e hz) w hg #[v] (sl1 hv slots_nil)).mono ?_;rintro r w' ⟨v,rfl,hk,res,bx',S',bl',o,⟨rfl,_⟩,hr,hnd,hf,hS⟩;obtain ⟨u,rfl,a1⟩:=agg_ex hr;have a2:=fr_L (S':=NoS) (.own (e.l.map Ex.o)) _ _ (Ex.map_fr _) (HX0 a1);obtain ⟨ad,cap,rfl,-⟩:=tF0 a2;exact ⟨_,_,_,o,rfl,hk,⟨a2,hnd⟩,hf⟩
theorem QE0 (e:Ex) (hz:e.sz<=1048576) {w:World} (hg:GdW w) {v:Value} (hv:RepV (EA w) (eI e) v []):Calls Tryz.prog 8 #[v] w fun r w'=>∃ad n c o,r=.returned (eV e.fold (.slice ad n c))/\Keeps [] w w'/\OwnE w' e.fold (.slice ad n c) o/\∀b∈o,w.heap.size<=b:=by
 refine (nM0 (bU0 (I:=@id) rfl e hz) w hg #[v] (sl1 hv slots_nil)).mono ?_;rintro r w' ⟨v,rfl,hk,res,bx',S',bl',o,⟨rfl,_⟩,hr,hnd,hf,hS⟩;obtain ⟨u,rfl,a1⟩:=agg_ex hr;have a2:=fr_L (S':=NoS) (.own (e.fold.l.map Ex.o)) _ _ (Ex.map_fr _) (HX0 a1);obtain ⟨ad,cap,rfl,-⟩:=tF0 a2;exact ⟨_,_,_,o,rfl,hk,⟨a2,hnd⟩,hf⟩
theorem HD0 (e:Ex) (hz:e.sz<=1048576) {w:World} (hg:GdW w) {v:Value} (hv:RepV (EA w) (eI e) v []):Calls Tryz.prog 6 #[v] w fun r w'=>∃ad n c,r=.returned (eV e.fold (.slice ad n c))/\Keeps [] w w'/\RdE w'.heap.size w' e.fold (.slice ad n c):=by
 refine (nM0 (bT0 (I:=@id) rfl e hz) w hg #[v] (sl1 hv slots_nil)).mono ?_;rintro r w' ⟨v,rfl,hk,res,bx',S',bl',o,⟨rfl,_⟩,hr,hnd,hf,hS⟩;obtain ⟨u,rfl,a1⟩:=agg_ex hr;obtain ⟨ad,cap,rfl,-⟩:=a1.1;exact ⟨_,_,_,rfl,hk,RepS.mono (fun b hb=>(hS b hb).1) (fun _ _=>rfl) _ _ a1.1,Nat.le_refl _⟩
open Go.Av Go.Proofs Go.RowKit
set_option maxRecDepth 100000
set_option maxHeartbeats 4000000
variable {I:∀{α:Type},α->α}
structure Bx4 (w:World) (B:Nat) (a b c d:Value):Prop where
 lt:B < w.heap.size
 c0:w.cell? ⟨B,0,none⟩=some a
 c1:w.cell? ⟨B,1,none⟩=some b
 c2:w.cell? ⟨B,2,none⟩=some c
 c3:w.cell? ⟨B,3,none⟩=some d
theorem Bx4.keeps {w w':World} {B:Nat} {a b c d:Value} {O:List Nat} (h:Bx4 w B a b c d) (hk:Keeps O w w') (hB:B∉O):Bx4 w' B a b c d:=by
 have e:=hk.block B h.lt hB;exact ⟨Nat.lt_of_lt_of_le h.lt hk.size,by rw[cell?_congr e];exact h.c0,by rw[cell?_congr e];exact h.c1,by rw[cell?_congr e];exact h.c2,by rw[cell?_congr e];exact h.c3⟩
theorem Bx4.al (w:World) (a b c d:Value) (t:TypeId):Bx4 (w.alloc (.cells #[a,b,c,d] t)) w.heap.size a b c d:=⟨by rw[World.size_alloc];omega,by rw[World.cell?_alloc_new];rfl,by rw[World.cell?_alloc_new];rfl,by rw[World.cell?_alloc_new];rfl,by rw[World.cell?_alloc_new];rfl⟩
theorem xA0 (w:World) (o:Obj):Keeps [] w (w.alloc o):=(Av.Keeps.refl [] w).alloc o
theorem dZ0 (w:World):Keeps [] w w.drew:=⟨rfl,rfl,rfl,Nat.le_refl _,fun _ _ _=>rfl⟩
theorem kt {a b c:World} (h:Keeps [] a b) (k:Keeps [] b c):Keeps [] a c:=Keeps.tr h k
theorem kn {o:List Nat} {a b c:World} (h:Keeps [] a b) (k:Keeps o b c) (ho:∀x∈o,a.heap.size<=x):Keeps [] a c:=⟨k.os.trans h.os,k.tape.trans h.tape,k.output.trans h.output,Nat.le_trans h.size k.size,fun x hx _=>by have:=h.size;rw[k.block x (by omega) (fun hm=>by have:=ho x hm;omega),h.block x hx (by simp)]⟩
abbrev Ex.mkd (k:Nat) (e:Ex):Ex:=e.with (mapK Ex.mq Ex.mk' k e.l)
mutual
theorem KD0:∀e:Ex,e.mk'<=3+3 * e.sz
 | .mk k n s l=>by
  have h:=dY0 l;rw[Ex.mk'.eq_1,Ex.mks'_eq,Ex.sz];omega
theorem dY0:∀l:List Ex,cs Ex.mk' l<=3 * (l.length+Ex.szs l)
 | []=>by simp[cs]
 | e::l=>by
  have h1:=KD0 e;have h2:=dY0 l;rw[show cs Ex.mk' (e::l)=e.mk' + cs Ex.mk' l by simp[cs],Ex.szs,List.length_cons];omega
end
theorem MB0 (e:Ex):cs Ex.mk' e.l<=3 * e.sz:=by have h:=dY0 e.l;rw[Ex.sz_eq];omega
theorem HC0 (e:Ex) (hz:e.sz<=1048576) {w:World} (hG:GdW w) {u:Value} {o:List Nat} (h:OwnE w e u o) (hGo:∀x∈glb,x∉o) (k:Nat) (hk:k+cs Ex.mk' e.l<=1000000000) :
  Calls Tryz.prog 10 #[eV e u,.int .i64 k] w fun r w'=>r=.returned (.int .i64 ((k+cs Ex.mk' e.l:Nat):Int))/\Keeps o w w'/\OwnE w' (e.mkd k) u o:=by
 obtain ⟨h1,h2⟩:=Ex.sz_inv hz;have hM:=NR0 e.l h1 h2;obtain ⟨ad,cap,rfl,-⟩:=tF0 h.r;have ka:=xA0 w (.cells #[.int .i64 e.k,.int .i64 e.n,.string e.s,.slice ad (e.l.map Ex.o).length cap] 28);have bA:=Bx4.al w (.int .i64 e.k) (.int .i64 e.n) (.string e.s) (.slice ad (e.l.map Ex.o).length cap) 28;have c3:=bA.c3;have hA:=h.keeps ka (by simp)
 have gA:=hG.keeps ka (by simp)
 generalize (e.l.map Ex.o).length=N at *
 go_enter Tryz.func10,Tryz.ntmps10
 go_wp2_with (first
  | (go_at_call 28;refine (hM _ _ o k hA.r hA.nd gA hGo hk).mono ?_;rintro r w2 ⟨rfl,k2,r2⟩))
 go_ret
 exact ⟨rfl,Keeps.tr (Keeps.mono' ka (by simp)) k2,r2,h.nd⟩
theorem XC0 (e:Ex) (hz:e.sz<=1048576) {w:World} (hG:GdW w) {u:Value} {o:List Nat} (h:OwnE w e u o) (hGo:∀x∈glb,x∉o) :
  Calls Tryz.prog 10 #[eV e u,.int .i64 1] w fun r w'=>∃n:Nat,n=1+cs Ex.mk' e.l/\r=.returned (.int .i64 n)/\Keeps o w w'/\OwnE w' (e.mkd 1) u o:=by
 refine (HC0 e hz hG h hGo 1 (by have:=MB0 e;omega)).mono ?_
 rintro r w' ⟨rfl,k,h⟩;exact ⟨_,rfl,rfl,k,h⟩
theorem WL0 (hI:II @I) (e:Ex) (hz:e.sz<=1048576) (k:Nat) (hk:k+cs Ex.mk' e.l<=1000000000):ACl Tryz.prog 11 [eA @I (e.mkd k),litI (Int.ofNat (I k))] [] (fun res bx=>res=litI (Int.ofNat (I (k+cs Ex.mk' e.l)))/\bx=[]):=by
 have key:∀e:Ex,e.sz<=1048576->HeE @I e.l:=by
  refine Ex.indQ fun e ih hz=>?_;have h:=Ex.sz_inv hz;exact mV0 hI e.l h.1 fun x hx=>ih x hx (h.2 x hx)
 have c1:ACl Tryz.prog 29 [⟨.one,[.ro true (I ((mapK Ex.mq Ex.mk' k e.l).map Ex.t))]⟩,litI (Int.ofNat (I k))] [] (fun res bx=>res=litI (Int.ofNat (I (k+cs Ex.mk' e.l)))/\bx=[]):=key e hz k hk
 show ACl Tryz.prog 11 [⟨.agg,[.lit (.int .i64 (I e.k)),.lit (.int .i64 (I e.n)),.lit (.string (I e.s)),.ro true (I ((mapK Ex.mq Ex.mk' k e.l).map Ex.t))]⟩,litI (Int.ofNat (I k))] [] _
 refine qN hI tyK Tryz.func11 12 [.tmp 4] ?_;unhygienic intros
 refine qB 0 ?_
 repeat' first|refine qA 0 ?_|refine qJ (nN []) ?_|refine qp ?_ ?_|refine qk (fun h=>?_) fun h=>?_|fail
 ·exact absurd h (by omega)
 ·exact hR _ _ ⟨rfl,rfl⟩
theorem QD0 (e:Ex) (hz:e.sz<=1048576) {w:World} (hG:GdW w) {u:Value} {o:List Nat} (h:OwnE w (e.mkd 1) u o) {n:Nat} (hn:n=1+cs Ex.mk' e.l) :
  Calls Tryz.prog 11 #[eV e u,.int .i64 1] w fun r w'=>r=.returned (.int .i64 n)/\Keeps [] w w':=by
 have h1:=WL0 (I:=@id) rfl e hz 1 (by have:=MB0 e;omega)
 have h2:=FL0 h1 hG (vals:=#[eV (e.mkd 1) u,.int .i64 1]) (sl1 h.read (sli slots_nil));rw[hn];exact h2
end Go.Gv
