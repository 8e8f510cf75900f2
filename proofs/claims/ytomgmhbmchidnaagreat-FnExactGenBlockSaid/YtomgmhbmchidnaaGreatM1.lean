/- Part M1 of the proof: contracts of functions of the program, each walked once. -/
import Derived.Test.YtomgmhbmchidnaaGreatD6
import Derived.Test.YtomgmhbmchidnaaGreatD5
import Derived.Test.YtomgmhbmchidnaaGreatA2
import Derived.WalkKit
import Derived.Test.YtomgmhbmchidnaaGreatD13
set_option linter.all false
namespace Go.Gv
open Go.Av Go.Proofs Go.RowKit
set_option maxRecDepth 100000
set_option maxHeartbeats 4000000
def isSl:Value->Bool | .slice ..=>true | _=>false
structure Wk (own:List Nat) (w0 w:World):Prop where
 os:w.os=w0.os
 tape:w.tape=w0.tape
 output:w.output=w0.output
 size:w0.heap.size<=w.heap.size
 out:∀b,b < w0.heap.size->b∉own->w.heap[b]?=w0.heap[b]?
 cell:∀(b o:Nat) (v:Value),b∈own->w0.cell? ⟨b,o,none⟩=some v->∃v',w.cell? ⟨b,o,none⟩=some v'/\(isSl v=true->v'=v)
 frz:∀(b o:Nat),b∈own->w.frozen? ⟨b,o,none⟩=w0.frozen? ⟨b,o,none⟩
theorem Wk.refl (own:List Nat) (w:World):Wk own w w:=⟨rfl,rfl,rfl,Nat.le_refl _,fun _ _ _=>rfl,fun _ _ v _ h=>⟨v,h,fun _=>rfl⟩,fun _ _ _=>rfl⟩
theorem Wk.set {own:List Nat} {w0 w:World} (h:Wk own w0 w) {b o:Nat} (hb:b∈own) {v:Value} (hv:w0.cell? ⟨b,o,none⟩=some v) (hs:isSl v=false) (u:Value):Wk own w0 (w.setCell ⟨b,o,none⟩ u):=by
 refine ⟨h.os,h.tape,h.output,by rw[World.size_setCell];exact h.size,fun b' hb' hn=>?_,fun b' o' v' hb' hv'=>?_,fun b' o' hb'=>by rw[World.frozen?_setCell];exact h.frz b' o' hb'⟩
 ·rw[heap_setCell_other _ _ _ _ (fun e=>hn (by rw[e];exact hb))]
  exact h.out b' hb' hn
 ·obtain ⟨x,hx,hs'⟩:=h.cell b' o' v' hb' hv'
  by_cases e:(⟨b,o,none⟩:Addr)=⟨b',o',none⟩
  ·rw[<-e] at hx hv' |-
   rw[hv] at hv';simp only[Option.some.injEq] at hv';subst hv';exact ⟨u,World.cell?_setCell_same _ _ _ hx,fun q=>by rw[hs] at q;simp at q⟩
  ·exact ⟨x,by rw[World.cell?_setCell_other _ _ _ _ e];exact hx,hs'⟩
theorem Wk.keeps {own:List Nat} {w0 w w':World} (h:Wk own w0 w) (hl:∀b∈own,b < w0.heap.size) (hk:Keeps [] w w'):Wk own w0 w':=by
 have hsz:=h.size;refine ⟨hk.os.trans h.os,hk.tape.trans h.tape,hk.output.trans h.output,Nat.le_trans h.size hk.size,fun b hb hn=>(hk.block b (by omega) (by simp)).trans (h.out b hb hn),fun b o v hb hv=>?_,fun b o hb=>?_⟩
 ·obtain ⟨v',h1,h2⟩:=h.cell b o v hb hv
  exact ⟨v',by rw[cell?_congr (hk.block b (by have:=hl b hb;omega) (by simp))];exact h1,h2⟩
 ·rw[<-h.frz b o hb]
  unfold World.frozen?;rw[hk.block b (by have:=hl b hb;omega) (by simp)]
theorem uW0 {S:Nat->Prop} {w:World} {k:Nat} {els:List (List T)} {u:Value} {own:List Nat} (h:RepL S w (.own els) u own) (hk:∀e∈els,e.length=k) :
  ∃ad cap,u=.slice ad els.length cap/\els.length<=cap/\(els=[]\/∃b o,ad=some ⟨b,o,none⟩/\b∈own/\b < w.heap.size/\(∀x,x < els.length * k->w.frozen? ⟨b,o+x,none⟩=false)/\
   ∀(i:Nat) (e:List T),els[i]?=some e->∃q,(∀x∈q,x∈own)/\RepLC S w b (o+i * k) e q):=by
 have hlt:=RepL.lt _ _ _ h;simp only[RepL] at h;obtain ⟨ad,cap,h1,h2,h3⟩:=h;refine ⟨ad,cap,h1,h2,?_⟩;rcases h3 with ⟨h3,_⟩ | ⟨b,o,arr,ty,fz,own',g1,g2,g3,g4,g5⟩
 ·exact .inl h3
 ·refine .inr ⟨b,o,g1,by simp[g2],hlt b (by simp[g2]),fun x hx=>?_,fun i e hi=>?_⟩
  ·have:=g4 (o+x) (by omega) (by rw[zE0 hk];omega)
   unfold World.frozen?;simp only[g3];simp;omega
  ·obtain ⟨p,q,r,e1,_,e2,_⟩:=RepLE.get g5 hk i e hi
   exact ⟨q,fun x hx=>by rw[g2,e1];simp[hx],e2⟩
theorem wE1 {P:Program} {f:FuncId} {args:List AV} {R:AV->List (Option (List A))->Prop} (h:ACl P f args [] R) (w:World) (vals:Array Value) (hv:RpS (Env.zero (fun _=>False) (fun _=>False) [] w) args vals.toList []) :
  Calls P f vals w fun e w'=>∃v,e=.returned v/\Keeps [] w w'/\∃res S' bl' o1 bx',R res bx'/\RepV (Env.zero S' S' bl' w') res v o1:=by
 refine (h w vals (fun _=>False) (fun _=>False) [] [] [] hv ⟨rfl,rfl⟩ (by simp) (fun _ h=>h) (fun _ h=>h.elim)).mono ?_
 rintro e w' ⟨v,rfl,res,bx',S',bl',o1,o2,hR,hv,_,_,_,_,_,hk,_,_⟩;exact ⟨v,rfl,hk,res,S',bl',o1,bx',hR,hv⟩
open Go.Av Go.Proofs
set_option maxRecDepth 10000
set_option maxHeartbeats 8000000
variable {I:∀{α:Type},α->α}
theorem quo10 (n:Nat) (h:n < 2 ^ 40):Ops.std.bin .quo .i64 (Int.ofNat n) 10=Int.ofNat (n / 10):=by
 show IntKind.i64.wrap ((n:Int).tdiv 10)=_
 have e:(n:Int).tdiv 10=((n / 10:Nat):Int):=by rw[Int.tdiv_eq_ediv_of_nonneg (by omega)];rfl
 rw[e];exact xV0 (x:=((n / 10:Nat):Int)) (by omega)
theorem MT0 (hI:II @I) (k:Nat) (hk:k < 2 ^ 40):ACl Tryz.prog 48 [litI (k:Int)] [] (fun res bx=>∃s:ByteArray,s.size<=100/\res=litS s/\bx=[]):=by
 refine qN hI tyK Tryz.func48 20 [.tmp 2] ?_;unhygienic intros
 refine qB 0 ?_
 repeat' first|refine qA 0 ?_|refine qJ (nN []) ?_|refine qp ?_ ?_|refine qk (fun h=>?_) fun h=>?_|fail
 ·exact hR _ _ ⟨_,by decide,rfl,rfl⟩
 refine qLf 0 [0,3] kk0 (fun a:Nat×Nat×ByteArray=>⟨vag 20 [(0,litI (Int.ofNat (I a.1))),(3,litS (I a.2.2))],[],1⟩) (fun a=>a.1 < 2 ^ a.2.1/\a.2.2.size+a.2.1<=40) (fun a=>a.1) ?_ fun a ha=>?_
 ·cbv
  exact ⟨(k,40,⟨⟨[]⟩⟩),by simp[hI.e];rfl,hk,by simp[ByteArray.size]⟩
 obtain ⟨n,d,out⟩:=a;obtain ⟨h1,h2⟩:=ha;simp only at h1 h2 |-;have hnz:nz 10:=by cases hO;show (10:Int)≠0;decide
 have hB:∀x:Int,isB [[.lit (.int .u8 x)]]:=fun x=>by cases hO;rfl
 have hT:∀x:Int,(text [[.lit (.int .u8 x)]]).size=1:=fun x=>by cases hO;rfl
 have hA:∀a b:ByteArray,(sadd a b).size=a.size+b.size:=fun a b=>by cases hO;exact ByteArray.size_append
 have hs1:∀x:Int,sOk (text [[.lit (.int .u8 x)]]) (I out):=fun x=>by have:=hT x;rw[hI.e];cases hO;show _+_<=9223372036854775807;omega
 have hs2:sOk ⟨⟨[109]⟩⟩ (I out):=by rw[hI.e];cases hO;show 1+_<=9223372036854775807;omega
 have e1:bin .quo .i64 (Int.ofNat (I n)) 10=Int.ofNat (I (n / 10)):=by rw[hI.e,hI.e];cases hO;exact quo10 n (by have:2 ^ d<=2 ^ 40:=Nat.pow_le_pow_right (by decide) (by omega);omega)
 have hB1:=hB (wrap .u8 (bin .add .i64 48 (bin .rem .i64 (Int.ofNat (I n)) 10)));have hs3:=hs1 (wrap .u8 (bin .add .i64 48 (bin .rem .i64 (Int.ofNat (I n)) 10)));refine qB 0 ?_
 repeat' first|refine qA 0 ?_|refine qJ (nN []) ?_|refine qp ?_ ?_|refine qk (fun h=>?_) fun h=>?_|fail
 ·have hn0:0 < n:=by simpa using h
  refine ⟨(n / 10,d - 1,_),by (try simp only[A.reset,zD0,hI.e]);rfl,⟨?_,?_⟩,?_⟩
  ·have hd:d≠0:=by rintro rfl;simp at h1;omega
   have:2 ^ d=2 * 2 ^ (d - 1):=by rw[<-Nat.pow_succ'];congr 1;omega
   show n / 10 < 2 ^ (d - 1)
   omega
  ·have hd:d≠0:=by rintro rfl;simp at h1;omega
   show (sadd _ _).size+(d - 1)<=40
   rw[hA,hT];omega
  ·show n / 10 < n
   omega
 ·exact hR _ _ ⟨_,by rw[hA];show 1+_<=100;rw[hI.e];omega,rfl,rfl⟩
mutual
def Ex.o:Ex->List T
 | .mk k n s l=>[.lit (.int .i64 k),.lit (.int .i64 n),.lit (.string s),.own (Ex.os l)]
def Ex.os:List Ex->List (List T)
 | []=>[]
 | e::l=>Ex.o e::Ex.os l
end
theorem Ex.os_map:∀l,Ex.os l=l.map Ex.o
 | []=>rfl
 | e::l=>by rw[Ex.os,Ex.os_map l];rfl
theorem Ex.o_eq (e:Ex):e.o=[.lit (.int .i64 e.k),.lit (.int .i64 e.n),.lit (.string e.s),.own (e.l.map Ex.o)]:=by cases e;rw[Ex.o,Ex.os_map];rfl
theorem Ex.o_len (e:Ex):e.o.length=4:=by rw[Ex.o_eq];rfl
theorem fT0 (k:Int) (h0:0<=k) (hk:k < 1000000100) (w:World):Calls Tryz.prog 48 #[.int .i64 k] w fun e w'=>∃s,e=.returned (.string s)/\Keeps [] w w':=by
 obtain ⟨n,rfl⟩:=Int.eq_ofNat_of_zero_le h0;have h:=wE1 (MT0 (I:=@id) rfl n (by omega)) w #[.int .i64 n] ⟨_,[],[],[],rfl,rfl,⟨⟨rfl,rfl⟩,_,[],[],[],rfl,rfl,⟨rfl,rfl,rfl⟩,rfl,rfl⟩,rfl,rfl⟩
 refine h.mono ?_;rintro e w' ⟨v,rfl,hk,res,S',bl',o1,bx',⟨s,_,rfl,_⟩,hv⟩;obtain ⟨⟨ht,ha⟩,u,us,p,q,h1,_,⟨rfl,_⟩,h2⟩:=hv;have h2:us=[]:=h2.1;subst h2;refine ⟨s,?_,hk⟩;cases v<;>simp[flat,isTuple,yM0] at h1 ht ha |-<;>exact h1
theorem uU1 {k n:Int} {s:ByteArray} {l:List Ex} (h:(Ex.mk k n s l).sz<=1048576):l.length<=1048576/\∀x∈l,x.sz<=1048576:=by
 rw[Ex.sz] at h;exact ⟨by omega,fun x hx=>by obtain ⟨p,q,rfl⟩:=List.append_of_mem hx;rw[Ex.szs_app,Ex.szs] at h;omega⟩
end Go.Gv
