/- Part PR2 of the proof: contracts of functions of the program, each walked once. -/
import Derived.Test.YtnmkmfancgcaeaaGreatDoorPM1
import Derived.Test.YtnmkmfancgcaeaaGreatDoorPD12
import Derived.Test.YtnmkmfancgcaeaaGreatDoorPD5
import Derived.Test.YtnmkmfancgcaeaaGreatDoorPS1
set_option linter.all false
namespace Go.Gv
open Go.Av Go.Proofs Go.RowKit
set_option maxRecDepth 100000
set_option maxHeartbeats 4000000
def NoS (_:Nat):Prop:=False
structure Rw (b lo k:Nat) (O:List Nat) (w0 w:World):Prop where
 kp:Keeps (b::O) w0 w
 cell:∀x,x < lo\/lo+k<=x->w.cell? ⟨b,x,none⟩=w0.cell? ⟨b,x,none⟩
 blk:∀arr ty fz,w0.heap[b]?=some (.cells arr ty fz)->∃arr',w.heap[b]?=some (.cells arr' ty fz)
theorem Rw.refl (b lo k:Nat) (O:List Nat) (w:World):Rw b lo k O w w:=⟨Keeps.refl _ _,fun _ _=>rfl,fun arr _ _ h=>⟨arr,h⟩⟩
theorem VR0 (w:World) (b o:Nat) (u:Value) {arr:Array Value} {ty:TypeId} {fz:Nat×Nat} (h:w.heap[b]?=some (.cells arr ty fz)):∃arr',(w.setCell ⟨b,o,none⟩ u).heap[b]?=some (.cells arr' ty fz):=by
 simp only[World.setCell,Array.getElem?_modify,h];exact ⟨_,rfl⟩
theorem Rw.set {b lo k:Nat} {O:List Nat} {w0 w:World} (h:Rw b lo k O w0 w) {x:Nat} (h1:lo<=x) (h2:x < lo+k) (u:Value):Rw b lo k O w0 (w.setCell ⟨b,x,none⟩ u):=by
 refine ⟨⟨h.kp.os,h.kp.tape,h.kp.output,by rw[World.size_setCell];exact h.kp.size,fun b' hb' hn=>?_⟩,fun y hy=>?_,fun arr ty fz hb=>?_⟩
 ·rw[heap_setCell_other _ _ _ _ (fun e=>hn (by rw[e];simp))]
  exact h.kp.block b' hb' hn
 ·rw[World.cell?_setCell_other _ _ _ _ (fun e=>by simp only[Addr.mk.injEq] at e;omega)]
  exact h.cell y hy
 ·obtain ⟨arr',h3⟩:=h.blk arr ty fz hb
  exact VR0 _ _ _ _ h3
theorem Rw.keeps {b lo k:Nat} {O O':List Nat} {w0 w w':World} (h:Rw b lo k O w0 w) (hk:Keeps O' w w') (hO:∀x∈O',x∈O) (hb:b∉O') (hlt:b < w0.heap.size):Rw b lo k O w0 w':=by
 have hbs:=Nat.lt_of_lt_of_le hlt h.kp.size;have hbb:=hk.block b hbs hb;refine ⟨⟨hk.os.trans h.kp.os,hk.tape.trans h.kp.tape,hk.output.trans h.kp.output,Nat.le_trans h.kp.size hk.size,fun b' hb' hn=>?_⟩,fun y hy=>?_,fun arr ty fz hq=>?_⟩
 ·simp only[List.mem_cons,not_or] at hn
  rw[hk.block b' (Nat.lt_of_lt_of_le hb' h.kp.size) (fun e=>hn.2 (hO _ e))];exact h.kp.block b' hb' (by simp[hn.1,hn.2])
 ·rw[cell?_congr hbb];exact h.cell y hy
 ·rw[hbb];exact h.blk arr ty fz hq
theorem kB0 {S:Nat->Prop} {w:World} {k:Nat} {els:List (List T)} {ad:Option Addr} {n cap:Nat} {own:List Nat} (h:RepL S w (.own els) (.slice ad n cap) own) (hk:∀e∈els,e.length=k) (hnd:own.Nodup) (hS:∀b,S b->b < w.heap.size/\b∉own) {i:Nat} {e:List T} (hi:els[i]?=some e) :
  ∃b o q,ad=some ⟨b,o,none⟩/\b∈own/\b < w.heap.size/\b∉q/\(∀x∈q,x∈own)/\q.Nodup/\RepLC S w b (o+i * k) e q/\(∀(w':World) (O:List Nat),Rw b (o+i * k) k O w w'->∀x,x < els.length * k->w'.frozen? ⟨b,o+x,none⟩=false)/\
   ∀(w':World) (e':List T),e'.length=k->Rw b (o+i * k) k q w w'->RepLC S w' b (o+i * k) e' q->RepL S w' (.own (els.set i e')) (.slice ad n cap) own:=by
 have hlt:=RepL.lt _ _ _ h;simp only[RepL] at h;obtain ⟨ad',cap',h1,h2,h3⟩:=h;cases h1;rcases h3 with ⟨rfl,_⟩ | ⟨b,o,arr,ty,fz,own',rfl,rfl,hb,hfz,hE⟩
 ·simp at hi
 have hil:=(List.getElem?_eq_some_iff.1 hi).1;obtain ⟨p,q,r,rfl,k1,k2,k3⟩:=RepLE.get hE hk i e hi;simp only[List.nodup_cons,List.mem_append,not_or] at hnd;obtain ⟨⟨⟨nb1,nb2⟩,nb3⟩,hnd⟩:=hnd;obtain ⟨n1,n2,n3⟩:=List.nodup_append.1 hnd;obtain ⟨n4,n5,n6⟩:=List.nodup_append.1 n1;refine ⟨b,o,q,rfl,by simp,hlt b (by simp),nb2,fun x hx=>by simp[hx],n5,k2,fun w' O hR x hx=>?_,fun w' e' he' hR hC=>?_⟩
 ·have:=hfz (o+x) (by omega) (by rw[zC0 hk];omega)
  obtain ⟨arr',hb'⟩:=hR.blk arr ty fz hb;unfold World.frozen?;simp only[hb'];simp;omega
 ·obtain ⟨arr',hb'⟩:=hR.blk arr ty fz hb
  have hk':∀y∈els.set i e',y.length=k:=fun y hy=>(List.mem_or_eq_of_mem_set hy).elim (hk y) (fun e=>e ▸ he');have hSame:∀x,S x->w'.heap[x]?=w.heap[x]?:=fun x hx=>hR.kp.block x (hS x hx).1 (fun hm=>(hS x hx).2 (by rcases List.mem_cons.1 hm with rfl | hm<;>simp[*]))
  have lt:=pR0 hk (Nat.le_of_lt hil);simp only[RepL];refine ⟨_,_,by rw[List.length_set],by rw[List.length_set];exact h2,.inr ⟨b,o,arr',ty,fz,p++q++r,rfl,rfl,hb',fun x hx hx'=>hfz x hx (by rw[zC0 hk',List.length_set] at hx';rw[zC0 hk];exact hx'),?_⟩⟩
  rw[mQ0 hil];refine RepLE.append.2 ⟨p,q++r,by simp,RepLE.move hSame (fun j hj hj'=>hR.cell j (by rw[lt] at hj';omega)) (fun x hx=>hR.kp.block x (hlt x (by simp[hx])) (fun hm=>?_)) k1,?_⟩
  ·rcases List.mem_cons.1 hm with rfl | hm
   ·exact nb1 hx
   ·exact n6 x hx x hm rfl
  ·rw[lt]
   simp only[RepLE];refine ⟨q,r,rfl,hC,?_⟩;rw[he'];rw[show o+(i+1) * k=o+i * k+k by rw[Nat.succ_mul,Nat.add_assoc]] at k3
   refine RepLE.move hSame (fun j hj hj'=>hR.cell j (by omega)) (fun x hx=>hR.kp.block x (hlt x (by simp[hx])) (fun hm=>?_)) k3
   rcases List.mem_cons.1 hm with rfl | hm
   ·exact nb3 hx
   ·exact n3 x (by simp[hm]) x hx rfl
open Go.Av Go.Proofs
set_option maxRecDepth 10000
set_option maxHeartbeats 8000000
variable {I:∀{α:Type},α->α}
theorem wT1 (n:Nat) (h:n < 2 ^ 40):Ops.std.bin .quo .i64 (Int.ofNat n) 10=Int.ofNat (n / 10):=by
 show IntKind.i64.wrap ((n:Int).tdiv 10)=_
 have e:(n:Int).tdiv 10=((n / 10:Nat):Int):=by rw[Int.tdiv_eq_ediv_of_nonneg (by omega)];rfl
 rw[e];exact yV0 (x:=((n / 10:Nat):Int)) (by omega)
def dgT (x:Nat):ByteArray:=⟨⟨[UInt8.ofNat (48+x)]⟩⟩
def mtL:Nat->Nat->ByteArray->ByteArray
 | 0,_,o=>o
 | d+1,n,o=>if n=0 then o else mtL d (n / 10) (dgT (n % 10)++o)
def mt (k:Nat):ByteArray:=if k=0 then ⟨⟨[109,48]⟩⟩ else ⟨⟨[109]⟩⟩++mtL 40 k ⟨⟨[]⟩⟩
theorem GJ0 (d:Nat) (o:ByteArray):mtL d 0 o=o:=by cases d<;>simp[mtL]
theorem xX0 (hI:II @I) (k:Nat) (hk:k < 2 ^ 40):ACl Tryz.prog 57 [litI (k:Int)] [] (fun res bx=>res=litS (I (mt k))/\bx=[]):=by
 refine qN hI tyK Tryz.func57 20 [.tmp 2] ?_;unhygienic intros
 refine qB 0 ?_
 repeat' first|refine qA 0 ?_|refine qJ (nN []) ?_|refine qp ?_ ?_|refine qk (fun h=>?_) fun h=>?_|fail
 ·have hk0:k=0:=by simpa using h
  exact hR _ _ ⟨liS hI (by rw[mt,if_pos hk0]),rfl⟩
 have hk0:¬k=0:=by simpa using h
 refine qLf 0 [0,3] kk0 (fun a:Nat×Nat×ByteArray=>⟨vag 20 [(0,litI (Int.ofNat (I a.1))),(3,litS (I a.2.2))],[],1⟩) (fun a=>a.1 < 2 ^ a.2.1/\a.2.2.size+a.2.1<=40/\mtL a.2.1 a.1 a.2.2=mtL 40 k ⟨⟨[]⟩⟩) (fun a=>a.1) ?_ fun a ha=>?_
 ·cbv
  exact ⟨(k,40,⟨⟨[]⟩⟩),by simp[hI.e];rfl,hk,by simp[ByteArray.size],rfl⟩
 obtain ⟨n,d,out⟩:=a;obtain ⟨h1,h2,h3⟩:=ha;simp only at h1 h2 h3 |-;have hnz:nz 10:=by cases hO;show (10:Int)≠0;decide
 have hn40:n < 2 ^ 40:=Nat.lt_of_lt_of_le h1 (Nat.pow_le_pow_right (by decide) (by omega))
 have e1:bin .quo .i64 (Int.ofNat (I n)) 10=Int.ofNat (I (n / 10)):=by rw[hI.e,hI.e];cases hO;exact wT1 n hn40
 obtain ⟨r,e2,hr⟩:∃r:Int,wrap .u8 (bin .add .i64 48 (bin .rem .i64 (Int.ofNat (I n)) 10))=r/\r=48+((n % 10:Nat):Int):=⟨_,rfl,by
  rw[hI.e];cases hO
  show IntKind.u8.wrap (IntKind.i64.wrap (48+(n:Int).tmod 10))=_
  have e:(n:Int).tmod 10=((n % 10:Nat):Int):=by rw[Int.tmod_eq_emod_of_nonneg (by omega)];rfl
  rw[e,yV0 (by omega)]
  simp only[IntKind.wrap,IntKind.bits,IntKind.signed];simp;omega⟩
 have e3:text [[.lit (.int .u8 r)]]=I (dgT (n % 10))/\sadd (I (dgT (n % 10))) (I out)=I (dgT (n % 10)++out)/\sadd ⟨⟨[109]⟩⟩ (I out)=I (⟨⟨[109]⟩⟩++out):=by
  simp only[hI.e];cases hO;refine ⟨?_,rfl,rfl⟩
  show (⟨⟨[UInt8.ofNat r.toNat]⟩⟩:ByteArray)=dgT (n % 10)
  rw[dgT,hr];congr 3
 have hB1:isB [[.lit (.int .u8 r)]]:=by cases hO;rfl
 have hd1:(dgT (n % 10)).size=1:=rfl;have hs2:sOk ⟨⟨[109]⟩⟩ (I out):=by rw[hI.e];cases hO;show 1+_<=9223372036854775807;omega
 refine qB 0 ?_
 repeat' first|refine qA 0 ?_|refine qJ (nN []) ?_|refine qp ?_ ?_|refine qk (fun h=>?_) fun h=>?_|fail
 ·have hn0:0 < n:=by simpa using h
  have hd:d≠0:=by rintro rfl;simp at h1;omega
  refine ⟨(n / 10,d - 1,dgT (n % 10)++out),by (try simp only[A.reset,wE0,hI.e]);rfl,⟨?_,?_,?_⟩,?_⟩
  ·have:2 ^ d=2 * 2 ^ (d - 1):=by rw[<-Nat.pow_succ'];congr 1;omega
   show n / 10 < 2 ^ (d - 1)
   omega
  ·show (dgT _++_).size+(d - 1)<=40
   rw[ByteArray.size_append,hd1];omega
  ·show mtL (d - 1) (n / 10) (dgT (n % 10)++out)=_
   rw[<-h3];obtain ⟨d',rfl⟩:∃d',d=d' + 1:=⟨d - 1,by omega⟩
   rw[mtL,if_neg (by omega)];rfl
  ·show n / 10 < n
   omega
 ·have hn0:n=0:=by simpa using h
  subst hn0;rw[GJ0] at h3;exact hR _ _ ⟨by rw[mt,if_neg hk0,h3],rfl⟩
theorem pA0 (k:Int) (h0:0<=k) (hk:k < 1000000100) (w:World) (hG:GdW w):Calls Tryz.prog 57 #[.int .i64 k] w fun e w'=>e=.returned (.string (mt k.toNat))/\Keeps [] w w':=by
 obtain ⟨n,rfl⟩:=Int.eq_ofNat_of_zero_le h0;have h:=FB0 (xX0 (I:=@id) rfl n (by omega)) w hG #[.int .i64 n] ⟨_,[],[],[],rfl,rfl,⟨⟨rfl,rfl⟩,_,[],[],[],rfl,rfl,⟨rfl,rfl,rfl⟩,rfl,rfl⟩,rfl,rfl⟩
 refine h.mono ?_;rintro e w' ⟨v,rfl,hk,res,S',bl',o1,bx',⟨rfl,_⟩,hv⟩;obtain ⟨⟨ht,ha⟩,u,us,p,q,h1,_,⟨rfl,_⟩,h2⟩:=hv;have h2:us=[]:=h2.1;subst h2;refine ⟨?_,hk⟩;cases v<;>simp[flat,isTuple,zZ0] at h1 ht ha |-<;>exact h1
def cs {α:Type} (f:α->Nat) (l:List α):Nat:=(l.map f).sum
theorem hF0 {α:Type} [Inhabited α] (f:α->Nat) {l:List α} {i:Nat} (h:i < l.length):cs f (l.take (i+1))=cs f (l.take i)+f l[i]!:=by rw[zU0 h];simp[cs]
theorem hE0 {α:Type} (f:α->Nat) (l:List α) (i:Nat):cs f (l.take i)<=cs f l:=by
 have h:=congrArg (cs f) (List.take_append_drop i l);simp only[cs,List.map_append,List.sum_append] at h |-;omega
def str1 (_:ByteArray):Nat:=1
mutual
def Ex.mk':Ex->Nat
 | .mk _ _ _ l=>3+Ex.mks' l
def Ex.mks':List Ex->Nat
 | []=>0
 | e::l=>Ex.mk' e+Ex.mks' l
end
theorem Ex.mks'_eq:∀l,Ex.mks' l=cs Ex.mk' l
 | []=>rfl
 | e::l=>by rw[Ex.mks',Ex.mks'_eq l];simp[cs]
theorem Ex.mk'_eq (e:Ex):e.mk'=3+cs Ex.mk' e.l:=by cases e;rw[Ex.mk',Ex.mks'_eq];rfl
mutual
def Sm.mk':Sm->Nat
 | .mk _ _ _ x a b=>3+cs Ex.mk' x+Sm.mks' a+Sm.mks' b
def Sm.mks':List Sm->Nat
 | []=>0
 | e::l=>Sm.mk' e+Sm.mks' l
end
theorem Sm.mks'_eq:∀l,Sm.mks' l=cs Sm.mk' l
 | []=>rfl
 | e::l=>by rw[Sm.mks',Sm.mks'_eq l];simp[cs]
theorem Sm.mk'_eq (e:Sm):e.mk'=3+cs Ex.mk' e.x+cs Sm.mk' e.a+cs Sm.mk' e.b:=by cases e;rw[Sm.mk',Sm.mks'_eq,Sm.mks'_eq];rfl
def Ru.mk' (r:Ru):Nat:=4+cs Ex.mk' r.p.l+cs Sm.mk' r.a
theorem Ru.mk'_eq (r:Ru):r.mk'=4+cs Ex.mk' r.p.l+cs Sm.mk' r.a:=rfl
def Fu.mk' (f:Fu):Nat:=1+cs str1 f.params+cs Sm.mk' f.a
theorem Fu.mk'_eq (f:Fu):f.mk'=1+cs str1 f.params+cs Sm.mk' f.a:=rfl
variable {I:∀{α:Type},α->α}
open Go.RowKit
def mapK {α:Type} (m:Nat->α->α) (c:α->Nat):Nat->List α->List α
 | _,[]=>[]
 | k,a::l=>m k a::mapK m c (k+c a) l
section
variable {α:Type} (m:Nat->α->α) (c:α->Nat)
theorem wA0:∀(k:Nat) (l:List α),(mapK m c k l).length=l.length
 | _,[]=>rfl
 | k,a::l=>by rw[mapK,List.length_cons,wA0,List.length_cons]
theorem bW0:∀(k:Nat) (l:List α) (x:α),mapK m c k (l++[x])=mapK m c k l++[m (k+cs c l) x]
 | k,[],x=>by simp[mapK,cs]
 | k,a::l,x=>by
  rw[List.cons_append,mapK,bW0 (k+c a) l x,mapK,List.cons_append]
  congr 4
  simp[cs,Nat.add_assoc]
def mixK (k:Nat) (l:List α) (j:Nat):List α:=mapK m c k (l.take j)++l.drop j
theorem rX0 (k:Nat) (l:List α):mixK m c k l 0=l:=by simp[mixK,mapK]
theorem kL0 (k:Nat) (l:List α) {j:Nat} (h:l.length<=j):mixK m c k l j=mapK m c k l:=by simp[mixK,List.take_of_length_le h,List.drop_of_length_le h]
theorem kK0 (k:Nat) (l:List α) (j:Nat):(mixK m c k l j).length=l.length:=by simp[mixK,wA0];omega
variable [Inhabited α] (o:α->List T)
theorem bV0 (k:Nat) {l:List α} {j:Nat} (h:j < l.length):((mixK m c k l j).map o)[j]?=some (o l[j]!):=by
 have h1:(mapK m c k (l.take j)).length=j:=by rw[wA0,List.length_take];omega
 rw[List.getElem?_map,mixK,List.getElem?_append_right (by omega),h1,Nat.sub_self,List.getElem?_drop,Nat.add_zero,List.getElem?_eq_getElem h,List.getElem!_eq_getElem?_getD,List.getElem?_eq_getElem h]
 rfl
theorem kJ0 (k:Nat) {l:List α} {j:Nat} (h:j < l.length):((mixK m c k l j).map o).set j (o (m (k+cs c (l.take j)) l[j]!))=(mixK m c k l (j+1)).map o:=by
 have h1:(mapK m c k (l.take j)).length=j:=by rw[wA0,List.length_take];omega
 rw[<-List.map_set]
 congr 1
 rw[mixK,mixK,zU0 h,bW0,List.set_append,if_neg (by omega),h1,Nat.sub_self,JN0 h,List.set_cons_zero,List.append_assoc]
 rfl
end
theorem Keeps.mono' {O O':List Nat} {w w':World} (h:Av.Keeps O w w') (hO:∀x∈O,x∈O'):Av.Keeps O' w w':=⟨h.os,h.tape,h.output,h.size,fun b hb hn=>h.block b hb fun q=>hn (hO _ q)⟩
theorem Keeps.tr {O:List Nat} {w w' w2:World} (h:Av.Keeps O w w') (h':Av.Keeps O w' w2):Av.Keeps O w w2:=
 ⟨h'.os.trans h.os,h'.tape.trans h.tape,h'.output.trans h.output,Nat.le_trans h.size h'.size,fun b hb hn=>(h'.block b (Nat.lt_of_lt_of_le hb h.size) hn).trans (h.block b hb hn)⟩
theorem Rw.mono {b lo k:Nat} {O O':List Nat} {w0 w:World} (h:Rw b lo k O w0 w) (hO:∀x∈O,x∈O'):Rw b lo k O' w0 w:=⟨Keeps.mono' h.kp (fun x hx=>by rcases List.mem_cons.1 hx with rfl | hx<;>simp[*]),h.cell,h.blk⟩
abbrev CeA (b x:Nat) (v:Value) (w:World):Prop:=w.cell? ⟨b,x,none⟩=some v
theorem CeA.set {b x:Nat} {v:Value} {w:World} (h:CeA b x v w) (u:Value):CeA b x u (w.setCell ⟨b,x,none⟩ u):=World.cell?_setCell_same _ _ _ h
theorem CeA.oth {b x y:Nat} {v:Value} {w:World} (h:CeA b x v w) (hy:y≠x) (u:Value):CeA b x v (w.setCell ⟨b,y,none⟩ u):=by
 show (w.setCell _ _).cell? _=_
 rw[World.cell?_setCell_other _ _ _ _ (fun e=>hy (by simpa using e))];exact h
theorem CeA.kp {b x:Nat} {v:Value} {w w':World} {O:List Nat} (h:CeA b x v w) (hk:Av.Keeps O w w') (hb:b∉O):CeA b x v w':=by
 have hlt:b < w.heap.size:=by
  rcases Nat.lt_or_ge b w.heap.size with q | q
  ·exact q
  ·have h':=h
   simp[CeA,World.cell?,Array.getElem?_eq_none q] at h'
 show w'.cell? _=_
 rw[cell?_congr (hk.block b hlt hb)];exact h
def MkR {α:Type} (f:FuncId) (o:α->List T) (m:Nat->α->α) (c:α->Nat) (l:List α):Prop:=∀(w:World) (u:Value) (own:List Nat) (k:Nat),RepL NoS w (.own (l.map o)) u own->own.Nodup->GdW w->(∀x∈glb,x∉own)->k+cs c l<=1000000000->
 Calls Tryz.prog f #[u,.int .i64 k] w fun e w'=>e=.returned (.int .i64 ((k+cs c l:Nat):Int))/\Av.Keeps own w w'/\RepL NoS w' (.own ((mapK m c k l).map o)) u own
mutual
def Ex.mq:Nat->Ex->Ex
 | k,.mk _ _ _ l=>.mk k (k+1:Nat) (mt (k+2)) (Ex.mqs (k+3) l)
def Ex.mqs:Nat->List Ex->List Ex
 | _,[]=>[]
 | k,e::l=>Ex.mq k e::Ex.mqs (k+e.mk') l
end
theorem Ex.mqs_eq:∀(k:Nat) (l:List Ex),Ex.mqs k l=mapK Ex.mq Ex.mk' k l
 | _,[]=>rfl
 | k,e::l=>by rw[Ex.mqs,Ex.mqs_eq _ l,mapK]
theorem Ex.mq_eq (k:Nat) (e:Ex):e.mq k=.mk k (k+1:Nat) (mt (k+2)) (mapK Ex.mq Ex.mk' (k+3) e.l):=by cases e;rw[Ex.mq,Ex.mqs_eq];rfl
theorem ro_Expr {S:Nat->Prop} {w:World} {b o:Nat} {x:Ex} {q:List Nat}:RepLC S w b o (Ex.o x) q↔w.cell? ⟨b,o,none⟩=some (.int .i64 x.k)/\w.cell? ⟨b,o+1,none⟩=some (.int .i64 x.n)/\w.cell? ⟨b,o+2,none⟩=some (.string x.s)/\∃u3,w.cell? ⟨b,o+3,none⟩=some u3/\RepL S w (.own (x.l.map Ex.o)) u3 q:=by
 rw[Ex.o_eq]
 constructor
 ·rintro ⟨u0,q0,r0,rfl,c0,⟨rfl,_,rfl⟩,u1,q1,r1,rfl,c1,⟨rfl,_,rfl⟩,u2,q2,r2,rfl,c2,⟨rfl,_,rfl⟩,u3,q3,r3,rfl,c3,h3,rfl⟩
  exact ⟨c0,c1,c2,u3,c3,by simpa using h3⟩
 ·rintro ⟨c0,c1,c2,u3,c3,h3⟩
  exact ⟨_,[],q,rfl,c0,⟨rfl,rfl,rfl⟩,_,[],q,rfl,c1,⟨rfl,rfl,rfl⟩,_,[],q,rfl,c2,⟨rfl,rfl,rfl⟩,u3,q,[],by simp,c3,h3,rfl⟩
theorem xK0 {S:Nat->Prop} {w:World} {els:List (List T)} {u:Value} {own:List Nat} (h:RepL S w (.own els) u own):∃ad cap,u=.slice ad els.length cap/\els.length<=cap:=by
 simp only[RepL] at h;obtain ⟨ad,cap,h1,h2,_⟩:=h;exact ⟨ad,cap,h1,h2⟩
set_option maxRecDepth 100000 in
theorem rW0 (l:List Ex) (ih:∀x∈l,MkR 28 Ex.o Ex.mq Ex.mk' x.l) (hl:l.length<=1048576):MkR 28 Ex.o Ex.mq Ex.mk' l:=by
 intro w u own k0 hr hnd hG hGo hk;obtain ⟨ad,cap,rfl,hcap⟩:=xK0 hr;rw[List.length_map] at hcap hr |-;generalize hN:l.length=N at *
 go_enter Tryz.func28,Tryz.ntmps28
 go_wp2
 go_loopw [1,5] (fun v i wr=>∃j:Nat,j<=N/\i=.int .i64 j/\v=.int .i64 ((k0+cs Ex.mk' (l.take j):Nat):Int)/\Av.Keeps own w wr/\RepL NoS wr (.own ((mixK Ex.mq Ex.mk' k0 l j).map Ex.o)) (.slice ad N cap) own) (fun _ i _=>N - (intOf i).toNat)
 case atStart=>exact ⟨0,Nat.zero_le _,rfl,by simp[cs],Av.Keeps.refl _ _,by rw[rX0];exact hr⟩
 case round=>
  obtain ⟨j,hj,rfl,rfl,hKr,hRr⟩:=hrel;clear hr
  by_cases hjN:j < N
  ·have hjl:j < l.length:=by omega
   obtain ⟨b,o,q,rfl,hbo,hblt,hbq,hqo,hqn,hrow,hfz,hput⟩:=kB0 hRr (k:=4) (by intro e he;simp only[List.mem_map] at he;obtain ⟨x,_,rfl⟩:=he;exact x.o_len) hnd (fun _ h=>h.elim) (bV0 Ex.mq Ex.mk' Ex.o k0 hjl)
   rw[List.length_map,kK0,hN] at hfz;have hput:=fun w'=>hput w' (Ex.o (Ex.mq (k0+cs Ex.mk' (l.take j)) l[j]!)) (Ex.o_len _);rw[kJ0 Ex.mq Ex.mk' Ex.o k0 hjl] at hput;obtain ⟨a0,a1,a2,u3,a3,hr3⟩:=ro_Expr.1 hrow;have hGr:=hG.keeps hKr hGo;have hno:∀O:List Nat,(∀y∈O,y∈q)->∀x∈glb,x∉b::O:=fun O hO x hx h=>hGo x hx (by rcases List.mem_cons.1 h with rfl | h;exact hbo;exact hqo _ (hO _ h))
   have X0:=Rw.refl b (o+j * 4) 4 [] wr;have f0:=hfz _ _ X0 (j * 4) (by omega)
   have f1:=hfz _ _ X0 (j * 4+1) (by omega)
   have f2:=hfz _ _ X0 (j * 4+2) (by omega)
   rw[<-Nat.add_assoc] at f1 f2;have hpp:=hF0 Ex.mk' hjl;have hpe:=Ex.mk'_eq l[j]!;have hpt:=hE0 Ex.mk' l (j+1);have hcall3:=ih (l[j]!) (zB0 hjl);clear ih hN hrow hRr;generalize hpt0:k0+cs Ex.mk' (l.take j)=pt at *;have hp2:k0+cs Ex.mk' (l.take (j+1))=pt+3+cs Ex.mk' l[j]!.l:=by omega
   generalize hlj:l[j]! = x at *;generalize hR0:(mixK Ex.mq Ex.mk' k0 l (j+1)).map Ex.o=els2 at *;have hp3:pt+3+cs Ex.mk' x.l<=1000000000:=by omega
   go_wp2_with (first
    | (go_at_call 57;have XG:=((Rw.refl b (o+j * 4) 4 [] wr).set (x:=o+j * 4) (by omega) (by omega) (.int .i64 ((pt:Nat):Int))).set (x:=o+j * 4+1) (by omega) (by omega) (.int .i64 (((pt:Nat):Int)+1));refine (pA0 (((pt:Nat):Int)+1+1) (by omega) (by omega) _ (hGr.keeps XG.kp (hno _ (by simp)))).mono ?_;rintro e w1 ⟨rfl,hk1⟩;have X1:=((((Rw.refl b (o+j * 4) 4 [] wr).set (x:=o+j * 4) (by omega) (by omega) _).set (x:=o+j * 4+1) (by omega) (by omega) _).keeps hk1 (by simp) (by simp) hblt);have d0:=(((CeA.set a0 _).oth (y:=o+j * 4+1) (by omega) _).kp hk1 (by simp));have d1:=(((CeA.oth a1 (y:=o+j * 4) (by omega) _).set _).kp hk1 (by simp));have d2:=(((CeA.oth a2 (y:=o+j * 4) (by omega) _).oth (y:=o+j * 4+1) (by omega) _).kp hk1 (by simp));have d3:=(((CeA.oth a3 (y:=o+j * 4) (by omega) _).oth (y:=o+j * 4+1) (by omega) _).kp hk1 (by simp));have f3:w1.frozen? ⟨b,o+j * 4+2,none⟩=false:=by rw[Nat.add_assoc o];exact hfz _ _ X1 (j * 4+2) (by omega))
    | (go_at_call 28;have X2:=X1.set (x:=o+j * 4+2) (by omega) (by omega) (.string (mt (((pt:Nat):Int)+1+1).toNat));refine (hcall3 _ u3 q (pt+3) (RepL.mono (fun _ h=>h) (fun _ h=>h.elim) _ _ _ (fun y hy=>X2.kp.block y (RepL.lt _ _ _ hr3 y hy) (by simp;rintro rfl;exact hbq hy)) hr3) hqn (hGr.keeps X2.kp (hno _ (by simp))) (fun x hx h=>hGo x hx (hqo x h)) (by omega)).mono ?_;rintro e w2 ⟨rfl,hk2,hr4⟩))
   go_roundw
   case rel=>
    have X3:=(X2.mono (O':=q) (by simp)).keeps hk2 (fun _ h=>h) hbq hblt
    refine ⟨j+1,by omega,by simp,by congr 1;omega,Keeps.tr hKr (Keeps.mono' X3.kp (fun y hy=>by rcases List.mem_cons.1 hy with rfl | hy;exact hbo;exact hqo y hy)),?_⟩
    rw[hR0];refine hput _ X3 ?_;rw[Ex.mq_eq];refine ro_Expr.2 ⟨(d0.oth (by omega) _).kp hk2 hbq,?_,?_,u3,(d3.oth (by omega) _).kp hk2 hbq,hr4⟩
    ·have:=(d1.oth (y:=o+j * 4+2) (by omega) _).kp hk2 hbq
     exact this
    ·have:=(d2.set _).kp hk2 hbq
     exact this
   case measure=>simp[intOf];omega
  ·have e2:j=N:=by omega
   subst e2;rw[kL0 _ _ _ _ (by omega)] at hRr
   have e:l.take j=l:=List.take_of_length_le (by omega)
   rw[e];clear ih
   go_wp2
   go_ret
   exact ⟨rfl,hKr,hRr⟩
variable {I:∀{α:Type},α->α}
open Go.RowKit
mutual
def Sm.mq:Nat->Sm->Sm
 | k,.mk _ _ _ x a b=>.mk k (mt (k+1)) (mt (k+2)) (mapK Ex.mq Ex.mk' (k+3) x) (Sm.mqs (k+3+cs Ex.mk' x) a) (Sm.mqs (k+3+cs Ex.mk' x+Sm.mks' a) b)
def Sm.mqs:Nat->List Sm->List Sm
 | _,[]=>[]
 | k,e::l=>Sm.mq k e::Sm.mqs (k+e.mk') l
end
theorem Sm.mqs_eq:∀(k:Nat) (l:List Sm),Sm.mqs k l=mapK Sm.mq Sm.mk' k l
 | _,[]=>rfl
 | k,e::l=>by rw[Sm.mqs,Sm.mqs_eq _ l,mapK]
theorem Sm.mq_eq (k:Nat) (e:Sm):e.mq k=.mk k (mt (k+1)) (mt (k+2)) (mapK Ex.mq Ex.mk' (k+3) e.x) (mapK Sm.mq Sm.mk' (k+3+cs Ex.mk' e.x) e.a) (mapK Sm.mq Sm.mk' (k+3+cs Ex.mk' e.x+cs Sm.mk' e.a) e.b):=by
 cases e;rw[Sm.mq,Sm.mqs_eq,Sm.mqs_eq,Sm.mks'_eq];rfl
def strq (k:Nat) (_:ByteArray):ByteArray:=mt k
def Ru.mq (k:Nat) (r:Ru):Ru:=⟨k,.mk (k+1:Nat) (k+2:Nat) (mt (k+3)) (mapK Ex.mq Ex.mk' (k+4) r.p.l),mapK Sm.mq Sm.mk' (k+4+cs Ex.mk' r.p.l) r.a⟩
def Fu.mq (k:Nat) (f:Fu):Fu:=⟨mt k,mapK strq str1 (k+1) f.params,mapK Sm.mq Sm.mk' (k+1+cs str1 f.params) f.a⟩
theorem ro_String {S:Nat->Prop} {w:World} {b o:Nat} {x:ByteArray} {q:List Nat}:RepLC S w b o (strT x) q↔w.cell? ⟨b,o,none⟩=some (.string x)/\q=[]:=by
 unfold strT
 constructor
 ·rintro ⟨u0,p0,r0,rfl,c0,⟨rfl,_,rfl⟩,rfl⟩
  exact ⟨c0,by simp⟩
 ·rintro ⟨c0,rfl⟩
  exact ⟨_,[],[],rfl,c0,⟨rfl,rfl,rfl⟩,rfl⟩
set_option maxRecDepth 100000 in
theorem kH0 (l:List ByteArray)  (hl:l.length<=1048576):MkR 77 strT strq str1 l:=by
 intro w u own k0 hr hnd hG hGo hk;obtain ⟨ad,cap,rfl,hcap⟩:=xK0 hr;rw[List.length_map] at hcap hr |-;generalize hN:l.length=N at *
 go_enter Tryz.func77,Tryz.ntmps77
 go_wp2
 go_loopw [1,5] (fun v i wr=>∃j:Nat,j<=N/\i=.int .i64 j/\v=.int .i64 ((k0+cs str1 (l.take j):Nat):Int)/\Av.Keeps own w wr/\RepL NoS wr (.own ((mixK strq str1 k0 l j).map strT)) (.slice ad N cap) own) (fun _ i _=>N - (intOf i).toNat)
 case atStart=>exact ⟨0,Nat.zero_le _,rfl,by simp[cs],Av.Keeps.refl _ _,by rw[rX0];exact hr⟩
 case round=>
  obtain ⟨j,hj,rfl,rfl,hKr,hRr⟩:=hrel;clear hr
  by_cases hjN:j < N
  ·have hjl:j < l.length:=by omega
   obtain ⟨b,o,q,rfl,hbo,hblt,hbq,hqo,hqn,hrow,hfz,hput⟩:=kB0 hRr (k:=1) (by intro e he;simp only[List.mem_map] at he;obtain ⟨x,_,rfl⟩:=he;exact rfl) hnd (fun _ h=>h.elim) (bV0 strq str1 strT k0 hjl)
   rw[List.length_map,kK0,hN] at hfz;have hput:=fun w'=>hput w' (strT (strq (k0+cs str1 (l.take j)) l[j]!)) (rfl);rw[kJ0 strq str1 strT k0 hjl] at hput;obtain ⟨a0,rfl⟩:=ro_String.1 hrow;simp only[Nat.mul_one] at hfz hput a0;have hGr:=hG.keeps hKr hGo;have hno:∀O:List Nat,(∀y∈O,y∈([]:List Nat))->∀x∈glb,x∉b::O:=fun O hO x hx h=>hGo x hx (by rcases List.mem_cons.1 h with rfl | h;exact hbo;exact hqo _ (hO _ h))
   have X0:=Rw.refl b (o+j) 1 [] wr;have f0:=hfz _ _ X0 (j) (by omega)
   have hpp:=hF0 str1 hjl;have hpe:str1 l[j]! = 1:=rfl;have hpt:=hE0 str1 l (j+1);clear  hN hrow hRr;generalize hpt0:k0+cs str1 (l.take j)=pt at *;have hp2:k0+cs str1 (l.take (j+1))=pt+1:=by omega
   generalize hlj:l[j]! = x at *;generalize hR0:(mixK strq str1 k0 l (j+1)).map strT=els2 at *;have hp3:pt+1<=1000000000:=by omega
   go_wp2_with (first
    | (go_at_call 57;have XG:=X0;refine (pA0 (((pt:Nat):Int)) (by omega) (by omega) _ (hGr.keeps XG.kp (hno _ (by simp)))).mono ?_;rintro e w1 ⟨rfl,hk1⟩;have X1:=(X0).keeps hk1 (by simp) (by simp) hblt;have d0_1:=((show CeA b (o+j) _ _ from a0)).kp hk1 (by simp);have f0_1:w1.frozen? ⟨b,o+j,none⟩=false:=by first|(rw[Nat.add_assoc o];exact hfz _ _ X1 (j) (by omega)) | exact hfz _ _ X1 (j) (by omega))
    | fail)
   go_roundw
   case rel=>
    have XF:=(X1).set (x:=o+j) (by omega) (by omega) (.string (mt (((pt:Nat):Int)).toNat))
    have X9:=XF.mono (O':=[]) (fun y hy=>by first|(simp at hy;done)|(simp only[List.mem_append] at hy |-;grind) | exact hy)
    refine ⟨j+1,by omega,by simp,by congr 1;omega,Keeps.tr hKr (Keeps.mono' X9.kp (fun y hy=>by rcases List.mem_cons.1 hy with rfl | hy;exact hbo;exact hqo y hy)),?_⟩
    rw[hR0];refine hput _ X9 ?_;have z0:=(d0_1).set (.string (mt (((pt:Nat):Int)).toNat));exact ro_String.2 ⟨z0,rfl⟩
   case measure=>simp[intOf];omega
  ·have e2:j=N:=by omega
   subst e2;rw[kL0 _ _ _ _ (by omega)] at hRr
   have e:l.take j=l:=List.take_of_length_le (by omega)
   rw[e]
   skip
   go_wp2
   go_ret
   exact ⟨rfl,hKr,hRr⟩
theorem ro_Stmt {S:Nat->Prop} {w:World} {b o:Nat} {x:Sm} {q:List Nat}:RepLC S w b o (Sm.o x) q↔w.cell? ⟨b,o,none⟩=some (.int .i64 x.k)/\w.cell? ⟨b,o+1,none⟩=some (.string x.s)/\w.cell? ⟨b,o+2,none⟩=some (.string x.tt)/\∃u3 u4 u5 q3 q4 q5,q=q3++(q4++q5)/\w.cell? ⟨b,o+3,none⟩=some u3/\w.cell? ⟨b,o+4,none⟩=some u4/\w.cell? ⟨b,o+5,none⟩=some u5/\RepL S w (.own (x.x.map Ex.o)) u3 q3/\RepL S w (.own (x.a.map Sm.o)) u4 q4/\RepL S w (.own (x.b.map Sm.o)) u5 q5:=by
 rw[Sm.o_eq]
 constructor
 ·rintro ⟨u0,p0,r0,rfl,c0,⟨rfl,_,rfl⟩,u1,p1,r1,rfl,c1,⟨rfl,_,rfl⟩,u2,p2,r2,rfl,c2,⟨rfl,_,rfl⟩,u3,p3,r3,rfl,c3,h3,u4,p4,r4,rfl,c4,h4,u5,p5,r5,rfl,c5,h5,rfl⟩
  exact ⟨c0,c1,c2,u3,u4,u5,p3,p4,p5,by simp,c3,c4,c5,h3,h4,h5⟩
 ·rintro ⟨c0,c1,c2,u3,u4,u5,q3,q4,q5,rfl,c3,c4,c5,h3,h4,h5⟩
  exact ⟨_,[],q3++(q4++q5),rfl,c0,⟨rfl,rfl,rfl⟩,_,[],q3++(q4++q5),rfl,c1,⟨rfl,rfl,rfl⟩,_,[],q3++(q4++q5),rfl,c2,⟨rfl,rfl,rfl⟩,u3,q3,q4++q5,by simp,c3,h3,u4,q4,q5,by simp,c4,h4,u5,q5,[],by simp,c5,h5,rfl⟩
set_option maxRecDepth 100000 in
theorem vV0 (l:List Sm) (g3:∀x∈l,MkR 28 Ex.o Ex.mq Ex.mk' x.x) (g4:∀x∈l,MkR 76 Sm.o Sm.mq Sm.mk' x.a) (g5:∀x∈l,MkR 76 Sm.o Sm.mq Sm.mk' x.b) (hl:l.length<=1048576):MkR 76 Sm.o Sm.mq Sm.mk' l:=by
 intro w u own k0 hr hnd hG hGo hk;obtain ⟨ad,cap,rfl,hcap⟩:=xK0 hr;rw[List.length_map] at hcap hr |-;generalize hN:l.length=N at *
 go_enter Tryz.func76,Tryz.ntmps76
 go_wp2
 go_loopw [1,5] (fun v i wr=>∃j:Nat,j<=N/\i=.int .i64 j/\v=.int .i64 ((k0+cs Sm.mk' (l.take j):Nat):Int)/\Av.Keeps own w wr/\RepL NoS wr (.own ((mixK Sm.mq Sm.mk' k0 l j).map Sm.o)) (.slice ad N cap) own) (fun _ i _=>N - (intOf i).toNat)
 case atStart=>exact ⟨0,Nat.zero_le _,rfl,by simp[cs],Av.Keeps.refl _ _,by rw[rX0];exact hr⟩
 case round=>
  obtain ⟨j,hj,rfl,rfl,hKr,hRr⟩:=hrel;clear hr
  by_cases hjN:j < N
  ·have hjl:j < l.length:=by omega
   obtain ⟨b,o,q,rfl,hbo,hblt,hbq,hqo,hqn,hrow,hfz,hput⟩:=kB0 hRr (k:=6) (by intro e he;simp only[List.mem_map] at he;obtain ⟨x,_,rfl⟩:=he;exact x.o_len) hnd (fun _ h=>h.elim) (bV0 Sm.mq Sm.mk' Sm.o k0 hjl)
   rw[List.length_map,kK0,hN] at hfz;have hput:=fun w'=>hput w' (Sm.o (Sm.mq (k0+cs Sm.mk' (l.take j)) l[j]!)) (Sm.o_len _);rw[kJ0 Sm.mq Sm.mk' Sm.o k0 hjl] at hput;obtain ⟨a0,a1,a2,u3,u4,u5,q3,q4,q5,rfl,a3,a4,a5,hr3,hr4,hr5⟩:=ro_Stmt.1 hrow;have hb3:b∉q3:=fun h=>hbq (by simp[h])
   have hb4:b∉q4:=fun h=>hbq (by simp[h])
   have hb5:b∉q5:=fun h=>hbq (by simp[h])
   obtain ⟨hn3,hnx,hd⟩:=List.nodup_append.1 hqn;obtain ⟨hn4,hn5,hd'⟩:=List.nodup_append.1 hnx;have dj3_4:∀y∈q3,y∉q4:=fun y h1 h2=>hd y h1 y (by simp[h2]) rfl
   have dj3_5:∀y∈q3,y∉q5:=fun y h1 h2=>hd y h1 y (by simp[h2]) rfl
   have dj4_5:∀y∈q4,y∉q5:=fun y h1 h2=>hd' y h1 y h2 rfl;have hGr:=hG.keeps hKr hGo;have hno:∀O:List Nat,(∀y∈O,y∈q3++(q4++q5))->∀x∈glb,x∉b::O:=fun O hO x hx h=>hGo x hx (by rcases List.mem_cons.1 h with rfl | h;exact hbo;exact hqo _ (hO _ h))
   have X0:=Rw.refl b (o+j * 6) 6 [] wr;have f0:=hfz _ _ X0 (j * 6) (by omega)
   have f1:=hfz _ _ X0 (j * 6+1) (by omega)
   have f2:=hfz _ _ X0 (j * 6+2) (by omega)
   rw[<-Nat.add_assoc] at f1 f2;have hpp:=hF0 Sm.mk' hjl;have hpe:Sm.mk' l[j]! = 3+cs Ex.mk' l[j]!.x+cs Sm.mk' l[j]!.a+cs Sm.mk' l[j]!.b:=Sm.mk'_eq _;have hpt:=hE0 Sm.mk' l (j+1);have hcall3:=g3 (l[j]!) (zB0 hjl);have hcall4:=g4 (l[j]!) (zB0 hjl);have hcall5:=g5 (l[j]!) (zB0 hjl);clear g3 g4 g5 hN hrow hRr;generalize hpt0:k0+cs Sm.mk' (l.take j)=pt at *;have hp2:k0+cs Sm.mk' (l.take (j+1))=pt+3+cs Ex.mk' l[j]!.x+cs Sm.mk' l[j]!.a+cs Sm.mk' l[j]!.b:=by omega
   generalize hlj:l[j]! = x at *;generalize hR0:(mixK Sm.mq Sm.mk' k0 l (j+1)).map Sm.o=els2 at *;have hp3:pt+3+cs Ex.mk' x.x+cs Sm.mk' x.a+cs Sm.mk' x.b<=1000000000:=by omega
   go_wp2_with (first
    | (go_at_call 76;have hq:=hk4;have Y5:=X4;refine (hcall5 _ u5 q5 (pt+3+cs Ex.mk' x.x+cs Sm.mk' x.a) (RepL.mono (fun _ h=>h) (fun _ h=>h.elim) _ _ _ (fun y hy=>Y5.kp.block y (RepL.lt _ _ _ hr5 y hy) (fun h=>by rcases List.mem_cons.1 h with h | h;exact hb5 (h ▸ hy);rcases List.mem_append.1 h with h | h;exact dj3_5 y h hy;exact dj4_5 y h hy)) hr5) hn5 (hGr.keeps Y5.kp (hno _ (fun y hy=>by first|(simp at hy;done)|(simp only[List.mem_append] at hy |-;grind)))) (fun x hx h=>hGo x hx (hqo x (by simp[h]))) (by omega)).mono ?_;rintro e w5 ⟨rfl,hk5,ht5⟩;have X5:=(Y5.mono (O':=q3++q4++q5) (fun y hy=>by first|(simp at hy;done)|(simp only[List.mem_append] at hy |-;grind) | exact hy)).keeps hk5 (fun y hy=>by simp[hy]) hb5 hblt;have ht3:=RepL.mono (fun _ h=>h) (fun _ h=>h.elim) _ _ _ (fun y hy=>hk5.block y (RepL.lt _ _ _ ht3 y hy) (dj3_5 y hy)) ht3;have ht4:=RepL.mono (fun _ h=>h) (fun _ h=>h.elim) _ _ _ (fun y hy=>hk5.block y (RepL.lt _ _ _ ht4 y hy) (dj4_5 y hy)) ht4;have d0_5:=(d0_4).kp hk5 hb5;have d1_5:=(d1_4).kp hk5 hb5;have d2_5:=(d2_4).kp hk5 hb5;have d3_5:=(d3_4).kp hk5 hb5;have d4_5:=(d4_4).kp hk5 hb5;have d5_5:=(d5_4).kp hk5 hb5;(have f0_5:w5.frozen? ⟨b,o+j * 6,none⟩=false:=by first|(rw[Nat.add_assoc o];exact hfz _ _ X5 (j * 6) (by omega)) | exact hfz _ _ X5 (j * 6) (by omega));(have f1_5:w5.frozen? ⟨b,o+j * 6+1,none⟩=false:=by first|(rw[Nat.add_assoc o];exact hfz _ _ X5 (j * 6+1) (by omega)) | exact hfz _ _ X5 (j * 6+1) (by omega));have f2_5:w5.frozen? ⟨b,o+j * 6+2,none⟩=false:=by first|(rw[Nat.add_assoc o];exact hfz _ _ X5 (j * 6+2) (by omega)) | exact hfz _ _ X5 (j * 6+2) (by omega))
    | (go_at_call 76;have hq:=hk3;have Y4:=X3;refine (hcall4 _ u4 q4 (pt+3+cs Ex.mk' x.x) (RepL.mono (fun _ h=>h) (fun _ h=>h.elim) _ _ _ (fun y hy=>Y4.kp.block y (RepL.lt _ _ _ hr4 y hy) (fun h=>by rcases List.mem_cons.1 h with h | h;exact hb4 (h ▸ hy);exact dj3_4 y h hy)) hr4) hn4 (hGr.keeps Y4.kp (hno _ (fun y hy=>by first|(simp at hy;done)|(simp only[List.mem_append] at hy |-;grind)))) (fun x hx h=>hGo x hx (hqo x (by simp[h]))) (by omega)).mono ?_;rintro e w4 ⟨rfl,hk4,ht4⟩;have X4:=(Y4.mono (O':=q3++q4) (fun y hy=>by first|(simp at hy;done)|(simp only[List.mem_append] at hy |-;grind) | exact hy)).keeps hk4 (fun y hy=>by simp[hy]) hb4 hblt;have ht3:=RepL.mono (fun _ h=>h) (fun _ h=>h.elim) _ _ _ (fun y hy=>hk4.block y (RepL.lt _ _ _ ht3 y hy) (dj3_4 y hy)) ht3;have d0_4:=(d0_3).kp hk4 hb4;have d1_4:=(d1_3).kp hk4 hb4;have d2_4:=(d2_3).kp hk4 hb4;have d3_4:=(d3_3).kp hk4 hb4;have d4_4:=(d4_3).kp hk4 hb4;have d5_4:=(d5_3).kp hk4 hb4;(have f0_4:w4.frozen? ⟨b,o+j * 6,none⟩=false:=by first|(rw[Nat.add_assoc o];exact hfz _ _ X4 (j * 6) (by omega)) | exact hfz _ _ X4 (j * 6) (by omega));(have f1_4:w4.frozen? ⟨b,o+j * 6+1,none⟩=false:=by first|(rw[Nat.add_assoc o];exact hfz _ _ X4 (j * 6+1) (by omega)) | exact hfz _ _ X4 (j * 6+1) (by omega));have f2_4:w4.frozen? ⟨b,o+j * 6+2,none⟩=false:=by first|(rw[Nat.add_assoc o];exact hfz _ _ X4 (j * 6+2) (by omega)) | exact hfz _ _ X4 (j * 6+2) (by omega))
    | (go_at_call 28;have hq:=hk2;have Y3:=(X2).set (x:=o+j * 6+2) (by omega) (by omega) (.string (mt (((pt:Nat):Int)+1+1).toNat));refine (hcall3 _ u3 q3 (pt+3) (RepL.mono (fun _ h=>h) (fun _ h=>h.elim) _ _ _ (fun y hy=>Y3.kp.block y (RepL.lt _ _ _ hr3 y hy) (fun h=>by rcases List.mem_cons.1 h with h | h;exact hb3 (h ▸ hy);simp at h)) hr3) hn3 (hGr.keeps Y3.kp (hno _ (fun y hy=>by first|(simp at hy;done)|(simp only[List.mem_append] at hy |-;grind)))) (fun x hx h=>hGo x hx (hqo x (by simp[h]))) (by omega)).mono ?_;rintro e w3 ⟨rfl,hk3,ht3⟩;have X3:=(Y3.mono (O':=q3) (fun y hy=>by first|(simp at hy;done)|(simp only[List.mem_append] at hy |-;grind) | exact hy)).keeps hk3 (fun y hy=>by simp[hy]) hb3 hblt;have d0_3:=((d0_2).oth (y:=o+j * 6+2) (by omega) _).kp hk3 hb3;have d1_3:=((d1_2).oth (y:=o+j * 6+2) (by omega) _).kp hk3 hb3;have d2_3:=((d2_2).set _).kp hk3 hb3;have d3_3:=((d3_2).oth (y:=o+j * 6+2) (by omega) _).kp hk3 hb3;have d4_3:=((d4_2).oth (y:=o+j * 6+2) (by omega) _).kp hk3 hb3;have d5_3:=((d5_2).oth (y:=o+j * 6+2) (by omega) _).kp hk3 hb3;(have f0_3:w3.frozen? ⟨b,o+j * 6,none⟩=false:=by first|(rw[Nat.add_assoc o];exact hfz _ _ X3 (j * 6) (by omega)) | exact hfz _ _ X3 (j * 6) (by omega));(have f1_3:w3.frozen? ⟨b,o+j * 6+1,none⟩=false:=by first|(rw[Nat.add_assoc o];exact hfz _ _ X3 (j * 6+1) (by omega)) | exact hfz _ _ X3 (j * 6+1) (by omega));have f2_3:w3.frozen? ⟨b,o+j * 6+2,none⟩=false:=by first|(rw[Nat.add_assoc o];exact hfz _ _ X3 (j * 6+2) (by omega)) | exact hfz _ _ X3 (j * 6+2) (by omega))
    | (go_at_call 57;have hq:=hk1;have XG:=(X1).set (x:=o+j * 6+1) (by omega) (by omega) (.string (mt (((pt:Nat):Int)+1).toNat));refine (pA0 (((pt:Nat):Int)+1+1) (by omega) (by omega) _ (hGr.keeps XG.kp (hno _ (by simp)))).mono ?_;rintro e w2 ⟨rfl,hk2⟩;have X2:=((X1).set (x:=o+j * 6+1) (by omega) (by omega) _).keeps hk2 (by simp) (by simp) hblt;have d0_2:=((d0_1).oth (y:=o+j * 6+1) (by omega) _).kp hk2 (by simp);have d1_2:=((d1_1).set _).kp hk2 (by simp);have d2_2:=((d2_1).oth (y:=o+j * 6+1) (by omega) _).kp hk2 (by simp);have d3_2:=((d3_1).oth (y:=o+j * 6+1) (by omega) _).kp hk2 (by simp);have d4_2:=((d4_1).oth (y:=o+j * 6+1) (by omega) _).kp hk2 (by simp);have d5_2:=((d5_1).oth (y:=o+j * 6+1) (by omega) _).kp hk2 (by simp);(have f0_2:w2.frozen? ⟨b,o+j * 6,none⟩=false:=by first|(rw[Nat.add_assoc o];exact hfz _ _ X2 (j * 6) (by omega)) | exact hfz _ _ X2 (j * 6) (by omega));(have f1_2:w2.frozen? ⟨b,o+j * 6+1,none⟩=false:=by first|(rw[Nat.add_assoc o];exact hfz _ _ X2 (j * 6+1) (by omega)) | exact hfz _ _ X2 (j * 6+1) (by omega));have f2_2:w2.frozen? ⟨b,o+j * 6+2,none⟩=false:=by first|(rw[Nat.add_assoc o];exact hfz _ _ X2 (j * 6+2) (by omega)) | exact hfz _ _ X2 (j * 6+2) (by omega))
    | (go_at_call 57;have XG:=(X0).set (x:=o+j * 6) (by omega) (by omega) (.int .i64 (((pt:Nat):Int)));refine (pA0 (((pt:Nat):Int)+1) (by omega) (by omega) _ (hGr.keeps XG.kp (hno _ (by simp)))).mono ?_;rintro e w1 ⟨rfl,hk1⟩;have X1:=((X0).set (x:=o+j * 6) (by omega) (by omega) _).keeps hk1 (by simp) (by simp) hblt;have d0_1:=(((show CeA b (o+j * 6) _ _ from a0)).set _).kp hk1 (by simp);have d1_1:=(((show CeA b (o+j * 6+1) _ _ from a1)).oth (y:=o+j * 6) (by omega) _).kp hk1 (by simp);have d2_1:=(((show CeA b (o+j * 6+2) _ _ from a2)).oth (y:=o+j * 6) (by omega) _).kp hk1 (by simp);have d3_1:=(((show CeA b (o+j * 6+3) _ _ from a3)).oth (y:=o+j * 6) (by omega) _).kp hk1 (by simp);have d4_1:=(((show CeA b (o+j * 6+4) _ _ from a4)).oth (y:=o+j * 6) (by omega) _).kp hk1 (by simp);have d5_1:=(((show CeA b (o+j * 6+5) _ _ from a5)).oth (y:=o+j * 6) (by omega) _).kp hk1 (by simp);(have f0_1:w1.frozen? ⟨b,o+j * 6,none⟩=false:=by first|(rw[Nat.add_assoc o];exact hfz _ _ X1 (j * 6) (by omega)) | exact hfz _ _ X1 (j * 6) (by omega));(have f1_1:w1.frozen? ⟨b,o+j * 6+1,none⟩=false:=by first|(rw[Nat.add_assoc o];exact hfz _ _ X1 (j * 6+1) (by omega)) | exact hfz _ _ X1 (j * 6+1) (by omega));have f2_1:w1.frozen? ⟨b,o+j * 6+2,none⟩=false:=by first|(rw[Nat.add_assoc o];exact hfz _ _ X1 (j * 6+2) (by omega)) | exact hfz _ _ X1 (j * 6+2) (by omega))
    | fail)
   go_roundw
   case rel=>
    have X9:=X5.mono (O':=q3++(q4++q5)) (fun y hy=>by first|(simp at hy;done)|(simp only[List.mem_append] at hy |-;grind) | exact hy)
    refine ⟨j+1,by omega,by simp,by congr 1;omega,Keeps.tr hKr (Keeps.mono' X9.kp (fun y hy=>by rcases List.mem_cons.1 hy with rfl | hy;exact hbo;exact hqo y hy)),?_⟩
    rw[hR0];refine hput _ X9 ?_;rw[Sm.mq_eq];have z0:=d0_5;have z1:=d1_5;have z2:=d2_5;have z3:=d3_5;have z4:=d4_5;have z5:=d5_5;exact ro_Stmt.2 ⟨z0,z1,z2,u3,u4,u5,q3,q4,q5,rfl,z3,z4,z5,ht3,ht4,ht5⟩
   case measure=>simp[intOf];omega
  ·have e2:j=N:=by omega
   subst e2;rw[kL0 _ _ _ _ (by omega)] at hRr
   have e:l.take j=l:=List.take_of_length_le (by omega)
   rw[e];clear g3 g4 g5
   go_wp2
   go_ret
   exact ⟨rfl,hKr,hRr⟩
theorem ro_Rule {S:Nat->Prop} {w:World} {b o:Nat} {x:Ru} {q:List Nat}:RepLC S w b o (Ru.o x) q↔w.cell? ⟨b,o,none⟩=some (.int .i64 x.k)/\w.cell? ⟨b,o+1,none⟩=some (.int .i64 x.p.k)/\w.cell? ⟨b,o+2,none⟩=some (.int .i64 x.p.n)/\w.cell? ⟨b,o+3,none⟩=some (.string x.p.s)/\∃u4 u5 q4 q5,q=q4++q5/\w.cell? ⟨b,o+4,none⟩=some u4/\w.cell? ⟨b,o+5,none⟩=some u5/\RepL S w (.own (x.p.l.map Ex.o)) u4 q4/\RepL S w (.own (x.a.map Sm.o)) u5 q5:=by
 unfold Ru.o
 constructor
 ·rintro ⟨u0,p0,r0,rfl,c0,⟨rfl,_,rfl⟩,u1,p1,r1,rfl,c1,⟨rfl,_,rfl⟩,u2,p2,r2,rfl,c2,⟨rfl,_,rfl⟩,u3,p3,r3,rfl,c3,⟨rfl,_,rfl⟩,u4,p4,r4,rfl,c4,h4,u5,p5,r5,rfl,c5,h5,rfl⟩
  exact ⟨c0,c1,c2,c3,u4,u5,p4,p5,by simp,c4,c5,h4,h5⟩
 ·rintro ⟨c0,c1,c2,c3,u4,u5,q4,q5,rfl,c4,c5,h4,h5⟩
  exact ⟨_,[],q4++q5,rfl,c0,⟨rfl,rfl,rfl⟩,_,[],q4++q5,rfl,c1,⟨rfl,rfl,rfl⟩,_,[],q4++q5,rfl,c2,⟨rfl,rfl,rfl⟩,_,[],q4++q5,rfl,c3,⟨rfl,rfl,rfl⟩,u4,q4,q5,by simp,c4,h4,u5,q5,[],by simp,c5,h5,rfl⟩
set_option maxRecDepth 100000 in
theorem fM0 (l:List Ru) (g4:∀x∈l,MkR 28 Ex.o Ex.mq Ex.mk' x.p.l) (g5:∀x∈l,MkR 76 Sm.o Sm.mq Sm.mk' x.a) (hl:l.length<=1048576):MkR 42 Ru.o Ru.mq Ru.mk' l:=by
 intro w u own k0 hr hnd hG hGo hk;obtain ⟨ad,cap,rfl,hcap⟩:=xK0 hr;rw[List.length_map] at hcap hr |-;generalize hN:l.length=N at *
 go_enter Tryz.func42,Tryz.ntmps42
 go_wp2
 go_loopw [1,5] (fun v i wr=>∃j:Nat,j<=N/\i=.int .i64 j/\v=.int .i64 ((k0+cs Ru.mk' (l.take j):Nat):Int)/\Av.Keeps own w wr/\RepL NoS wr (.own ((mixK Ru.mq Ru.mk' k0 l j).map Ru.o)) (.slice ad N cap) own) (fun _ i _=>N - (intOf i).toNat)
 case atStart=>exact ⟨0,Nat.zero_le _,rfl,by simp[cs],Av.Keeps.refl _ _,by rw[rX0];exact hr⟩
 case round=>
  obtain ⟨j,hj,rfl,rfl,hKr,hRr⟩:=hrel;clear hr
  by_cases hjN:j < N
  ·have hjl:j < l.length:=by omega
   obtain ⟨b,o,q,rfl,hbo,hblt,hbq,hqo,hqn,hrow,hfz,hput⟩:=kB0 hRr (k:=6) (by intro e he;simp only[List.mem_map] at he;obtain ⟨x,_,rfl⟩:=he;exact rfl) hnd (fun _ h=>h.elim) (bV0 Ru.mq Ru.mk' Ru.o k0 hjl)
   rw[List.length_map,kK0,hN] at hfz;have hput:=fun w'=>hput w' (Ru.o (Ru.mq (k0+cs Ru.mk' (l.take j)) l[j]!)) (rfl);rw[kJ0 Ru.mq Ru.mk' Ru.o k0 hjl] at hput;obtain ⟨a0,a1,a2,a3,u4,u5,q4,q5,rfl,a4,a5,hr4,hr5⟩:=ro_Rule.1 hrow;have hb4:b∉q4:=fun h=>hbq (by simp[h])
   have hb5:b∉q5:=fun h=>hbq (by simp[h])
   obtain ⟨hn4,hn5,hd⟩:=List.nodup_append.1 hqn;have dj4_5:∀y∈q4,y∉q5:=fun y h1 h2=>hd y h1 y h2 rfl;have hGr:=hG.keeps hKr hGo;have hno:∀O:List Nat,(∀y∈O,y∈q4++q5)->∀x∈glb,x∉b::O:=fun O hO x hx h=>hGo x hx (by rcases List.mem_cons.1 h with rfl | h;exact hbo;exact hqo _ (hO _ h))
   have X0:=Rw.refl b (o+j * 6) 6 [] wr;have f0:=hfz _ _ X0 (j * 6) (by omega)
   have f1:=hfz _ _ X0 (j * 6+1) (by omega)
   have f2:=hfz _ _ X0 (j * 6+2) (by omega)
   have f3:=hfz _ _ X0 (j * 6+3) (by omega)
   rw[<-Nat.add_assoc] at f1 f2 f3;have hpp:=hF0 Ru.mk' hjl;have hpe:Ru.mk' l[j]! = 4+cs Ex.mk' l[j]!.p.l+cs Sm.mk' l[j]!.a:=Ru.mk'_eq _;have hpt:=hE0 Ru.mk' l (j+1);have hcall4:=g4 (l[j]!) (zB0 hjl);have hcall5:=g5 (l[j]!) (zB0 hjl);clear g4 g5 hN hrow hRr;generalize hpt0:k0+cs Ru.mk' (l.take j)=pt at *;have hp2:k0+cs Ru.mk' (l.take (j+1))=pt+4+cs Ex.mk' l[j]!.p.l+cs Sm.mk' l[j]!.a:=by omega
   generalize hlj:l[j]! = x at *;generalize hR0:(mixK Ru.mq Ru.mk' k0 l (j+1)).map Ru.o=els2 at *;have hp3:pt+4+cs Ex.mk' x.p.l+cs Sm.mk' x.a<=1000000000:=by omega
   go_wp2_with (first
    | (go_at_call 76;have hq:=hk2;have Y3:=X2;refine (hcall5 _ u5 q5 (pt+4+cs Ex.mk' x.p.l) (RepL.mono (fun _ h=>h) (fun _ h=>h.elim) _ _ _ (fun y hy=>Y3.kp.block y (RepL.lt _ _ _ hr5 y hy) (fun h=>by rcases List.mem_cons.1 h with h | h;exact hb5 (h ▸ hy);exact dj4_5 y h hy)) hr5) hn5 (hGr.keeps Y3.kp (hno _ (fun y hy=>by first|(simp at hy;done)|(simp only[List.mem_append] at hy |-;grind)))) (fun x hx h=>hGo x hx (hqo x (by simp[h]))) (by omega)).mono ?_;rintro e w3 ⟨rfl,hk3,ht5⟩;have X3:=(Y3.mono (O':=q4++q5) (fun y hy=>by first|(simp at hy;done)|(simp only[List.mem_append] at hy |-;grind) | exact hy)).keeps hk3 (fun y hy=>by simp[hy]) hb5 hblt;have ht4:=RepL.mono (fun _ h=>h) (fun _ h=>h.elim) _ _ _ (fun y hy=>hk3.block y (RepL.lt _ _ _ ht4 y hy) (dj4_5 y hy)) ht4;have d0_3:=(d0_2).kp hk3 hb5;have d1_3:=(d1_2).kp hk3 hb5;have d2_3:=(d2_2).kp hk3 hb5;have d3_3:=(d3_2).kp hk3 hb5;have d4_3:=(d4_2).kp hk3 hb5;have d5_3:=(d5_2).kp hk3 hb5;(have f0_3:w3.frozen? ⟨b,o+j * 6,none⟩=false:=by first|(rw[Nat.add_assoc o];exact hfz _ _ X3 (j * 6) (by omega)) | exact hfz _ _ X3 (j * 6) (by omega));(have f1_3:w3.frozen? ⟨b,o+j * 6+1,none⟩=false:=by first|(rw[Nat.add_assoc o];exact hfz _ _ X3 (j * 6+1) (by omega)) | exact hfz _ _ X3 (j * 6+1) (by omega));(have f2_3:w3.frozen? ⟨b,o+j * 6+2,none⟩=false:=by first|(rw[Nat.add_assoc o];exact hfz _ _ X3 (j * 6+2) (by omega)) | exact hfz _ _ X3 (j * 6+2) (by omega));have f3_3:w3.frozen? ⟨b,o+j * 6+3,none⟩=false:=by first|(rw[Nat.add_assoc o];exact hfz _ _ X3 (j * 6+3) (by omega)) | exact hfz _ _ X3 (j * 6+3) (by omega))
    | (go_at_call 28;have hq:=hk1;have Y2:=(X1).set (x:=o+j * 6+3) (by omega) (by omega) (.string (mt (((pt:Nat):Int)+1+1+1).toNat));refine (hcall4 _ u4 q4 (pt+4) (RepL.mono (fun _ h=>h) (fun _ h=>h.elim) _ _ _ (fun y hy=>Y2.kp.block y (RepL.lt _ _ _ hr4 y hy) (fun h=>by rcases List.mem_cons.1 h with h | h;exact hb4 (h ▸ hy);simp at h)) hr4) hn4 (hGr.keeps Y2.kp (hno _ (fun y hy=>by first|(simp at hy;done)|(simp only[List.mem_append] at hy |-;grind)))) (fun x hx h=>hGo x hx (hqo x (by simp[h]))) (by omega)).mono ?_;rintro e w2 ⟨rfl,hk2,ht4⟩;have X2:=(Y2.mono (O':=q4) (fun y hy=>by first|(simp at hy;done)|(simp only[List.mem_append] at hy |-;grind) | exact hy)).keeps hk2 (fun y hy=>by simp[hy]) hb4 hblt;have d0_2:=((d0_1).oth (y:=o+j * 6+3) (by omega) _).kp hk2 hb4;have d1_2:=((d1_1).oth (y:=o+j * 6+3) (by omega) _).kp hk2 hb4;have d2_2:=((d2_1).oth (y:=o+j * 6+3) (by omega) _).kp hk2 hb4;have d3_2:=((d3_1).set _).kp hk2 hb4;have d4_2:=((d4_1).oth (y:=o+j * 6+3) (by omega) _).kp hk2 hb4;have d5_2:=((d5_1).oth (y:=o+j * 6+3) (by omega) _).kp hk2 hb4;(have f0_2:w2.frozen? ⟨b,o+j * 6,none⟩=false:=by first|(rw[Nat.add_assoc o];exact hfz _ _ X2 (j * 6) (by omega)) | exact hfz _ _ X2 (j * 6) (by omega));(have f1_2:w2.frozen? ⟨b,o+j * 6+1,none⟩=false:=by first|(rw[Nat.add_assoc o];exact hfz _ _ X2 (j * 6+1) (by omega)) | exact hfz _ _ X2 (j * 6+1) (by omega));(have f2_2:w2.frozen? ⟨b,o+j * 6+2,none⟩=false:=by first|(rw[Nat.add_assoc o];exact hfz _ _ X2 (j * 6+2) (by omega)) | exact hfz _ _ X2 (j * 6+2) (by omega));have f3_2:w2.frozen? ⟨b,o+j * 6+3,none⟩=false:=by first|(rw[Nat.add_assoc o];exact hfz _ _ X2 (j * 6+3) (by omega)) | exact hfz _ _ X2 (j * 6+3) (by omega))
    | (go_at_call 57;have XG:=(((X0).set (x:=o+j * 6) (by omega) (by omega) (.int .i64 (((pt:Nat):Int)))).set (x:=o+j * 6+1) (by omega) (by omega) (.int .i64 (((pt:Nat):Int)+1))).set (x:=o+j * 6+2) (by omega) (by omega) (.int .i64 (((pt:Nat):Int)+1+1));refine (pA0 (((pt:Nat):Int)+1+1+1) (by omega) (by omega) _ (hGr.keeps XG.kp (hno _ (by simp)))).mono ?_;rintro e w1 ⟨rfl,hk1⟩;have X1:=((((X0).set (x:=o+j * 6) (by omega) (by omega) _).set (x:=o+j * 6+1) (by omega) (by omega) _).set (x:=o+j * 6+2) (by omega) (by omega) _).keeps hk1 (by simp) (by simp) hblt;have d0_1:=(((((show CeA b (o+j * 6) _ _ from a0)).set _).oth (y:=o+j * 6+1) (by omega) _).oth (y:=o+j * 6+2) (by omega) _).kp hk1 (by simp);have d1_1:=(((((show CeA b (o+j * 6+1) _ _ from a1)).oth (y:=o+j * 6) (by omega) _).set _).oth (y:=o+j * 6+2) (by omega) _).kp hk1 (by simp);have d2_1:=(((((show CeA b (o+j * 6+2) _ _ from a2)).oth (y:=o+j * 6) (by omega) _).oth (y:=o+j * 6+1) (by omega) _).set _).kp hk1 (by simp);have d3_1:=(((((show CeA b (o+j * 6+3) _ _ from a3)).oth (y:=o+j * 6) (by omega) _).oth (y:=o+j * 6+1) (by omega) _).oth (y:=o+j * 6+2) (by omega) _).kp hk1 (by simp);have d4_1:=(((((show CeA b (o+j * 6+4) _ _ from a4)).oth (y:=o+j * 6) (by omega) _).oth (y:=o+j * 6+1) (by omega) _).oth (y:=o+j * 6+2) (by omega) _).kp hk1 (by simp);have d5_1:=(((((show CeA b (o+j * 6+5) _ _ from a5)).oth (y:=o+j * 6) (by omega) _).oth (y:=o+j * 6+1) (by omega) _).oth (y:=o+j * 6+2) (by omega) _).kp hk1 (by simp);(have f0_1:w1.frozen? ⟨b,o+j * 6,none⟩=false:=by first|(rw[Nat.add_assoc o];exact hfz _ _ X1 (j * 6) (by omega)) | exact hfz _ _ X1 (j * 6) (by omega));(have f1_1:w1.frozen? ⟨b,o+j * 6+1,none⟩=false:=by first|(rw[Nat.add_assoc o];exact hfz _ _ X1 (j * 6+1) (by omega)) | exact hfz _ _ X1 (j * 6+1) (by omega));(have f2_1:w1.frozen? ⟨b,o+j * 6+2,none⟩=false:=by first|(rw[Nat.add_assoc o];exact hfz _ _ X1 (j * 6+2) (by omega)) | exact hfz _ _ X1 (j * 6+2) (by omega));have f3_1:w1.frozen? ⟨b,o+j * 6+3,none⟩=false:=by first|(rw[Nat.add_assoc o];exact hfz _ _ X1 (j * 6+3) (by omega)) | exact hfz _ _ X1 (j * 6+3) (by omega))
    | fail)
   go_roundw
   case rel=>
    have X9:=X3.mono (O':=q4++q5) (fun y hy=>by first|(simp at hy;done)|(simp only[List.mem_append] at hy |-;grind) | exact hy)
    refine ⟨j+1,by omega,by simp,by congr 1;omega,Keeps.tr hKr (Keeps.mono' X9.kp (fun y hy=>by rcases List.mem_cons.1 hy with rfl | hy;exact hbo;exact hqo y hy)),?_⟩
    rw[hR0];refine hput _ X9 ?_;have z0:=d0_3;have z1:=d1_3;have z2:=d2_3;have z3:=d3_3;have z4:=d4_3;have z5:=d5_3;exact ro_Rule.2 ⟨z0,z1,z2,z3,u4,u5,q4,q5,rfl,z4,z5,ht4,ht5⟩
   case measure=>simp[intOf];omega
  ·have e2:j=N:=by omega
   subst e2;rw[kL0 _ _ _ _ (by omega)] at hRr
   have e:l.take j=l:=List.take_of_length_le (by omega)
   rw[e];clear g4 g5
   go_wp2
   go_ret
   exact ⟨rfl,hKr,hRr⟩
theorem ro_Fn {S:Nat->Prop} {w:World} {b o:Nat} {x:Fu} {q:List Nat}:RepLC S w b o (Fu.o x) q↔w.cell? ⟨b,o,none⟩=some (.string x.name)/\∃u1 u2 q1 q2,q=q1++q2/\w.cell? ⟨b,o+1,none⟩=some u1/\w.cell? ⟨b,o+2,none⟩=some u2/\RepL S w (.own (x.params.map strT)) u1 q1/\RepL S w (.own (x.a.map Sm.o)) u2 q2:=by
 unfold Fu.o
 constructor
 ·rintro ⟨u0,p0,r0,rfl,c0,⟨rfl,_,rfl⟩,u1,p1,r1,rfl,c1,h1,u2,p2,r2,rfl,c2,h2,rfl⟩
  exact ⟨c0,u1,u2,p1,p2,by simp,c1,c2,h1,h2⟩
 ·rintro ⟨c0,u1,u2,q1,q2,rfl,c1,c2,h1,h2⟩
  exact ⟨_,[],q1++q2,rfl,c0,⟨rfl,rfl,rfl⟩,u1,q1,q2,by simp,c1,h1,u2,q2,[],by simp,c2,h2,rfl⟩
set_option maxRecDepth 100000 in
theorem XZ0 (l:List Fu) (g1:∀x∈l,MkR 77 strT strq str1 x.params) (g2:∀x∈l,MkR 76 Sm.o Sm.mq Sm.mk' x.a) (hl:l.length<=1048576):MkR 43 Fu.o Fu.mq Fu.mk' l:=by
 intro w u own k0 hr hnd hG hGo hk;obtain ⟨ad,cap,rfl,hcap⟩:=xK0 hr;rw[List.length_map] at hcap hr |-;generalize hN:l.length=N at *
 go_enter Tryz.func43,Tryz.ntmps43
 go_wp2
 go_loopw [1,5] (fun v i wr=>∃j:Nat,j<=N/\i=.int .i64 j/\v=.int .i64 ((k0+cs Fu.mk' (l.take j):Nat):Int)/\Av.Keeps own w wr/\RepL NoS wr (.own ((mixK Fu.mq Fu.mk' k0 l j).map Fu.o)) (.slice ad N cap) own) (fun _ i _=>N - (intOf i).toNat)
 case atStart=>exact ⟨0,Nat.zero_le _,rfl,by simp[cs],Av.Keeps.refl _ _,by rw[rX0];exact hr⟩
 case round=>
  obtain ⟨j,hj,rfl,rfl,hKr,hRr⟩:=hrel;clear hr
  by_cases hjN:j < N
  ·have hjl:j < l.length:=by omega
   obtain ⟨b,o,q,rfl,hbo,hblt,hbq,hqo,hqn,hrow,hfz,hput⟩:=kB0 hRr (k:=3) (by intro e he;simp only[List.mem_map] at he;obtain ⟨x,_,rfl⟩:=he;exact rfl) hnd (fun _ h=>h.elim) (bV0 Fu.mq Fu.mk' Fu.o k0 hjl)
   rw[List.length_map,kK0,hN] at hfz;have hput:=fun w'=>hput w' (Fu.o (Fu.mq (k0+cs Fu.mk' (l.take j)) l[j]!)) (rfl);rw[kJ0 Fu.mq Fu.mk' Fu.o k0 hjl] at hput;obtain ⟨a0,u1,u2,q1,q2,rfl,a1,a2,hr1,hr2⟩:=ro_Fn.1 hrow;have hb1:b∉q1:=fun h=>hbq (by simp[h])
   have hb2:b∉q2:=fun h=>hbq (by simp[h])
   obtain ⟨hn1,hn2,hd⟩:=List.nodup_append.1 hqn;have dj1_2:∀y∈q1,y∉q2:=fun y h1 h2=>hd y h1 y h2 rfl;have hGr:=hG.keeps hKr hGo;have hno:∀O:List Nat,(∀y∈O,y∈q1++q2)->∀x∈glb,x∉b::O:=fun O hO x hx h=>hGo x hx (by rcases List.mem_cons.1 h with rfl | h;exact hbo;exact hqo _ (hO _ h))
   have X0:=Rw.refl b (o+j * 3) 3 [] wr;have f0:=hfz _ _ X0 (j * 3) (by omega)
   have hpp:=hF0 Fu.mk' hjl;have hpe:Fu.mk' l[j]! = 1+cs str1 l[j]!.params+cs Sm.mk' l[j]!.a:=Fu.mk'_eq _;have hpt:=hE0 Fu.mk' l (j+1);have hcall1:=g1 (l[j]!) (zB0 hjl);have hcall2:=g2 (l[j]!) (zB0 hjl);clear g1 g2 hN hrow hRr;generalize hpt0:k0+cs Fu.mk' (l.take j)=pt at *;have hp2:k0+cs Fu.mk' (l.take (j+1))=pt+1+cs str1 l[j]!.params+cs Sm.mk' l[j]!.a:=by omega
   generalize hlj:l[j]! = x at *;generalize hR0:(mixK Fu.mq Fu.mk' k0 l (j+1)).map Fu.o=els2 at *;have hp3:pt+1+cs str1 x.params+cs Sm.mk' x.a<=1000000000:=by omega
   go_wp2_with (first
    | (go_at_call 76;have hq:=hk2;have Y3:=X2;refine (hcall2 _ u2 q2 (pt+1+cs str1 x.params) (RepL.mono (fun _ h=>h) (fun _ h=>h.elim) _ _ _ (fun y hy=>Y3.kp.block y (RepL.lt _ _ _ hr2 y hy) (fun h=>by rcases List.mem_cons.1 h with h | h;exact hb2 (h ▸ hy);exact dj1_2 y h hy)) hr2) hn2 (hGr.keeps Y3.kp (hno _ (fun y hy=>by first|(simp at hy;done)|(simp only[List.mem_append] at hy |-;grind)))) (fun x hx h=>hGo x hx (hqo x (by simp[h]))) (by omega)).mono ?_;rintro e w3 ⟨rfl,hk3,ht2⟩;have X3:=(Y3.mono (O':=q1++q2) (fun y hy=>by first|(simp at hy;done)|(simp only[List.mem_append] at hy |-;grind) | exact hy)).keeps hk3 (fun y hy=>by simp[hy]) hb2 hblt;have ht1:=RepL.mono (fun _ h=>h) (fun _ h=>h.elim) _ _ _ (fun y hy=>hk3.block y (RepL.lt _ _ _ ht1 y hy) (dj1_2 y hy)) ht1;have d0_3:=(d0_2).kp hk3 hb2;have d1_3:=(d1_2).kp hk3 hb2;have d2_3:=(d2_2).kp hk3 hb2;have f0_3:w3.frozen? ⟨b,o+j * 3,none⟩=false:=by first|(rw[Nat.add_assoc o];exact hfz _ _ X3 (j * 3) (by omega)) | exact hfz _ _ X3 (j * 3) (by omega))
    | (go_at_call 77;have hq:=hk1;have Y2:=(X1).set (x:=o+j * 3) (by omega) (by omega) (.string (mt (((pt:Nat):Int)).toNat));refine (hcall1 _ u1 q1 (pt+1) (RepL.mono (fun _ h=>h) (fun _ h=>h.elim) _ _ _ (fun y hy=>Y2.kp.block y (RepL.lt _ _ _ hr1 y hy) (fun h=>by rcases List.mem_cons.1 h with h | h;exact hb1 (h ▸ hy);simp at h)) hr1) hn1 (hGr.keeps Y2.kp (hno _ (fun y hy=>by first|(simp at hy;done)|(simp only[List.mem_append] at hy |-;grind)))) (fun x hx h=>hGo x hx (hqo x (by simp[h]))) (by omega)).mono ?_;rintro e w2 ⟨rfl,hk2,ht1⟩;have X2:=(Y2.mono (O':=q1) (fun y hy=>by first|(simp at hy;done)|(simp only[List.mem_append] at hy |-;grind) | exact hy)).keeps hk2 (fun y hy=>by simp[hy]) hb1 hblt;have d0_2:=((d0_1).set _).kp hk2 hb1;have d1_2:=((d1_1).oth (y:=o+j * 3) (by omega) _).kp hk2 hb1;have d2_2:=((d2_1).oth (y:=o+j * 3) (by omega) _).kp hk2 hb1;have f0_2:w2.frozen? ⟨b,o+j * 3,none⟩=false:=by first|(rw[Nat.add_assoc o];exact hfz _ _ X2 (j * 3) (by omega)) | exact hfz _ _ X2 (j * 3) (by omega))
    | (go_at_call 57;have XG:=X0;refine (pA0 (((pt:Nat):Int)) (by omega) (by omega) _ (hGr.keeps XG.kp (hno _ (by simp)))).mono ?_;rintro e w1 ⟨rfl,hk1⟩;have X1:=(X0).keeps hk1 (by simp) (by simp) hblt;have d0_1:=((show CeA b (o+j * 3) _ _ from a0)).kp hk1 (by simp);have d1_1:=((show CeA b (o+j * 3+1) _ _ from a1)).kp hk1 (by simp);have d2_1:=((show CeA b (o+j * 3+2) _ _ from a2)).kp hk1 (by simp);have f0_1:w1.frozen? ⟨b,o+j * 3,none⟩=false:=by first|(rw[Nat.add_assoc o];exact hfz _ _ X1 (j * 3) (by omega)) | exact hfz _ _ X1 (j * 3) (by omega))
    | fail)
   go_roundw
   case rel=>
    have X9:=X3.mono (O':=q1++q2) (fun y hy=>by first|(simp at hy;done)|(simp only[List.mem_append] at hy |-;grind) | exact hy)
    refine ⟨j+1,by omega,by simp,by congr 1;omega,Keeps.tr hKr (Keeps.mono' X9.kp (fun y hy=>by rcases List.mem_cons.1 hy with rfl | hy;exact hbo;exact hqo y hy)),?_⟩
    rw[hR0];refine hput _ X9 ?_;have z0:=d0_3;have z1:=d1_3;have z2:=d2_3;exact ro_Fn.2 ⟨z0,u1,u2,q1,q2,rfl,z1,z2,ht1,ht2⟩
   case measure=>simp[intOf];omega
  ·have e2:j=N:=by omega
   subst e2;rw[kL0 _ _ _ _ (by omega)] at hRr
   have e:l.take j=l:=List.take_of_length_le (by omega)
   rw[e];clear g1 g2
   go_wp2
   go_ret
   exact ⟨rfl,hKr,hRr⟩
variable {I:∀{α:Type},α->α}
theorem RD0:∀l:List Ex,l.length<=1048576->(∀x∈l,x.sz<=1048576)->MkR 28 Ex.o Ex.mq Ex.mk' l:=by
 have key:∀e:Ex,e.sz<=1048576->MkR 28 Ex.o Ex.mq Ex.mk' e.l:=by
  refine Ex.ind fun e ih hz=>?_;have h:=Ex.sz_inv hz;exact rW0 e.l (fun x hx=>ih x hx (h.2 x hx)) h.1
 exact fun l hl hz=>rW0 l (fun x hx=>key x (hz x hx)) hl
variable {I:∀{α:Type},α->α}
@[simp,reducible] def roE (I:∀{α:Type},α->α) (l:List Ex):AV:=⟨.one,[.ro true (I (l.map Ex.t))]⟩
abbrev HeE (I:∀{α:Type},α->α) (l:List Ex):Prop:=∀k:Nat,k+cs Ex.mk' l<=1000000000->ACl Tryz.prog 29 [roE @I (mapK Ex.mq Ex.mk' k l),litI (Int.ofNat (I k))] [] (fun res bx=>res=litI (Int.ofNat (I (k+cs Ex.mk' l)))/\bx=[])
theorem kM0 {α:Type} [Inhabited α] (m:Nat->α->α) (c:α->Nat) (k:Nat) {l:List α} {i:Nat} (h:i < l.length):(mapK m c k l)[i]! = m (k+cs c (l.take i)) l[i]!:=by
 have h1:(mapK m c k (l.take i)).length=i:=by rw[wA0,List.length_take];omega
 have e:l=l.take i++l[i]!::l.drop (i+1):=by rw[<-JN0 h,List.take_append_drop]
 have key:∀(a:List α) (x:α) (b:List α) (k:Nat),(mapK m c k (a++x::b))[a.length]! = m (k+cs c a) x:=by
  intro a
  induction a with
  | nil=>intro x b k;simp[mapK,cs]
  | cons y a ih=>intro x b k;rw[List.cons_append,mapK,List.length_cons];simp only[List.getElem!_cons_succ];rw[ih];congr 1;simp[cs,Nat.add_assoc]
 have h3:=key (l.take i) l[i]! (l.drop (i+1)) k;rw[<-e,List.length_take,Nat.min_eq_left (Nat.le_of_lt h)] at h3;exact h3
theorem tW0 (hI:II @I) (l:List Ex) (hl:l.length<=1048576) (ih:∀x∈l,HeE @I x.l):HeE @I l:=by
 intro k hk;have c2:∀n:Nat,n < 2 ^ 40->ACl Tryz.prog 57 [litI (Int.ofNat (I n))] [] (fun res bx=>res=litS (I (mt n))/\bx=[]):=fun n h=>by rw[hI.e n];exact xX0 hI n h
 refine qN hI tyK Tryz.func29 50 [.tmp 4] ?_;unhygienic intros
 refine qB 0 ?_;refine qLf 0 [0,1,5] kk0 (fun i:Nat=>⟨vag 50 [(0,roE @I (mapK Ex.mq Ex.mk' k l)),(1,litI (Int.ofNat (I (k+cs Ex.mk' (l.take i))))),(5,litI (Int.ofNat (I i)))],[],1⟩) (fun i=>i<=l.length) (fun i=>l.length - i) ?_ fun i hi=>?_
 ·cbv
  exact ⟨0,by simp only[hI.e];rfl,by omega⟩
 have hml:=wA0 Ex.mq Ex.mk' k l
 by_cases hh:i < l.length
 ·have hp:=hF0 Ex.mk' hh
  have hpe:=Ex.mk'_eq l[i]!;have hpt:=hE0 Ex.mk' l (i+1);have hx:=kM0 Ex.mq Ex.mk' k hh;have hx0:=Ex.mq_eq (k+cs Ex.mk' (l.take i)) l[i]!;rw[<-hx] at hx0;have c1:=ih _ (zB0 hh);generalize hm:(mapK Ex.mq Ex.mk' k l)[i]! = x at *;generalize l[i]! = y at *;generalize hpt0:k+cs Ex.mk' (l.take i)=pt at *;have x1:x.k=(pt:Int):=by rw[hx0];rfl
  have x2:x.n=((pt+1:Nat):Int):=by rw[hx0];rfl
  have x3:x.s=mt (pt+2):=by rw[hx0];rfl
  have x4:x.l=mapK Ex.mq Ex.mk' (pt+1+1+1) y.l:=by rw[hx0];rfl
  have c1:=c1 (pt+1+1+1) (by omega)
  rw[<-x4] at c1;have e1:=hm;refine qB 0 ?_
  repeat' first|refine qA 0 ?_|refine qJ (nN []) ?_|refine qp ?_ ?_|refine qk (fun h=>?_) fun h=>?_|fail
  ·exact absurd x1 h
  ·exact absurd x2 h
  ·exact absurd x3 h
  ·exact absurd h (by omega)
  ·exact ⟨i+1,by rw[show pt+1+1+1+cs Ex.mk' y.l=k+cs Ex.mk' (l.take (i+1)) by omega];(try simp only[A.reset,hI.e]);rfl,by omega,by omega⟩
  ·exact absurd (by omega) h
 ·refine qB 0 ?_
  repeat' first|refine qA 0 ?_|refine qJ (nN []) ?_|refine qp ?_ ?_|refine qk (fun h=>?_) fun h=>?_|fail
  ·exact absurd (by omega) hh
  ·have e:l.take i=l:=List.take_of_length_le (by omega)
   exact hR _ _ ⟨by rw[e],rfl⟩
end Go.Gv
