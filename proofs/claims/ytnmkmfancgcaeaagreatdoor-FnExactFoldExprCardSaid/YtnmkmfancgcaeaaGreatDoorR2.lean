/- Part R2 of the proof: contracts of functions of the program, each walked once. -/
import Derived.Test.YtnmkmfancgcaeaaGreatDoorM1
import Derived.Test.YtnmkmfancgcaeaaGreatDoorD12
import Derived.Test.YtnmkmfancgcaeaaGreatDoorD5
import Derived.Test.YtnmkmfancgcaeaaGreatDoorS1
set_option linter.all false
namespace Go.Gv
open Go.Av Go.Proofs Go.RowKit
set_option maxRecDepth 100000
set_option maxHeartbeats 4000000
def NoS (_:Nat):Prop:=False
structure Rw (b lo k:Nat) (O:List Nat) (w0 w:World):Prop where
 kp:Keeps (b::O) w0 w
 cell:∀x,x < lo\/lo+k<=x->w.cell? ⟨b,x,none⟩=w0.cell? ⟨b,x,none⟩
 blk:∀arr ty fz,w0.heap[b]?=some (.cells arr ty fz)->∃arr',w.heap[b]?=some (.cells arr' ty fz)
theorem Rw.refl (b lo k:Nat) (O:List Nat) (w:World):Rw b lo k O w w:=⟨Keeps.refl _ _,fun _ _=>rfl,fun arr _ _ h=>⟨arr,h⟩⟩
theorem bW0 (w:World) (b o:Nat) (u:Value) {arr:Array Value} {ty:TypeId} {fz:Nat×Nat} (h:w.heap[b]?=some (.cells arr ty fz)):∃arr',(w.setCell ⟨b,o,none⟩ u).heap[b]?=some (.cells arr' ty fz):=by
 simp only[World.setCell,Array.getElem?_modify,h];exact ⟨_,rfl⟩
theorem Rw.set {b lo k:Nat} {O:List Nat} {w0 w:World} (h:Rw b lo k O w0 w) {x:Nat} (h1:lo<=x) (h2:x < lo+k) (u:Value):Rw b lo k O w0 (w.setCell ⟨b,x,none⟩ u):=by
 refine ⟨⟨h.kp.os,h.kp.tape,h.kp.output,by rw[World.size_setCell];exact h.kp.size,fun b' hb' hn=>?_⟩,fun y hy=>?_,fun arr ty fz hb=>?_⟩
 ·rw[heap_setCell_other _ _ _ _ (fun e=>hn (by rw[e];simp))]
  exact h.kp.block b' hb' hn
 ·rw[World.cell?_setCell_other _ _ _ _ (fun e=>by simp only[Addr.mk.injEq] at e;omega)]
  exact h.cell y hy
 ·obtain ⟨arr',h3⟩:=h.blk arr ty fz hb
  exact bW0 _ _ _ _ h3
theorem Rw.keeps {b lo k:Nat} {O O':List Nat} {w0 w w':World} (h:Rw b lo k O w0 w) (hk:Keeps O' w w') (hO:∀x∈O',x∈O) (hb:b∉O') (hlt:b < w0.heap.size):Rw b lo k O w0 w':=by
 have hbs:=Nat.lt_of_lt_of_le hlt h.kp.size;have hbb:=hk.block b hbs hb;refine ⟨⟨hk.os.trans h.kp.os,hk.tape.trans h.kp.tape,hk.output.trans h.kp.output,Nat.le_trans h.kp.size hk.size,fun b' hb' hn=>?_⟩,fun y hy=>?_,fun arr ty fz hq=>?_⟩
 ·simp only[List.mem_cons,not_or] at hn
  rw[hk.block b' (Nat.lt_of_lt_of_le hb' h.kp.size) (fun e=>hn.2 (hO _ e))];exact h.kp.block b' hb' (by simp[hn.1,hn.2])
 ·rw[cell?_congr hbb];exact h.cell y hy
 ·rw[hbb];exact h.blk arr ty fz hq
theorem KB0 {S:Nat->Prop} {w:World} {k:Nat} {els:List (List T)} {ad:Option Addr} {n cap:Nat} {own:List Nat} (h:RepL S w (.own els) (.slice ad n cap) own) (hk:∀e∈els,e.length=k) (hnd:own.Nodup) (hS:∀b,S b->b < w.heap.size/\b∉own) {i:Nat} {e:List T} (hi:els[i]?=some e) :
  ∃b o q,ad=some ⟨b,o,none⟩/\b∈own/\b < w.heap.size/\b∉q/\(∀x∈q,x∈own)/\q.Nodup/\RepLC S w b (o+i * k) e q/\(∀(w':World) (O:List Nat),Rw b (o+i * k) k O w w'->∀x,x < els.length * k->w'.frozen? ⟨b,o+x,none⟩=false)/\
   ∀(w':World) (e':List T),e'.length=k->Rw b (o+i * k) k q w w'->RepLC S w' b (o+i * k) e' q->RepL S w' (.own (els.set i e')) (.slice ad n cap) own:=by
 have hlt:=RepL.lt _ _ _ h;simp only[RepL] at h;obtain ⟨ad',cap',h1,h2,h3⟩:=h;cases h1;rcases h3 with ⟨rfl,_⟩ | ⟨b,o,arr,ty,fz,own',rfl,rfl,hb,hfz,hE⟩
 ·simp at hi
 have hil:=(List.getElem?_eq_some_iff.1 hi).1;obtain ⟨p,q,r,rfl,k1,k2,k3⟩:=RepLE.get hE hk i e hi;simp only[List.nodup_cons,List.mem_append,not_or] at hnd;obtain ⟨⟨⟨nb1,nb2⟩,nb3⟩,hnd⟩:=hnd;obtain ⟨n1,n2,n3⟩:=List.nodup_append.1 hnd;obtain ⟨n4,n5,n6⟩:=List.nodup_append.1 n1;refine ⟨b,o,q,rfl,by simp,hlt b (by simp),nb2,fun x hx=>by simp[hx],n5,k2,fun w' O hR x hx=>?_,fun w' e' he' hR hC=>?_⟩
 ·have:=hfz (o+x) (by omega) (by rw[zB0 hk];omega)
  obtain ⟨arr',hb'⟩:=hR.blk arr ty fz hb;unfold World.frozen?;simp only[hb'];simp;omega
 ·obtain ⟨arr',hb'⟩:=hR.blk arr ty fz hb
  have hk':∀y∈els.set i e',y.length=k:=fun y hy=>(List.mem_or_eq_of_mem_set hy).elim (hk y) (fun e=>e ▸ he');have hSame:∀x,S x->w'.heap[x]?=w.heap[x]?:=fun x hx=>hR.kp.block x (hS x hx).1 (fun hm=>(hS x hx).2 (by rcases List.mem_cons.1 hm with rfl | hm<;>simp[*]))
  have lt:=qA0 hk (Nat.le_of_lt hil);simp only[RepL];refine ⟨_,_,by rw[List.length_set],by rw[List.length_set];exact h2,.inr ⟨b,o,arr',ty,fz,p++q++r,rfl,rfl,hb',fun x hx hx'=>hfz x hx (by rw[zB0 hk',List.length_set] at hx';rw[zB0 hk];exact hx'),?_⟩⟩
  rw[pP0 hil];refine RepLE.append.2 ⟨p,q++r,by simp,RepLE.move hSame (fun j hj hj'=>hR.cell j (by rw[lt] at hj';omega)) (fun x hx=>hR.kp.block x (hlt x (by simp[hx])) (fun hm=>?_)) k1,?_⟩
  ·rcases List.mem_cons.1 hm with rfl | hm
   ·exact nb1 hx
   ·exact n6 x hx x hm rfl
  ·rw[lt]
   simp only[RepLE];refine ⟨q,r,rfl,hC,?_⟩;rw[he'];rw[show o+(i+1) * k=o+i * k+k by rw[Nat.succ_mul,Nat.add_assoc]] at k3
   refine RepLE.move hSame (fun j hj hj'=>hR.cell j (by omega)) (fun x hx=>hR.kp.block x (hlt x (by simp[hx])) (fun hm=>?_)) k3
   rcases List.mem_cons.1 hm with rfl | hm
   ·exact nb3 hx
   ·exact n3 x (by simp[hm]) x hx rfl
open Go.Av Go.Proofs
set_option maxRecDepth 10000
set_option maxHeartbeats 8000000
variable {I:∀{α:Type},α->α}
theorem HW0 (n:Nat) (h:n < 2 ^ 40):Ops.std.bin .quo .i64 (Int.ofNat n) 10=Int.ofNat (n / 10):=by
 show IntKind.i64.wrap ((n:Int).tdiv 10)=_
 have e:(n:Int).tdiv 10=((n / 10:Nat):Int):=by rw[Int.tdiv_eq_ediv_of_nonneg (by omega)];rfl
 rw[e];exact yQ0 (x:=((n / 10:Nat):Int)) (by omega)
def dgT (x:Nat):ByteArray:=⟨⟨[UInt8.ofNat (48+x)]⟩⟩
def mtL:Nat->Nat->ByteArray->ByteArray
 | 0,_,o=>o
 | d+1,n,o=>if n=0 then o else mtL d (n / 10) (dgT (n % 10)++o)
def mt (k:Nat):ByteArray:=if k=0 then ⟨⟨[109,48]⟩⟩ else ⟨⟨[109]⟩⟩++mtL 40 k ⟨⟨[]⟩⟩
theorem PC0 (d:Nat) (o:ByteArray):mtL d 0 o=o:=by cases d<;>simp[mtL]
theorem nR0 (hI:II @I) (k:Nat) (hk:k < 2 ^ 40):ACl Tryz.prog 57 [litI (k:Int)] [] (fun res bx=>res=litS (I (mt k))/\bx=[]):=by
 refine qN hI tyK Tryz.func57 20 [.tmp 2] ?_;unhygienic intros
 refine qB 0 ?_
 repeat' first|refine qA 0 ?_|refine qJ (nN []) ?_|refine qp ?_ ?_|refine qk (fun h=>?_) fun h=>?_|fail
 ·have hk0:k=0:=by simpa using h
  exact hR _ _ ⟨liS hI (by rw[mt,if_pos hk0]),rfl⟩
 have hk0:¬k=0:=by simpa using h
 refine qLf 0 [0,3] kk0 (fun a:Nat×Nat×ByteArray=>⟨vag 20 [(0,litI (Int.ofNat (I a.1))),(3,litS (I a.2.2))],[],1⟩) (fun a=>a.1 < 2 ^ a.2.1/\a.2.2.size+a.2.1<=40/\mtL a.2.1 a.1 a.2.2=mtL 40 k ⟨⟨[]⟩⟩) (fun a=>a.1) ?_ fun a ha=>?_
 ·cbv
  exact ⟨(k,40,⟨⟨[]⟩⟩),by simp[hI.e];rfl,hk,by simp[ByteArray.size],rfl⟩
 obtain ⟨n,d,out⟩:=a;obtain ⟨h1,h2,h3⟩:=ha;simp only at h1 h2 h3 |-;have hnz:nz 10:=by cases hO;show (10:Int)≠0;decide
 have hn40:n < 2 ^ 40:=Nat.lt_of_lt_of_le h1 (Nat.pow_le_pow_right (by decide) (by omega))
 have e1:bin .quo .i64 (Int.ofNat (I n)) 10=Int.ofNat (I (n / 10)):=by rw[hI.e,hI.e];cases hO;exact HW0 n hn40
 obtain ⟨r,e2,hr⟩:∃r:Int,wrap .u8 (bin .add .i64 48 (bin .rem .i64 (Int.ofNat (I n)) 10))=r/\r=48+((n % 10:Nat):Int):=⟨_,rfl,by
  rw[hI.e];cases hO
  show IntKind.u8.wrap (IntKind.i64.wrap (48+(n:Int).tmod 10))=_
  have e:(n:Int).tmod 10=((n % 10:Nat):Int):=by rw[Int.tmod_eq_emod_of_nonneg (by omega)];rfl
  rw[e,yQ0 (by omega)]
  simp only[IntKind.wrap,IntKind.bits,IntKind.signed];simp;omega⟩
 have e3:text [[.lit (.int .u8 r)]]=I (dgT (n % 10))/\sadd (I (dgT (n % 10))) (I out)=I (dgT (n % 10)++out)/\sadd ⟨⟨[109]⟩⟩ (I out)=I (⟨⟨[109]⟩⟩++out):=by
  simp only[hI.e];cases hO;refine ⟨?_,rfl,rfl⟩
  show (⟨⟨[UInt8.ofNat r.toNat]⟩⟩:ByteArray)=dgT (n % 10)
  rw[dgT,hr];congr 3
 have hB1:isB [[.lit (.int .u8 r)]]:=by cases hO;rfl
 have hd1:(dgT (n % 10)).size=1:=rfl;have hs2:sOk ⟨⟨[109]⟩⟩ (I out):=by rw[hI.e];cases hO;show 1+_<=9223372036854775807;omega
 refine qB 0 ?_
 repeat' first|refine qA 0 ?_|refine qJ (nN []) ?_|refine qp ?_ ?_|refine qk (fun h=>?_) fun h=>?_|fail
 ·have hn0:0 < n:=by simpa using h
  have hd:d≠0:=by rintro rfl;simp at h1;omega
  refine ⟨(n / 10,d - 1,dgT (n % 10)++out),by (try simp only[A.reset,uU0,hI.e]);rfl,⟨?_,?_,?_⟩,?_⟩
  ·have:2 ^ d=2 * 2 ^ (d - 1):=by rw[<-Nat.pow_succ'];congr 1;omega
   show n / 10 < 2 ^ (d - 1)
   omega
  ·show (dgT _++_).size+(d - 1)<=40
   rw[ByteArray.size_append,hd1];omega
  ·show mtL (d - 1) (n / 10) (dgT (n % 10)++out)=_
   rw[<-h3];obtain ⟨d',rfl⟩:∃d',d=d' + 1:=⟨d - 1,by omega⟩
   rw[mtL,if_neg (by omega)];rfl
  ·show n / 10 < n
   omega
 ·have hn0:n=0:=by simpa using h
  subst hn0;rw[PC0] at h3;exact hR _ _ ⟨by rw[mt,if_neg hk0,h3],rfl⟩
theorem KM0 (k:Int) (h0:0<=k) (hk:k < 1000000100) (w:World) (hG:GdW w):Calls Tryz.prog 57 #[.int .i64 k] w fun e w'=>e=.returned (.string (mt k.toNat))/\Keeps [] w w':=by
 obtain ⟨n,rfl⟩:=Int.eq_ofNat_of_zero_le h0;have h:=PT0 (nR0 (I:=@id) rfl n (by omega)) w hG #[.int .i64 n] ⟨_,[],[],[],rfl,rfl,⟨⟨rfl,rfl⟩,_,[],[],[],rfl,rfl,⟨rfl,rfl,rfl⟩,rfl,rfl⟩,rfl,rfl⟩
 refine h.mono ?_;rintro e w' ⟨v,rfl,hk,res,S',bl',o1,bx',⟨rfl,_⟩,hv⟩;obtain ⟨⟨ht,ha⟩,u,us,p,q,h1,_,⟨rfl,_⟩,h2⟩:=hv;have h2:us=[]:=h2.1;subst h2;refine ⟨?_,hk⟩;cases v<;>simp[flat,isTuple,zZ0] at h1 ht ha |-<;>exact h1
def cs {α:Type} (f:α->Nat) (l:List α):Nat:=(l.map f).sum
theorem GY0 {α:Type} [Inhabited α] (f:α->Nat) {l:List α} {i:Nat} (h:i < l.length):cs f (l.take (i+1))=cs f (l.take i)+f l[i]!:=by rw[vU0 h];simp[cs]
theorem GX0 {α:Type} (f:α->Nat) (l:List α) (i:Nat):cs f (l.take i)<=cs f l:=by
 have h:=congrArg (cs f) (List.take_append_drop i l);simp only[cs,List.map_append,List.sum_append] at h |-;omega
mutual
def Ex.mk':Ex->Nat
 | .mk _ _ _ l=>3+Ex.mks' l
def Ex.mks':List Ex->Nat
 | []=>0
 | e::l=>Ex.mk' e+Ex.mks' l
end
theorem Ex.mks'_eq:∀l,Ex.mks' l=cs Ex.mk' l
 | []=>rfl
 | e::l=>by rw[Ex.mks',Ex.mks'_eq l];simp[cs]
theorem Ex.mk'_eq (e:Ex):e.mk'=3+cs Ex.mk' e.l:=by cases e;rw[Ex.mk',Ex.mks'_eq];rfl
variable {I:∀{α:Type},α->α}
open Go.RowKit
def mapK {α:Type} (m:Nat->α->α) (c:α->Nat):Nat->List α->List α
 | _,[]=>[]
 | k,a::l=>m k a::mapK m c (k+c a) l
section
variable {α:Type} (m:Nat->α->α) (c:α->Nat)
theorem uA0:∀(k:Nat) (l:List α),(mapK m c k l).length=l.length
 | _,[]=>rfl
 | k,a::l=>by rw[mapK,List.length_cons,uA0,List.length_cons]
theorem gH0:∀(k:Nat) (l:List α) (x:α),mapK m c k (l++[x])=mapK m c k l++[m (k+cs c l) x]
 | k,[],x=>by simp[mapK,cs]
 | k,a::l,x=>by
  rw[List.cons_append,mapK,gH0 (k+c a) l x,mapK,List.cons_append]
  congr 4
  simp[cs,Nat.add_assoc]
def mixK (k:Nat) (l:List α) (j:Nat):List α:=mapK m c k (l.take j)++l.drop j
theorem PD0 (k:Nat) (l:List α):mixK m c k l 0=l:=by simp[mixK,mapK]
theorem KG0 (k:Nat) (l:List α) {j:Nat} (h:l.length<=j):mixK m c k l j=mapK m c k l:=by simp[mixK,List.take_of_length_le h,List.drop_of_length_le h]
theorem KF0 (k:Nat) (l:List α) (j:Nat):(mixK m c k l j).length=l.length:=by simp[mixK,uA0];omega
variable [Inhabited α] (o:α->List T)
theorem GA0 (k:Nat) {l:List α} {j:Nat} (h:j < l.length):((mixK m c k l j).map o)[j]?=some (o l[j]!):=by
 have h1:(mapK m c k (l.take j)).length=j:=by rw[uA0,List.length_take];omega
 rw[List.getElem?_map,mixK,List.getElem?_append_right (by omega),h1,Nat.sub_self,List.getElem?_drop,Nat.add_zero,List.getElem?_eq_getElem h,List.getElem!_eq_getElem?_getD,List.getElem?_eq_getElem h]
 rfl
theorem KE0 (k:Nat) {l:List α} {j:Nat} (h:j < l.length):((mixK m c k l j).map o).set j (o (m (k+cs c (l.take j)) l[j]!))=(mixK m c k l (j+1)).map o:=by
 have h1:(mapK m c k (l.take j)).length=j:=by rw[uA0,List.length_take];omega
 rw[<-List.map_set]
 congr 1
 rw[mixK,mixK,vU0 h,gH0,List.set_append,if_neg (by omega),h1,Nat.sub_self,ML0 h,List.set_cons_zero,List.append_assoc]
 rfl
end
theorem Keeps.mono' {O O':List Nat} {w w':World} (h:Av.Keeps O w w') (hO:∀x∈O,x∈O'):Av.Keeps O' w w':=⟨h.os,h.tape,h.output,h.size,fun b hb hn=>h.block b hb fun q=>hn (hO _ q)⟩
theorem Keeps.tr {O:List Nat} {w w' w2:World} (h:Av.Keeps O w w') (h':Av.Keeps O w' w2):Av.Keeps O w w2:=
 ⟨h'.os.trans h.os,h'.tape.trans h.tape,h'.output.trans h.output,Nat.le_trans h.size h'.size,fun b hb hn=>(h'.block b (Nat.lt_of_lt_of_le hb h.size) hn).trans (h.block b hb hn)⟩
theorem Rw.mono {b lo k:Nat} {O O':List Nat} {w0 w:World} (h:Rw b lo k O w0 w) (hO:∀x∈O,x∈O'):Rw b lo k O' w0 w:=⟨Keeps.mono' h.kp (fun x hx=>by rcases List.mem_cons.1 hx with rfl | hx<;>simp[*]),h.cell,h.blk⟩
abbrev CeA (b x:Nat) (v:Value) (w:World):Prop:=w.cell? ⟨b,x,none⟩=some v
theorem CeA.set {b x:Nat} {v:Value} {w:World} (h:CeA b x v w) (u:Value):CeA b x u (w.setCell ⟨b,x,none⟩ u):=World.cell?_setCell_same _ _ _ h
theorem CeA.oth {b x y:Nat} {v:Value} {w:World} (h:CeA b x v w) (hy:y≠x) (u:Value):CeA b x v (w.setCell ⟨b,y,none⟩ u):=by
 show (w.setCell _ _).cell? _=_
 rw[World.cell?_setCell_other _ _ _ _ (fun e=>hy (by simpa using e))];exact h
theorem CeA.kp {b x:Nat} {v:Value} {w w':World} {O:List Nat} (h:CeA b x v w) (hk:Av.Keeps O w w') (hb:b∉O):CeA b x v w':=by
 have hlt:b < w.heap.size:=by
  rcases Nat.lt_or_ge b w.heap.size with q | q
  ·exact q
  ·have h':=h
   simp[CeA,World.cell?,Array.getElem?_eq_none q] at h'
 show w'.cell? _=_
 rw[cell?_congr (hk.block b hlt hb)];exact h
def MkR {α:Type} (f:FuncId) (o:α->List T) (m:Nat->α->α) (c:α->Nat) (l:List α):Prop:=∀(w:World) (u:Value) (own:List Nat) (k:Nat),RepL NoS w (.own (l.map o)) u own->own.Nodup->GdW w->(∀x∈glb,x∉own)->k+cs c l<=1000000000->
 Calls Tryz.prog f #[u,.int .i64 k] w fun e w'=>e=.returned (.int .i64 ((k+cs c l:Nat):Int))/\Av.Keeps own w w'/\RepL NoS w' (.own ((mapK m c k l).map o)) u own
mutual
def Ex.mq:Nat->Ex->Ex
 | k,.mk _ _ _ l=>.mk k (k+1:Nat) (mt (k+2)) (Ex.mqs (k+3) l)
def Ex.mqs:Nat->List Ex->List Ex
 | _,[]=>[]
 | k,e::l=>Ex.mq k e::Ex.mqs (k+e.mk') l
end
theorem Ex.mqs_eq:∀(k:Nat) (l:List Ex),Ex.mqs k l=mapK Ex.mq Ex.mk' k l
 | _,[]=>rfl
 | k,e::l=>by rw[Ex.mqs,Ex.mqs_eq _ l,mapK]
theorem Ex.mq_eq (k:Nat) (e:Ex):e.mq k=.mk k (k+1:Nat) (mt (k+2)) (mapK Ex.mq Ex.mk' (k+3) e.l):=by cases e;rw[Ex.mq,Ex.mqs_eq];rfl
theorem ro_Expr {S:Nat->Prop} {w:World} {b o:Nat} {x:Ex} {q:List Nat}:RepLC S w b o (Ex.o x) q↔w.cell? ⟨b,o,none⟩=some (.int .i64 x.k)/\w.cell? ⟨b,o+1,none⟩=some (.int .i64 x.n)/\w.cell? ⟨b,o+2,none⟩=some (.string x.s)/\∃u3,w.cell? ⟨b,o+3,none⟩=some u3/\RepL S w (.own (x.l.map Ex.o)) u3 q:=by
 rw[Ex.o_eq]
 constructor
 ·rintro ⟨u0,q0,r0,rfl,c0,⟨rfl,_,rfl⟩,u1,q1,r1,rfl,c1,⟨rfl,_,rfl⟩,u2,q2,r2,rfl,c2,⟨rfl,_,rfl⟩,u3,q3,r3,rfl,c3,h3,rfl⟩
  exact ⟨c0,c1,c2,u3,c3,by simpa using h3⟩
 ·rintro ⟨c0,c1,c2,u3,c3,h3⟩
  exact ⟨_,[],q,rfl,c0,⟨rfl,rfl,rfl⟩,_,[],q,rfl,c1,⟨rfl,rfl,rfl⟩,_,[],q,rfl,c2,⟨rfl,rfl,rfl⟩,u3,q,[],by simp,c3,h3,rfl⟩
theorem tF0 {S:Nat->Prop} {w:World} {els:List (List T)} {u:Value} {own:List Nat} (h:RepL S w (.own els) u own):∃ad cap,u=.slice ad els.length cap/\els.length<=cap:=by
 simp only[RepL] at h;obtain ⟨ad,cap,h1,h2,_⟩:=h;exact ⟨ad,cap,h1,h2⟩
set_option maxRecDepth 100000 in
theorem tJ0 (l:List Ex) (ih:∀x∈l,MkR 28 Ex.o Ex.mq Ex.mk' x.l) (hl:l.length<=1048576):MkR 28 Ex.o Ex.mq Ex.mk' l:=by
 intro w u own k0 hr hnd hG hGo hk;obtain ⟨ad,cap,rfl,hcap⟩:=tF0 hr;rw[List.length_map] at hcap hr |-;generalize hN:l.length=N at *
 go_enter Tryz.func28,Tryz.ntmps28
 go_wp2
 go_loopw [1,5] (fun v i wr=>∃j:Nat,j<=N/\i=.int .i64 j/\v=.int .i64 ((k0+cs Ex.mk' (l.take j):Nat):Int)/\Av.Keeps own w wr/\RepL NoS wr (.own ((mixK Ex.mq Ex.mk' k0 l j).map Ex.o)) (.slice ad N cap) own) (fun _ i _=>N - (intOf i).toNat)
 case atStart=>exact ⟨0,Nat.zero_le _,rfl,by simp[cs],Av.Keeps.refl _ _,by rw[PD0];exact hr⟩
 case round=>
  obtain ⟨j,hj,rfl,rfl,hKr,hRr⟩:=hrel;clear hr
  by_cases hjN:j < N
  ·have hjl:j < l.length:=by omega
   obtain ⟨b,o,q,rfl,hbo,hblt,hbq,hqo,hqn,hrow,hfz,hput⟩:=KB0 hRr (k:=4) (by intro e he;simp only[List.mem_map] at he;obtain ⟨x,_,rfl⟩:=he;exact x.o_len) hnd (fun _ h=>h.elim) (GA0 Ex.mq Ex.mk' Ex.o k0 hjl)
   rw[List.length_map,KF0,hN] at hfz;have hput:=fun w'=>hput w' (Ex.o (Ex.mq (k0+cs Ex.mk' (l.take j)) l[j]!)) (Ex.o_len _);rw[KE0 Ex.mq Ex.mk' Ex.o k0 hjl] at hput;obtain ⟨a0,a1,a2,u3,a3,hr3⟩:=ro_Expr.1 hrow;have hGr:=hG.keeps hKr hGo;have hno:∀O:List Nat,(∀y∈O,y∈q)->∀x∈glb,x∉b::O:=fun O hO x hx h=>hGo x hx (by rcases List.mem_cons.1 h with rfl | h;exact hbo;exact hqo _ (hO _ h))
   have X0:=Rw.refl b (o+j * 4) 4 [] wr;have f0:=hfz _ _ X0 (j * 4) (by omega)
   have f1:=hfz _ _ X0 (j * 4+1) (by omega)
   have f2:=hfz _ _ X0 (j * 4+2) (by omega)
   rw[<-Nat.add_assoc] at f1 f2;have hpp:=GY0 Ex.mk' hjl;have hpe:=Ex.mk'_eq l[j]!;have hpt:=GX0 Ex.mk' l (j+1);have hcall3:=ih (l[j]!) (xC0 hjl);clear ih hN hrow hRr;generalize hpt0:k0+cs Ex.mk' (l.take j)=pt at *;have hp2:k0+cs Ex.mk' (l.take (j+1))=pt+3+cs Ex.mk' l[j]!.l:=by omega
   generalize hlj:l[j]! = x at *;generalize hR0:(mixK Ex.mq Ex.mk' k0 l (j+1)).map Ex.o=els2 at *;have hp3:pt+3+cs Ex.mk' x.l<=1000000000:=by omega
   go_wp2_with (first
    | (go_at_call 57;have XG:=((Rw.refl b (o+j * 4) 4 [] wr).set (x:=o+j * 4) (by omega) (by omega) (.int .i64 ((pt:Nat):Int))).set (x:=o+j * 4+1) (by omega) (by omega) (.int .i64 (((pt:Nat):Int)+1));refine (KM0 (((pt:Nat):Int)+1+1) (by omega) (by omega) _ (hGr.keeps XG.kp (hno _ (by simp)))).mono ?_;rintro e w1 ⟨rfl,hk1⟩;have X1:=((((Rw.refl b (o+j * 4) 4 [] wr).set (x:=o+j * 4) (by omega) (by omega) _).set (x:=o+j * 4+1) (by omega) (by omega) _).keeps hk1 (by simp) (by simp) hblt);have d0:=(((CeA.set a0 _).oth (y:=o+j * 4+1) (by omega) _).kp hk1 (by simp));have d1:=(((CeA.oth a1 (y:=o+j * 4) (by omega) _).set _).kp hk1 (by simp));have d2:=(((CeA.oth a2 (y:=o+j * 4) (by omega) _).oth (y:=o+j * 4+1) (by omega) _).kp hk1 (by simp));have d3:=(((CeA.oth a3 (y:=o+j * 4) (by omega) _).oth (y:=o+j * 4+1) (by omega) _).kp hk1 (by simp));have f3:w1.frozen? ⟨b,o+j * 4+2,none⟩=false:=by rw[Nat.add_assoc o];exact hfz _ _ X1 (j * 4+2) (by omega))
    | (go_at_call 28;have X2:=X1.set (x:=o+j * 4+2) (by omega) (by omega) (.string (mt (((pt:Nat):Int)+1+1).toNat));refine (hcall3 _ u3 q (pt+3) (RepL.mono (fun _ h=>h) (fun _ h=>h.elim) _ _ _ (fun y hy=>X2.kp.block y (RepL.lt _ _ _ hr3 y hy) (by simp;rintro rfl;exact hbq hy)) hr3) hqn (hGr.keeps X2.kp (hno _ (by simp))) (fun x hx h=>hGo x hx (hqo x h)) (by omega)).mono ?_;rintro e w2 ⟨rfl,hk2,hr4⟩))
   go_roundw
   case rel=>
    have X3:=(X2.mono (O':=q) (by simp)).keeps hk2 (fun _ h=>h) hbq hblt
    refine ⟨j+1,by omega,by simp,by congr 1;omega,Keeps.tr hKr (Keeps.mono' X3.kp (fun y hy=>by rcases List.mem_cons.1 hy with rfl | hy;exact hbo;exact hqo y hy)),?_⟩
    rw[hR0];refine hput _ X3 ?_;rw[Ex.mq_eq];refine ro_Expr.2 ⟨(d0.oth (by omega) _).kp hk2 hbq,?_,?_,u3,(d3.oth (by omega) _).kp hk2 hbq,hr4⟩
    ·have:=(d1.oth (y:=o+j * 4+2) (by omega) _).kp hk2 hbq
     exact this
    ·have:=(d2.set _).kp hk2 hbq
     exact this
   case measure=>simp[intOf];omega
  ·have e2:j=N:=by omega
   subst e2;rw[KG0 _ _ _ _ (by omega)] at hRr
   have e:l.take j=l:=List.take_of_length_le (by omega)
   rw[e];clear ih
   go_wp2
   go_ret
   exact ⟨rfl,hKr,hRr⟩
variable {I:∀{α:Type},α->α}
open Go.RowKit
variable {I:∀{α:Type},α->α}
theorem NR0:∀l:List Ex,l.length<=1048576->(∀x∈l,x.sz<=1048576)->MkR 28 Ex.o Ex.mq Ex.mk' l:=by
 have key:∀e:Ex,e.sz<=1048576->MkR 28 Ex.o Ex.mq Ex.mk' e.l:=by
  refine Ex.ind fun e ih hz=>?_;have h:=Ex.sz_inv hz;exact tJ0 e.l (fun x hx=>ih x hx (h.2 x hx)) h.1
 exact fun l hl hz=>tJ0 l (fun x hx=>key x (hz x hx)) hl
variable {I:∀{α:Type},α->α}
@[simp,reducible] def roE (I:∀{α:Type},α->α) (l:List Ex):AV:=⟨.one,[.ro true (I (l.map Ex.t))]⟩
abbrev HeE (I:∀{α:Type},α->α) (l:List Ex):Prop:=∀k:Nat,k+cs Ex.mk' l<=1000000000->ACl Tryz.prog 29 [roE @I (mapK Ex.mq Ex.mk' k l),litI (Int.ofNat (I k))] [] (fun res bx=>res=litI (Int.ofNat (I (k+cs Ex.mk' l)))/\bx=[])
theorem KJ0 {α:Type} [Inhabited α] (m:Nat->α->α) (c:α->Nat) (k:Nat) {l:List α} {i:Nat} (h:i < l.length):(mapK m c k l)[i]! = m (k+cs c (l.take i)) l[i]!:=by
 have h1:(mapK m c k (l.take i)).length=i:=by rw[uA0,List.length_take];omega
 have e:l=l.take i++l[i]!::l.drop (i+1):=by rw[<-ML0 h,List.take_append_drop]
 have key:∀(a:List α) (x:α) (b:List α) (k:Nat),(mapK m c k (a++x::b))[a.length]! = m (k+cs c a) x:=by
  intro a
  induction a with
  | nil=>intro x b k;simp[mapK,cs]
  | cons y a ih=>intro x b k;rw[List.cons_append,mapK,List.length_cons];simp only[List.getElem!_cons_succ];rw[ih];congr 1;simp[cs,Nat.add_assoc]
 have h3:=key (l.take i) l[i]! (l.drop (i+1)) k;rw[<-e,List.length_take,Nat.min_eq_left (Nat.le_of_lt h)] at h3;exact h3
theorem mV0 (hI:II @I) (l:List Ex) (hl:l.length<=1048576) (ih:∀x∈l,HeE @I x.l):HeE @I l:=by
 intro k hk;have c2:∀n:Nat,n < 2 ^ 40->ACl Tryz.prog 57 [litI (Int.ofNat (I n))] [] (fun res bx=>res=litS (I (mt n))/\bx=[]):=fun n h=>by rw[hI.e n];exact nR0 hI n h
 refine qN hI tyK Tryz.func29 50 [.tmp 4] ?_;unhygienic intros
 refine qB 0 ?_;refine qLf 0 [0,1,5] kk0 (fun i:Nat=>⟨vag 50 [(0,roE @I (mapK Ex.mq Ex.mk' k l)),(1,litI (Int.ofNat (I (k+cs Ex.mk' (l.take i))))),(5,litI (Int.ofNat (I i)))],[],1⟩) (fun i=>i<=l.length) (fun i=>l.length - i) ?_ fun i hi=>?_
 ·cbv
  exact ⟨0,by simp only[hI.e];rfl,by omega⟩
 have hml:=uA0 Ex.mq Ex.mk' k l
 by_cases hh:i < l.length
 ·have hp:=GY0 Ex.mk' hh
  have hpe:=Ex.mk'_eq l[i]!;have hpt:=GX0 Ex.mk' l (i+1);have hx:=KJ0 Ex.mq Ex.mk' k hh;have hx0:=Ex.mq_eq (k+cs Ex.mk' (l.take i)) l[i]!;rw[<-hx] at hx0;have c1:=ih _ (xC0 hh);generalize hm:(mapK Ex.mq Ex.mk' k l)[i]! = x at *;generalize l[i]! = y at *;generalize hpt0:k+cs Ex.mk' (l.take i)=pt at *;have x1:x.k=(pt:Int):=by rw[hx0];rfl
  have x2:x.n=((pt+1:Nat):Int):=by rw[hx0];rfl
  have x3:x.s=mt (pt+2):=by rw[hx0];rfl
  have x4:x.l=mapK Ex.mq Ex.mk' (pt+1+1+1) y.l:=by rw[hx0];rfl
  have c1:=c1 (pt+1+1+1) (by omega)
  rw[<-x4] at c1;have e1:=hm;refine qB 0 ?_
  repeat' first|refine qA 0 ?_|refine qJ (nN []) ?_|refine qp ?_ ?_|refine qk (fun h=>?_) fun h=>?_|fail
  ·exact absurd x1 h
  ·exact absurd x2 h
  ·exact absurd x3 h
  ·exact absurd h (by omega)
  ·exact ⟨i+1,by rw[show pt+1+1+1+cs Ex.mk' y.l=k+cs Ex.mk' (l.take (i+1)) by omega];(try simp only[A.reset,hI.e]);rfl,by omega,by omega⟩
  ·exact absurd (by omega) h
 ·refine qB 0 ?_
  repeat' first|refine qA 0 ?_|refine qJ (nN []) ?_|refine qp ?_ ?_|refine qk (fun h=>?_) fun h=>?_|fail
  ·exact absurd (by omega) hh
  ·have e:l.take i=l:=List.take_of_length_le (by omega)
   exact hR _ _ ⟨by rw[e],rfl⟩
end Go.Gv
