/- Part Q2 of the proof: contracts of functions of the program, each walked once. -/
import Derived.Test.YtfobhlmjcnkpiaaGreatDoorQ1
import Derived.Test.YtfobhlmjcnkpiaaGreatDoorB1
import Derived.Lib.ItoaLen
import Derived.KernelRfl
import Derived.Shelf.Strconv.Itoa3
set_option linter.all false
namespace Go.Gv
open Go.Av Go.Proofs
set_option maxRecDepth 10000
set_option maxHeartbeats 8000000
variable {I:∀{α:Type},α->α}
def numT (n:Int):ByteArray:=⟨⟨Lib.itoa n⟩⟩
theorem xE0 (n:Int) (h:-9223372036854775808<=n/\n<=9223372036854775807):(numT n).size<=21:=Lib.itoa_length_le n h.1 h.2
def digT (x:Nat):ByteArray:=⟨⟨[UInt8.ofNat (48+x)]⟩⟩
theorem DR0 (a b:List UInt8):(⟨⟨a⟩⟩:ByteArray)++(⟨⟨b⟩⟩:ByteArray)=⟨⟨a++b⟩⟩:=by
 apply ByteArray.ext;simp
theorem bH0 {u:Nat} (h:u < 10):numT (u:Int)=digT u:=by rw[numT,Lib.itoa_nonneg,Lib.decDigits,dif_pos h];rfl
theorem jT0 {u:Nat} (h:¬u < 10):numT (u:Int)=numT ((u / 10:Nat):Int)++digT (u % 10):=by
 rw[numT,numT,Lib.itoa_nonneg,Lib.itoa_nonneg,Lib.decDigits,dif_neg h,digT,DR0]
theorem RW0 {u:Nat} (h:1<=u):numT (-(u:Int))=⟨⟨[45]⟩⟩++numT (u:Int):=by
 rw[numT,numT,Lib.itoa_neg u h,Lib.itoa_nonneg,DR0];rfl
theorem WP0 (hI:II @I) (n:Int) (hn:-9223372036854775808<=n/\n<=9223372036854775807) (ih:∀k:Int,0<=k->k < n.natAbs->ACl Tryz.prog 101 [litI k] [] (fun res bx=>res=litS (I (numT k))/\bx=[])) :
  ACl Tryz.prog 101 [litI n] [] (fun res bx=>res=litS (I (numT n))/\bx=[]):=by
 refine qN hI tyK Tryz.func101 45 [.tmp 2] ?_;unhygienic intros
 have hnz:nz 10:=by cases hO;show (10:Int)≠0;decide
 have hBB:∀x:Int,isB [[.lit (.int .u8 x)]]:=fun x=>by cases hO;rfl
 have hT:∀x:Nat,x < 10->text [[.lit (.int .u8 (48+(x:Int)))]]=I (digT x):=fun x hx=>by
  rw[hI.e];cases hO
  show (⟨⟨[UInt8.ofNat (48+(x:Int)).toNat]⟩⟩:ByteArray)=digT x
  rw[digT];congr 4
 have hA:∀a b:ByteArray,sadd (I a) (I b)=I (a++b):=fun a b=>by rw[hI.e,hI.e,hI.e];cases hO;rfl
 have hS:∀a b:ByteArray,a.size+b.size<=100->sOk (I a) (I b):=fun a b h=>by rw[hI.e,hI.e];cases hO;show _+_<=9223372036854775807;omega
 have hMn:∀b:ByteArray,sadd ⟨⟨[45]⟩⟩ (I b)=I (⟨⟨[45]⟩⟩++b):=fun b=>by rw[hI.e,hI.e];cases hO;rfl
 have hSM:∀b:ByteArray,b.size<=100->sOk ⟨⟨[45]⟩⟩ (I b):=fun b h=>by rw[hI.e];cases hO;show 1+_<=9223372036854775807;omega
 have hap:∀a b:ByteArray,(a++b).size=a.size+b.size:=fun a b=>ByteArray.size_append;have hds:∀x,(digT x).size=1:=fun _=>rfl;have hm1:(⟨⟨[45]⟩⟩:ByteArray).size=1:=rfl
 by_cases hA1:n < -9
 ·obtain ⟨u,hu⟩:∃u:Nat,n=-(u:Int):=⟨n.natAbs,by omega⟩
  obtain ⟨q,e1,hq⟩:∃q:Int,un .neg .i64 (bin .quo .i64 n 10)=q/\q=((u / 10:Nat):Int):=⟨_,rfl,by
   rw[hu];cases hO
   show IntKind.i64.wrap (0 - IntKind.i64.wrap ((-(u:Int)).tdiv 10))=_
   have e:(-(u:Int)).tdiv 10=-((u / 10:Nat):Int):=by rw[Int.neg_tdiv,Int.tdiv_eq_ediv_of_nonneg (by omega)];rfl
   rw[e,zW0 (x:=-((u / 10:Nat):Int)) (by omega),zW0 (by omega)];omega⟩
  obtain ⟨r,e2,hr⟩:∃r:Int,wrap .u8 (bin .sub .i64 48 (bin .rem .i64 n 10))=r/\r=48+((u % 10:Nat):Int):=⟨_,rfl,by
   rw[hu];cases hO
   show IntKind.u8.wrap (IntKind.i64.wrap (48 - (-(u:Int)).tmod 10))=_
   have e:(-(u:Int)).tmod 10=-((u % 10:Nat):Int):=by rw[Int.neg_tmod,Int.tmod_eq_emod_of_nonneg (by omega)];rfl
   rw[e,zW0 (by omega)]
   simp only[IntKind.wrap,IntKind.bits,IntKind.signed];simp;omega⟩
  have hz:=xE0 q (by omega)
  have c1:=ih q (by omega) (by omega)
  have hB1:=hBB r;have e3:text [[.lit (.int .u8 r)]]=I (digT (u % 10))/\sadd ⟨⟨[45]⟩⟩ (I (numT q))=I (⟨⟨[45]⟩⟩++numT q)/\sadd (I (⟨⟨[45]⟩⟩++numT q)) (I (digT (u % 10)))=I (numT n):=⟨by rw[hr];exact hT _ (by omega),hMn _,by rw[hA,hu,RW0 (by omega),jT0 (u:=u) (by omega),hq,ByteArray.append_assoc]⟩
  have hs1:=hSM (numT q) (by omega)
  have hs2:=hS (⟨⟨[45]⟩⟩++numT q) (digT (u % 10)) (by rw[hap,hds,hm1];omega)
  refine qB 0 ?_
  repeat' first|refine qA 0 ?_|refine qJ (nN []) ?_|refine qp ?_ ?_|refine qk (fun h=>?_) fun h=>?_<;>try(exfalso;omega)|fail
  all_goals first | exact hR _ _ ⟨rfl,rfl⟩|(exfalso;omega)
 by_cases hA2:n < 0
 ·obtain ⟨u,hu⟩:∃u:Nat,n=-(u:Int):=⟨n.natAbs,by omega⟩
  obtain ⟨r,e1,hr⟩:∃r:Int,wrap .u8 (bin .sub .i64 48 n)=r/\r=48+(u:Int):=⟨_,rfl,by
   rw[hu];cases hO
   show IntKind.u8.wrap (IntKind.i64.wrap (48 - (-(u:Int))))=_
   rw[zW0 (by omega)]
   simp only[IntKind.wrap,IntKind.bits,IntKind.signed];simp;omega⟩
  have hB1:=hBB r;have e2:text [[.lit (.int .u8 r)]]=I (digT u)/\sadd ⟨⟨[45]⟩⟩ (I (digT u))=I (numT n):=⟨by rw[hr];exact hT _ (by omega),by rw[hMn,hu,RW0 (by omega),bH0 (by omega)]⟩
  have hs1:=hSM (digT u) (by rw[hds];omega)
  refine qB 0 ?_
  repeat' first|refine qA 0 ?_|refine qJ (nN []) ?_|refine qp ?_ ?_|refine qk (fun h=>?_) fun h=>?_<;>try(exfalso;omega)|fail
  all_goals first | exact hR _ _ ⟨rfl,rfl⟩|(exfalso;omega)
 obtain ⟨u,hu⟩:∃u:Nat,n=(u:Int):=⟨n.natAbs,by omega⟩
 by_cases hA3:u < 10
 ·obtain ⟨r,e1,hr⟩:∃r:Int,wrap .u8 (bin .add .i64 48 n)=r/\r=48+(u:Int):=⟨_,rfl,by
   rw[hu];cases hO
   show IntKind.u8.wrap (IntKind.i64.wrap (48+(u:Int)))=_
   rw[zW0 (by omega)]
   simp only[IntKind.wrap,IntKind.bits,IntKind.signed];simp;omega⟩
  have hB1:=hBB r;have e2:text [[.lit (.int .u8 r)]]=I (numT n):=by rw[hr,hu,bH0 hA3];exact hT _ hA3
  refine qB 0 ?_
  repeat' first|refine qA 0 ?_|refine qJ (nN []) ?_|refine qp ?_ ?_|refine qk (fun h=>?_) fun h=>?_<;>try(exfalso;omega)|fail
  all_goals first | exact hR _ _ ⟨rfl,rfl⟩|(exfalso;omega)
 ·obtain ⟨q,e1,hq⟩:∃q:Int,bin .quo .i64 n 10=q/\q=((u / 10:Nat):Int):=⟨_,rfl,by
   rw[hu];cases hO
   show IntKind.i64.wrap ((u:Int).tdiv 10)=_
   have e:(u:Int).tdiv 10=((u / 10:Nat):Int):=by rw[Int.tdiv_eq_ediv_of_nonneg (by omega)];rfl
   rw[e,zW0 (by omega)]⟩
  obtain ⟨r,e2,hr⟩:∃r:Int,wrap .u8 (bin .add .i64 48 (bin .rem .i64 n 10))=r/\r=48+((u % 10:Nat):Int):=⟨_,rfl,by
   rw[hu];cases hO
   show IntKind.u8.wrap (IntKind.i64.wrap (48+(u:Int).tmod 10))=_
   have e:(u:Int).tmod 10=((u % 10:Nat):Int):=by rw[Int.tmod_eq_emod_of_nonneg (by omega)];rfl
   rw[e,zW0 (by omega)]
   simp only[IntKind.wrap,IntKind.bits,IntKind.signed];simp;omega⟩
  have hz:=xE0 q (by omega)
  have c1:=ih q (by omega) (by omega)
  have hB1:=hBB r;have e3:text [[.lit (.int .u8 r)]]=I (digT (u % 10))/\sadd (I (numT q)) (I (digT (u % 10)))=I (numT n):=⟨by rw[hr];exact hT _ (by omega),by rw[hA,hu,jT0 hA3,hq]⟩
  have hs2:=hS (numT q) (digT (u % 10)) (by rw[hds];omega)
  refine qB 0 ?_
  repeat' first|refine qA 0 ?_|refine qJ (nN []) ?_|refine qp ?_ ?_|refine qk (fun h=>?_) fun h=>?_<;>try(exfalso;omega)|fail
  all_goals first | exact hR _ _ ⟨rfl,rfl⟩|(exfalso;omega)
theorem TD0 (hI:II @I):∀(m:Nat) (n:Int),n.natAbs < m→-9223372036854775808<=n/\n<=9223372036854775807->ACl Tryz.prog 101 [litI n] [] (fun res bx=>res=litS (I (numT n))/\bx=[])
 | 0,_,h,_=>absurd h (by omega)
 | m+1,n,h,hn=>WP0 hI n hn fun k h0 h1=>TD0 hI m k (by omega) (by omega)
def itRen:Go.Shelf.Ren:=⟨fun n=>match n with | 129=>216 | 171=>129 | 243=>153 | 246=>170 | 283=>185 | 284=>186 | 285=>187 | 286=>188 | 317=>215 | 318=>217 | 319=>218 | 320=>219 | 337=>235 | 338=>236 | n=>n,fun n=>match n with | 0=>0 | 2=>2 | 3=>3 | 4=>4 | 5=>5 | 9=>9 | 20=>20 | 37=>22 | 46=>120 | 51=>191 | 53=>176 | 171=>175 | 173=>179 | 212=>190 | 213=>192 | 232=>210 | 233=>211 | n=>n,fun n=>match n with | 17=>0 | 18=>1 | 19=>2 | n=>n⟩
set_option maxRecDepth 100000 in
theorem nN1:LaysM.n171 Tryz.prog itRen:=by
 constructor
 all_goals first | rfl|(intro w;rfl) | kernel_rfl|(constructor<;>first | rfl|(intro w;rfl) | kernel_rfl)
theorem mC1 {w:World} {S:Nat->Prop} (h:Gd w S):Lib.TabIs Tryz.prog w "internal/strconv.uint64pow10" .u64 Lib.pow10Tab:=by
 obtain ⟨-,cs,t,z,h1,h2⟩:=h 0 (by simp[glb])
 unfold Lib.TabIs World.var?;rw[show Tryz.prog.globalNamed "internal/strconv.uint64pow10"=some 0 by kernel_rfl]
 simp only[Option.bind_some,h1,h2]
theorem fR0 (O:List Nat) (w:World) (k:Nat) (os:Array Obj):Av.Keeps O w (Go.Sort.grow (w.drewN k) os):=
 ⟨rfl,rfl,rfl,by rw[Go.Sort.size_grow];exact Nat.le_add_right _ _,fun b hb _=>by rw[Go.Sort.heap_grow_old (w.drewN k) os hb];rfl⟩
theorem mP1 (hI:II @I) (n:Int) (hn:-9223372036854775808<=n/\n<=9223372036854775807):ACl Tryz.prog 129 [litI n] [] (fun res bx=>res=litS (I (numT n))/\bx=[]):=by
 rw[hI.e];intro w vals S L bl O1 O2 h1 h2 _ hsl hst hgd;obtain ⟨us1,e1,h1⟩:=jA0 h1;obtain ⟨e3,rfl⟩:us1=[]/\O1=[]:=h1;obtain ⟨rfl,rfl⟩:bl=[]/\O2=[]:=h2;subst e3;have hv':vals=#[.int .i64 n]:=by apply Array.ext';simpa using e1
 subst hv';refine (Any.strconv_Itoa nN1 n hn.1 hn.2 w (mC1 hgd)).mono ?_;rintro e w' ⟨rfl,k,os,rfl⟩;refine ⟨.string (numT n),rfl,_,_,S,[],[],[],⟨rfl,rfl⟩,⟨tQ0 rfl,?_⟩,⟨rfl,rfl⟩,by simp,fun b hb=>⟨Nat.lt_of_lt_of_le (hst b (hsl b hb)).1 (fR0 [] w k os).size,by simp⟩,fun b hb=>hb,fun b hb=>.inl hb,fR0 _ _ _ _,by simp,List.prefix_refl _⟩
 rw[yQ0 (tQ0 rfl)];exact ⟨.string (numT n),[],[],[],rfl,rfl,⟨rfl,rfl,rfl⟩,rfl,rfl⟩
theorem PL0 (hI:II @I) (n:Int) (hn:-9223372036854775808<=n/\n<=9223372036854775807):ACl Tryz.prog 90 [litI n] [] (fun res bx=>res=litS (I (numT n))/\bx=[]):=by
 have c1:=mP1 hI n hn;refine qN hI tyK Tryz.func90 5 [.tmp 2] ?_;unhygienic intros
 refine qB 0 ?_
 repeat' first|refine qA 0 ?_|refine qJ (nN []) ?_|refine qp ?_ ?_|refine qk (fun h=>?_) fun h=>?_|fail
 exact hR _ _ ⟨rfl,rfl⟩
end Go.Gv
