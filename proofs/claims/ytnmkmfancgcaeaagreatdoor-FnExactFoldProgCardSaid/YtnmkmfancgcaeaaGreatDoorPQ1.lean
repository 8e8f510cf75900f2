/- Part PQ1 of the proof: contracts of functions of the program, each walked once. -/
import Derived.Test.YtnmkmfancgcaeaaGreatDoorPD12
import Derived.Test.YtnmkmfancgcaeaaGreatDoorPD5
import Derived.Test.YtnmkmfancgcaeaaGreatDoorPB1
import Derived.Lib.ItoaLen
import Derived.KernelRfl
import Derived.Shelf.Strconv.Itoa3
set_option linter.all false
namespace Go.Gv
open Go.Av Go.Proofs
set_option maxRecDepth 10000
set_option maxHeartbeats 8000000
variable {I:∀{α:Type},α->α}
theorem and32 {O:Ops} (hO:O=Ops.std) (n:Int):O.bin .and .i64 n 4294967295=n % 4294967296:=by
 subst hO;have e:((BitVec.ofInt 64 n &&& BitVec.ofInt 64 4294967295).toNat:Int)=n % 4294967296:=by
  rw[BitVec.toNat_and];have h2:(BitVec.ofInt 64 4294967295).toNat=2 ^ 32 - 1:=by decide
  rw[h2,Nat.and_two_pow_sub_one_eq_mod,BitVec.toNat_ofInt];omega
 show IntKind.i64.wrap (((BitVec.ofInt 64 n &&& BitVec.ofInt 64 4294967295).toNat:Nat):Int)=_
 rw[e,yV0 (by omega)]
def wr (n:Int):Int:=if n % 4294967296<=2147483647 then n % 4294967296 else n % 4294967296 - 4294967296
theorem wC1 (n:Int):IntKind.i32.wrap n=wr n:=by
 simp only[IntKind.wrap,wr,IntKind.bits,IntKind.signed];simp
 split<;>split<;>omega
theorem wB1 (n:Int):-2147483648<=wr n/\wr n<=2147483647:=by unfold wr;split<;>omega
theorem zD1 {n:Int} (h:-2147483648<=n/\n<=2147483647):wr n=n:=by unfold wr;split<;>omega
theorem xG1 (hI:II @I) (n:Int):ACl Tryz.prog 117 [litI n] [] (fun res bx=>res=litI (I (wr n))/\bx=[]):=by
 refine qN hI tyK Tryz.func117 11 [.tmp 2] ?_;unhygienic intros
 have e1:bin .and .i64 n 4294967295=I (n % 4294967296):=by rw[hI.e];exact and32 hO n
 have e4:bin .sub .i64 (I (n % 4294967296)) 4294967296=n % 4294967296 - 4294967296:=by rw[hI.e];cases hO;exact yV0 (x:=n % 4294967296 - 4294967296) (by omega)
 refine qB 0 ?_
 repeat' first|refine qA 0 ?_|refine qp ?_ ?_|refine qk (fun h=>?_) fun h=>?_|fail
 ·exact hR _ _ ⟨liI hI (by rw[e4,wr,if_neg (by omega)]),rfl⟩
 ·exact hR _ _ ⟨liI hI (by rw[hI.e,wr,if_pos (by omega)]),rfl⟩
theorem xH1 (hI:II @I) (n:Int):ACl Tryz.prog 127 [litI n] [] (fun res bx=>res=litI (I (wr n))/\bx=[]):=by
 refine qN hI tyK Tryz.func127 6 [.tmp 2] ?_;unhygienic intros
 refine qB 0 ?_;exact hR _ _ ⟨liI hI (by cases hO;show IntKind.i64.wrap (IntKind.i32.wrap n)=wr n;rw[wC1,yV0 (by have:=wB1 n;omega)]),rfl⟩
@[simp,reducible] def vN (I:∀{α:Type},α->α) (n:Int):AV:=⟨.agg,[.lit (.int .i64 1),.lit (.int .i64 (I n)),.lit (.string ⟨⟨[]⟩⟩)]⟩
theorem qF0 (hI:II @I) (n:Int):ACl Tryz.prog 81 [litI n] [] (fun res bx=>res=vN @I (wr n)/\bx=[]):=by
 have c1:=xG1 hI n;refine qN hI tyK Tryz.func81 6 [.cell 2 71] ?_;unhygienic intros
 refine qB 0 ?_
 repeat' first|refine qA 0 ?_|refine qJ (nN []) ?_|refine qp ?_ ?_|refine qk (fun h=>?_) fun h=>?_|fail
 exact hR _ _ ⟨rfl,rfl⟩
theorem YJ0 (hI:II @I) (s:ByteArray):ACl Tryz.prog 84 [litS s] [] (fun res bx=>res=⟨.agg,[.lit (.int .i64 2),.lit (.int .i64 0),.lit (.string s)]⟩/\bx=[]):=by
 refine qN hI tyK Tryz.func84 5 [.cell 2 71] ?_;unhygienic intros
 refine qB 0 ?_;exact hR _ _ ⟨rfl,rfl⟩
theorem jA0 (hI:II @I) (n:Int):ACl Tryz.prog 89 [litI n] [] (fun res bx=>res=⟨.agg,[.lit (.int .i64 1),.lit (.int .i64 n),.lit (.string ⟨⟨[]⟩⟩)]⟩/\bx=[]):=by
 refine qN hI tyK Tryz.func89 5 [.cell 2 71] ?_;unhygienic intros
 refine qB 0 ?_;exact hR _ _ ⟨rfl,rfl⟩
theorem yR1 (hI:II @I) (s:ByteArray):ACl Tryz.prog 129 [litS s] [] (fun res bx=>res=⟨.agg,[.lit (.int .i64 2),.lit (.int .i64 0),.lit (.string s)]⟩/\bx=[]):=by
 refine qN hI tyK Tryz.func129 5 [.cell 2 71] ?_;unhygienic intros
 refine qB 0 ?_;exact hR _ _ ⟨rfl,rfl⟩
variable {I:∀{α:Type},α->α}
def numT (n:Int):ByteArray:=⟨⟨Lib.itoa n⟩⟩
theorem xL0 (n:Int) (h:-9223372036854775808<=n/\n<=9223372036854775807):(numT n).size<=21:=Lib.itoa_length_le n h.1 h.2
def digT (x:Nat):ByteArray:=⟨⟨[UInt8.ofNat (48+x)]⟩⟩
theorem zA1 (a b:List UInt8):(⟨⟨a⟩⟩:ByteArray)++(⟨⟨b⟩⟩:ByteArray)=⟨⟨a++b⟩⟩:=by
 apply ByteArray.ext;simp
theorem UP0 {u:Nat} (h:u < 10):numT (u:Int)=digT u:=by rw[numT,Lib.itoa_nonneg,Lib.decDigits,dif_pos h];rfl
theorem bQ0 {u:Nat} (h:¬u < 10):numT (u:Int)=numT ((u / 10:Nat):Int)++digT (u % 10):=by
 rw[numT,numT,Lib.itoa_nonneg,Lib.itoa_nonneg,Lib.decDigits,dif_neg h,digT,zA1]
theorem UQ0 {u:Nat} (h:1<=u):numT (-(u:Int))=⟨⟨[45]⟩⟩++numT (u:Int):=by
 rw[numT,numT,Lib.itoa_neg u h,Lib.itoa_nonneg,zA1];rfl
theorem YK0 (hI:II @I) (n:Int) (hn:-9223372036854775808<=n/\n<=9223372036854775807) (ih:∀k:Int,0<=k->k < n.natAbs->ACl Tryz.prog 85 [litI k] [] (fun res bx=>res=litS (I (numT k))/\bx=[])) :
  ACl Tryz.prog 85 [litI n] [] (fun res bx=>res=litS (I (numT n))/\bx=[]):=by
 refine qN hI tyK Tryz.func85 45 [.tmp 2] ?_;unhygienic intros
 have hnz:nz 10:=by cases hO;show (10:Int)≠0;decide
 have hBB:∀x:Int,isB [[.lit (.int .u8 x)]]:=fun x=>by cases hO;rfl
 have hT:∀x:Nat,x < 10->text [[.lit (.int .u8 (48+(x:Int)))]]=I (digT x):=fun x hx=>by
  rw[hI.e];cases hO
  show (⟨⟨[UInt8.ofNat (48+(x:Int)).toNat]⟩⟩:ByteArray)=digT x
  rw[digT];congr 4
 have hA:∀a b:ByteArray,sadd (I a) (I b)=I (a++b):=fun a b=>by rw[hI.e,hI.e,hI.e];cases hO;rfl
 have hS:∀a b:ByteArray,a.size+b.size<=100->sOk (I a) (I b):=fun a b h=>by rw[hI.e,hI.e];cases hO;show _+_<=9223372036854775807;omega
 have hMn:∀b:ByteArray,sadd ⟨⟨[45]⟩⟩ (I b)=I (⟨⟨[45]⟩⟩++b):=fun b=>by rw[hI.e,hI.e];cases hO;rfl
 have hSM:∀b:ByteArray,b.size<=100->sOk ⟨⟨[45]⟩⟩ (I b):=fun b h=>by rw[hI.e];cases hO;show 1+_<=9223372036854775807;omega
 have hap:∀a b:ByteArray,(a++b).size=a.size+b.size:=fun a b=>ByteArray.size_append;have hds:∀x,(digT x).size=1:=fun _=>rfl;have hm1:(⟨⟨[45]⟩⟩:ByteArray).size=1:=rfl
 by_cases hA1:n < -9
 ·obtain ⟨u,hu⟩:∃u:Nat,n=-(u:Int):=⟨n.natAbs,by omega⟩
  obtain ⟨q,e1,hq⟩:∃q:Int,un .neg .i64 (bin .quo .i64 n 10)=q/\q=((u / 10:Nat):Int):=⟨_,rfl,by
   rw[hu];cases hO
   show IntKind.i64.wrap (0 - IntKind.i64.wrap ((-(u:Int)).tdiv 10))=_
   have e:(-(u:Int)).tdiv 10=-((u / 10:Nat):Int):=by rw[Int.neg_tdiv,Int.tdiv_eq_ediv_of_nonneg (by omega)];rfl
   rw[e,yV0 (x:=-((u / 10:Nat):Int)) (by omega),yV0 (by omega)];omega⟩
  obtain ⟨r,e2,hr⟩:∃r:Int,wrap .u8 (bin .sub .i64 48 (bin .rem .i64 n 10))=r/\r=48+((u % 10:Nat):Int):=⟨_,rfl,by
   rw[hu];cases hO
   show IntKind.u8.wrap (IntKind.i64.wrap (48 - (-(u:Int)).tmod 10))=_
   have e:(-(u:Int)).tmod 10=-((u % 10:Nat):Int):=by rw[Int.neg_tmod,Int.tmod_eq_emod_of_nonneg (by omega)];rfl
   rw[e,yV0 (by omega)]
   simp only[IntKind.wrap,IntKind.bits,IntKind.signed];simp;omega⟩
  have hz:=xL0 q (by omega)
  have c1:=ih q (by omega) (by omega)
  have hB1:=hBB r;have e3:text [[.lit (.int .u8 r)]]=I (digT (u % 10))/\sadd ⟨⟨[45]⟩⟩ (I (numT q))=I (⟨⟨[45]⟩⟩++numT q)/\sadd (I (⟨⟨[45]⟩⟩++numT q)) (I (digT (u % 10)))=I (numT n):=⟨by rw[hr];exact hT _ (by omega),hMn _,by rw[hA,hu,UQ0 (by omega),bQ0 (u:=u) (by omega),hq,ByteArray.append_assoc]⟩
  have hs1:=hSM (numT q) (by omega)
  have hs2:=hS (⟨⟨[45]⟩⟩++numT q) (digT (u % 10)) (by rw[hap,hds,hm1];omega)
  refine qB 0 ?_
  repeat' first|refine qA 0 ?_|refine qJ (nN []) ?_|refine qp ?_ ?_|refine qk (fun h=>?_) fun h=>?_<;>try(exfalso;omega)|fail
  all_goals first | exact hR _ _ ⟨rfl,rfl⟩|(exfalso;omega)
 by_cases hA2:n < 0
 ·obtain ⟨u,hu⟩:∃u:Nat,n=-(u:Int):=⟨n.natAbs,by omega⟩
  obtain ⟨r,e1,hr⟩:∃r:Int,wrap .u8 (bin .sub .i64 48 n)=r/\r=48+(u:Int):=⟨_,rfl,by
   rw[hu];cases hO
   show IntKind.u8.wrap (IntKind.i64.wrap (48 - (-(u:Int))))=_
   rw[yV0 (by omega)]
   simp only[IntKind.wrap,IntKind.bits,IntKind.signed];simp;omega⟩
  have hB1:=hBB r;have e2:text [[.lit (.int .u8 r)]]=I (digT u)/\sadd ⟨⟨[45]⟩⟩ (I (digT u))=I (numT n):=⟨by rw[hr];exact hT _ (by omega),by rw[hMn,hu,UQ0 (by omega),UP0 (by omega)]⟩
  have hs1:=hSM (digT u) (by rw[hds];omega)
  refine qB 0 ?_
  repeat' first|refine qA 0 ?_|refine qJ (nN []) ?_|refine qp ?_ ?_|refine qk (fun h=>?_) fun h=>?_<;>try(exfalso;omega)|fail
  all_goals first | exact hR _ _ ⟨rfl,rfl⟩|(exfalso;omega)
 obtain ⟨u,hu⟩:∃u:Nat,n=(u:Int):=⟨n.natAbs,by omega⟩
 by_cases hA3:u < 10
 ·obtain ⟨r,e1,hr⟩:∃r:Int,wrap .u8 (bin .add .i64 48 n)=r/\r=48+(u:Int):=⟨_,rfl,by
   rw[hu];cases hO
   show IntKind.u8.wrap (IntKind.i64.wrap (48+(u:Int)))=_
   rw[yV0 (by omega)]
   simp only[IntKind.wrap,IntKind.bits,IntKind.signed];simp;omega⟩
  have hB1:=hBB r;have e2:text [[.lit (.int .u8 r)]]=I (numT n):=by rw[hr,hu,UP0 hA3];exact hT _ hA3
  refine qB 0 ?_
  repeat' first|refine qA 0 ?_|refine qJ (nN []) ?_|refine qp ?_ ?_|refine qk (fun h=>?_) fun h=>?_<;>try(exfalso;omega)|fail
  all_goals first | exact hR _ _ ⟨rfl,rfl⟩|(exfalso;omega)
 ·obtain ⟨q,e1,hq⟩:∃q:Int,bin .quo .i64 n 10=q/\q=((u / 10:Nat):Int):=⟨_,rfl,by
   rw[hu];cases hO
   show IntKind.i64.wrap ((u:Int).tdiv 10)=_
   have e:(u:Int).tdiv 10=((u / 10:Nat):Int):=by rw[Int.tdiv_eq_ediv_of_nonneg (by omega)];rfl
   rw[e,yV0 (by omega)]⟩
  obtain ⟨r,e2,hr⟩:∃r:Int,wrap .u8 (bin .add .i64 48 (bin .rem .i64 n 10))=r/\r=48+((u % 10:Nat):Int):=⟨_,rfl,by
   rw[hu];cases hO
   show IntKind.u8.wrap (IntKind.i64.wrap (48+(u:Int).tmod 10))=_
   have e:(u:Int).tmod 10=((u % 10:Nat):Int):=by rw[Int.tmod_eq_emod_of_nonneg (by omega)];rfl
   rw[e,yV0 (by omega)]
   simp only[IntKind.wrap,IntKind.bits,IntKind.signed];simp;omega⟩
  have hz:=xL0 q (by omega)
  have c1:=ih q (by omega) (by omega)
  have hB1:=hBB r;have e3:text [[.lit (.int .u8 r)]]=I (digT (u % 10))/\sadd (I (numT q)) (I (digT (u % 10)))=I (numT n):=⟨by rw[hr];exact hT _ (by omega),by rw[hA,hu,bQ0 hA3,hq]⟩
  have hs2:=hS (numT q) (digT (u % 10)) (by rw[hds];omega)
  refine qB 0 ?_
  repeat' first|refine qA 0 ?_|refine qJ (nN []) ?_|refine qp ?_ ?_|refine qk (fun h=>?_) fun h=>?_<;>try(exfalso;omega)|fail
  all_goals first | exact hR _ _ ⟨rfl,rfl⟩|(exfalso;omega)
theorem VA0 (hI:II @I):∀(m:Nat) (n:Int),n.natAbs < m→-9223372036854775808<=n/\n<=9223372036854775807->ACl Tryz.prog 85 [litI n] [] (fun res bx=>res=litS (I (numT n))/\bx=[])
 | 0,_,h,_=>absurd h (by omega)
 | m+1,n,h,hn=>YK0 hI n hn fun k h0 h1=>VA0 hI m k (by omega) (by omega)
def itRen:Go.Shelf.Ren:=⟨fun n=>match n with | 129=>191 | 171=>132 | 243=>150 | 246=>162 | 283=>173 | 284=>174 | 285=>175 | 286=>176 | 317=>190 | 318=>192 | 319=>193 | 320=>194 | 337=>206 | 338=>207 | n=>n,fun n=>match n with | 0=>0 | 2=>2 | 3=>3 | 4=>4 | 5=>5 | 9=>9 | 20=>20 | 37=>107 | 46=>174 | 51=>172 | 53=>160 | 171=>159 | 173=>163 | 212=>171 | 213=>173 | 232=>190 | 233=>191 | n=>n,fun n=>match n with | 17=>0 | 18=>1 | 19=>2 | n=>n⟩
set_option maxRecDepth 100000 in
theorem vC1:LaysM.n171 Tryz.prog itRen:=by
 constructor
 all_goals first | rfl|(intro w;rfl) | kernel_rfl|(constructor<;>first | rfl|(intro w;rfl) | kernel_rfl)
theorem vR1 {w:World} {S:Nat->Prop} (h:Gd w S):Lib.TabIs Tryz.prog w "internal/strconv.uint64pow10" .u64 Lib.pow10Tab:=by
 obtain ⟨-,cs,t,z,h1,h2⟩:=h 0 (by simp[glb])
 unfold Lib.TabIs World.var?;rw[show Tryz.prog.globalNamed "internal/strconv.uint64pow10"=some 0 by kernel_rfl]
 simp only[Option.bind_some,h1,h2]
theorem gC0 (O:List Nat) (w:World) (k:Nat) (os:Array Obj):Av.Keeps O w (Go.Sort.grow (w.drewN k) os):=
 ⟨rfl,rfl,rfl,by rw[Go.Sort.size_grow];exact Nat.le_add_right _ _,fun b hb _=>by rw[Go.Sort.heap_grow_old (w.drewN k) os hb];rfl⟩
theorem uD1 (hI:II @I) (n:Int) (hn:-9223372036854775808<=n/\n<=9223372036854775807):ACl Tryz.prog 132 [litI n] [] (fun res bx=>res=litS (I (numT n))/\bx=[]):=by
 rw[hI.e];intro w vals S L bl O1 O2 h1 h2 _ hsl hst hgd;obtain ⟨us1,e1,h1⟩:=mL0 h1;obtain ⟨e3,rfl⟩:us1=[]/\O1=[]:=h1;obtain ⟨rfl,rfl⟩:bl=[]/\O2=[]:=h2;subst e3;have hv':vals=#[.int .i64 n]:=by apply Array.ext';simpa using e1
 subst hv';refine (Any.strconv_Itoa vC1 n hn.1 hn.2 w (vR1 hgd)).mono ?_;rintro e w' ⟨rfl,k,os,rfl⟩;refine ⟨.string (numT n),rfl,_,_,S,[],[],[],⟨rfl,rfl⟩,⟨uX0 rfl,?_⟩,⟨rfl,rfl⟩,by simp,fun b hb=>⟨Nat.lt_of_lt_of_le (hst b (hsl b hb)).1 (gC0 [] w k os).size,by simp⟩,fun b hb=>hb,fun b hb=>.inl hb,gC0 _ _ _ _,by simp,List.prefix_refl _⟩
 rw[yK0 (uX0 rfl)];exact ⟨.string (numT n),[],[],[],rfl,rfl,⟨rfl,rfl,rfl⟩,rfl,rfl⟩
theorem TQ0 (hI:II @I) (n:Int) (hn:-9223372036854775808<=n/\n<=9223372036854775807):ACl Tryz.prog 93 [litI n] [] (fun res bx=>res=litS (I (numT n))/\bx=[]):=by
 have c1:=uD1 hI n hn;refine qN hI tyK Tryz.func93 5 [.tmp 2] ?_;unhygienic intros
 refine qB 0 ?_
 repeat' first|refine qA 0 ?_|refine qJ (nN []) ?_|refine qp ?_ ?_|refine qk (fun h=>?_) fun h=>?_|fail
 exact hR _ _ ⟨rfl,rfl⟩
end Go.Gv
