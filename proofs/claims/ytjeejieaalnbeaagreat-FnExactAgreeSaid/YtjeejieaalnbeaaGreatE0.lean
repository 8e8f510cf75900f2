/- Part E0 of the proof: contracts of functions of the program, each walked once. -/
import Derived.Test.YtjeejieaalnbeaaGreatT1
import Derived.Test.YtjeejieaalnbeaaGreatK1
import Derived.Test.YtjeejieaalnbeaaGreatQ1
set_option linter.all false
namespace Go.Gv
open Go.Av Go.Proofs
set_option maxRecDepth 10000
theorem c_szStringS (l:List ByteArray) (els:List (List T)) (he:els=l.map strT) (hl:l.length<=maxLen) (left:Int) (hleft:lefts left)
  (ih:∀s∈l,s.size<=maxLen) :
  ACl Tryz.prog 55 [roT els,litI left] [] (fun res bx=>∃r,szR (l.length+strsz l) left r/\res=litI r/\bx=[]):=by
 refine qF tyK Tryz.func55 28 [.tmp 4] ?_;unhygienic intros;obtain ⟨N,hN⟩:=qX l.length;have hNe:els.length=N:=by simp[he,hN]
 have hlen:len els=N:=lnO hO hNe;have hk:∀e∈els,e.length=1:=by subst he;simp[strT_len]
 have ha:all els 1:=alO hO hk;rw[<-hN] at hl hR;revert hK K;refine qW0 ?_;intro K hK;have e0:bin .sub .i64 left (Int.ofNat N)=_:=sub_id hO hleft hl;have hs:=sub_le (b:=N) hleft;generalize hm:left - Int.ofNat N=m at e0 hs;simp only[hlen,e0];refine nC rfl (fun h3=>?_) (fun h3=>?_)
 ·revert hK K;refine qW0 ?_;intro K hK
  refine hR _ _ ⟨_,.inr ⟨?_,rfl⟩,rfl,rfl⟩;have hm0:m < 0:=qv3;clear hR;try clear hK
  simp only[szR,lefts,Int.ofNat_eq_natCast] at *;omega
 have hm0:¬m < 0:=qv3;have hs:=hs hm0;have hN2:N<=1048576:=by
  clear hR;simp only[lefts,Int.ofNat_eq_natCast] at *;omega
 revert hK K;refine qW0 ?_;intro K hK;refine qL 0 [0,1,5] kk0 (invSz 28 els N (fun i=>strsz (l.take i)) left) ?_ ?_
 ·cbv
  exact ⟨_,0,m,by cbv,by simp,by simp[strsz];exact hm.symm,hs,rfl⟩
 rintro n σ ⟨i,m1,rfl,g1,g2,g3,rfl⟩;revert hK K;refine qW0 ?_;intro K hK;simp only[hlen];refine nC rfl (fun h4=>?_) (fun h4=>?_)
 ·have hlt:i < N:=qv4
  obtain ⟨x,hx,hx',ht,e1⟩:=mpA hO he (hN ▸ hlt);simp only[strT] at e1;revert hK K;refine qW0 ?_;intro K hK
  repeat (simp only[e1];cbv)
  refine ndC (hlen ▸ ixN hO hlt) (ndC ha (ndN ?_));revert hK K;refine qW0 ?_;intro K hK;have hz:strsz (l.take (i+1))=strsz (l.take i)+x.size:=by rw[ht,strsz_app,strsz_one]
  have hsx:=ih x hx;obtain ⟨z,hn1⟩:=qX x.size;have hz1:size x=z:=by cases hO;exact hn1.symm
  rw[<-hn1] at hz hsx;have e5:bin .sub .i64 m1 (Int.ofNat z)=_:=sub_id hO g3 hsx;have hl5:=sub_le (b:=z) g3;generalize hr:m1 - Int.ofNat z=r at e5 hl5;simp only[hz1,e5];have hzl:strsz (l.take (i+1))<=strsz l:=by
   have:=strsz_app (l.take (i+1)) (l.drop (i+1));rw[List.take_append_drop] at this;omega
  refine nC rfl (fun h5=>?_) (fun h5=>?_)
  ·revert hK K;refine qW0 ?_;intro K hK
   refine hR _ _ ⟨_,.inr ⟨?_,rfl⟩,rfl,rfl⟩;have hr0:r < 0:=qv5;clear hR;try clear hK
   simp only[szR,lefts,Int.ofNat_eq_natCast] at *;omega
  ·have hr0:¬r < 0:=qv5
   revert hK K;refine qW0 ?_;intro K hK;have e:bin .add .i64 (Int.ofNat i) 1=_:=iSc hO (by omega)
   try cbv
   rw[e];refine ⟨_,?_,i+1,r,by cbv,by omega,?_,?_,rfl⟩
   ·omega
   ·clear hR;try clear hK
    simp only[szR,lefts,Int.ofNat_eq_natCast] at *;omega
   ·clear hR;try clear hK
    simp only[szR,lefts,Int.ofNat_eq_natCast] at *;omega
 ·have hge:i=N:=qw4
  revert hK K;refine qW0 ?_;intro K hK;have e2:l.take i=l:=List.take_of_length_le (by omega)
  refine hR _ _ ⟨_,.inl ⟨?_,?_⟩,rfl,rfl⟩
  ·clear hR;try clear hK
   simp only[szR,lefts,Int.ofNat_eq_natCast,e2] at *;omega
  ·clear hR;try clear hK
   simp only[szR,lefts,Int.ofNat_eq_natCast,e2] at *;omega
theorem c_toStringS (l:List ByteArray) (els:List (List T)) (he:els=l.map strT) (hl:l.length<=1048576) :
  ToOk 70 [roT els] ⟨.one,[.ow (0,0) 1 els]⟩:=by
 refine qF tyK Tryz.func70 22 [.tmp 2] ?_;unhygienic intros;obtain ⟨N,hN⟩:=qX l.length;have hNe:els.length=N:=by simp[he,hN]
 have hlen:len els=N:=lnO hO hNe;have hk:∀e∈els,e.length=1:=by subst he;simp[strT_len]
 have ha:all els 1:=alO hO hk;rw[<-hN] at hl;revert hK K;refine qW0 ?_;intro K hK;simp only[hlen];refine ndC (mOk_of hO (by simp only[Int.ofNat_eq_natCast];omega)) (ndN ?_)
 generalize hR0:repl (nat (Int.ofNat N)) [T.lit (.string ⟨#[]⟩)]=outs0;have h0:outs0.length=els.length/\∀e∈outs0,e.length=1:=by
  subst hR0;cases hO;refine ⟨?_,fun e he=>?_⟩
  ·simp[Ops.std,hNe]
  ·rw[List.eq_of_mem_replicate he];rfl
 revert hK K;refine qW0 ?_;intro K hK;refine qL 0 [0,3,4] kk0 (invTo 22 els 1) ?_ ?_
 ·cbv
  exact ⟨_,0,outs0,by cbv,Nat.zero_le _,h0.1,h0.2,by simp,rfl⟩
 rintro n σ ⟨i,outs,rfl,g1,g2,g3,g4,rfl⟩;rw[hNe] at g1 g2;have hlo:len outs=N:=lnO hO g2;revert hK K;refine qW0 ?_;intro K hK;simp only[hlen];refine nC rfl (fun h4=>?_) (fun h4=>?_)
 ·have hlt:i < N:=qv4
  obtain ⟨x,hx,hx',ht,e1⟩:=mpA hO he (hN ▸ hlt);simp only[strT] at e1;have hxe:els[i]?=some [T.lit (.string x)]:=by rw[he];simp[hx',strT]
  have en:nadd 0 (nat (Int.ofNat i))=i:=by cases hO;simp[Ops.std]
  revert hK K;refine qW0 ?_;intro K hK
  repeat (simp only[e1];cbv)
  simp only[hlo,en];refine ndC (hlen ▸ ixN hO hlt) (ndC ha (ndC (ixN hO hlt) (ndC (one_of hO (by omega) rfl g3) ?_)))
  have es:∀y,set outs i y=outs.set i y:=by intro y;cases hO;rfl
  obtain ⟨t1,t2⟩:=set_step (hNe.symm ▸ hlt) (g2.trans hNe.symm) g4 hxe;have t3:∀e∈outs.set i [T.lit (.string x)],e.length=1:=by
   intro e he;rcases List.mem_or_eq_of_mem_set he with h | h
   ·exact g3 e h
   ·rw[h];rfl
  simp only[es];generalize outs.set i [T.lit (.string x)]=outs' at t1 t2 t3 |-;revert hK K;refine qW0 ?_;intro K hK;have e:bin .add .i64 (Int.ofNat i) 1=_:=iSc hO (by omega)
  try cbv
  rw[e];exact ⟨_,by omega,i+1,outs',by cbv,by omega,t1,t3,t2,rfl⟩
 ·have hge:i=N:=qw4
  have e2:outs=els:=by
   have:=g4;rw[List.take_of_length_le (by omega),List.take_of_length_le (by omega)] at this
   exact this
  subst e2;revert hK K;refine qW0 ?_;intro K hK;exact hR _ _ ⟨rfl,rfl⟩
theorem c_eqStringS (l:List ByteArray) (els:List (List T)) (he:els=l.map strT) (hl:l.length<=1048576) :
  EqOk 95 (roT els):=by
 refine qF tyK Tryz.func95 26 [.tmp 4] ?_;unhygienic intros;obtain ⟨N,hN⟩:=qX l.length;have hNe:els.length=N:=by simp[he,hN]
 have hlen:len els=N:=lnO hO hNe;have hk:∀e∈els,e.length=1:=by subst he;simp[strT_len]
 have ha:all els 1:=alO hO hk;rw[<-hN] at hl;have hne:∀x,cmp .neq x x=false:=by intro x;cases hO;simp[Ops.std,sCm]
 have hse:∀x,scmp .neq x x=false:=by intro x;cases hO;simp[Ops.std,scmp_neq]
 have hbe:∀x,bnot (beq x x)=false:=by intro x;cases hO;simp[Ops.std]
 have hnt:bnot true=false:=by cases hO;rfl
 revert hK K;refine qW0 ?_;intro K hK;simp only[hne];revert hK K;refine qW0 ?_;intro K hK;refine qL 0 [0,1,5] kk0 (invEq 26 els) ?_ ?_
 ·cbv
  exact ⟨_,0,by cbv,Nat.zero_le _,rfl⟩
 rintro n σ ⟨i,rfl,g1,rfl⟩;rw[hNe] at g1;revert hK K;refine qW0 ?_;intro K hK;simp only[hlen];refine nC rfl (fun h4=>?_) (fun h4=>?_)
 ·have hlt:i < N:=qv4
  obtain ⟨x,hx,hx',ht,e1⟩:=mpA hO he (hN ▸ hlt);simp only[strT] at e1;have hi:idx (Int.ofNat i) (len els):=hlen ▸ ixN hO hlt;revert hK K;refine qW0 ?_;intro K hK
  repeat (simp only[e1];cbv)
  refine ndC hi (ndC ha (ndC hi (ndC ha (ndN ?_))));simp only[hnt,hse,hne];revert hK K;refine qW0 ?_;intro K hK;have e:bin .add .i64 (Int.ofNat i) 1=_:=iSc hO (by omega)
  try cbv
  rw[e];exact ⟨_,by omega,i+1,by cbv,by omega,rfl⟩
 ·revert hK K;refine qW0 ?_;intro K hK
  exact hR _ _ ⟨rfl,rfl⟩
theorem szStrings (l:List ByteArray) (hl:l.length<=maxLen) (h:∀e∈l,e.size<=maxLen):SzOk 55 (fun left=>[roT (l.map strT),litI left]) (l.length+strsz l):=
 fun left hleft=>c_szStringS l _ rfl hl left hleft h
theorem toStrings (l:List ByteArray) (hl:l.length+strsz l<=1048576):ToOk 70 [roT (l.map strT)] ⟨.one,[.ow (0,0) 1 (l.map strT)]⟩:=
 c_toStringS l _ rfl (by omega)
theorem eqStrings (l:List ByteArray) (hl:l.length+strsz l<=1048576):EqOk 95 (roT (l.map strT)):=
 c_eqStringS l _ rfl (by omega)
theorem c_szIntS (l:List Int) (els:List (List T)) (he:els=l.map intT) (hl:l.length<=maxLen) (left:Int) (hleft:lefts left) :
  ACl Tryz.prog 21 [roT els,litI left] [] (fun res bx=>∃r,szR l.length left r/\res=litI r/\bx=[]):=by
 refine qF tyK Tryz.func21 12 [.tmp 4] ?_;unhygienic intros;obtain ⟨N,hN⟩:=qX l.length;have hlen:len els=N:=lnO hO (by simp[he,hN])
 rw[<-hN] at hl hR;revert hK K;refine qW0 ?_;intro K hK;have e0:bin .sub .i64 left (Int.ofNat N)=_:=sub_id hO hleft hl;generalize hm:left - Int.ofNat N=m at e0;simp only[hlen,e0];refine nC rfl (fun h3=>?_) (fun h3=>?_)
 ·revert hK K;refine qW0 ?_;intro K hK
  refine hR _ _ ⟨_,.inr ⟨?_,rfl⟩,rfl,rfl⟩;have hm0:m < 0:=qv3;clear hR;try clear hK
  simp only[szR,lefts,Int.ofNat_eq_natCast] at *;omega
 have hm0:¬m < 0:=qv3;revert hK K;refine qW0 ?_;intro K hK;refine hR _ _ ⟨_,.inl ⟨?_,?_⟩,rfl,rfl⟩
 ·clear hR;try clear hK
  simp only[szR,lefts,Int.ofNat_eq_natCast] at *;omega
 ·exact hm.symm
theorem c_toIntS (l:List Int) (els:List (List T)) (he:els=l.map intT) (hl:l.length<=1048576) :
  ToOk 33 [roT els] ⟨.one,[.ow (0,0) 1 els]⟩:=by
 refine qF tyK Tryz.func33 22 [.tmp 2] ?_;unhygienic intros;obtain ⟨N,hN⟩:=qX l.length;have hNe:els.length=N:=by simp[he,hN]
 have hlen:len els=N:=lnO hO hNe;have hk:∀e∈els,e.length=1:=by subst he;simp[intT_len]
 have ha:all els 1:=alO hO hk;rw[<-hN] at hl;revert hK K;refine qW0 ?_;intro K hK;simp only[hlen];refine ndC (mOk_of hO (by simp only[Int.ofNat_eq_natCast];omega)) (ndN ?_)
 generalize hR0:repl (nat (Int.ofNat N)) [T.lit (.int .i64 0)]=outs0;have h0:outs0.length=els.length/\∀e∈outs0,e.length=1:=by
  subst hR0;cases hO;refine ⟨?_,fun e he=>?_⟩
  ·simp[Ops.std,hNe]
  ·rw[List.eq_of_mem_replicate he];rfl
 revert hK K;refine qW0 ?_;intro K hK;refine qL 0 [0,3,4] kk0 (invTo 22 els 1) ?_ ?_
 ·cbv
  exact ⟨_,0,outs0,by cbv,Nat.zero_le _,h0.1,h0.2,by simp,rfl⟩
 rintro n σ ⟨i,outs,rfl,g1,g2,g3,g4,rfl⟩;rw[hNe] at g1 g2;have hlo:len outs=N:=lnO hO g2;revert hK K;refine qW0 ?_;intro K hK;simp only[hlen];refine nC rfl (fun h4=>?_) (fun h4=>?_)
 ·have hlt:i < N:=qv4
  obtain ⟨x,hx,hx',ht,e1⟩:=mpA hO he (hN ▸ hlt);simp only[intT] at e1;have hxe:els[i]?=some [T.lit (.int .i64 x)]:=by rw[he];simp[hx',intT]
  have en:nadd 0 (nat (Int.ofNat i))=i:=by cases hO;simp[Ops.std]
  revert hK K;refine qW0 ?_;intro K hK
  repeat (simp only[e1];cbv)
  simp only[hlo,en];refine ndC (hlen ▸ ixN hO hlt) (ndC ha (ndC (ixN hO hlt) (ndC (one_of hO (by omega) rfl g3) ?_)))
  have es:∀y,set outs i y=outs.set i y:=by intro y;cases hO;rfl
  obtain ⟨t1,t2⟩:=set_step (hNe.symm ▸ hlt) (g2.trans hNe.symm) g4 hxe;have t3:∀e∈outs.set i [T.lit (.int .i64 x)],e.length=1:=by
   intro e he;rcases List.mem_or_eq_of_mem_set he with h | h
   ·exact g3 e h
   ·rw[h];rfl
  simp only[es];generalize outs.set i [T.lit (.int .i64 x)]=outs' at t1 t2 t3 |-;revert hK K;refine qW0 ?_;intro K hK;have e:bin .add .i64 (Int.ofNat i) 1=_:=iSc hO (by omega)
  try cbv
  rw[e];exact ⟨_,by omega,i+1,outs',by cbv,by omega,t1,t3,t2,rfl⟩
 ·have hge:i=N:=qw4
  have e2:outs=els:=by
   have:=g4;rw[List.take_of_length_le (by omega),List.take_of_length_le (by omega)] at this
   exact this
  subst e2;revert hK K;refine qW0 ?_;intro K hK;exact hR _ _ ⟨rfl,rfl⟩
theorem c_eqIntS (l:List Int) (els:List (List T)) (he:els=l.map intT) (hl:l.length<=1048576) :
  EqOk 48 (roT els):=by
 refine qF tyK Tryz.func48 26 [.tmp 4] ?_;unhygienic intros;obtain ⟨N,hN⟩:=qX l.length;have hNe:els.length=N:=by simp[he,hN]
 have hlen:len els=N:=lnO hO hNe;have hk:∀e∈els,e.length=1:=by subst he;simp[intT_len]
 have ha:all els 1:=alO hO hk;rw[<-hN] at hl;have hne:∀x,cmp .neq x x=false:=by intro x;cases hO;simp[Ops.std,sCm]
 have hse:∀x,scmp .neq x x=false:=by intro x;cases hO;simp[Ops.std,scmp_neq]
 have hbe:∀x,bnot (beq x x)=false:=by intro x;cases hO;simp[Ops.std]
 have hnt:bnot true=false:=by cases hO;rfl
 revert hK K;refine qW0 ?_;intro K hK;simp only[hne];revert hK K;refine qW0 ?_;intro K hK;refine qL 0 [0,1,5] kk0 (invEq 26 els) ?_ ?_
 ·cbv
  exact ⟨_,0,by cbv,Nat.zero_le _,rfl⟩
 rintro n σ ⟨i,rfl,g1,rfl⟩;rw[hNe] at g1;revert hK K;refine qW0 ?_;intro K hK;simp only[hlen];refine nC rfl (fun h4=>?_) (fun h4=>?_)
 ·have hlt:i < N:=qv4
  obtain ⟨x,hx,hx',ht,e1⟩:=mpA hO he (hN ▸ hlt);simp only[intT] at e1;have hi:idx (Int.ofNat i) (len els):=hlen ▸ ixN hO hlt;revert hK K;refine qW0 ?_;intro K hK
  repeat (simp only[e1];cbv)
  refine ndC hi (ndC ha (ndC hi (ndC ha (ndN ?_))));simp only[hnt,hse,hne];revert hK K;refine qW0 ?_;intro K hK;have e:bin .add .i64 (Int.ofNat i) 1=_:=iSc hO (by omega)
  try cbv
  rw[e];exact ⟨_,by omega,i+1,by cbv,by omega,rfl⟩
 ·revert hK K;refine qW0 ?_;intro K hK
  exact hR _ _ ⟨rfl,rfl⟩
theorem szInts (l:List Int) (hl:l.length<=maxLen):SzOk 21 (fun left=>[roT (l.map intT),litI left]) l.length:=
 fun left hleft=>c_szIntS l _ rfl hl left hleft
theorem toInts (l:List Int) (hl:l.length<=1048576):ToOk 33 [roT (l.map intT)] ⟨.one,[.ow (0,0) 1 (l.map intT)]⟩:=
 c_toIntS l _ rfl (by omega)
theorem eqInts (l:List Int) (hl:l.length<=1048576):EqOk 48 (roT (l.map intT)):=
 c_eqIntS l _ rfl (by omega)
theorem c_szByteS (l:List Int) (els:List (List T)) (he:els=l.map byteT) (hl:l.length<=maxLen) (left:Int) (hleft:lefts left) :
  ACl Tryz.prog 19 [roT els,litI left] [] (fun res bx=>∃r,szR l.length left r/\res=litI r/\bx=[]):=by
 refine qF tyK Tryz.func19 12 [.tmp 4] ?_;unhygienic intros;obtain ⟨N,hN⟩:=qX l.length;have hlen:len els=N:=lnO hO (by simp[he,hN])
 rw[<-hN] at hl hR;revert hK K;refine qW0 ?_;intro K hK;have e0:bin .sub .i64 left (Int.ofNat N)=_:=sub_id hO hleft hl;generalize hm:left - Int.ofNat N=m at e0;simp only[hlen,e0];refine nC rfl (fun h3=>?_) (fun h3=>?_)
 ·revert hK K;refine qW0 ?_;intro K hK
  refine hR _ _ ⟨_,.inr ⟨?_,rfl⟩,rfl,rfl⟩;have hm0:m < 0:=qv3;clear hR;try clear hK
  simp only[szR,lefts,Int.ofNat_eq_natCast] at *;omega
 have hm0:¬m < 0:=qv3;revert hK K;refine qW0 ?_;intro K hK;refine hR _ _ ⟨_,.inl ⟨?_,?_⟩,rfl,rfl⟩
 ·clear hR;try clear hK
  simp only[szR,lefts,Int.ofNat_eq_natCast] at *;omega
 ·exact hm.symm
theorem c_toByteS (l:List Int) (els:List (List T)) (he:els=l.map byteT) (hl:l.length<=1048576) :
  ToOk 31 [roT els] ⟨.one,[.ow (0,0) 1 els]⟩:=by
 refine qF tyK Tryz.func31 22 [.tmp 2] ?_;unhygienic intros;obtain ⟨N,hN⟩:=qX l.length;have hNe:els.length=N:=by simp[he,hN]
 have hlen:len els=N:=lnO hO hNe;have hk:∀e∈els,e.length=1:=by subst he;simp[byteT_len]
 have ha:all els 1:=alO hO hk;rw[<-hN] at hl;revert hK K;refine qW0 ?_;intro K hK;simp only[hlen];refine ndC (mOk_of hO (by simp only[Int.ofNat_eq_natCast];omega)) (ndN ?_)
 generalize hR0:repl (nat (Int.ofNat N)) [T.lit (.int .u8 0)]=outs0;have h0:outs0.length=els.length/\∀e∈outs0,e.length=1:=by
  subst hR0;cases hO;refine ⟨?_,fun e he=>?_⟩
  ·simp[Ops.std,hNe]
  ·rw[List.eq_of_mem_replicate he];rfl
 revert hK K;refine qW0 ?_;intro K hK;refine qL 0 [0,3,4] kk0 (invTo 22 els 1) ?_ ?_
 ·cbv
  exact ⟨_,0,outs0,by cbv,Nat.zero_le _,h0.1,h0.2,by simp,rfl⟩
 rintro n σ ⟨i,outs,rfl,g1,g2,g3,g4,rfl⟩;rw[hNe] at g1 g2;have hlo:len outs=N:=lnO hO g2;revert hK K;refine qW0 ?_;intro K hK;simp only[hlen];refine nC rfl (fun h4=>?_) (fun h4=>?_)
 ·have hlt:i < N:=qv4
  obtain ⟨x,hx,hx',ht,e1⟩:=mpA hO he (hN ▸ hlt);simp only[byteT] at e1;have hxe:els[i]?=some [T.lit (.int .u8 x)]:=by rw[he];simp[hx',byteT]
  have en:nadd 0 (nat (Int.ofNat i))=i:=by cases hO;simp[Ops.std]
  revert hK K;refine qW0 ?_;intro K hK
  repeat (simp only[e1];cbv)
  simp only[hlo,en];refine ndC (hlen ▸ ixN hO hlt) (ndC ha (ndC (ixN hO hlt) (ndC (one_of hO (by omega) rfl g3) ?_)))
  have es:∀y,set outs i y=outs.set i y:=by intro y;cases hO;rfl
  obtain ⟨t1,t2⟩:=set_step (hNe.symm ▸ hlt) (g2.trans hNe.symm) g4 hxe;have t3:∀e∈outs.set i [T.lit (.int .u8 x)],e.length=1:=by
   intro e he;rcases List.mem_or_eq_of_mem_set he with h | h
   ·exact g3 e h
   ·rw[h];rfl
  simp only[es];generalize outs.set i [T.lit (.int .u8 x)]=outs' at t1 t2 t3 |-;revert hK K;refine qW0 ?_;intro K hK;have e:bin .add .i64 (Int.ofNat i) 1=_:=iSc hO (by omega)
  try cbv
  rw[e];exact ⟨_,by omega,i+1,outs',by cbv,by omega,t1,t3,t2,rfl⟩
 ·have hge:i=N:=qw4
  have e2:outs=els:=by
   have:=g4;rw[List.take_of_length_le (by omega),List.take_of_length_le (by omega)] at this
   exact this
  subst e2;revert hK K;refine qW0 ?_;intro K hK;exact hR _ _ ⟨rfl,rfl⟩
theorem c_eqByteS (l:List Int) (els:List (List T)) (he:els=l.map byteT) (hl:l.length<=1048576) :
  EqOk 46 (roT els):=by
 refine qF tyK Tryz.func46 26 [.tmp 4] ?_;unhygienic intros;obtain ⟨N,hN⟩:=qX l.length;have hNe:els.length=N:=by simp[he,hN]
 have hlen:len els=N:=lnO hO hNe;have hk:∀e∈els,e.length=1:=by subst he;simp[byteT_len]
 have ha:all els 1:=alO hO hk;rw[<-hN] at hl;have hne:∀x,cmp .neq x x=false:=by intro x;cases hO;simp[Ops.std,sCm]
 have hse:∀x,scmp .neq x x=false:=by intro x;cases hO;simp[Ops.std,scmp_neq]
 have hbe:∀x,bnot (beq x x)=false:=by intro x;cases hO;simp[Ops.std]
 have hnt:bnot true=false:=by cases hO;rfl
 revert hK K;refine qW0 ?_;intro K hK;simp only[hne];revert hK K;refine qW0 ?_;intro K hK;refine qL 0 [0,1,5] kk0 (invEq 26 els) ?_ ?_
 ·cbv
  exact ⟨_,0,by cbv,Nat.zero_le _,rfl⟩
 rintro n σ ⟨i,rfl,g1,rfl⟩;rw[hNe] at g1;revert hK K;refine qW0 ?_;intro K hK;simp only[hlen];refine nC rfl (fun h4=>?_) (fun h4=>?_)
 ·have hlt:i < N:=qv4
  obtain ⟨x,hx,hx',ht,e1⟩:=mpA hO he (hN ▸ hlt);simp only[byteT] at e1;have hi:idx (Int.ofNat i) (len els):=hlen ▸ ixN hO hlt;revert hK K;refine qW0 ?_;intro K hK
  repeat (simp only[e1];cbv)
  refine ndC hi (ndC ha (ndC hi (ndC ha (ndN ?_))));simp only[hnt,hse,hne];revert hK K;refine qW0 ?_;intro K hK;have e:bin .add .i64 (Int.ofNat i) 1=_:=iSc hO (by omega)
  try cbv
  rw[e];exact ⟨_,by omega,i+1,by cbv,by omega,rfl⟩
 ·revert hK K;refine qW0 ?_;intro K hK
  exact hR _ _ ⟨rfl,rfl⟩
theorem szBytes (l:List Int) (hl:l.length<=maxLen):SzOk 19 (fun left=>[roT (l.map byteT),litI left]) l.length:=
 fun left hleft=>c_szByteS l _ rfl hl left hleft
theorem toBytes (l:List Int) (hl:l.length<=1048576):ToOk 31 [roT (l.map byteT)] ⟨.one,[.ow (0,0) 1 (l.map byteT)]⟩:=
 c_toByteS l _ rfl (by omega)
theorem eqBytes (l:List Int) (hl:l.length<=1048576):EqOk 46 (roT (l.map byteT)):=
 c_eqByteS l _ rfl (by omega)
theorem c_szSlotS (l:List Sl) (els:List (List T)) (he:els=l.map Sl.t) (hl:l.length<=maxLen) (left:Int) (hleft:lefts left) :
  ACl Tryz.prog 105 [roT els,litI left] [] (fun res bx=>∃r,szR l.length left r/\res=litI r/\bx=[]):=by
 refine qF tyK Tryz.func105 12 [.tmp 4] ?_;unhygienic intros;obtain ⟨N,hN⟩:=qX l.length;have hlen:len els=N:=lnO hO (by simp[he,hN])
 rw[<-hN] at hl hR;revert hK K;refine qW0 ?_;intro K hK;have e0:bin .sub .i64 left (Int.ofNat N)=_:=sub_id hO hleft hl;generalize hm:left - Int.ofNat N=m at e0;simp only[hlen,e0];refine nC rfl (fun h3=>?_) (fun h3=>?_)
 ·revert hK K;refine qW0 ?_;intro K hK
  refine hR _ _ ⟨_,.inr ⟨?_,rfl⟩,rfl,rfl⟩;have hm0:m < 0:=qv3;clear hR;try clear hK
  simp only[szR,lefts,Int.ofNat_eq_natCast] at *;omega
 have hm0:¬m < 0:=qv3;revert hK K;refine qW0 ?_;intro K hK;refine hR _ _ ⟨_,.inl ⟨?_,?_⟩,rfl,rfl⟩
 ·clear hR;try clear hK
  simp only[szR,lefts,Int.ofNat_eq_natCast] at *;omega
 ·exact hm.symm
theorem c_szLabelS (l:List La) (els:List (List T)) (he:els=l.map La.t) (hl:l.length<=maxLen) (left:Int) (hleft:lefts left) :
  ACl Tryz.prog 106 [roT els,litI left] [] (fun res bx=>∃r,szR l.length left r/\res=litI r/\bx=[]):=by
 refine qF tyK Tryz.func106 12 [.tmp 4] ?_;unhygienic intros;obtain ⟨N,hN⟩:=qX l.length;have hlen:len els=N:=lnO hO (by simp[he,hN])
 rw[<-hN] at hl hR;revert hK K;refine qW0 ?_;intro K hK;have e0:bin .sub .i64 left (Int.ofNat N)=_:=sub_id hO hleft hl;generalize hm:left - Int.ofNat N=m at e0;simp only[hlen,e0];refine nC rfl (fun h3=>?_) (fun h3=>?_)
 ·revert hK K;refine qW0 ?_;intro K hK
  refine hR _ _ ⟨_,.inr ⟨?_,rfl⟩,rfl,rfl⟩;have hm0:m < 0:=qv3;clear hR;try clear hK
  simp only[szR,lefts,Int.ofNat_eq_natCast] at *;omega
 have hm0:¬m < 0:=qv3;revert hK K;refine qW0 ?_;intro K hK;refine hR _ _ ⟨_,.inl ⟨?_,?_⟩,rfl,rfl⟩
 ·clear hR;try clear hK
  simp only[szR,lefts,Int.ofNat_eq_natCast] at *;omega
 ·exact hm.symm
theorem Ex.cs (x:Ex):∃xK xN xS xL,x.t=[T.lit (.int .i64 xK),T.lit (.int .i64 xN),T.lit (.string xS),T.sl xL]/\x.ow=[A.lit (.int .i64 xK),A.lit (.int .i64 xN),A.lit (.string xS),A.ow (0,0) 4 xL]:=by
 obtain ⟨xK,xN,xS,xL⟩:=x;exact ⟨xK,xN,xS,xL.map Ex.t,by simp only[Ex.t_mk,Sm.t_mk,Ru.t,Fu.t,Pg.t,Ex.ow_mk,Sm.ow_mk,Ru.ow,Fu.ow,Pg.ow,List.map,List.cons_append,List.nil_append,List.append_nil,tA],by simp only[Ex.t_mk,Sm.t_mk,Ru.t,Fu.t,Pg.t,Ex.ow_mk,Sm.ow_mk,Ru.ow,Fu.ow,Pg.ow,List.map,List.cons_append,List.nil_append,List.append_nil,tA]⟩
theorem Ex.szF:SzF Ex.szs Ex.sz:=szF_of (by rw[Ex.szs]) Ex.szs_app Ex.szs_one
theorem Sm.cs (x:Sm):∃xK xS xT xX xA xB,x.t=[T.lit (.int .i64 xK),T.lit (.string xS),T.lit (.string xT),T.sl xX,T.sl xA,T.sl xB]/\x.ow=[A.lit (.int .i64 xK),A.lit (.string xS),A.lit (.string xT),A.ow (0,0) 4 xX,A.ow (0,0) 6 xA,A.ow (0,0) 6 xB]:=by
 obtain ⟨xK,xS,xT,xX,xA,xB⟩:=x;exact ⟨xK,xS,xT,xX.map Ex.t,xA.map Sm.t,xB.map Sm.t,by simp only[Ex.t_mk,Sm.t_mk,Ru.t,Fu.t,Pg.t,Ex.ow_mk,Sm.ow_mk,Ru.ow,Fu.ow,Pg.ow,List.map,List.cons_append,List.nil_append,List.append_nil,tA],by simp only[Ex.t_mk,Sm.t_mk,Ru.t,Fu.t,Pg.t,Ex.ow_mk,Sm.ow_mk,Ru.ow,Fu.ow,Pg.ow,List.map,List.cons_append,List.nil_append,List.append_nil,tA]⟩
theorem Sm.szF:SzF Sm.szs Sm.sz:=szF_of (by rw[Sm.szs]) Sm.szs_app Sm.szs_one
theorem st_szExpr (k n:Int) (s:ByteArray) (q:List Ex) (g1:s.size<=maxLen) (i1:SzOk 147 (fun left=>[roT (q.map Ex.t),litI left]) (q.length+Ex.szs q)):SzOk 99 (fun left=>[agT (Ex.mk k n s q).t,litI left]) (Ex.mk k n s q).sz:=by
 intro left hleft;obtain ⟨S,hS⟩:=qX (Ex.mk k n s q).sz;rw[<-hS];rw[Ex.sz] at hS;simp only[SzOk,roT,agT,Ex.t_mk,Sm.t_mk,Ex.ow_mk,Sm.ow_mk,List.map,tA] at *;generalize q.map Ex.t=tq at *;refine qF tyK Tryz.func99 19 [.tmp 4] ?_;unhygienic intros;have j1:=szStr hO g1;exact qSz
theorem st_toExpr (k n:Int) (s:ByteArray) (q:List Ex) (i1:ToOk 161 [roT (q.map Ex.t)] ⟨.one,[.ow (0,0) 4 (q.map Ex.t)]⟩):ToOk 117 [agT (Ex.mk k n s q).t] ⟨.agg,(Ex.mk k n s q).ow⟩:=by
 simp only[ToOk,EqOk,roT,agT,Ex.t_mk,Sm.t_mk,Ex.ow_mk,Sm.ow_mk,List.map,tA] at *;generalize q.map Ex.t=tq at *;refine qF tyK Tryz.func117 18 [.cell 2 149] ?_;unhygienic intros;exact qTo
theorem st_eqExpr (k n:Int) (s:ByteArray) (q:List Ex) (i1:EqOk 179 (roT (q.map Ex.t))):EqOk 138 (agT (Ex.mk k n s q).t):=by
 simp only[ToOk,EqOk,roT,agT,Ex.t_mk,Sm.t_mk,Ex.ow_mk,Sm.ow_mk,List.map,tA] at *;generalize q.map Ex.t=tq at *;refine qF tyK Tryz.func138 26 [.tmp 4] ?_;unhygienic intros;exact qTo
theorem szExprs0 (l:List Ex) (hl:l.length<=maxLen) (ih:∀e∈l,SzOk 99 (fun left=>[agT e.t,litI left]) e.sz):SzOk 147 (fun left=>[roT (l.map Ex.t),litI left]) (l.length+Ex.szs l):=by
 intro left hleft;obtain ⟨els,he⟩:=qX (l.map Ex.t);simp only[roT,<-he];have hk:KOf els 4:=by rw[he];exact kOf_map Ex.t_len l
 have hcs:=Ex.cs;have hsf:=Ex.szF;generalize Ex.szs=S at *;refine qF tyK Tryz.func147 27 [.tmp 4] ?_;unhygienic intros;exact qSzS
theorem toExprs0 (l:List Ex) (hl:l.length<=1048576) (ih:∀e∈l,ToOk 117 [agT e.t] ⟨.agg,e.ow⟩):ToOk 161 [roT (l.map Ex.t)] ⟨.one,[.ow (0,0) 4 (l.map Ex.t)]⟩:=by
 obtain ⟨els,he⟩:=qX (l.map Ex.t);simp only[roT,<-he];have hk:KOf els 4:=by rw[he];exact kOf_map Ex.t_len l
 have hcs:=Ex.cs;have hz0:Zs [T.lit (.int .i64 0),T.lit (.int .i64 0),T.lit (.string ⟨#[]⟩),T.sl []]:=⟨trivial⟩;refine qF tyK Tryz.func161 23 [.tmp 2] ?_;unhygienic intros;exact qToS
theorem eqExprs0 (l:List Ex) (hl:l.length<=1048576) (ih:∀e∈l,EqOk 138 (agT e.t)):EqOk 179 (roT (l.map Ex.t)):=by
 obtain ⟨els,he⟩:=qX (l.map Ex.t);simp only[roT,<-he];have hk:KOf els 4:=by rw[he];exact kOf_map Ex.t_len l
 have hcs:=Ex.cs;refine qF tyK Tryz.func179 27 [.tmp 4] ?_;unhygienic intros;exact qEqS
theorem st_szStmt (k:Int) (s t:ByteArray) (x:List Ex) (a:List Sm) (b:List Sm) (g1:s.size<=maxLen) (g2:t.size<=maxLen) (i1:SzOk 147 (fun left=>[roT (x.map Ex.t),litI left]) (x.length+Ex.szs x)) (i2:SzOk 100 (fun left=>[roT (a.map Sm.t),litI left]) (a.length+Sm.szs a)) (i3:SzOk 100 (fun left=>[roT (b.map Sm.t),litI left]) (b.length+Sm.szs b)):SzOk 148 (fun left=>[agT (Sm.mk k s t x a b).t,litI left]) (Sm.mk k s t x a b).sz:=by
 intro left hleft;obtain ⟨S,hS⟩:=qX (Sm.mk k s t x a b).sz;rw[<-hS];rw[Sm.sz] at hS;simp only[SzOk,roT,agT,Ex.t_mk,Sm.t_mk,Ex.ow_mk,Sm.ow_mk,List.map,tA] at *;generalize x.map Ex.t=tx at *;generalize a.map Sm.t=ta at *;generalize b.map Sm.t=tb at *;refine qF tyK Tryz.func148 38 [.tmp 4] ?_;unhygienic intros;have j1:=szStr hO g1;have j2:=szStr hO g2;exact qSz
theorem st_toStmt (k:Int) (s t:ByteArray) (x:List Ex) (a:List Sm) (b:List Sm) (i1:ToOk 161 [roT (x.map Ex.t)] ⟨.one,[.ow (0,0) 4 (x.map Ex.t)]⟩) (i2:ToOk 118 [roT (a.map Sm.t)] ⟨.one,[.ow (0,0) 6 (a.map Sm.t)]⟩) (i3:ToOk 118 [roT (b.map Sm.t)] ⟨.one,[.ow (0,0) 6 (b.map Sm.t)]⟩):ToOk 162 [agT (Sm.mk k s t x a b).t] ⟨.agg,(Sm.mk k s t x a b).ow⟩:=by
 simp only[ToOk,EqOk,roT,agT,Ex.t_mk,Sm.t_mk,Ex.ow_mk,Sm.ow_mk,List.map,tA] at *;generalize x.map Ex.t=tx at *;generalize a.map Sm.t=ta at *;generalize b.map Sm.t=tb at *;refine qF tyK Tryz.func162 26 [.cell 2 179] ?_;unhygienic intros;exact qTo
theorem st_eqStmt (k:Int) (s t:ByteArray) (x:List Ex) (a:List Sm) (b:List Sm) (i1:EqOk 179 (roT (x.map Ex.t))) (i2:EqOk 139 (roT (a.map Sm.t))) (i3:EqOk 139 (roT (b.map Sm.t))):EqOk 180 (agT (Sm.mk k s t x a b).t):=by
 simp only[ToOk,EqOk,roT,agT,Ex.t_mk,Sm.t_mk,Ex.ow_mk,Sm.ow_mk,List.map,tA] at *;generalize x.map Ex.t=tx at *;generalize a.map Sm.t=ta at *;generalize b.map Sm.t=tb at *;refine qF tyK Tryz.func180 38 [.tmp 4] ?_;unhygienic intros;exact qTo
theorem szStmts0 (l:List Sm) (hl:l.length<=maxLen) (ih:∀e∈l,SzOk 148 (fun left=>[agT e.t,litI left]) e.sz):SzOk 100 (fun left=>[roT (l.map Sm.t),litI left]) (l.length+Sm.szs l):=by
 intro left hleft;obtain ⟨els,he⟩:=qX (l.map Sm.t);simp only[roT,<-he];have hk:KOf els 6:=by rw[he];exact kOf_map Sm.t_len l
 have hcs:=Sm.cs;have hsf:=Sm.szF;generalize Sm.szs=S at *;refine qF tyK Tryz.func100 27 [.tmp 4] ?_;unhygienic intros;exact qSzS
theorem toStmts0 (l:List Sm) (hl:l.length<=1048576) (ih:∀e∈l,ToOk 162 [agT e.t] ⟨.agg,e.ow⟩):ToOk 118 [roT (l.map Sm.t)] ⟨.one,[.ow (0,0) 6 (l.map Sm.t)]⟩:=by
 obtain ⟨els,he⟩:=qX (l.map Sm.t);simp only[roT,<-he];have hk:KOf els 6:=by rw[he];exact kOf_map Sm.t_len l
 have hcs:=Sm.cs;have hz0:Zs [T.lit (.int .i64 0),T.lit (.string ⟨#[]⟩),T.lit (.string ⟨#[]⟩),T.sl [],T.sl [],T.sl []]:=⟨trivial⟩;refine qF tyK Tryz.func118 23 [.tmp 2] ?_;unhygienic intros;exact qToS
theorem eqStmts0 (l:List Sm) (hl:l.length<=1048576) (ih:∀e∈l,EqOk 180 (agT e.t)):EqOk 139 (roT (l.map Sm.t)):=by
 obtain ⟨els,he⟩:=qX (l.map Sm.t);simp only[roT,<-he];have hk:KOf els 6:=by rw[he];exact kOf_map Sm.t_len l
 have hcs:=Sm.cs;refine qF tyK Tryz.func139 27 [.tmp 4] ?_;unhygienic intros;exact qEqS
theorem Ex.sz_mem {l:List Ex} {e:Ex} (h:e∈l):e.sz<=Ex.szs l:=by
 induction l with
 | nil=>simp at h
 | cons a l ih=>
  rw[Ex.szs];rcases List.mem_cons.1 h with rfl | h
  ·omega
  ·have:=ih h;omega
theorem Sm.sz_mem {l:List Sm} {e:Sm} (h:e∈l):e.sz<=Sm.szs l:=by
 induction l with
 | nil=>simp at h
 | cons a l ih=>
  rw[Sm.szs];rcases List.mem_cons.1 h with rfl | h
  ·omega
  ·have:=ih h;omega
theorem c_szExpr:∀(e:Ex),e.Wf->SzOk 99 (fun left=>[agT e.t,litI left]) e.sz
 | .mk k n s l,hw=>by
  cases hw with
  | mk hk hn hs hl h=>exact st_szExpr k n s l hs (szExprs0 l hl fun e he=>c_szExpr e (h e he))
termination_by e=>SizeOf.sizeOf e
decreasing_by have:=List.sizeOf_lt_of_mem he;simp;omega
theorem szExprs (l:List Ex) (hl:l.length<=maxLen) (h:∀e∈l,e.Wf):SzOk 147 (fun left=>[roT (l.map Ex.t),litI left]) (l.length+Ex.szs l):=szExprs0 l hl fun e he=>c_szExpr e (h e he)
theorem c_toExpr:∀(e:Ex),e.sz<=1048576->ToOk 117 [agT e.t] ⟨.agg,e.ow⟩
 | .mk k n s l,hb=>by
  rw[Ex.sz] at hb;exact st_toExpr k n s l (toExprs0 l (by omega) fun e he=>c_toExpr e (by have:=Ex.sz_mem he;omega))
termination_by e=>SizeOf.sizeOf e
decreasing_by have:=List.sizeOf_lt_of_mem he;simp;omega
theorem toExprs (l:List Ex) (hl:l.length+Ex.szs l<=1048576):ToOk 161 [roT (l.map Ex.t)] ⟨.one,[.ow (0,0) 4 (l.map Ex.t)]⟩:=toExprs0 l (by omega) fun e he=>c_toExpr e (by have:=Ex.sz_mem he;omega)
theorem c_eqExpr:∀(e:Ex),e.sz<=1048576->EqOk 138 (agT e.t)
 | .mk k n s l,hb=>by
  rw[Ex.sz] at hb;exact st_eqExpr k n s l (eqExprs0 l (by omega) fun e he=>c_eqExpr e (by have:=Ex.sz_mem he;omega))
termination_by e=>SizeOf.sizeOf e
decreasing_by have:=List.sizeOf_lt_of_mem he;simp;omega
theorem eqExprs (l:List Ex) (hl:l.length+Ex.szs l<=1048576):EqOk 179 (roT (l.map Ex.t)):=eqExprs0 l (by omega) fun e he=>c_eqExpr e (by have:=Ex.sz_mem he;omega)
theorem c_szStmt:∀(e:Sm),e.Wf->SzOk 148 (fun left=>[agT e.t,litI left]) e.sz
 | .mk k s t x a b,hw=>by
  cases hw with
  | mk hk hs ht hx hx' ha ha' hb hb'=>exact st_szStmt k s t x a b hs ht (szExprs x hx hx') (szStmts0 a ha fun e he=>c_szStmt e (ha' e he)) (szStmts0 b hb fun e he=>c_szStmt e (hb' e he))
termination_by e=>SizeOf.sizeOf e
decreasing_by all_goals (have:=List.sizeOf_lt_of_mem he;simp;omega)
theorem szStmts (l:List Sm) (hl:l.length<=maxLen) (h:∀e∈l,e.Wf):SzOk 100 (fun left=>[roT (l.map Sm.t),litI left]) (l.length+Sm.szs l):=szStmts0 l hl fun e he=>c_szStmt e (h e he)
theorem c_toStmt:∀(e:Sm),e.sz<=1048576->ToOk 162 [agT e.t] ⟨.agg,e.ow⟩
 | .mk k s t x a b,hz=>by
  rw[Sm.sz] at hz;exact st_toStmt k s t x a b (toExprs x (by omega)) (toStmts0 a (by omega) fun e he=>c_toStmt e (by have:=Sm.sz_mem he;omega)) (toStmts0 b (by omega) fun e he=>c_toStmt e (by have:=Sm.sz_mem he;omega))
termination_by e=>SizeOf.sizeOf e
decreasing_by all_goals (have:=List.sizeOf_lt_of_mem he;simp;omega)
theorem toStmts (l:List Sm) (hl:l.length+Sm.szs l<=1048576):ToOk 118 [roT (l.map Sm.t)] ⟨.one,[.ow (0,0) 6 (l.map Sm.t)]⟩:=toStmts0 l (by omega) fun e he=>c_toStmt e (by have:=Sm.sz_mem he;omega)
theorem c_eqStmt:∀(e:Sm),e.sz<=1048576->EqOk 180 (agT e.t)
 | .mk k s t x a b,hz=>by
  rw[Sm.sz] at hz;exact st_eqStmt k s t x a b (eqExprs x (by omega)) (eqStmts0 a (by omega) fun e he=>c_eqStmt e (by have:=Sm.sz_mem he;omega)) (eqStmts0 b (by omega) fun e he=>c_eqStmt e (by have:=Sm.sz_mem he;omega))
termination_by e=>SizeOf.sizeOf e
decreasing_by all_goals (have:=List.sizeOf_lt_of_mem he;simp;omega)
theorem eqStmts (l:List Sm) (hl:l.length+Sm.szs l<=1048576):EqOk 139 (roT (l.map Sm.t)):=eqStmts0 l (by omega) fun e he=>c_eqStmt e (by have:=Sm.sz_mem he;omega)
theorem Ru.cs (x:Ru):∃xK xPK xPN xPS xPL xA,x.t=[T.lit (.int .i64 xK),T.lit (.int .i64 xPK),T.lit (.int .i64 xPN),T.lit (.string xPS),T.sl xPL,T.sl xA]/\x.ow=[A.lit (.int .i64 xK),A.lit (.int .i64 xPK),A.lit (.int .i64 xPN),A.lit (.string xPS),A.ow (0,0) 4 xPL,A.ow (0,0) 6 xA]:=by
 obtain ⟨xK,⟨xPK,xPN,xPS,xPL⟩,xA⟩:=x;exact ⟨xK,xPK,xPN,xPS,xPL.map Ex.t,xA.map Sm.t,by simp only[Ex.t_mk,Sm.t_mk,Ru.t,Fu.t,Pg.t,Ex.ow_mk,Sm.ow_mk,Ru.ow,Fu.ow,Pg.ow,List.map,List.cons_append,List.nil_append,List.append_nil,tA],by simp only[Ex.t_mk,Sm.t_mk,Ru.t,Fu.t,Pg.t,Ex.ow_mk,Sm.ow_mk,Ru.ow,Fu.ow,Pg.ow,List.map,List.cons_append,List.nil_append,List.append_nil,tA]⟩
theorem Ru.szF:SzF Ru.szs Ru.sz:=szF_of rfl Ru.szs_app Ru.szs_one
theorem Fu.cs (x:Fu):∃xName xParams xA,x.t=[T.lit (.string xName),T.sl xParams,T.sl xA]/\x.ow=[A.lit (.string xName),A.ow (0,0) 1 xParams,A.ow (0,0) 6 xA]:=by
 obtain ⟨xName,xParams,xA⟩:=x;exact ⟨xName,xParams.map strT,xA.map Sm.t,by simp only[Ex.t_mk,Sm.t_mk,Ru.t,Fu.t,Pg.t,Ex.ow_mk,Sm.ow_mk,Ru.ow,Fu.ow,Pg.ow,List.map,List.cons_append,List.nil_append,List.append_nil,tA],by simp only[Ex.t_mk,Sm.t_mk,Ru.t,Fu.t,Pg.t,Ex.ow_mk,Sm.ow_mk,Ru.ow,Fu.ow,Pg.ow,List.map,List.cons_append,List.nil_append,List.append_nil,tA]⟩
theorem Fu.szF:SzF Fu.szs Fu.sz:=szF_of rfl Fu.szs_app Fu.szs_one
theorem c_szRule (x:Ru) (hw:x.Wf):SzOk 51 (fun left=>[agT x.t,litI left]) x.sz:=by
 intro left hleft;have i1:=c_szExpr x.p hw.p;have i2:=szStmts x.a hw.a hw.a';clear hw;obtain ⟨S,hS⟩:=qX x.sz;rw[<-hS];simp only[Ru.sz] at hS;obtain ⟨xK,⟨xPK,xPN,xPS,xPL⟩,xA⟩:=x;simp only[SzOk,roT,agT,Ex.t_mk,Sm.t_mk,Ru.t,Fu.t,Pg.t,Ex.ow_mk,Sm.ow_mk,Ru.ow,Fu.ow,Pg.ow,List.map,List.cons_append,List.nil_append,List.append_nil,tA] at *;generalize xPL.map Ex.t=tPL at *;generalize xA.map Sm.t=tA at *;refine qF tyK Tryz.func51 18 [.tmp 4] ?_;unhygienic intros
 exact qSz
theorem c_toRule (x:Ru) (hz:x.sz<=1048576):ToOk 66 [agT x.t] ⟨.agg,x.ow⟩:=by
 simp only[Ru.sz] at hz;have i1:=c_toExpr x.p (by omega)
 have i2:=toStmts x.a (by omega)
 clear hz;obtain ⟨xK,⟨xPK,xPN,xPS,xPL⟩,xA⟩:=x;simp only[ToOk,EqOk,roT,agT,Ex.t_mk,Sm.t_mk,Ru.t,Fu.t,Pg.t,Ex.ow_mk,Sm.ow_mk,Ru.ow,Fu.ow,Pg.ow,List.map,List.cons_append,List.nil_append,List.append_nil,tA] at *;generalize xPL.map Ex.t=tPL at *;generalize xA.map Sm.t=tA at *;refine qF tyK Tryz.func66 16 [.cell 2 156] ?_;unhygienic intros;exact qTo
theorem c_eqRule (x:Ru) (hz:x.sz<=1048576):EqOk 91 (agT x.t):=by
 simp only[Ru.sz] at hz;have i1:=c_eqExpr x.p (by omega)
 have i2:=eqStmts x.a (by omega)
 clear hz;obtain ⟨xK,⟨xPK,xPN,xPS,xPL⟩,xA⟩:=x;simp only[ToOk,EqOk,roT,agT,Ex.t_mk,Sm.t_mk,Ru.t,Fu.t,Pg.t,Ex.ow_mk,Sm.ow_mk,Ru.ow,Fu.ow,Pg.ow,List.map,List.cons_append,List.nil_append,List.append_nil,tA] at *;generalize xPL.map Ex.t=tPL at *;generalize xA.map Sm.t=tA at *;refine qF tyK Tryz.func91 22 [.tmp 4] ?_;unhygienic intros;exact qTo
theorem szRules (l:List Ru) (hl:l.length<=maxLen) (h:∀e∈l,Ru.Wf e):SzOk 15 (fun left=>[roT (l.map Ru.t),litI left]) (l.length+Ru.szs l):=by
 intro left hleft;have ih:=fun e he=>c_szRule e (h e he);clear h;obtain ⟨els,he⟩:=qX (l.map Ru.t);simp only[roT,<-he];have hk:KOf els 6:=by rw[he];exact kOf_map Ru.t_len l
 have hcs:=Ru.cs;have hsf:=Ru.szF;generalize Ru.szs=S at *;refine qF tyK Tryz.func15 27 [.tmp 4] ?_;unhygienic intros;exact qSzS
theorem toRules (l:List Ru) (hz:l.length+Ru.szs l<=1048576):ToOk 27 [roT (l.map Ru.t)] ⟨.one,[.ow (0,0) 6 (l.map Ru.t)]⟩:=by
 have hl:l.length<=1048576:=by omega
 have ih:=fun e (he:e∈l)=>c_toRule e (by have:=sum_mem (f:=Ru.sz) he;unfold Ru.szs at hz;omega)
 clear hz;obtain ⟨els,he⟩:=qX (l.map Ru.t);simp only[roT,<-he];have hk:KOf els 6:=by rw[he];exact kOf_map Ru.t_len l
 have hcs:=Ru.cs;have hz0:Zs [T.lit (.int .i64 0),T.lit (.int .i64 0),T.lit (.int .i64 0),T.lit (.string ⟨#[]⟩),T.sl [],T.sl []]:=⟨trivial⟩;refine qF tyK Tryz.func27 23 [.tmp 2] ?_;unhygienic intros;exact qToS
theorem eqRules (l:List Ru) (hz:l.length+Ru.szs l<=1048576):EqOk 42 (roT (l.map Ru.t)):=by
 have hl:l.length<=1048576:=by omega
 have ih:=fun e (he:e∈l)=>c_eqRule e (by have:=sum_mem (f:=Ru.sz) he;unfold Ru.szs at hz;omega)
 clear hz;obtain ⟨els,he⟩:=qX (l.map Ru.t);simp only[roT,<-he];have hk:KOf els 6:=by rw[he];exact kOf_map Ru.t_len l
 have hcs:=Ru.cs;refine qF tyK Tryz.func42 27 [.tmp 4] ?_;unhygienic intros;exact qEqS
theorem c_szFn (x:Fu) (hw:x.Wf):SzOk 52 (fun left=>[agT x.t,litI left]) x.sz:=by
 intro left hleft;have i1:=szStrings x.params hw.params hw.params';have i2:=szStmts x.a hw.a hw.a';have g1:=hw.name;clear hw;obtain ⟨S,hS⟩:=qX x.sz;rw[<-hS];simp only[Fu.sz] at hS;obtain ⟨xName,xParams,xA⟩:=x;simp only[SzOk,roT,agT,Ex.t_mk,Sm.t_mk,Ru.t,Fu.t,Pg.t,Ex.ow_mk,Sm.ow_mk,Ru.ow,Fu.ow,Pg.ow,List.map,List.cons_append,List.nil_append,List.append_nil,tA] at *;generalize xParams.map strT=tParams at *
 generalize xA.map Sm.t=tA at *;refine qF tyK Tryz.func52 25 [.tmp 4] ?_;unhygienic intros;have j1:=szStr hO g1;exact qSz
theorem c_toFn (x:Fu) (hz:x.sz<=1048576):ToOk 67 [agT x.t] ⟨.agg,x.ow⟩:=by
 simp only[Fu.sz] at hz;have i1:=toStrings x.params (by omega)
 have i2:=toStmts x.a (by omega)
 clear hz;obtain ⟨xName,xParams,xA⟩:=x;simp only[ToOk,EqOk,roT,agT,Ex.t_mk,Sm.t_mk,Ru.t,Fu.t,Pg.t,Ex.ow_mk,Sm.ow_mk,Ru.ow,Fu.ow,Pg.ow,List.map,List.cons_append,List.nil_append,List.append_nil,tA] at *;generalize xParams.map strT=tParams at *;generalize xA.map Sm.t=tA at *;refine qF tyK Tryz.func67 16 [.cell 2 152] ?_;unhygienic intros;exact qTo
theorem c_eqFn (x:Fu) (hz:x.sz<=1048576):EqOk 92 (agT x.t):=by
 simp only[Fu.sz] at hz;have i1:=eqStrings x.params (by omega)
 have i2:=eqStmts x.a (by omega)
 clear hz;obtain ⟨xName,xParams,xA⟩:=x;simp only[ToOk,EqOk,roT,agT,Ex.t_mk,Sm.t_mk,Ru.t,Fu.t,Pg.t,Ex.ow_mk,Sm.ow_mk,Ru.ow,Fu.ow,Pg.ow,List.map,List.cons_append,List.nil_append,List.append_nil,tA] at *;generalize xParams.map strT=tParams at *;generalize xA.map Sm.t=tA at *;refine qF tyK Tryz.func92 22 [.tmp 4] ?_;unhygienic intros;exact qTo
theorem szFns (l:List Fu) (hl:l.length<=maxLen) (h:∀e∈l,Fu.Wf e):SzOk 16 (fun left=>[roT (l.map Fu.t),litI left]) (l.length+Fu.szs l):=by
 intro left hleft;have ih:=fun e he=>c_szFn e (h e he);clear h;obtain ⟨els,he⟩:=qX (l.map Fu.t);simp only[roT,<-he];have hk:KOf els 3:=by rw[he];exact kOf_map Fu.t_len l
 have hcs:=Fu.cs;have hsf:=Fu.szF;generalize Fu.szs=S at *;refine qF tyK Tryz.func16 27 [.tmp 4] ?_;unhygienic intros;exact qSzS
theorem toFns (l:List Fu) (hz:l.length+Fu.szs l<=1048576):ToOk 28 [roT (l.map Fu.t)] ⟨.one,[.ow (0,0) 3 (l.map Fu.t)]⟩:=by
 have hl:l.length<=1048576:=by omega
 have ih:=fun e (he:e∈l)=>c_toFn e (by have:=sum_mem (f:=Fu.sz) he;unfold Fu.szs at hz;omega)
 clear hz;obtain ⟨els,he⟩:=qX (l.map Fu.t);simp only[roT,<-he];have hk:KOf els 3:=by rw[he];exact kOf_map Fu.t_len l
 have hcs:=Fu.cs;have hz0:Zs [T.lit (.string ⟨#[]⟩),T.sl [],T.sl []]:=⟨trivial⟩;refine qF tyK Tryz.func28 23 [.tmp 2] ?_;unhygienic intros;exact qToS
theorem eqFns (l:List Fu) (hz:l.length+Fu.szs l<=1048576):EqOk 43 (roT (l.map Fu.t)):=by
 have hl:l.length<=1048576:=by omega
 have ih:=fun e (he:e∈l)=>c_eqFn e (by have:=sum_mem (f:=Fu.sz) he;unfold Fu.szs at hz;omega)
 clear hz;obtain ⟨els,he⟩:=qX (l.map Fu.t);simp only[roT,<-he];have hk:KOf els 3:=by rw[he];exact kOf_map Fu.t_len l
 have hcs:=Fu.cs;refine qF tyK Tryz.func43 27 [.tmp 4] ?_;unhygienic intros;exact qEqS
theorem c_szProg (x:Pg) (hw:x.Wf):SzOk 4 (fun left=>[agT x.t,litI left]) x.sz:=by
 intro left hleft;have i1:=szRules x.rules hw.rules hw.rules';have i2:=szFns x.fns hw.fns hw.fns';clear hw;obtain ⟨S,hS⟩:=qX x.sz;rw[<-hS];simp only[Pg.sz] at hS;obtain ⟨xRules,xFns⟩:=x;simp only[SzOk,roT,agT,Ex.t_mk,Sm.t_mk,Ru.t,Fu.t,Pg.t,Ex.ow_mk,Sm.ow_mk,Ru.ow,Fu.ow,Pg.ow,List.map,List.cons_append,List.nil_append,List.append_nil,tA] at *;generalize xRules.map Ru.t=tRules at *;generalize xFns.map Fu.t=tFns at *
 refine qF tyK Tryz.func4 18 [.tmp 4] ?_;unhygienic intros;exact qSz
theorem c_toProg (x:Pg) (hz:x.sz<=1048576):ToOk 8 [agT x.t] ⟨.agg,x.ow⟩:=by
 simp only[Pg.sz] at hz;have i1:=toRules x.rules (by omega)
 have i2:=toFns x.fns (by omega)
 clear hz;obtain ⟨xRules,xFns⟩:=x;simp only[ToOk,EqOk,roT,agT,Ex.t_mk,Sm.t_mk,Ru.t,Fu.t,Pg.t,Ex.ow_mk,Sm.ow_mk,Ru.ow,Fu.ow,Pg.ow,List.map,List.cons_append,List.nil_append,List.append_nil,tA] at *;generalize xRules.map Ru.t=tRules at *;generalize xFns.map Fu.t=tFns at *;refine qF tyK Tryz.func8 13 [.cell 2 51] ?_;unhygienic intros;exact qTo
theorem c_eqProg (x:Pg) (hz:x.sz<=1048576):EqOk 12 (agT x.t):=by
 simp only[Pg.sz] at hz;have i1:=eqRules x.rules (by omega)
 have i2:=eqFns x.fns (by omega)
 clear hz;obtain ⟨xRules,xFns⟩:=x;simp only[ToOk,EqOk,roT,agT,Ex.t_mk,Sm.t_mk,Ru.t,Fu.t,Pg.t,Ex.ow_mk,Sm.ow_mk,Ru.ow,Fu.ow,Pg.ow,List.map,List.cons_append,List.nil_append,List.append_nil,tA] at *;generalize xRules.map Ru.t=tRules at *;generalize xFns.map Fu.t=tFns at *;refine qF tyK Tryz.func12 17 [.tmp 4] ?_;unhygienic intros;exact qTo
end Go.Gv
