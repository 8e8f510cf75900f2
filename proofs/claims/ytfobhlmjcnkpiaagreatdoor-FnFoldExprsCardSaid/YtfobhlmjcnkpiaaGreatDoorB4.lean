/- Part B4 of the proof: contracts of functions of the program, each walked once. -/
import Derived.Test.YtfobhlmjcnkpiaaGreatDoorD7
import Derived.Test.YtfobhlmjcnkpiaaGreatDoorB3
import Derived.Test.YtfobhlmjcnkpiaaGreatDoorD9
import Derived.Test.YtfobhlmjcnkpiaaGreatDoorB2
import Derived.Test.YtfobhlmjcnkpiaaGreatDoorB1
set_option linter.all false
namespace Go.Gv
open Go.Av Go.Proofs Go.Shelf Go.RowKit
set_option maxRecDepth 10000
abbrev zN1 (f:FuncId):Prop:=∀r:Rx,r.Wf->ACl Tryz.prog f [agT r.t] [] (fun res bx=>∃b:Bool,(b=true↔r.good)/\res=litB b/\bx=[])
theorem VD0:zN1 205:=by
 intro r hw;have h1:=WJ0 r 1 (by omega) hw
 have h2:=uA1 r hw;have hg:r.good↔r.ok/\r.depth+1<=7/\r.parts<=60:=by unfold Rx.good;constructor<;>(rintro ⟨a,b,c⟩;exact ⟨a,by omega,by omega⟩)
 rw[hg];clear hg;generalize r.ok=o at *;generalize r.depth=dp at *;generalize r.parts=pt at *;obtain ⟨k,s,l⟩:=r;simp only[agT,Rx.t_mk,List.map,tA] at h1 h2 |-;generalize l.map Rx.t=xl at *;refine qF tyK Tryz.func205 10 [.tmp 2] ?_;unhygienic intros
 revert hK K;refine qW 0 ?_;intro K hK;refine qG ?_;refine qD hP h1 ?_;rintro res bx ⟨n,n1,n2,n3,n4,rfl,rfl⟩;refine qC ?_;revert hK K;refine qW 0 ?_;intro K hK;refine GFork.mk (fun h3=>?_) (fun h3=>?_)<;>cbv
 ·have h60:n<=60:=qw3
  revert hK K;refine qW 0 ?_;intro K hK;refine qG ?_;refine qD hP h2 ?_;rintro res bx ⟨b,hb,rfl,rfl⟩;refine qC ?_;revert hK K;refine qW 0 ?_;intro K hK;refine hR _ _ ⟨_,?_,rfl,rfl⟩;rw[hb];exact ⟨fun h=>⟨h,n3.1 h60⟩,fun h=>h.1⟩
 ·have h60:60 < n:=qw3
  revert hK K;refine qW 0 ?_;intro K hK;refine hR _ _ ⟨_,⟨fun h=>by simp at h,fun h=>?_⟩,rfl,rfl⟩
  have:=n3.2 h.2;omega
theorem mN0:zN1 164:=by
 intro r hw;have h1:=dH0 r 1 (by omega) hw
 have hg:r.good↔r.goodAt 1:=by unfold Rx.good Rx.goodAt;constructor<;>(rintro ⟨a,b,c⟩;exact ⟨a,by omega,by omega⟩)
 rw[hg];clear hg;generalize r.goodAt 1=o at *;generalize r.parts=pt at *;obtain ⟨k,s,l⟩:=r;simp only[agT,Rx.t_mk,List.map,tA] at h1 |-;generalize l.map Rx.t=xl at *;refine qF tyK Tryz.func164 6 [.tmp 2] ?_;unhygienic intros
 revert hK K;refine qW 0 ?_;intro K hK;refine qG ?_;refine qD hP h1 ?_;rintro res bx ⟨n,n1,n2,n3,n4,rfl,rfl⟩;refine qC ?_;revert hK K;refine qW 0 ?_;intro K hK;refine hR _ _ ⟨_,?_,rfl,rfl⟩;rw[<-n3];cases hO;simp only[Ops.std,sCm,decide_eq_true_eq,Int.ofNat_eq_natCast];omega
def xY0 (b:Bs):List Rx->Bs
 | []=>[]
 | [x]=>x.unit
 | x::y::r=>x.unit++b++xY0 b (y::r)
theorem nQ0 (b:Bs) (x:Rx):∀l,xY0 b (l++[x])=xY0 b l++(if l=[] then [] else b)++x.unit
 | []=>by simp[xY0]
 | [y]=>by simp[xY0]
 | y::z::r=>by
  have:=nQ0 b x (z::r);simp only[List.cons_append] at this |-;rw[xY0,xY0,this];simp
theorem wJ0:∀l,xY0 [] l=Rx.cats l
 | []=>by rw[xY0,Rx.cats]
 | [x]=>by rw[xY0,Rx.cats_cons,Rx.cats,List.append_nil]
 | x::y::r=>by rw[xY0,wJ0 (y::r),Rx.cats_cons x,List.append_nil]
theorem fW0:∀l:List Rx,(∀x∈l,x.k≠5)->xY0 [124] l=Rx.alts l
 | [],_=>by rw[xY0,Rx.alts]
 | [x],h=>by rw[xY0,Rx.alts,Rx.unit,if_neg (h x List.mem_cons_self)]
 | x::y::r,h=>by
  rw[xY0,fW0 (y::r) fun z hz=>h z (List.mem_cons_of_mem _ hz),Rx.alts,Rx.unit,if_neg (h x List.mem_cons_self)];simp
theorem hC0 (b:Bs) (hb:b.length<=1):∀l:List Rx,(∀x∈l,x.txt.length+2<=16 * x.parts)->(xY0 b l).length<=17 * Rx.partss l
 | [],_=>by simp[xY0]
 | [x],h=>by
  have:=h x List.mem_cons_self;rw[xY0,Rx.partss,Rx.partss,Rx.unit]
  split<;>(try simp only[List.length_cons,List.length_append,List.length_nil])<;>omega
 | x::y::r,h=>by
  have h1:=h x List.mem_cons_self;have h2:=hC0 b hb (y::r) fun z hz=>h z (List.mem_cons_of_mem _ hz);have:=x.parts_pos;rw[xY0,Rx.partss,List.length_append,List.length_append,Rx.unit]
  split<;>(try simp only[List.length_cons,List.length_append,List.length_nil])<;>omega
abbrev pX0 (f:FuncId) (r:Rx):Prop:=ACl Tryz.prog f [agT r.t] [] (fun res bx=>∃t,t=ofL r.txt/\res=litS t/\bx=[])
def nU1 (xl:List (List T)) (b:ByteArray) (l:List Rx) (N:Nat) (σ:AS):Prop:=
 ∃(i:Nat) (t:ByteArray),σ=⟨vag 44 [(0,⟨.one,[.ro true xl]⟩),(1,litS b),(2,litI 5),(7,litS t),(8,litI (Int.ofNat i))],[],1⟩/\i<=l.length/\t=ofL (xY0 (toL b) (l.take i))/\N=l.length - i
theorem pJ0 (l:List Rx) (b:ByteArray) (hb:b.size<=1) (ih:∀x∈l,pX0 206 x) (hlen:l.length<=8) (hsz:∀x∈l,x.txt.length<=100000) (hj:∀i,(xY0 (toL b) (l.take i)).length<=100000) (xl:List (List T)) (hxl:xl=l.map Rx.t) :
  ACl Tryz.prog 226 [roT xl,litS b,litI 5] [] (fun res bx=>∃t,t=ofL (xY0 (toL b) l)/\res=litS t/\bx=[]):=by
 refine qF tyK Tryz.func226 44 [.tmp 6] ?_;unhygienic intros
 obtain ⟨N,hN⟩:=qX l.length;have hln:len xl=N:=lnO hO (by simp[hxl,hN])
 have ha:all xl 3:=alO hO (by subst hxl;simp[Rx.t_len])
 have hsadd:∀x y:Bs,sadd (ofL x) (ofL y)=ofL (x++y):=fun x y=>by cases hO;exact bG0 x y
 have hsok:∀x y:ByteArray,x.size+y.size<=1000000->sOk x y:=fun x y h=>by cases hO;show x.size+y.size<=9223372036854775807;omega
 rw[<-hN] at hlen;revert hK K;refine qW 0 ?_;intro K hK;refine qL 0 [0,1,2,7,8] kk0 (nU1 xl b l) ?_ ?_
 ·cbv
  exact ⟨_,0,⟨⟨[]⟩⟩,by cbv,by simp,by simp[xY0];rfl,rfl⟩
 rintro m σ ⟨i,t,rfl,g1,g2,rfl⟩;rw[<-hN];revert hK K;refine qW 0 ?_;intro K hK;simp only[hln];refine nC rfl (fun h3=>?_) (fun h3=>?_)
 ·have hlt:i < N:=qv3
  obtain ⟨x,hx,hx',ht,e1⟩:=mpA hO hxl (hN ▸ hlt);have e:bin .add .i64 (Int.ofNat i) 1=_:=iSc hO (by omega)
  have hidx:idx (Int.ofNat i) (len xl):=hln ▸ ixN hO hlt;have hcall:=ih x hx;unfold pX0 at hcall;have hsx:=hsz x hx;have hji:=hj i;have hsn:=nQ0 (toL b) x (l.take i);rw[<-ht] at hsn;have hne:l.take i=[]↔i=0:=by
   constructor
   ·intro h
    have:=congrArg List.length h;rw[List.length_take,List.length_nil] at this;omega
   ·rintro rfl;rfl
  have hu5:x.k=5->x.unit=40::(x.txt++[41]):=fun h=>by rw[Rx.unit,if_pos h]
  have hun5:x.k≠5->x.unit=x.txt:=fun h=>by rw[Rx.unit,if_neg h]
  generalize x.unit=ux at *;generalize x.txt=tx at *;obtain ⟨acc,hacc⟩:=qX (xY0 (toL b) (l.take i));rw[<-hacc] at g2 hsn hji;have hbl:(toL b).length<=1:=by rw[zJ0];exact hb
  obtain ⟨kx,s',l'⟩:=x;simp only[agT,Rx.t_mk,Rx.k,List.map,tA] at hcall e1 hu5 hun5;generalize l'.map Rx.t=xl' at hcall e1;revert hK K;refine qW 0 ?_;intro K hK;refine nC rfl (fun h5=>?_) (fun h5=>?_)
  ·have hpos:0 < i:=qw5
   rw[if_neg (fun h=>by have:=hne.1 h;omega)] at hsn
   obtain ⟨t1,ht1⟩:=qX (ofL (acc++toL b));have es0:sadd t b=t1:=by rw[g2,ht1];have:=hsadd acc (toL b);rwa[tM0] at this
   have hjs:=hsn;have hal:(acc++toL b).length<=100001:=by rw[List.length_append];omega
   revert hK K;refine qW 0 ?_;intro K hK;simp only[es0];refine ndC (hsok _ _ (by rw[g2,zP0];omega)) (ndN ?_)
   revert hK K;refine qW 0 ?_;intro K hK
   repeat (simp only[e1];cbv)
   refine ndC hidx (ndC ha (ndN ?_));revert hK K;refine qW 0 ?_;intro K hK;refine nC rfl (fun h6=>?_) (fun h6=>?_)
   ·have hk5:kx=5:=qv6
    have hunit:=hu5 hk5;obtain ⟨u1,hu1⟩:=qX (ofL ((acc++(toL b))++[40]));have es1:sadd t1 ⟨⟨[40]⟩⟩=u1:=by rw[ht1,hu1];exact hsadd _ [40]
    revert hK K;refine qW 0 ?_;intro K hK
    repeat (simp only[e1];cbv)
    simp only[es1];refine ndC (hsok _ _ (by rw[ht1,zP0];show _+1<=_;omega)) (ndC hidx (ndC ha (ndN ?_)))
    refine qG ?_;refine qD hP hcall ?_;rintro res bx ⟨w,hw,rfl,rfl⟩;refine qC ?_;obtain ⟨u2,hu2⟩:=qX (ofL ((acc++(toL b))++[40]++tx));have es2:sadd u1 w=u2:=by rw[hu1,hw,hu2];exact hsadd _ _
    obtain ⟨u3,hu3⟩:=qX (ofL ((acc++(toL b))++[40]++tx++[41]));have es3:sadd u2 ⟨⟨[41]⟩⟩=u3:=by rw[hu2,hu3];exact hsadd _ [41]
    simp only[es2,es3];refine ndC (hsok _ _ (by rw[hu1,hw,zP0,zP0];simp;omega)) (ndC (hsok _ _ (by rw[hu2,zP0];show _+1<=_;simp;omega)) (ndN ?_))
    revert hK K;refine qW 0 ?_;intro K hK;rw[e];exact ⟨N - (i+1),by omega,i+1,u3,by cbv,by omega,by rw[hu3,hjs,hunit];simp,by rw[hN]⟩
   ·have hk5:kx≠5:=qv6
    have hunit:=hun5 hk5;revert hK K;refine qW 0 ?_;intro K hK
    repeat (simp only[e1];cbv)
    refine ndC hidx (ndC ha (ndN ?_));refine qG ?_;refine qD hP hcall ?_;rintro res bx ⟨w,hw,rfl,rfl⟩;refine qC ?_;obtain ⟨u2,hu2⟩:=qX (ofL ((acc++(toL b))++tx));have es2:sadd t1 w=u2:=by rw[ht1,hw,hu2];exact hsadd _ _
    simp only[es2];refine ndC (hsok _ _ (by rw[ht1,hw,zP0,zP0];omega)) (ndN ?_)
    revert hK K;refine qW 0 ?_;intro K hK;rw[e];exact ⟨N - (i+1),by omega,i+1,u2,by cbv,by omega,by rw[hu2,hjs,hunit],by rw[hN]⟩
  ·have hpos:i=0:=qw5
   rw[if_pos (hne.2 hpos),List.append_nil] at hsn;have hjs:=hsn;have hal:acc.length<=100001:=by omega
   revert hK K;refine qW 0 ?_;intro K hK
   repeat (simp only[e1];cbv)
   refine ndC hidx (ndC ha (ndN ?_));revert hK K;refine qW 0 ?_;intro K hK;refine nC rfl (fun h6=>?_) (fun h6=>?_)
   ·have hk5:kx=5:=qv6
    have hunit:=hu5 hk5;obtain ⟨u1,hu1⟩:=qX (ofL (acc++[40]));have es1:sadd t ⟨⟨[40]⟩⟩=u1:=by rw[g2,hu1];exact hsadd _ [40]
    revert hK K;refine qW 0 ?_;intro K hK
    repeat (simp only[e1];cbv)
    simp only[es1];refine ndC (hsok _ _ (by rw[g2,zP0];show _+1<=_;omega)) (ndC hidx (ndC ha (ndN ?_)))
    refine qG ?_;refine qD hP hcall ?_;rintro res bx ⟨w,hw,rfl,rfl⟩;refine qC ?_;obtain ⟨u2,hu2⟩:=qX (ofL (acc++[40]++tx));have es2:sadd u1 w=u2:=by rw[hu1,hw,hu2];exact hsadd _ _
    obtain ⟨u3,hu3⟩:=qX (ofL (acc++[40]++tx++[41]));have es3:sadd u2 ⟨⟨[41]⟩⟩=u3:=by rw[hu2,hu3];exact hsadd _ [41]
    simp only[es2,es3];refine ndC (hsok _ _ (by rw[hu1,hw,zP0,zP0];simp;omega)) (ndC (hsok _ _ (by rw[hu2,zP0];show _+1<=_;simp;omega)) (ndN ?_))
    revert hK K;refine qW 0 ?_;intro K hK;rw[e];exact ⟨N - (i+1),by omega,i+1,u3,by cbv,by omega,by rw[hu3,hjs,hunit];simp,by rw[hN]⟩
   ·have hk5:kx≠5:=qv6
    have hunit:=hun5 hk5;revert hK K;refine qW 0 ?_;intro K hK
    repeat (simp only[e1];cbv)
    refine ndC hidx (ndC ha (ndN ?_));refine qG ?_;refine qD hP hcall ?_;rintro res bx ⟨w,hw,rfl,rfl⟩;refine qC ?_;obtain ⟨u2,hu2⟩:=qX (ofL (acc++tx));have es2:sadd t w=u2:=by rw[g2,hw,hu2];exact hsadd _ _
    simp only[es2];refine ndC (hsok _ _ (by rw[g2,hw,zP0,zP0];omega)) (ndN ?_)
    revert hK K;refine qW 0 ?_;intro K hK;rw[e];exact ⟨N - (i+1),by omega,i+1,u2,by cbv,by omega,by rw[hu2,hjs,hunit],by rw[hN]⟩
 ·have hge:i=N:=qw3
  rw[List.take_of_length_le (by omega)] at g2
  revert hK K;refine qW 0 ?_;intro K hK;exact hR _ _ ⟨t,g2,rfl,rfl⟩
set_option maxHeartbeats 8000000
theorem Rx.txt_len:∀(m:Nat) (y:Rx),y.parts<=m->y.ok->y.txt.length+2<=16 * y.parts
 | 0,y,h,_=>by have:=y.parts_pos;omega
 | m+1,.mk k s l,h,hy=>by
  obtain ⟨hh,hl⟩:=Rx.ok_inv hy;rw[Rx.parts] at h;have ih:∀x∈l,x.txt.length+2<=16 * x.parts:=fun x hx=>Rx.txt_len m x (by have:=Rx.parts_mem hx;omega) (hl x hx)
  rw[Rx.parts];rcases hh with ⟨rfl,⟨c,hc,hb⟩,rfl⟩ | ⟨rfl,hs,rfl⟩ | ⟨hk,rfl,rfl⟩ | ⟨hk,rfl,h2,h8,hne⟩ | ⟨hk,rfl,x,rfl,hx⟩
  ·rw[Rx.txt,if_pos rfl,hc,Rx.partss];simp
  ·simp only[setB,Bool.and_eq_true,decide_eq_true_eq] at hs
   rw[Rx.txt];simp[Rx.partss];omega
  ·rcases hk with rfl | rfl | rfl | rfl<;>rw[Rx.txt,Rx.partss]<;>simp
  ·rcases hk with rfl | rfl
   ·have e:(Rx.mk 4 (ofL []) l).txt=Rx.cats l:=by rw[Rx.txt];rfl
    rw[e,<-wJ0];have:=joinB_len16 l ih;omega
   ·have e:(Rx.mk 5 (ofL []) l).txt=Rx.alts l:=by rw[Rx.txt];rfl
    rw[e];have:=alts_len16 l ih;omega
  ·have h1:=ih x List.mem_cons_self
   have e:(Rx.mk k (ofL []) [x]).txt.length=(Rx.one [x]).length+1:=by rcases hk with rfl | rfl | rfl<;>rw[Rx.txt]<;>simp
   rw[e,Rx.one_cons,Rx.partss,Rx.partss]
   split<;>(try simp only[List.length_cons,List.length_append,List.length_nil])<;>omega
where
 joinB_len16:∀l:List Rx,(∀x∈l,x.txt.length+2<=16 * x.parts)->(xY0 [] l).length<=16 * Rx.partss l
 | [],_=>by simp[xY0]
 | x::l,h=>by
  have h1:=h x List.mem_cons_self;have h2:=joinB_len16 l fun z hz=>h z (List.mem_cons_of_mem _ hz);rw[wJ0] at h2 |-;rw[Rx.cats_cons,List.length_append,Rx.partss,Rx.unit]
  split<;>(try simp only[List.length_cons,List.length_append,List.length_nil])<;>omega
 alts_len16:∀l:List Rx,(∀x∈l,x.txt.length+2<=16 * x.parts)->(Rx.alts l).length<=16 * Rx.partss l
 | [],_=>by simp[Rx.alts]
 | [x],h=>by have:=h x List.mem_cons_self;rw[Rx.alts,Rx.partss];omega
 | x::y::r,h=>by
  have h1:=h x List.mem_cons_self;have h2:=alts_len16 (y::r) fun z hz=>h z (List.mem_cons_of_mem _ hz);rw[Rx.alts,List.length_append,List.length_cons,Rx.partss];omega
theorem WK0 (x:Rx) (ih:pX0 206 x) (hs:x.txt.length<=100000):ACl Tryz.prog 227 [agT x.t] [] (fun res bx=>∃t,t=ofL (Rx.one [x])/\res=litS t/\bx=[]):=by
 unfold pX0 at ih;rw[Rx.one_cons];have h1:(x.k=4\/x.k=5)->(if x.k=4\/x.k=5 then 40::(x.txt++[41]) else x.txt)=40::(x.txt++[41]):=fun h=>if_pos h
 have h2:¬(x.k=4\/x.k=5)->(if x.k=4\/x.k=5 then 40::(x.txt++[41]) else x.txt)=x.txt:=fun h=>if_neg h
 generalize (if x.k=4\/x.k=5 then 40::(x.txt++[41]) else x.txt)=tt at *
 generalize x.txt=tx at *;obtain ⟨k,s,l⟩:=x;simp only[agT,Rx.t_mk,Rx.k,List.map,tA] at ih h1 h2 |-;generalize l.map Rx.t=xl at *;refine qF tyK Tryz.func227 17 [.tmp 2] ?_;unhygienic intros
 have hsadd:∀x y:Bs,sadd (ofL x) (ofL y)=ofL (x++y):=fun x y=>by cases hO;exact bG0 x y
 have hsok:∀x y:ByteArray,x.size+y.size<=1000000->sOk x y:=fun x y h=>by cases hO;show x.size+y.size<=9223372036854775807;omega
 have hc:∀c:Int,cmp .eql k c=true↔k=c:=fun c=>by cases hO;simp only[Ops.std,sCm,beq_iff_eq]
 have hc4:=hc 4;have hc5:=hc 5;obtain ⟨w0,hw0⟩:=qX (ofL tx);obtain ⟨u1,hu1⟩:=qX (ofL ([40]++tx));have es1:sadd ⟨⟨[40]⟩⟩ w0=u1:=by rw[hw0,hu1];exact hsadd [40] tx
 obtain ⟨u2,hu2⟩:=qX (ofL ([40]++tx++[41]));have es2:sadd u1 ⟨⟨[41]⟩⟩=u2:=by rw[hu1,hu2];exact hsadd _ [41]
 have n1:sOk ⟨⟨[40]⟩⟩ w0:=hsok _ _ (by rw[hw0,zP0];show 1+_<=_;omega)
 have n2:sOk u1 ⟨⟨[41]⟩⟩:=hsok _ _ (by rw[hu1,zP0];show _+1<=_;simp;omega)
 have q1:k=4\/k=5->u2=ofL tt:=fun h=>by rw[h1 h,hu2];rfl
 have q2:¬(k=4\/k=5)->w0=ofL tt:=fun h=>by rw[h2 h,hw0]
 rw[<-hw0] at ih;clear h1 h2 hu2 hu1 hw0 hc hs hsadd;refine qO ?_
 repeat' first|(revert hK K;refine qV 0 ?_;intro K hK)|(refine qK (fun _=>?_) fun _=>?_)|(simp only[es1,es2];try cbv)|(with_reducible refine ndC ?h ?_;case h=>first | exact n1 | exact n2)|(refine qG ?_;refine qD hP ih ?_;rintro res bx ⟨w,hw,rfl,rfl⟩;refine qC ?_)|(simp only[hw];try cbv)|fail
 all_goals (first | exact hR _ _ ⟨_,q1 (by first | exact .inl (hc4.1 (by assumption)) | exact .inr (hc5.1 (by assumption))),rfl,rfl⟩|(refine hR _ _ ⟨_,q2 ?_,rfl,rfl⟩;clear hR ih;simp_all))
theorem ZE0 (k:Int) (s:ByteArray) (l:List Rx) (hok:(Rx.mk k s l).ok) (hp:(Rx.mk k s l).parts<=60) (ih:∀x∈l,pX0 206 x):pX0 206 (.mk k s l):=by
 have htl:=Rx.txt_len _ _ (Nat.le_refl _) hok;obtain ⟨hh,hl⟩:=Rx.ok_inv hok;have hpl:Rx.partss l<=59:=by rw[Rx.parts] at hp;omega
 have hxl':∀x∈l,x.txt.length+2<=16 * x.parts:=fun x hx=>Rx.txt_len _ _ (Nat.le_refl _) (hl x hx);have hsz:∀x∈l,x.txt.length<=100000:=fun x hx=>by have:=hxl' x hx;have:=Rx.parts_mem hx;omega
 have hj:∀b:Bs,b.length<=1->∀i,(xY0 b (l.take i)).length<=100000:=fun b hb i=>by
  have:=hC0 b hb (l.take i) fun x hx=>hxl' x (List.mem_of_mem_take hx);have:=partss_take l i;omega
 obtain ⟨TT,hTT⟩:=qX (ofL (Rx.mk k s l).txt);have p1:k=1->s=TT:=fun h=>by subst h;rw[hTT,Rx.txt,if_pos rfl,tM0]
 have p2:k=2->(⟨⟨[46]⟩⟩:ByteArray)=TT:=fun h=>by subst h;rw[hTT,Rx.txt];rfl
 have p10:k=10->(⟨⟨[94]⟩⟩:ByteArray)=TT:=fun h=>by subst h;rw[hTT,Rx.txt];rfl
 have p11:k=11->(⟨⟨[36]⟩⟩:ByteArray)=TT:=fun h=>by subst h;rw[hTT,Rx.txt];rfl
 have p9:k≠1->k≠2->k≠3->k≠4->k≠5->k≠6->k≠7->k≠8->k≠10->k≠11->(⟨⟨[40,41]⟩⟩:ByteArray)=TT:=fun a1 a2 a3 a4 a5 a6 a7 a8 a9 a10=>by
  rw[hTT,Rx.txt,if_neg a1,if_neg a2,if_neg a3,if_neg a4,if_neg a5,if_neg a6,if_neg a7,if_neg a8,if_neg a9,if_neg a10];rfl
 have p3:k=3->ofL ([91]++toL s++[93])=TT/\s.size<=10:=fun h=>by
  subst h;rcases hh with ⟨h1,_⟩ | ⟨_,hs,_⟩ | ⟨h1,_⟩ | ⟨h1,_⟩ | ⟨h1,_⟩<;>try (exact absurd h1 (by decide))
  simp only[setB,Bool.and_eq_true,decide_eq_true_eq,zJ0] at hs;exact ⟨by rw[hTT,Rx.txt];rfl,hs.2⟩
 have p45:k=4\/k=5->l.length<=8/\∀x∈l,x.k≠k:=fun h=>by
  rcases hh with ⟨h1,_⟩ | ⟨h1,_⟩ | ⟨h1,_⟩ | ⟨_,_,_,h8,hne⟩ | ⟨h1,_⟩
  ·omega
  ·omega
  ·omega
  ·exact ⟨h8,hne⟩
  ·omega
 have p4:k=4->ofL (xY0 [] l)=TT:=fun h=>by subst h;rw[hTT,wJ0,Rx.txt];rfl
 have p5:k=5->ofL (xY0 [124] l)=TT:=fun h=>by
  have:=(p45 (.inr h)).2;subst h;rw[hTT,fW0 l this,Rx.txt];rfl
 have p678:k=6\/k=7\/k=8->∃x,l=[x]:=fun h=>by
  rcases hh with ⟨h1,_⟩ | ⟨h1,_⟩ | ⟨h1,_⟩ | ⟨h1,_⟩ | ⟨_,_,x,hx,_⟩
  ·omega
  ·omega
  ·omega
  ·omega
  ·exact ⟨x,hx⟩
 obtain ⟨x0,hx0⟩:∃x0:Rx,k=6\/k=7\/k=8->l=[x0]:=by
  by_cases h:k=6\/k=7\/k=8
  ·obtain ⟨x,hx⟩:=p678 h;exact ⟨x,fun _=>hx⟩
  ·exact ⟨default,fun h'=>absurd h' h⟩
 have pr:∀(c:Int) (b:UInt8),(c=6/\b=42)\/(c=7/\b=43)\/(c=8/\b=63)->k=c->ofL (Rx.one [x0]++[b])=TT:=fun c b hcb h=>by
  have hl0:=hx0 (by omega)
  subst h;rw[hTT,hl0];rcases hcb with ⟨rfl,rfl⟩ | ⟨rfl,rfl⟩ | ⟨rfl,rfl⟩<;>rw[Rx.txt]<;>rfl
 have hone:k=6\/k=7\/k=8->ACl Tryz.prog 227 [agT x0.t] [] (fun res bx=>∃t,t=ofL (Rx.one [x0])/\res=litS t/\bx=[]):=fun h=>
  WK0 x0 (ih x0 (by rw[hx0 h];simp)) (hsz x0 (by rw[hx0 h];simp))
 have honel:k=6\/k=7\/k=8->(Rx.one [x0]).length<=100002:=fun h=>by
  have:=hsz x0 (by rw[hx0 h];simp)
  rw[Rx.one_cons];split<;>(try simp only[List.length_cons,List.length_append,List.length_nil])<;>omega
 obtain ⟨xl,hxl⟩:=qX (l.map Rx.t);have hj4:k=4->ACl Tryz.prog 226 [roT xl,litS ⟨⟨[]⟩⟩,litI 5] [] (fun res bx=>∃t,t=TT/\res=litS t/\bx=[]):=fun h=>by
  rw[<-p4 h];exact pJ0 l ⟨⟨[]⟩⟩ (by decide) ih (p45 (.inl h)).1 hsz (hj [] (by simp)) xl hxl
 have hj5:k=5->ACl Tryz.prog 226 [roT xl,litS ⟨⟨[124]⟩⟩,litI 5] [] (fun res bx=>∃t,t=TT/\res=litS t/\bx=[]):=fun h=>by
  rw[<-p5 h];exact pJ0 l ⟨⟨[124]⟩⟩ (by decide) ih (p45 (.inr h)).1 hsz (hj [124] (by simp)) xl hxl
 unfold pX0;rw[<-hTT];simp only[agT,Rx.t_mk,List.map,tA];rw[<-hxl];generalize Rx.one [x0]=ot at *;refine qF tyK Tryz.func206 55 [.tmp 2] ?_;unhygienic intros
 have hsadd:∀x y:Bs,sadd (ofL x) (ofL y)=ofL (x++y):=fun x y=>by cases hO;exact bG0 x y
 have hsok:∀x y:ByteArray,x.size+y.size<=1000000->sOk x y:=fun x y h=>by cases hO;show x.size+y.size<=9223372036854775807;omega
 have ha:all xl 3:=alO hO (by subst hxl;simp[Rx.t_len])
 have hc:∀c:Int,cmp .eql k c=true↔k=c:=fun c=>by cases hO;simp only[Ops.std,sCm,beq_iff_eq]
 have hx0':k=6\/k=7\/k=8->idx 0 (len xl)/\get xl (nat 0)=x0.t:=fun h=>by
  have hl1:l.length=1:=by rw[hx0 h];rfl
  obtain ⟨x,_,q2,_,q4⟩:=mpA hO hxl (i:=0) (by omega)
  rw[hx0 h] at q2;simp at q2;subst q2;have hln:len xl=1:=lnO hO (by simp[hxl,hl1])
  exact ⟨by rw[hln];exact ixN hO (i:=0) (n:=1) (by omega),q4⟩
 obtain ⟨u1,hu1⟩:=qX (ofL ([91]++toL s));have es1:sadd ⟨⟨[91]⟩⟩ s=u1:=by rw[hu1,<-hsadd,tM0];rfl
 obtain ⟨u2,hu2⟩:=qX (ofL ([91]++toL s++[93]));have es2:sadd u1 ⟨⟨[93]⟩⟩=u2:=by rw[hu1,hu2];exact hsadd _ [93]
 rw[<-hu2] at p3;have n1:k=3->sOk ⟨⟨[91]⟩⟩ s:=fun h=>hsok _ _ (by have:=(p3 h).2;show 1+_<=_;omega)
 have n2:k=3->sOk u1 ⟨⟨[93]⟩⟩:=fun h=>hsok _ _ (by have:=(p3 h).2;rw[hu1,zP0,List.length_append,zJ0];show _+1<=_;simp;omega)
 obtain ⟨w0,hw0⟩:=qX (ofL ot);rw[<-hw0] at hone;have r6:k=6->sadd w0 ⟨⟨[42]⟩⟩=TT:=fun h=>by rw[hw0,<-pr 6 42 (by decide) h];exact hsadd _ [42]
 have r7:k=7->sadd w0 ⟨⟨[43]⟩⟩=TT:=fun h=>by rw[hw0,<-pr 7 43 (by decide) h];exact hsadd _ [43]
 have r8:k=8->sadd w0 ⟨⟨[63]⟩⟩=TT:=fun h=>by rw[hw0,<-pr 8 63 (by decide) h];exact hsadd _ [63]
 have n6:∀b:UInt8,k=6\/k=7\/k=8->sOk w0 ⟨⟨[b]⟩⟩:=fun b h=>hsok _ _ (by have:=honel h;rw[hw0,zP0];show _+1<=_;omega)
 have hk6:cmp .eql k 6=true\/cmp .eql k 7=true\/cmp .eql k 8=true->k=6\/k=7\/k=8:=fun h=>by rw[hc,hc,hc] at h;exact h
 obtain ⟨k0,s0,l0⟩:=x0;simp only[agT,Rx.t_mk,List.map,tA] at hx0' hone;generalize l0.map Rx.t=xl0 at *;clear hx0 pr p678 hj hsz hxl' hpl hl hh htl hp hok ih p4 p5 p45 honel hsadd hu1 hw0 hTT;refine qO ?_
 repeat' first|(revert hK K;refine qV 0 ?_;intro K hK)|(refine qK (fun _=>?_) fun _=>?_)|(simp only[es1,es2];try cbv)|(have e0:=(hx0' (hk6 (by first | exact .inl (by assumption) | exact .inr (.inl (by assumption)) | exact .inr (.inr (by assumption))))).2;simp only[e0];(try cbv))|(with_reducible refine ndC ?h ?_;case h=>first | exact n1 ((hc 3).1 (by assumption)) | exact n2 ((hc 3).1 (by assumption)) | exact ha | exact (hx0' (hk6 (by first | exact .inl (by assumption) | exact .inr (.inl (by assumption)) | exact .inr (.inr (by assumption))))).1 | exact n6 _ (hk6 (by first | exact .inl (by assumption) | exact .inr (.inl (by assumption)) | exact .inr (.inr (by assumption)))))|(refine qG ?_;refine qD hP (hj4 ((hc 4).1 (by assumption))) ?_;rintro res bx ⟨w,rfl,rfl,rfl⟩;refine qC ?_)|(refine qG ?_;refine qD hP (hj5 ((hc 5).1 (by assumption))) ?_;rintro res bx ⟨w,rfl,rfl,rfl⟩;refine qC ?_)|(refine qG ?_;refine qD hP (hone (hk6 (by first | exact .inl (by assumption) | exact .inr (.inl (by assumption)) | exact .inr (.inr (by assumption))))) ?_;rintro res bx ⟨w,hw,rfl,rfl⟩;refine qC ?_)|(simp only[hw];try cbv)|fail
 all_goals ((try cbv);first | exact hR _ _ ⟨_,p1 ((hc 1).1 (by assumption)),rfl,rfl⟩ | exact hR _ _ ⟨_,p2 ((hc 2).1 (by assumption)),rfl,rfl⟩ | exact hR _ _ ⟨_,(p3 ((hc 3).1 (by assumption))).1,rfl,rfl⟩ | exact hR _ _ ⟨_,rfl,rfl,rfl⟩ | exact hR _ _ ⟨_,r6 ((hc 6).1 (by assumption)),rfl,rfl⟩ | exact hR _ _ ⟨_,r7 ((hc 7).1 (by assumption)),rfl,rfl⟩ | exact hR _ _ ⟨_,r8 ((hc 8).1 (by assumption)),rfl,rfl⟩ | exact hR _ _ ⟨_,p10 ((hc 10).1 (by assumption)),rfl,rfl⟩ | exact hR _ _ ⟨_,p11 ((hc 11).1 (by assumption)),rfl,rfl⟩ | exact hR _ _ ⟨_,p9 (fun h=>by have:=(hc 1).2 h;simp_all) (fun h=>by have:=(hc 2).2 h;simp_all) (fun h=>by have:=(hc 3).2 h;simp_all) (fun h=>by have:=(hc 4).2 h;simp_all) (fun h=>by have:=(hc 5).2 h;simp_all) (fun h=>by have:=(hc 6).2 h;simp_all) (fun h=>by have:=(hc 7).2 h;simp_all) (fun h=>by have:=(hc 8).2 h;simp_all) (fun h=>by have:=(hc 10).2 h;simp_all) (fun h=>by have:=(hc 11).2 h;simp_all),rfl,rfl⟩)
theorem PG0 (r:Rx):r.ok->r.parts<=60->pX0 206 r:=by
 obtain ⟨k,s,l⟩:=r;intro hok hp;exact ZE0 k s l hok hp fun x hx=>PG0 x ((Rx.ok_inv hok).2 x hx) (by have:=Rx.parts_mem hx;rw[Rx.parts] at hp;omega)
termination_by SizeOf.sizeOf r
decreasing_by
 have:=List.sizeOf_lt_of_mem hx;simp;omega
abbrev pY0 (f:FuncId):Prop:=∀r:Rx,r.Wf->ACl Tryz.prog f [agT r.t] [] (fun res bx=>∃t,(r.good->t=ofL r.txt)/\(¬r.good->t=⟨⟨[]⟩⟩)/\res=litS t/\bx=[])
theorem gZ0:pY0 178:=by
 intro r hw;have h1:=VD0 r hw;have h2:=fun h:r.good=>PG0 r h.1 h.2.1;unfold pX0 at h2;generalize r.good=g at *;generalize r.txt=tx at *;obtain ⟨k,s,l⟩:=r;simp only[agT,Rx.t_mk,List.map,tA] at h1 h2 |-;generalize l.map Rx.t=xl at *;refine qF tyK Tryz.func178 8 [.tmp 2] ?_;unhygienic intros
 have hnt:bnot true=false:=by cases hO;rfl
 have hnf:bnot false=true:=by cases hO;rfl
 revert hK K;refine qW 0 ?_;intro K hK;refine qG ?_;refine qD hP h1 ?_;rintro res bx ⟨b,hb,rfl,rfl⟩;refine qC ?_;cases b
 ·revert hK K;refine qW 0 ?_;intro K hK
  simp only[hnf];revert hK K;refine qW 0 ?_;intro K hK;exact hR _ _ ⟨_,fun h=>absurd (hb.2 h) (by simp),fun _=>rfl,rfl,rfl⟩
 ·revert hK K;refine qW 0 ?_;intro K hK
  simp only[hnt];revert hK K;refine qW 0 ?_;intro K hK;refine qG ?_;refine qD hP (h2 (hb.1 rfl)) ?_;rintro res bx ⟨t,ht,rfl,rfl⟩;refine qC ?_;revert hK K;refine qW 0 ?_;intro K hK;exact hR _ _ ⟨t,fun _=>ht,fun h=>absurd (hb.1 rfl) h,rfl,rfl⟩
theorem c_alt:∀L,ReadI 163 mAlt 8 L:=by
 intro L
 induction L using Nat.strongRecOn with
 | _ L ih=>exact MV0 L (MT0 L (TJ0 L (TL0 L ih)))
def inv26 (k:Int) (kt:List (List T)) (ks:List Int) (N:Nat) (σ:AS):Prop:=
 ∃(i:Nat),σ=⟨vag 19 [(0,⟨.one,[.ro true kt]⟩),(1,litI k),(7,litI (Int.ofNat ks.length)),(8,litI (Int.ofNat i))],[],1⟩/\i<=ks.length/\(∀p y,p < i->ks[p]?=some y->y≠k)/\N=ks.length - i
theorem MZ0 (k:Int) (kt:List (List T)) (ks:List Int) (hkt:kt=ks.map fun k=>[T.lit (.int .i64 k)]) (hl:ks.length<=1048576) :
  ACl Tryz.prog 234 [⟨.one,[.ro true kt]⟩,litI k] [] (fun res bx=>∃r:Int,(0<=r↔k∈ks)/\res=litI r/\bx=[]):=by
 refine qF tyK Tryz.func234 19 [.tmp 4] ?_;unhygienic intros
 obtain ⟨N,hN⟩:=qX ks.length;have hln:len kt=N:=lnO hO (by simp[hkt,hN])
 have ha:all kt 1:=alO hO (by subst hkt;simp)
 rw[<-hN] at hl;revert hK K;refine qW 0 ?_;intro K hK;simp only[hln];refine qL 0 [0,1,7,8] kk0 (inv26 k kt ks) ?_ ?_
 ·cbv
  exact ⟨_,0,by rw[<-hN];cbv,by omega,by omega,rfl⟩
 rintro m σ ⟨i,rfl,g1,g2,rfl⟩;rw[<-hN];revert hK K;refine qW 0 ?_;intro K hK;refine nC rfl (fun h3=>?_) (fun h3=>?_)
 ·have hlt:i < N:=qv3
  have e:bin .add .i64 (Int.ofNat i) 1=_:=iSc hO (by omega)
  have hidx:idx (Int.ofNat i) (len kt):=hln ▸ ixN hO hlt;obtain ⟨y,hy⟩:∃y,ks[i]?=some y:=⟨_,List.getElem?_eq_getElem (hN ▸ hlt)⟩;have e1:get kt (nat (Int.ofNat i))=[T.lit (.int .i64 y)]:=by cases hO;rw[hkt];simp[Ops.std,hy]
  revert hK K;refine qW 0 ?_;intro K hK
  repeat (simp only[e1];cbv)
  refine ndC hidx (ndC ha (ndN ?_));revert hK K;refine qW 0 ?_;intro K hK;refine nC rfl (fun h5=>?_) (fun h5=>?_)
  ·have hyk:k=y:=qv5
   revert hK K;refine qW 0 ?_;intro K hK;exact hR _ _ ⟨_,⟨fun _=>by rw[hyk];exact List.mem_of_getElem? hy,fun _=>Int.natCast_nonneg _⟩,rfl,rfl⟩
  ·have hyk:k≠y:=qv5
   revert hK K;refine qW 0 ?_;intro K hK;rw[e];exact ⟨N - (i+1),by omega,i+1,by rw[<-hN];cbv,by omega,fun p z hp hz=>by
    by_cases hpi:p=i
    ·rw[hpi,hy] at hz;rw[<-Option.some.inj hz];exact fun h=>hyk h.symm
    ·exact g2 p z (by omega) hz,by rw[hN]⟩
 ·have hge:i=N:=qw3
  revert hK K;refine qW 0 ?_;intro K hK;refine hR _ _ ⟨_,⟨fun h=>absurd h (by decide),fun h=>?_⟩,rfl,rfl⟩
  obtain ⟨p,hp⟩:=List.mem_iff_getElem?.1 h;exact absurd rfl (g2 p k (by have:=(List.getElem?_eq_some_iff.1 hp).1;omega) hp)
theorem YA0 (k:Int) (kt:List (List T)) (ks:List Int) (hkt:kt=ks.map fun k=>[T.lit (.int .i64 k)]) (hl:ks.length<=1048576) :
  ACl Tryz.prog 214 [⟨.one,[.ro true kt]⟩,litI k] [] (fun res bx=>∃b:Bool,(b=true↔k∈ks)/\res=litB b/\bx=[]):=by
 have hi:=MZ0 k kt ks hkt hl;refine qF tyK Tryz.func214 9 [.tmp 4] ?_;unhygienic intros
 revert hK K;refine qW 0 ?_;intro K hK;refine qG ?_;refine qD hP hi ?_;rintro res bx ⟨r,hr,rfl,rfl⟩;refine qC ?_;revert hK K;refine qW 0 ?_;intro K hK;refine hR _ _ ⟨_,?_,rfl,rfl⟩;rw[<-hr];clear hM hP hC hR;cases hO;simp[Ops.std,sCm]
def VX0 (r:Rx) (ks:List Int):Bs:=if r.k∈ks then 40::(r.txt++[41]) else r.txt
theorem fG0 (r:Rx):VX0 r []=r.txt:=if_neg (by simp)
theorem ND0 (r:Rx):VX0 r [5]=r.unit:=by unfold VX0 Rx.unit;simp
theorem KZ0 (r:Rx) (l:List Rx):VX0 r [4,5]=Rx.one (r::l):=by rw[Rx.one_cons];unfold VX0;simp
abbrev YG0 (r:Rx):Prop:=∀(ks:List Int),ks.length<=2->∀kt,kt=(ks.map fun k=>[T.lit (.int .i64 k)])->ACl Tryz.prog 182 [agT r.t,⟨.one,[.ro true kt]⟩] [] (fun res bx=>∃t,t=ofL (VX0 r ks)/\res=litS t/\bx=[])
theorem hB0:∀l:List Rx,XP0 ⟨⟨[124]⟩⟩ (l.map fun x=>ofL x.txt)=ofL (Rx.alts l)
 | []=>rfl
 | [x]=>by
  rw[Rx.alts];unfold XP0;rw[List.map_cons,List.map_nil,List.map_cons,List.map_nil,Lib.join_one]
 | x::y::r=>by
  have ih:=hB0 (y::r);have h2:∀(a:Bs) (b:Bs) (rest:List Bs),Lib.join (a::b::rest) [124]=a++124::Lib.join (b::rest) [124]:=fun a b rest=>by simp[Lib.join,List.intercalate]
  rw[Rx.alts];have ih':Lib.join (List.map (·.data.toList) (List.map (fun x=>ofL x.txt) (y::r))) [124]=Rx.alts (y::r):=by
   have:=congrArg toL ih;rw[uH0] at this;rw[<-this]
   show _=toL (ofL _)
   rw[uH0]
  show ofL (Lib.join (toL (ofL x.txt)::List.map (·.data.toList) (List.map (fun x=>ofL x.txt) (y::r))) [124])=_
  rw[List.map_cons,List.map_cons] at ih' |-;rw[h2,ih',uH0]
theorem wT1 {O:Ops} (hO:O=Ops.std) {els:List (List T)} {out:List ByteArray} (he:els=strs out) (v:ByteArray):O.app els [[T.lit (.string v)]]=strs (out++[v]):=by
 subst hO;subst he;simp[Ops.std,strs]
theorem FQ0 (l:List Rx) (x:Rx):Rx.cats (l++[x])=Rx.cats l++x.unit:=by
 rw[<-wJ0,nQ0,wJ0]
 split<;>simp
def nT1 (kt:List (List T)) (cs:List A) (xl:List (List T)) (l:List Rx) (N:Nat) (σ:AS):Prop:=
 ∃(i:Nat) (t:ByteArray),σ=⟨vag 98 [(1,⟨.one,[.ro true kt]⟩),(2,⟨.one,[.ptr 0 0]⟩),(5,litS t),(28,⟨.one,[.ro true xl]⟩),(29,litI (Int.ofNat l.length)),(30,litI (Int.ofNat i))],[some cs],1⟩/\i<=l.length/\t=ofL (Rx.cats (l.take i))/\N=l.length - i
def nR1 (kt:List (List T)) (cs:List A) (xl:List (List T)) (l:List Rx) (N:Nat) (σ:AS):Prop:=
 ∃(i:Nat) (els:List (List T)),σ=⟨vag 98 [(1,⟨.one,[.ro true kt]⟩),(2,⟨.one,[.ptr 0 0]⟩),(8,⟨.one,[.ow (0,0) false 1 els]⟩),(43,⟨.one,[.ro true xl]⟩),(44,litI (Int.ofNat l.length)),(45,litI (Int.ofNat i))],[some cs],1⟩/\i<=l.length/\els=strs ((l.take i).map fun x=>ofL x.txt)/\N=l.length - i
theorem gX0 (k:Int) (s:ByteArray) (l:List Rx) (hok:(Rx.mk k s l).ok) (hp:(Rx.mk k s l).parts<=60) (ih:∀x∈l,YG0 x):YG0 (.mk k s l):=by
 intro ks hks kt hkt;have htl:=Rx.txt_len _ _ (Nat.le_refl _) hok;obtain ⟨hh,hl⟩:=Rx.ok_inv hok;have hpl:Rx.partss l<=59:=by rw[Rx.parts] at hp;omega
 have hxl':∀x∈l,x.txt.length+2<=16 * x.parts:=fun x hx=>Rx.txt_len _ _ (Nat.le_refl _) (hl x hx);have hsz:∀x∈l,x.txt.length<=100000:=fun x hx=>by have:=hxl' x hx;have:=Rx.parts_mem hx;omega
 have hj:∀b:Bs,b.length<=1->∀i,(xY0 b (l.take i)).length<=100000:=fun b hb i=>by
  have:=hC0 b hb (l.take i) fun x hx=>hxl' x (List.mem_of_mem_take hx);have:=partss_take l i;omega
 have hTl:(Rx.mk k s l).txt.length<=100000:=by omega
 have hIn:VX0 (Rx.mk k s l) ks=if k∈ks then 40::((Rx.mk k s l).txt++[41]) else (Rx.mk k s l).txt:=rfl
 obtain ⟨tt,htt⟩:=qX ((Rx.mk k s l).txt);rw[<-htt] at hIn hTl;obtain ⟨TT,hTT⟩:=qX (ofL tt);rw[htt] at hTT;have p1:k=1->s=TT:=fun h=>by subst h;rw[hTT,Rx.txt,if_pos rfl,tM0]
 have p2:k=2->(⟨⟨[46]⟩⟩:ByteArray)=TT:=fun h=>by subst h;rw[hTT,Rx.txt];rfl
 have p10:k=10->(⟨⟨[94]⟩⟩:ByteArray)=TT:=fun h=>by subst h;rw[hTT,Rx.txt];rfl
 have p11:k=11->(⟨⟨[36]⟩⟩:ByteArray)=TT:=fun h=>by subst h;rw[hTT,Rx.txt];rfl
 have p9:k=9->(⟨⟨[40,41]⟩⟩:ByteArray)=TT:=fun h=>by subst h;rw[hTT,Rx.txt];rfl
 have hall:k=1\/k=2\/k=3\/k=4\/k=5\/k=6\/k=7\/k=8\/k=9\/k=10\/k=11:=by
  rcases hh with ⟨h1,_⟩ | ⟨h1,_⟩ | ⟨h1,_⟩ | ⟨h1,_⟩ | ⟨h1,_⟩<;>omega
 have p3:k=3->ofL ([91]++toL s++[93])=TT/\s.size<=10:=fun h=>by
  subst h;rcases hh with ⟨h1,_⟩ | ⟨_,hs,_⟩ | ⟨h1,_⟩ | ⟨h1,_⟩ | ⟨h1,_⟩<;>try (exact absurd h1 (by decide))
  simp only[setB,Bool.and_eq_true,decide_eq_true_eq,zJ0] at hs;exact ⟨by rw[hTT,Rx.txt];rfl,hs.2⟩
 have p45:k=4\/k=5->l.length<=8/\∀x∈l,x.k≠k:=fun h=>by
  rcases hh with ⟨h1,_⟩ | ⟨h1,_⟩ | ⟨h1,_⟩ | ⟨_,_,_,h8,hne⟩ | ⟨h1,_⟩
  ·omega
  ·omega
  ·omega
  ·exact ⟨h8,hne⟩
  ·omega
 have p4:k=4->ofL (Rx.cats l)=TT:=fun h=>by subst h;rw[hTT,Rx.txt];rfl
 have p5:k=5->ofL (Rx.alts l)=TT:=fun h=>by subst h;rw[hTT,Rx.txt];rfl
 have p5l:k=5->(Rx.alts l).length<=100000:=fun h=>by
  have:=hTl;rw[htt] at this;subst h;rw[Rx.txt] at this;exact this
 have p678:k=6\/k=7\/k=8->∃x,l=[x]:=fun h=>by
  rcases hh with ⟨h1,_⟩ | ⟨h1,_⟩ | ⟨h1,_⟩ | ⟨h1,_⟩ | ⟨_,_,x,hx,_⟩
  ·omega
  ·omega
  ·omega
  ·omega
  ·exact ⟨x,hx⟩
 obtain ⟨x0,hx0⟩:∃x0:Rx,k=6\/k=7\/k=8->l=[x0]:=by
  by_cases h:k=6\/k=7\/k=8
  ·obtain ⟨x,hx⟩:=p678 h;exact ⟨x,fun _=>hx⟩
  ·exact ⟨default,fun h'=>absurd h' h⟩
 have pr:∀(c:Int) (b:UInt8),(c=6/\b=42)\/(c=7/\b=43)\/(c=8/\b=63)->k=c->ofL (Rx.one [x0]++[b])=TT:=fun c b hcb h=>by
  have hl0:=hx0 (by omega)
  subst h;rw[hTT,hl0];rcases hcb with ⟨rfl,rfl⟩ | ⟨rfl,rfl⟩ | ⟨rfl,rfl⟩<;>rw[Rx.txt]<;>rfl
 have hone:k=6\/k=7\/k=8->ACl Tryz.prog 182 [agT x0.t,⟨.one,[.ro true [[T.lit (.int .i64 4)],[T.lit (.int .i64 5)]]]⟩] [] (fun res bx=>∃t,t=ofL (Rx.one [x0])/\res=litS t/\bx=[]):=fun h=>by
  have:=ih x0 (by rw[hx0 h];simp) [4,5] (by simp) _ rfl
  rwa[KZ0 x0 []] at this
 have honel:k=6\/k=7\/k=8->(Rx.one [x0]).length<=100002:=fun h=>by
  have:=hsz x0 (by rw[hx0 h];simp)
  rw[Rx.one_cons];split<;>(try simp only[List.length_cons,List.length_append,List.length_nil])<;>omega
 have ih4:∀x∈l,ACl Tryz.prog 182 [agT x.t,⟨.one,[.ro true [[T.lit (.int .i64 5)]]]⟩] [] (fun res bx=>∃t,t=ofL x.unit/\res=litS t/\bx=[]):=fun x hx=>by
  have:=ih x hx [5] (by simp) _ rfl
  rwa[ND0] at this
 have ih5:∀x∈l,ACl Tryz.prog 182 [agT x.t,⟨.one,[.nil]⟩] [] (fun res bx=>∃t,t=ofL x.txt/\res=litS t/\bx=[]):=fun x hx=>by
  have:=ih x hx [] (by simp) _ rfl
  rw[fG0] at this;exact ACl.nilLast this
 obtain ⟨xl,hxl⟩:=qX (l.map Rx.t);have hcon:=YA0 k kt ks hkt (by omega)
 rw[hIn];have hun:∀x∈l,x.unit.length<=100002:=fun x hx=>by
  have:=hsz x hx;unfold Rx.unit;split<;>(try simp only[List.length_cons,List.length_append,List.length_nil])<;>omega
 have hj4:∀i,(Rx.cats (l.take i)).length<=100000:=fun i=>by rw[<-wJ0];exact hj [] (by simp) i
 have hl8:k=4\/k=5->l.length<=8:=fun h=>(p45 h).1;rw[<-htt] at hTT;simp only[agT,Rx.t_mk,List.map,tA];rw[<-hxl];generalize Rx.one [x0]=ot at *;clear htt hIn p45 hj hsz hxl' hpl hl hh htl hp hok ih p678 hks hkt;refine qF tyK Tryz.func182 98 [.tmp 4] ?_;unhygienic intros
 have hsadd:∀x y:Bs,sadd (ofL x) (ofL y)=ofL (x++y):=fun x y=>by cases hO;exact bG0 x y
 have hsok:∀x y:ByteArray,x.size+y.size<=1000000->sOk x y:=fun x y h=>by cases hO;show x.size+y.size<=9223372036854775807;omega
 have ha:all xl 3:=alO hO (by subst hxl;simp[Rx.t_len])
 obtain ⟨N,hN⟩:=qX l.length;have hlen:len xl=N:=lnO hO (by simp[hxl,hN])
 have hc:∀c:Int,cmp .eql k c=true↔k=c:=fun c=>by cases hO;simp only[Ops.std,sCm,beq_iff_eq]
 have hx0':k=6\/k=7\/k=8->idx 0 (len xl)/\get xl (nat 0)=x0.t:=fun h=>by
  have hl1:l.length=1:=by rw[hx0 h];rfl
  obtain ⟨x,_,q2,_,q4⟩:=mpA hO hxl (i:=0) (by omega)
  rw[hx0 h] at q2;simp at q2;subst q2;have hln:len xl=1:=lnO hO (by simp[hxl,hl1])
  exact ⟨by rw[hln];exact ixN hO (i:=0) (n:=1) (by omega),q4⟩
 obtain ⟨u1,hu1⟩:=qX (ofL ([91]++toL s));have es1:sadd ⟨⟨[91]⟩⟩ s=u1:=by rw[hu1,<-hsadd,tM0];rfl
 obtain ⟨u2,hu2⟩:=qX (ofL ([91]++toL s++[93]));have es2:sadd u1 ⟨⟨[93]⟩⟩=u2:=by rw[hu1,hu2];exact hsadd _ [93]
 rw[<-hu2] at p3;have n1:k=3->sOk ⟨⟨[91]⟩⟩ s:=fun h=>hsok _ _ (by have:=(p3 h).2;show 1+_<=_;omega)
 have n2:k=3->sOk u1 ⟨⟨[93]⟩⟩:=fun h=>hsok _ _ (by have:=(p3 h).2;rw[hu1,zP0,List.length_append,zJ0];show _+1<=_;simp;omega)
 obtain ⟨w0,hw0⟩:=qX (ofL ot);rw[<-hw0] at hone;have r6:k=6->sadd w0 ⟨⟨[42]⟩⟩=TT:=fun h=>by rw[hw0,<-pr 6 42 (by decide) h];exact hsadd _ [42]
 have r7:k=7->sadd w0 ⟨⟨[43]⟩⟩=TT:=fun h=>by rw[hw0,<-pr 7 43 (by decide) h];exact hsadd _ [43]
 have r8:k=8->sadd w0 ⟨⟨[63]⟩⟩=TT:=fun h=>by rw[hw0,<-pr 8 63 (by decide) h];exact hsadd _ [63]
 have n6:∀b:UInt8,k=6\/k=7\/k=8->sOk w0 ⟨⟨[b]⟩⟩:=fun b h=>hsok _ _ (by have:=honel h;rw[hw0,zP0];show _+1<=_;omega)
 have hk6:cmp .eql k 6=true\/cmp .eql k 7=true\/cmp .eql k 8=true->k=6\/k=7\/k=8:=fun h=>by rw[hc,hc,hc] at h;exact h
 obtain ⟨k0,s0,l0⟩:=x0;simp only[agT,Rx.t_mk,List.map,tA] at hx0' hone;generalize l0.map Rx.t=xl0 at *;clear hx0 pr honel hu1 hw0
 conv=>whnf
 clear hK K;apply FP0 (S:=fun t:ByteArray=>⟨vag 98 [(1,⟨.one,[.ro true kt]⟩),(2,⟨.one,[.ptr 0 0]⟩),(5,litS t)],[some [.lit (.int .i64 k),.lit (.string s),.ro true xl]],1⟩) (H:=fun t=>t=TT)
 ·intro rest
  have K:=0;have hK:=True.intro;refine qO ?_
  repeat' first|(refine nWr (id:=35) (nb:=1) (keep:=fun t=>t == 1 || t == 2 || t == 5) (kk:=fun _ _=>none) (by simp at hC;simp[hC]) ?_;cbv;refine rest _ ?_)|(revert hK K;refine qS 0 ?_;intro K hK)|(refine qK (fun _=>?_) fun _=>?_)|(simp only[es1,es2];try cbv)|(have e0:=(hx0' (hk6 (by first | exact .inl (by assumption) | exact .inr (.inl (by assumption)) | exact .inr (.inr (by assumption))))).2;simp only[e0];(try cbv))|(with_reducible refine ndC ?h ?_;case h=>first | exact n1 ((hc 3).1 (by assumption)) | exact n2 ((hc 3).1 (by assumption)) | exact ha | exact (hx0' (hk6 (by first | exact .inl (by assumption) | exact .inr (.inl (by assumption)) | exact .inr (.inr (by assumption))))).1 | exact n6 _ (hk6 (by first | exact .inl (by assumption) | exact .inr (.inl (by assumption)) | exact .inr (.inr (by assumption)))))|(refine qg (nS []) ?_;refine qC ?_;refine qD hP (hone (hk6 (by first | exact .inl (by assumption) | exact .inr (.inl (by assumption)) | exact .inr (.inr (by assumption))))) ?_;rintro res bx ⟨w,hw,rfl,rfl⟩;refine qC ?_)|(simp only[hw];try cbv)|fail
  all_goals ((try cbv);first | exact p1 ((hc 1).1 (by assumption)) | exact p2 ((hc 2).1 (by assumption)) | exact (p3 ((hc 3).1 (by assumption))).1 | exact r6 ((hc 6).1 (by assumption)) | exact r7 ((hc 7).1 (by assumption)) | exact r8 ((hc 8).1 (by assumption)) | exact p9 ((hc 9).1 (by assumption)) | exact p10 ((hc 10).1 (by assumption)) | exact p11 ((hc 11).1 (by assumption)) | skip)
  ·have hk4:k=4:=(hc 4).1 (by assumption)
   have hp4:=p4 hk4;have hN8:N<=8:=by rw[hN];exact hl8 (.inl hk4)
   clear p1 p2 p3 p4 p5 p5l p9 p10 p11 hall ih5 hcon hone r6 r7 r8 n1 n2 n6 hk6 hx0' es1 es2;obtain ⟨cs,hcs⟩:=qX ([.lit (.int .i64 k),.lit (.string s),.ro true xl]:List A);simp only[hlen];refine qL 1 [1,2,5,28,29,30] kk0 (nT1 kt cs xl l) ?_ ?_
   ·cbv
    exact ⟨_,0,⟨⟨[]⟩⟩,by (try rw[hcs]);rw[<-hN];cbv,by simp,by simp[Rx.cats];rfl,rfl⟩
   rintro m σ ⟨i,t,rfl,g1,g2,rfl⟩
   try rw[hcs]
   rw[<-hN];revert hK K;refine qW 0 ?_;intro K hK;refine nC rfl (fun h3=>?_) (fun h3=>?_)
   ·have hlt:i < N:=qv3
    obtain ⟨x,hx,hx',ht,e1⟩:=mpA hO hxl (hN ▸ hlt);have e:bin .add .i64 (Int.ofNat i) 1=_:=iSc hO (by omega)
    have hidx:idx (Int.ofNat i) (len xl):=hlen ▸ ixN hO hlt;have hcall:=ih4 x hx;have hux:=hun x hx;have hji:=hj4 i;have hsn:=FQ0 (l.take i) x;rw[<-ht] at hsn;generalize x.unit=ux at *;obtain ⟨acc,hacc⟩:=qX (Rx.cats (l.take i));rw[<-hacc] at g2 hsn hji;obtain ⟨w1,hw1⟩:=qX (ofL ux);obtain ⟨u3,hu3⟩:=qX (ofL (acc++ux));have es3:sadd t w1=u3:=by rw[g2,hw1,hu3];exact hsadd _ _
    have nk:sOk t w1:=hsok _ _ (by rw[g2,hw1,zP0,zP0];omega)
    obtain ⟨k',s',l'⟩:=x;simp only[agT,Rx.t_mk,List.map,tA] at hcall e1;generalize l'.map Rx.t=xl' at hcall e1;revert hK K;refine qW 0 ?_;intro K hK
    repeat (simp only[e1];cbv)
    refine ndC hidx (ndC ha (ndN ?_));revert hK K;refine qW 0 ?_;intro K hK;refine qg (nS []) ?_;refine qC ?_;refine qD hP hcall ?_;rintro res bx ⟨w,hw,rfl,rfl⟩;refine qC ?_;obtain rfl:w=w1:=hw.trans hw1.symm;simp only[es3];refine ndC nk (ndN ?_);revert hK K;refine qW 0 ?_;intro K hK;rw[e];exact ⟨N - (i+1),by omega,i+1,u3,by (try rw[hcs]);rw[<-hN];cbv,by omega,by rw[hu3,hsn],by rw[hN]⟩
   ·have hge:i=N:=qw3
    rw[List.take_of_length_le (by omega)] at g2
    refine qO ?_
    repeat' first|(refine nWr (id:=35) (nb:=1) (keep:=fun t=>t == 1 || t == 2 || t == 5) (kk:=fun _ _=>none) (by simp at hC;simp[hC]) ?_;cbv;refine rest _ ?_)|(revert hK K;refine qS 0 ?_;intro K hK)|(refine qK (fun _=>?_) fun _=>?_)|fail
    all_goals (exact g2.trans hp4)
  ·have hk5:k=5:=(hc 5).1 (by assumption)
   have hp5:=p5 hk5;have hp5l:=p5l hk5;have hN8:N<=8:=by rw[hN];exact hl8 (.inr hk5)
   clear p1 p2 p3 p4 p5 p5l p9 p10 p11 hall ih4 hcon hone r6 r7 r8 n1 n2 n6 hk6 hx0' es1 es2;obtain ⟨cs,hcs⟩:=qX ([.lit (.int .i64 k),.lit (.string s),.ro true xl]:List A);simp only[hlen];refine qL 1 [1,2,8,43,44,45] (fun r _=>if r=.slot 8 then some 1 else none) (nR1 kt cs xl l) ?_ ?_
   ·cbv
    exact ⟨_,0,[],by (try rw[hcs]);rw[<-hN];cbv,by simp,rfl,rfl⟩
   rintro m σ ⟨i,els,rfl,g1,g2,rfl⟩
   try rw[hcs]
   rw[<-hN];revert hK K;refine qW 0 ?_;intro K hK;refine nC rfl (fun h3=>?_) (fun h3=>?_)
   ·have hlt:i < N:=qv3
    obtain ⟨x,hx,hx',ht,e1⟩:=mpA hO hxl (hN ▸ hlt);have e:bin .add .i64 (Int.ofNat i) 1=_:=iSc hO (by omega)
    have hidx:idx (Int.ofNat i) (len xl):=hlen ▸ ixN hO hlt;have hcall:=ih5 x hx;obtain ⟨w1,hw1⟩:=qX (ofL x.txt);rw[<-hw1] at hcall;obtain ⟨els',hels'⟩:=qX (strs ((l.take (i+1)).map fun x=>ofL x.txt));have happ:app els [[T.lit (.string w1)]]=els':=by rw[hels',ht,List.map_append,List.map_cons,List.map_nil,<-hw1];exact wT1 hO g2 w1
    have hel:els.length<=8:=by rw[g2,RF0,List.length_map,List.length_take];omega
    have haok:∀b,b<=64->aOk b els [[T.lit (.string w1)]]:=fun b hb=>dR0 hO (by
     have:(els.length+1) * b<=9 * 64:=Nat.mul_le_mul (by omega) hb
     simp only[List.length_cons,List.length_nil,Nat.zero_add] at this |-;omega) (by simp only[List.length_cons,List.length_nil];omega)
    obtain ⟨k',s',l'⟩:=x;simp only[agT,Rx.t_mk,List.map,tA] at hcall e1;generalize l'.map Rx.t=xl' at hcall e1;revert hK K;refine qW 0 ?_;intro K hK
    repeat (simp only[e1];cbv)
    refine ndC hidx (ndC ha (ndN ?_));revert hK K;refine qW 0 ?_;intro K hK;refine qg (nS []) ?_;refine qC ?_;refine qD hP hcall ?_;rintro res bx ⟨w,hw,rfl,rfl⟩;refine qC ?_;obtain rfl:w=w1:=hw;revert hK K;refine qW 0 ?_;intro K hK;simp only[happ];refine ndC (alO hO (by simp)) (ndC (haok _ (by decide)) (ndN ?_))
    revert hK K;refine qW 0 ?_;intro K hK;rw[e];exact ⟨N - (i+1),by omega,i+1,els',by (try rw[hcs]);rw[<-hN];cbv,by omega,hels',by rw[hN]⟩
   ·have hge:i=N:=qw3
    rw[List.take_of_length_le (by omega)] at g2
    have hjoin:=mN1 ⟨⟨[124]⟩⟩ els (l.map fun x=>ofL x.txt) g2 (by rw[List.length_map];omega) (by rw[hB0,zP0];omega)
    rw[hB0,hp5] at hjoin;refine qO ?_
    repeat' first|(refine nWr (id:=35) (nb:=1) (keep:=fun t=>t == 1 || t == 2 || t == 5) (kk:=fun _ _=>none) (by simp at hC;simp[hC]) ?_;cbv;refine rest _ ?_)|(revert hK K;refine qS 0 ?_;intro K hK)|(refine qK (fun _=>?_) fun _=>?_)|(refine qg (nS []) ?_;refine qC ?_;refine qD hP hjoin ?_;rintro res bx ⟨w,hw,rfl,rfl⟩;refine qC ?_)|fail
    all_goals (exact hw)
  ·exfalso
   rcases hall with h | h | h | h | h | h | h | h | h | h | h<;>(have:=(hc _).2 h;simp_all)
 ·intro t ht
  have K:=0;have hK:=True.intro;have htl:t.size<=100000:=by rw[ht,hTT,zP0];exact hTl
  obtain ⟨v1,hv1⟩:=qX (ofL ([40]++tt));have es3:sadd ⟨⟨[40]⟩⟩ t=v1:=by rw[hv1,ht,hTT];exact hsadd [40] tt
  obtain ⟨v2,hv2⟩:=qX (ofL ([40]++tt++[41]));have es4:sadd v1 ⟨⟨[41]⟩⟩=v2:=by rw[hv1,hv2];exact hsadd _ [41]
  have k1:sOk ⟨⟨[40]⟩⟩ t:=hsok _ _ (by show 1+_<=_;omega)
  have k2:sOk v1 ⟨⟨[41]⟩⟩:=hsok _ _ (by rw[hv1,zP0,List.length_append];show 1+_+1<=_;omega)
  clear p1 p2 p3 p4 p5 p5l p9 p10 p11 hall ih4 ih5 hone r6 r7 r8 n1 n2 n6 hk6 hx0' es1 es2;revert hK K;refine qW 0 ?_;intro K hK;refine qG ?_;refine qD hP hcon ?_;rintro res bx ⟨b,hb,rfl,rfl⟩;refine qC ?_;cases b
  ·revert hK K;refine qW 0 ?_;intro K hK
   exact hR _ _ ⟨t,by rw[if_neg (fun h=>absurd (hb.2 h) (by simp)),ht,hTT],rfl,rfl⟩
  ·revert hK K;refine qW 0 ?_;intro K hK
   simp only[es3,es4];refine ndC k1 (ndC k2 (ndN ?_));revert hK K;refine qW 0 ?_;intro K hK;exact hR _ _ ⟨v2,by rw[if_pos (hb.1 rfl),hv2];rfl,rfl,rfl⟩
theorem WH0 (r:Rx):r.ok->r.parts<=60->YG0 r:=by
 obtain ⟨k,s,l⟩:=r;intro hok hp;exact gX0 k s l hok hp fun x hx=>WH0 x ((Rx.ok_inv hok).2 x hx) (by have:=Rx.parts_mem hx;rw[Rx.parts] at hp;omega)
termination_by SizeOf.sizeOf r
decreasing_by
 have:=List.sizeOf_lt_of_mem hx;simp;omega
set_option maxHeartbeats 4000000
def inv20 (s:ByteArray) (i d:Nat) (z:ByteArray) (N:Nat) (σ:AS):Prop:=
 ∃(j d':Nat) (bad:Bool) (xs:List Rx) (xl:List (List T)),σ=⟨vag 61 [(0,⟨.one,[.ptr 0 0]⟩),(2,⟨.one,[.ptr 1 0]⟩),(3,⟨.one,[.ow (0,0) false 3 xl]⟩)],[rdS s j bad (Int.ofNat d'),some [.lit (.int .i64 0),.lit (.string z),.nil]],1⟩/\
  xl=xs.map Rx.t/\i<=j/\j<=s.size/\xs.length+i<=j+1/\(d<=d'/\d'<=9)/\(bad=false->d'=d/\i < j/\xs.length+i<=j)/\(∀x∈xs,x.Wf)/\CatI (8 - d) ((toL s).drop i) xs bad ((toL s).drop j)/\N=(s.size - j)+(if bad=true then 0 else 1)
theorem WL0 (L:Nat) (hI:ReadOk 223 mItem L):ReadOk 203 mCat L:=by
 refine ReadOk.of fun s i d hs hi hL hd=>?_;have hItem:=fun (j:Nat) (h1:i<=j) (h2:j<=s.size)=>hI.opened s j d hs h2 (by omega) hd
 clear hI;refine qF tyK Tryz.func203 61 [.cell 2 138] ?_;unhygienic intros
 obtain ⟨N,hN⟩:=qX s.size;have hsz:size s=N:=by cases hO;exact hN.symm
 have hnt:bnot true=false:=by cases hO;rfl
 have hnf:bnot false=true:=by cases hO;rfl
 revert hK K;refine qW 1 ?_;intro K hK;refine qg (nN [0]) ?_;refine qC ?_;refine qD hP (hItem i (Nat.le_refl _) hi) ?_;rintro res bx ⟨x,k,sx,xl0,j,bad,d',qt,q1,q2,q3,q4,q5,q6,rfl,rfl⟩;refine qC ?_;revert hK K;refine qW 1 ?_;intro K hK;refine qL 2 [0,2,3] kk0 (inv20 s i d ⟨⟨[]⟩⟩) ?_ ?_
 ·cbv
  exact ⟨_,j,d',bad,[x],_,by cbv,by rw[<-qt];rfl,q2,q3,by simp;omega,q4,fun h=>by have:=q5 h;refine ⟨this.1,this.2,?_⟩;simp only[List.length_cons,List.length_nil];omega,by simpa using q1,xV1 q6,rfl⟩
 rintro m σ ⟨j,d',bad,xs,xl,rfl,hxl,g1,g2,g3,g4,g5,g6,g7,rfl⟩;cases bad
 ·obtain ⟨rfl,g5',g5''⟩:=g5 rfl
  revert hK K;refine qW 1 ?_;intro K hK;simp only[hnf];revert hK K;refine qW 1 ?_;intro K hK;simp only[hsz];refine GFork.mk (fun h3=>?_) (fun h3=>?_)<;>cbv
  ·have hlt2:j < N:=qv3
   obtain ⟨c,hc,e2⟩:∃c,(toL s)[j]?=some c/\byte s (nat (Int.ofNat j))=Int.ofNat c.toNat:=byte_at hO (hN ▸ hlt2);have hidx2:idx (Int.ofNat j) (size s):=hsz ▸ ixN hO hlt2;have h124:Int.ofNat c.toNat=124↔c=124:=by rw[uA0];exact ⟨fun h=>Int.ofNat.inj h,fun h=>by rw[h];rfl⟩
   have h41:Int.ofNat c.toNat=41↔c=41:=by rw[uA0];exact ⟨fun h=>Int.ofNat.inj h,fun h=>by rw[h];rfl⟩
   have hdr:=drop_cons hc;generalize Int.ofNat c.toNat=ci at e2 h124 h41;revert hK K;refine qW 1 ?_;intro K hK;refine ndC hidx2 (ndN ?_);simp only[e2];refine GFork.mk (fun h5=>?_) (fun h5=>?_)<;>cbv
   ·have n124:ci≠124:=qv5
    revert hK K;refine qW 1 ?_;intro K hK;simp only[e2];refine ndC hidx2 (ndN ?_);revert hK K;refine qW 1 ?_;intro K hK;refine nC rfl (fun h7=>?_) (fun h7=>?_)
    ·have n41:ci≠41:=qv7
     have n124':c≠124:=fun h=>n124 (h124.2 h);have n41':c≠41:=fun h=>n41 (h41.2 h);clear h5 h7 h124 h41;revert hK K;refine qW 1 ?_;intro K hK;refine qg (nN [0]) ?_;refine qC ?_;refine qD hP (hItem j g1 g2) ?_;rintro res bx ⟨x,k,sx,xl0,j',bad,d2,qt,q1,q2,q3,q4,q5,q6,rfl,rfl⟩;refine qC ?_;obtain ⟨xl',hxl'⟩:=qX ((xs++[x]).map Rx.t);have happ:app xl [[T.lit (.int .i64 k),T.lit (.string sx),T.sl xl0]]=xl':=by rw[hxl'];exact VK0 hO hxl x qt
     have haok:∀b,b<=64->aOk b xl [[T.lit (.int .i64 k),T.lit (.string sx),T.sl xl0]]:=fun b hb=>dR0 hO (by
      have:(xl.length+1) * b<=1099511627778 * 64:=Nat.mul_le_mul (by rw[hxl,List.length_map];omega) hb
      simp only[List.length_cons,List.length_nil,Nat.zero_add] at this |-;omega) (by rw[hxl,List.length_map];simp only[List.length_cons,List.length_nil];omega)
     have hnew:=WD0 g7 hdr n124' n41' q6;have hmeas:(s.size - j')+(if bad=true then 0 else 1) < (s.size - j)+1:=by
      cases bad
      ·have:=(q5 rfl).2;simp only[Bool.false_eq_true,if_false];omega
      ·simp only[if_true];omega
     revert hK K;refine qW 1 ?_;intro K hK;simp only[happ];refine ndC (alO hO (by simp)) (ndC (haok _ (by decide)) (ndN ?_))
     revert hK K;refine qW 1 ?_;intro K hK;exact ⟨_,hmeas,j',d2,bad,xs++[x],xl',by cbv,hxl',by omega,q3,by simp only[List.length_append,List.length_cons,List.length_nil];omega,q4,fun h=>by have:=q5 h;refine ⟨this.1,by omega,?_⟩;simp only[List.length_append,List.length_cons,List.length_nil];omega,fun y hy=>by
      rcases List.mem_append.1 hy with hy | hy
      ·exact g6 y hy
      ·obtain rfl:=List.mem_singleton.1 hy;exact q1,hnew,rfl⟩
    ·have y41:ci=41:=qv7
     obtain rfl:=h41.1 y41;have hfin:=vP0 g7 (.inr (.inr ⟨_,_,hdr,.inr (.inl rfl)⟩));clear h5 h7 h124 h41;have hln:len xl=xs.length:=lnO hO (by simp[hxl])
     revert hK K;refine qW 1 ?_;intro K hK;simp only[hln];refine nC rfl (fun h5=>?_) (fun h5=>?_)
     ·have h6:xs.length=1:=qw5
      obtain ⟨x,rfl⟩:∃x,xs=[x]:=List.length_eq_one_iff.1 h6;obtain ⟨x',hx1,hx2,hx3,e1⟩:=mpA hO hxl (i:=0) (by simp)
      obtain rfl:x=x':=by simpa using hx2
      have hidx:idx 0 (len xl):=by rw[hln];exact ixN hO (i:=0) (n:=1) (by omega)
      have hidx':idx (Int.ofNat (nadd 0 (nat 0))) (len xl):=by cases hO;exact hidx
      have ha:all xl 3:=alO hO (by subst hxl;simp[Rx.t_len])
      have e2:get xl (nadd 0 (nat 0))=x.t:=by cases hO;exact e1
      have hwx:=g6 x List.mem_cons_self;rw[yG0] at hfin;obtain ⟨k,sx,l⟩:=x;rw[Rx.t_mk] at e2;generalize hxl':l.map Rx.t=xl' at e2;revert hK K;refine qW 1 ?_;intro K hK
      repeat (simp only[e2];cbv)
      repeat' (with_reducible first | refine ndC hidx ?_ | refine ndC hidx' ?_ | refine ndC ha ?_ | refine ndC True.intro ?_ | apply ndN)
      revert hK K;refine qW 1 ?_;intro K hK
      try cbv
      exact hR _ _ ⟨.mk k sx l,j,false,d',⟨hwx,g1,g2,g4,fun h=>⟨(g5 h).1,(g5 h).2.1⟩,hfin⟩,by rw[Rx.t_mk,hxl'];rfl,rfl⟩
     ·have h6:xs.length≠1:=qw5
      have hw:=wG0 (k:=4) (xs:=xs) (by omega) g6
      rw[zV0 h6] at hfin hw;revert hK K;refine qW 1 ?_;intro K hK
      try cbv
      exact hR _ _ ⟨.mk 4 e0 xs,j,false,d',⟨hw,g1,g2,g4,fun h=>⟨(g5 h).1,(g5 h).2.1⟩,hfin⟩,by rw[Rx.t_mk,<-hxl];rfl,rfl⟩
   ·have y124:ci=124:=qv5
    obtain rfl:=h124.1 y124;have hfin:=vP0 g7 (.inr (.inr ⟨_,_,hdr,.inl rfl⟩));clear h5 h124 h41;have hln:len xl=xs.length:=lnO hO (by simp[hxl])
    revert hK K;refine qW 1 ?_;intro K hK;simp only[hln];refine nC rfl (fun h5=>?_) (fun h5=>?_)
    ·have h6:xs.length=1:=qw5
     obtain ⟨x,rfl⟩:∃x,xs=[x]:=List.length_eq_one_iff.1 h6;obtain ⟨x',hx1,hx2,hx3,e1⟩:=mpA hO hxl (i:=0) (by simp)
     obtain rfl:x=x':=by simpa using hx2
     have hidx:idx 0 (len xl):=by rw[hln];exact ixN hO (i:=0) (n:=1) (by omega)
     have hidx':idx (Int.ofNat (nadd 0 (nat 0))) (len xl):=by cases hO;exact hidx
     have ha:all xl 3:=alO hO (by subst hxl;simp[Rx.t_len])
     have e2:get xl (nadd 0 (nat 0))=x.t:=by cases hO;exact e1
     have hwx:=g6 x List.mem_cons_self;rw[yG0] at hfin;obtain ⟨k,sx,l⟩:=x;rw[Rx.t_mk] at e2;generalize hxl':l.map Rx.t=xl' at e2;revert hK K;refine qW 1 ?_;intro K hK
     repeat (simp only[e2];cbv)
     repeat' (with_reducible first | refine ndC hidx ?_ | refine ndC hidx' ?_ | refine ndC ha ?_ | refine ndC True.intro ?_ | apply ndN)
     revert hK K;refine qW 1 ?_;intro K hK
     try cbv
     exact hR _ _ ⟨.mk k sx l,j,false,d',⟨hwx,g1,g2,g4,fun h=>⟨(g5 h).1,(g5 h).2.1⟩,hfin⟩,by rw[Rx.t_mk,hxl'];rfl,rfl⟩
    ·have h6:xs.length≠1:=qw5
     have hw:=wG0 (k:=4) (xs:=xs) (by omega) g6
     rw[zV0 h6] at hfin hw;revert hK K;refine qW 1 ?_;intro K hK
     try cbv
     exact hR _ _ ⟨.mk 4 e0 xs,j,false,d',⟨hw,g1,g2,g4,fun h=>⟨(g5 h).1,(g5 h).2.1⟩,hfin⟩,by rw[Rx.t_mk,<-hxl];rfl,rfl⟩
  ·have hge:N<=j:=qw3
   have hfin:=vP0 g7 (.inr (.inl (List.drop_eq_nil_of_le (by rw[zJ0];omega))))
   have hln:len xl=xs.length:=lnO hO (by simp[hxl])
   revert hK K;refine qW 1 ?_;intro K hK;simp only[hln];refine nC rfl (fun h5=>?_) (fun h5=>?_)
   ·have h6:xs.length=1:=qw5
    obtain ⟨x,rfl⟩:∃x,xs=[x]:=List.length_eq_one_iff.1 h6;obtain ⟨x',hx1,hx2,hx3,e1⟩:=mpA hO hxl (i:=0) (by simp)
    obtain rfl:x=x':=by simpa using hx2
    have hidx:idx 0 (len xl):=by rw[hln];exact ixN hO (i:=0) (n:=1) (by omega)
    have hidx':idx (Int.ofNat (nadd 0 (nat 0))) (len xl):=by cases hO;exact hidx
    have ha:all xl 3:=alO hO (by subst hxl;simp[Rx.t_len])
    have e2:get xl (nadd 0 (nat 0))=x.t:=by cases hO;exact e1
    have hwx:=g6 x List.mem_cons_self;rw[yG0] at hfin;obtain ⟨k,sx,l⟩:=x;rw[Rx.t_mk] at e2;generalize hxl':l.map Rx.t=xl' at e2;revert hK K;refine qW 1 ?_;intro K hK
    repeat (simp only[e2];cbv)
    repeat' (with_reducible first | refine ndC hidx ?_ | refine ndC hidx' ?_ | refine ndC ha ?_ | refine ndC True.intro ?_ | apply ndN)
    revert hK K;refine qW 1 ?_;intro K hK
    try cbv
    exact hR _ _ ⟨.mk k sx l,j,false,d',⟨hwx,g1,g2,g4,fun h=>⟨(g5 h).1,(g5 h).2.1⟩,hfin⟩,by rw[Rx.t_mk,hxl'];rfl,rfl⟩
   ·have h6:xs.length≠1:=qw5
    have hw:=wG0 (k:=4) (xs:=xs) (by omega) g6
    rw[zV0 h6] at hfin hw;revert hK K;refine qW 1 ?_;intro K hK
    try cbv
    exact hR _ _ ⟨.mk 4 e0 xs,j,false,d',⟨hw,g1,g2,g4,fun h=>⟨(g5 h).1,(g5 h).2.1⟩,hfin⟩,by rw[Rx.t_mk,<-hxl];rfl,rfl⟩
 ·have hfin:=vP0 g7 (.inl rfl)
  revert hK K;refine qW 1 ?_;intro K hK;simp only[hnt];have hln:len xl=xs.length:=lnO hO (by simp[hxl])
  revert hK K;refine qW 1 ?_;intro K hK;simp only[hln];refine nC rfl (fun h5=>?_) (fun h5=>?_)
  ·have h6:xs.length=1:=qw5
   obtain ⟨x,rfl⟩:∃x,xs=[x]:=List.length_eq_one_iff.1 h6;obtain ⟨x',hx1,hx2,hx3,e1⟩:=mpA hO hxl (i:=0) (by simp)
   obtain rfl:x=x':=by simpa using hx2
   have hidx:idx 0 (len xl):=by rw[hln];exact ixN hO (i:=0) (n:=1) (by omega)
   have hidx':idx (Int.ofNat (nadd 0 (nat 0))) (len xl):=by cases hO;exact hidx
   have ha:all xl 3:=alO hO (by subst hxl;simp[Rx.t_len])
   have e2:get xl (nadd 0 (nat 0))=x.t:=by cases hO;exact e1
   have hwx:=g6 x List.mem_cons_self;rw[yG0] at hfin;obtain ⟨k,sx,l⟩:=x;rw[Rx.t_mk] at e2;generalize hxl':l.map Rx.t=xl' at e2;revert hK K;refine qW 1 ?_;intro K hK
   repeat (simp only[e2];cbv)
   repeat' (with_reducible first | refine ndC hidx ?_ | refine ndC hidx' ?_ | refine ndC ha ?_ | refine ndC True.intro ?_ | apply ndN)
   revert hK K;refine qW 1 ?_;intro K hK
   try cbv
   exact hR _ _ ⟨.mk k sx l,j,true,d',⟨hwx,g1,g2,g4,fun h=>⟨(g5 h).1,(g5 h).2.1⟩,hfin⟩,by rw[Rx.t_mk,hxl'];rfl,rfl⟩
  ·have h6:xs.length≠1:=qw5
   have hw:=wG0 (k:=4) (xs:=xs) (by omega) g6
   rw[zV0 h6] at hfin hw;revert hK K;refine qW 1 ?_;intro K hK
   try cbv
   exact hR _ _ ⟨.mk 4 e0 xs,j,true,d',⟨hw,g1,g2,g4,fun h=>⟨(g5 h).1,(g5 h).2.1⟩,hfin⟩,by rw[Rx.t_mk,<-hxl];rfl,rfl⟩
theorem rX1:∀L,ReadOk 177 mAlt L:=by
 intro L
 induction L using Nat.strongRecOn with
 | _ L ih=>exact WM0 L (WL0 L (ZF0 L (ZH0 L fun L' h=>gY0 L' (ih L' h))))
def mA0 (s:ByteArray) (x:Rx) (ok:Bool):Prop:=(ok=true/\x.good/\ofL x.txt=s)\/(ok=false/\x=.mk 0 e0 []/\∀y:Rx,y.good->ofL y.txt≠s)
theorem MD0 {y:Rx} (h:y.good):mAlt (7 * y.txt.length+3) 8 y.txt=some (y,[]):=by
 have:=(Rx.comp _ y (Nat.le_refl _) h.1).1 (7 * y.txt.length+3) 8 [] (.inl rfl) (by have:=h.2.2;omega) (Nat.le_refl _)
 rwa[List.append_nil] at this
theorem XT0 {y:Rx} (h:y.good):∃n,mAlt n 8 y.txt=some (y,[]):=⟨_,MD0 h⟩
abbrev ParseOk (f:FuncId):Prop:=∀s:ByteArray,s.size<=1099511627776->ACl Tryz.prog f [litS s] [] (fun res bx=>∃(x:Rx) (ok:Bool),mA0 s x ok/\x.Wf/\res=⟨.tup [(true,3),(false,1)],x.t.map (tA true)++[.lit (.bool ok)]⟩/\bx=[])
theorem ParseOk.of {f:FuncId} (h:∀s:ByteArray,s.size<=1099511627776->ACl Tryz.prog f [litS s] [] (fun res bx=>∃(x:Rx) (ok:Bool),mA0 s x ok/\x.Wf/\res.roC=⟨.tup [(true,3),(false,1)],x.t.map (tA true)++[.lit (.bool ok)]⟩/\bx=[])):ParseOk f:=by
 intro s hs;refine acI (ACl.ro (h s hs)) ?_;rintro res bx ⟨r0,⟨x,ok,h1,h2,h3,h4⟩,rfl⟩;exact ⟨x,ok,h1,h2,h3,h4⟩
theorem hX0:ParseOk 160:=by
 refine ParseOk.of fun s hs=>?_;have hA:ACl Tryz.prog 177 [⟨.one,[.ptr 0 0]⟩] [some [.lit (.string s),.lit (.int .i64 0),.lit (.bool false),.lit (.int .i64 0)]] _:=(rX1 s.size).opened s 0 0 hs (by omega) (by omega) (by omega)
 have hT:=gZ0;unfold pY0 at hT;refine qF tyK Tryz.func160 36 [.cell 2 138,.tmp 3] ?_;unhygienic intros
 obtain ⟨N,hN⟩:=qX s.size;have hsz:size s=N:=by cases hO;exact hN.symm
 have hlen:∀y:Rx,y.good->ofL y.txt=s->N<=1000:=fun y hy he=>by
  have:=Rx.txt_len _ y (Nat.le_refl _) hy.1;have h2:=hy.2.1;rw[hN,<-he,zP0];omega
 have hfail:(∀y:Rx,y.good->ofL y.txt≠s)->mA0 s (.mk 0 e0 []) false:=fun h=>.inr ⟨rfl,rfl,h⟩;revert hK K;refine qW 0 ?_;intro K hK;simp only[hsz];refine nC rfl (fun h1=>?_) (fun h1=>?_)
 ·have h2:1000 < N:=qw1
  revert hK K;refine qW 0 ?_;intro K hK
  try cbv
  exact hR _ _ ⟨_,false,hfail fun y hy he=>by have:=hlen y hy he;omega,zL0 (by decide),by rw[zE0];rfl,rfl⟩
 ·clear hlen
  revert hK K;refine qW 0 ?_;intro K hK;refine qg (nN [1]) ?_;refine qC ?_;refine qD hP hA ?_;rintro res bx ⟨x,k,sx,xl,j,bad,d',qt,q1,q2,q3,q4,q5,q6,rfl,rfl⟩;refine qC ?_;have hkey:∀y:Rx,y.good->ofL y.txt=s->x=y/\bad=false/\j=N:=fun y hy he=>by
   obtain ⟨n,hn⟩:=XT0 hy;have:=q6 n y [] (by rw[List.drop_zero,<-he,uH0];exact hn)
   refine ⟨this.1,this.2.1,?_⟩;have h3:=congrArg List.length this.2.2;rw[List.length_drop,zJ0,List.length_nil] at h3;omega
  have hT:=hT x q1;simp only[agT,qt,List.map,tA] at hT;cases bad
  ·revert hK K;refine qW 0 ?_;intro K hK
   simp only[hsz];refine GFork.mk (fun h3=>?_) (fun h3=>?_)<;>cbv
   ·have hne:j≠N:=qw3
    revert hK K;refine qW 0 ?_;intro K hK
    try cbv
    exact hR _ _ ⟨_,false,hfail fun y hy he=>absurd (hkey y hy he).2.2 hne,zL0 (by decide),by rw[zE0];rfl,rfl⟩
   ·have hje:j=N:=qw3
    have hpos:0 < N:=by have:=(q5 rfl).2;omega
    revert hK K;refine qW 0 ?_;intro K hK;refine qG ?_;refine qD hP hT ?_;rintro res bx ⟨t,t1,t2,rfl,rfl⟩;refine qC ?_;revert hK K;refine qW 0 ?_;intro K hK;refine nC rfl (fun h5=>?_) (fun h5=>?_)
    ·have hne:t≠s:=qv5
     revert hK K;refine qW 0 ?_;intro K hK
     try cbv
     exact hR _ _ ⟨_,false,hfail fun y hy he=>by
      obtain ⟨rfl,_,_⟩:=hkey y hy he;exact hne ((t1 hy).trans he),zL0 (by decide),by rw[zE0];rfl,rfl⟩
    ·have hts:t=s:=qv5
     have hg:x.good:=by
      by_cases h:x.good
      ·exact h
      ·have:=t2 h
       rw[hts] at this;rw[hN,this] at hpos;exact absurd hpos (by decide)
     have hp:mA0 s x true:=.inl ⟨rfl,hg,by rw[<-t1 hg,hts]⟩
     revert hK K;refine qW 0 ?_;intro K hK
     try cbv
     exact hR _ _ ⟨x,true,hp,q1,by rw[qt];rfl,rfl⟩
  ·revert hK K;refine qW 0 ?_;intro K hK
   try cbv
   exact hR _ _ ⟨_,false,hfail fun y hy he=>absurd (hkey y hy he).2.1 (by simp),zL0 (by decide),by rw[zE0];rfl,rfl⟩
theorem fA0:pY0 165:=by
 intro r hw;have h1:=mN0 r hw;have h2:r.good->ACl Tryz.prog 182 [agT r.t,⟨.one,[.nil]⟩] [] (fun res bx=>∃t,t=ofL r.txt/\res=litS t/\bx=[]):=fun h=>by
  have:=WH0 r h.1 h.2.1 [] (by simp) _ rfl
  rw[fG0] at this;exact ACl.nilLast this
 generalize r.good=g at *;generalize r.txt=tx at *;obtain ⟨k,s,l⟩:=r;simp only[agT,Rx.t_mk,List.map,tA] at h1 h2 |-;generalize l.map Rx.t=xl at *;refine qF tyK Tryz.func165 8 [.tmp 2] ?_;unhygienic intros
 have hnt:bnot true=false:=by cases hO;rfl
 have hnf:bnot false=true:=by cases hO;rfl
 revert hK K;refine qW 0 ?_;intro K hK;refine qG ?_;refine qD hP h1 ?_;rintro res bx ⟨b,hb,rfl,rfl⟩;refine qC ?_;cases b
 ·revert hK K;refine qW 0 ?_;intro K hK
  simp only[hnf];revert hK K;refine qW 0 ?_;intro K hK;exact hR _ _ ⟨_,fun h=>absurd (hb.2 h) (by simp),fun _=>rfl,rfl,rfl⟩
 ·revert hK K;refine qW 0 ?_;intro K hK
  simp only[hnt];revert hK K;refine qW 0 ?_;intro K hK;refine qG ?_;refine qD hP (h2 (hb.1 rfl)) ?_;rintro res bx ⟨t,ht,rfl,rfl⟩;refine qC ?_;revert hK K;refine qW 0 ?_;intro K hK;exact hR _ _ ⟨t,fun _=>ht,fun h=>absurd (hb.1 rfl) h,rfl,rfl⟩
theorem hY0:ParseOk 144:=by
 refine ParseOk.of fun s hs=>?_;have hA:ACl Tryz.prog 163 [⟨.one,[.ptr 0 0]⟩] [some [.lit (.string s),.lit (.int .i64 0),.lit (.int .i64 0),.lit (.bool false)]] _:=(c_alt s.size).opened s 0 0 hs (by omega) (by omega) (by omega)
 have hT:=fA0;have hG:=mN0;unfold pY0 at hT;unfold zN1 at hG;refine qF tyK Tryz.func144 37 [.cell 2 138,.tmp 3] ?_;unhygienic intros
 obtain ⟨N,hN⟩:=qX s.size;have hsz:size s=N:=by cases hO;exact hN.symm
 have hnt:bnot true=false:=by cases hO;rfl
 have hnf:bnot false=true:=by cases hO;rfl
 have hfail:(∀y:Rx,y.good->ofL y.txt≠s)->mA0 s (.mk 0 e0 []) false:=fun h=>.inr ⟨rfl,rfl,h⟩;revert hK K;refine qW 0 ?_;intro K hK;refine qg (nN [1]) ?_;refine qC ?_;refine qD hP hA ?_;rintro res bx ⟨x,k,sx,xl,j,bad,qt,q1,q2,q3,q4,q5,rfl,rfl⟩;refine qC ?_;have hkey:∀y:Rx,y.good->ofL y.txt=s->x=y/\bad=false/\j=N:=fun y hy he=>by
  obtain ⟨n,hn⟩:=XT0 hy;have:=q5 (by omega) n y [] (by rw[List.drop_zero,<-he,uH0];exact hn)
  refine ⟨this.1,this.2.1,?_⟩;have h3:=congrArg List.length this.2.2;rw[List.length_drop,zJ0,List.length_nil] at h3;have:=(q4 this.2.1).2;omega
 have hT:=hT x q1;have hG:=hG x q1;simp only[agT,qt,List.map,tA] at hT hG;cases bad
 ·revert hK K;refine qW 0 ?_;intro K hK
  simp only[hsz];refine GFork.mk (fun h3=>?_) (fun h3=>?_)<;>cbv
  ·have hne:j≠N:=qw3
   revert hK K;refine qW 0 ?_;intro K hK
   try cbv
   exact hR _ _ ⟨_,false,hfail fun y hy he=>absurd (hkey y hy he).2.2 hne,zL0 (by decide),by rw[zE0];rfl,rfl⟩
  ·have hje:j=N:=qw3
   revert hK K;refine qW 0 ?_;intro K hK;refine qG ?_;refine qD hP hG ?_;rintro res bx ⟨b,hb,rfl,rfl⟩;refine qC ?_;cases b
   ·revert hK K;refine qW 0 ?_;intro K hK
    simp only[hnf];revert hK K;refine qW 0 ?_;intro K hK
    try cbv
    exact hR _ _ ⟨_,false,hfail fun y hy he=>by
     obtain ⟨rfl,_,_⟩:=hkey y hy he;exact absurd (hb.2 hy) (by simp),zL0 (by decide),by rw[zE0];rfl,rfl⟩
   ·have hg:=hb.1 rfl
    revert hK K;refine qW 0 ?_;intro K hK;simp only[hnt];revert hK K;refine qW 0 ?_;intro K hK;refine qG ?_;refine qD hP hT ?_;rintro res bx ⟨t,t1,t2,rfl,rfl⟩;refine qC ?_;revert hK K;refine qW 0 ?_;intro K hK;refine nC rfl (fun h5=>?_) (fun h5=>?_)
    ·have hne:t≠s:=qv5
     revert hK K;refine qW 0 ?_;intro K hK
     try cbv
     exact hR _ _ ⟨_,false,hfail fun y hy he=>by
      obtain ⟨rfl,_,_⟩:=hkey y hy he;exact hne ((t1 hy).trans he),zL0 (by decide),by rw[zE0];rfl,rfl⟩
    ·have hts:t=s:=qv5
     have hp:mA0 s x true:=.inl ⟨rfl,hg,by rw[<-t1 hg,hts]⟩
     revert hK K;refine qW 0 ?_;intro K hK
     try cbv
     exact hR _ _ ⟨x,true,hp,q1,by rw[qt];rfl,rfl⟩
 ·revert hK K;refine qW 0 ?_;intro K hK
  try cbv
  exact hR _ _ ⟨_,false,hfail fun y hy he=>absurd (hkey y hy he).2.1 (by simp),zL0 (by decide),by rw[zE0];rfl,rfl⟩
end Go.Gv
