/- Part B8 of the proof: contracts of functions of the program, each walked once. -/
import Derived.Test.YtjeejieaalnbeaaGreatB7
import Derived.Test.YtjeejieaalnbeaaGreatQ1
set_option linter.all false
namespace Go.Gv
open Go.Av Go.Proofs Go.Shelf Go.RowKit
set_option maxRecDepth 10000
abbrev GoodOk (f:FuncId):Prop:=∀r:Rx,r.Wf->ACl Tryz.prog f [agT r.t] [] (fun res bx=>∃b:Bool,(b=true↔r.good)/\res=litB b/\bx=[])
theorem c_RexOk_spec:GoodOk 249:=by
 intro r hw;have h1:=c_l3Parts r 1 (by omega) hw
 have h2:=c_l3Ok r hw;have hg:r.good↔r.ok/\r.depth+1<=7/\r.parts<=60:=by unfold Rx.good;constructor<;>(rintro ⟨a,b,c⟩;exact ⟨a,by omega,by omega⟩)
 rw[hg];clear hg;generalize r.ok=o at *;generalize r.depth=dp at *;generalize r.parts=pt at *;obtain ⟨k,s,l⟩:=r;simp only[agT,Rx.t_mk,List.map,tA] at h1 h2 |-;generalize l.map Rx.t=xl at *;refine qF tyK Tryz.func249 10 [.tmp 2] ?_;unhygienic intros;revert hK K;refine qW0 ?_;intro K hK;refine qG ?_;refine qD hP h1 ?_;rintro res bx ⟨n,n1,n2,n3,n4,rfl,rfl⟩;refine qC ?_;revert hK K;refine qW0 ?_;intro K hK
 refine GFork.mk (fun h3=>?_) (fun h3=>?_)<;>cbv
 ·have h60:n<=60:=qw3
  revert hK K;refine qW0 ?_;intro K hK;refine qG ?_;refine qD hP h2 ?_;rintro res bx ⟨b,hb,rfl,rfl⟩;refine qC ?_;revert hK K;refine qW0 ?_;intro K hK;refine hR _ _ ⟨_,?_,rfl,rfl⟩;rw[hb];exact ⟨fun h=>⟨h,n3.1 h60⟩,fun h=>h.1⟩
 ·have h60:60 < n:=qw3
  revert hK K;refine qW0 ?_;intro K hK;refine hR _ _ ⟨_,⟨fun h=>by simp at h,fun h=>?_⟩,rfl,rfl⟩
  have:=n3.2 h.2;omega
theorem c_RexOk_impl:GoodOk 245:=by
 intro r hw;have h1:=c_rexParts r 1 (by omega) hw
 have hg:r.good↔r.goodAt 1:=by unfold Rx.good Rx.goodAt;constructor<;>(rintro ⟨a,b,c⟩;exact ⟨a,by omega,by omega⟩)
 rw[hg];clear hg;generalize r.goodAt 1=o at *;generalize r.parts=pt at *;obtain ⟨k,s,l⟩:=r;simp only[agT,Rx.t_mk,List.map,tA] at h1 |-;generalize l.map Rx.t=xl at *;refine qF tyK Tryz.func245 6 [.tmp 2] ?_;unhygienic intros;revert hK K;refine qW0 ?_;intro K hK;refine qG ?_;refine qD hP h1 ?_;rintro res bx ⟨n,n1,n2,n3,n4,rfl,rfl⟩;refine qC ?_;revert hK K;refine qW0 ?_;intro K hK;refine hR _ _ ⟨_,?_,rfl,rfl⟩
 rw[<-n3];cases hO;simp only[Ops.std,sCm,decide_eq_true_eq,Int.ofNat_eq_natCast];omega
def joinB (b:Bs):List Rx->Bs
 | []=>[]
 | [x]=>x.unit
 | x::y::r=>x.unit++b++joinB b (y::r)
theorem joinB_snoc (b:Bs) (x:Rx):∀l,joinB b (l++[x])=joinB b l++(if l=[] then [] else b)++x.unit
 | []=>by simp[joinB]
 | [y]=>by simp[joinB]
 | y::z::r=>by
  have:=joinB_snoc b x (z::r);simp only[List.cons_append] at this |-;rw[joinB,joinB,this];simp
theorem joinB_cats:∀l,joinB [] l=Rx.cats l
 | []=>by rw[joinB,Rx.cats]
 | [x]=>by rw[joinB,Rx.cats_cons,Rx.cats,List.append_nil]
 | x::y::r=>by rw[joinB,joinB_cats (y::r),Rx.cats_cons x,List.append_nil]
theorem joinB_alts:∀l:List Rx,(∀x∈l,x.k≠5)->joinB [124] l=Rx.alts l
 | [],_=>by rw[joinB,Rx.alts]
 | [x],h=>by rw[joinB,Rx.alts,Rx.unit,if_neg (h x List.mem_cons_self)]
 | x::y::r,h=>by
  rw[joinB,joinB_alts (y::r) fun z hz=>h z (List.mem_cons_of_mem _ hz),Rx.alts,Rx.unit,if_neg (h x List.mem_cons_self)];simp
theorem joinB_len (b:Bs) (hb:b.length<=1):∀l:List Rx,(∀x∈l,x.txt.length+2<=16 * x.parts)->(joinB b l).length<=17 * Rx.partss l
 | [],_=>by simp[joinB]
 | [x],h=>by
  have:=h x List.mem_cons_self;rw[joinB,Rx.partss,Rx.partss,Rx.unit]
  split<;>(try simp only[List.length_cons,List.length_append,List.length_nil])<;>omega
 | x::y::r,h=>by
  have h1:=h x List.mem_cons_self;have h2:=joinB_len b hb (y::r) fun z hz=>h z (List.mem_cons_of_mem _ hz);have:=x.parts_pos;rw[joinB,Rx.partss,List.length_append,List.length_append,Rx.unit]
  split<;>(try simp only[List.length_cons,List.length_append,List.length_nil])<;>omega
abbrev TextAt (f:FuncId) (r:Rx):Prop:=ACl Tryz.prog f [agT r.t] [] (fun res bx=>∃t,t=ofL r.txt/\res=litS t/\bx=[])
def inv258 (xl:List (List T)) (b:ByteArray) (l:List Rx) (N:Nat) (σ:AS):Prop:=
 ∃(i:Nat) (t:ByteArray),σ=⟨vag 44 [(0,⟨.one,[.ro true xl]⟩),(1,litS b),(2,litI 5),(7,litS t),(8,litI (Int.ofNat i))],[],1⟩/\i<=l.length/\t=ofL (joinB (toL b) (l.take i))/\N=l.length - i
theorem c_l3Join_step (l:List Rx) (b:ByteArray) (hb:b.size<=1) (ih:∀x∈l,TextAt 250 x) (hlen:l.length<=8) (hsz:∀x∈l,x.txt.length<=100000) (hj:∀i,(joinB (toL b) (l.take i)).length<=100000) (xl:List (List T)) (hxl:xl=l.map Rx.t) :
  ACl Tryz.prog 258 [roT xl,litS b,litI 5] [] (fun res bx=>∃t,t=ofL (joinB (toL b) l)/\res=litS t/\bx=[]):=by
 refine qF tyK Tryz.func258 44 [.tmp 6] ?_;unhygienic intros;obtain ⟨N,hN⟩:=qX l.length;have hln:len xl=N:=lnO hO (by simp[hxl,hN])
 have ha:all xl 3:=alO hO (by subst hxl;simp[Rx.t_len])
 have hsadd:∀x y:Bs,sadd (ofL x) (ofL y)=ofL (x++y):=fun x y=>by cases hO;exact ofL_app x y
 have hsok:∀x y:ByteArray,x.size+y.size<=1000000->sOk x y:=fun x y h=>by cases hO;show x.size+y.size<=9223372036854775807;omega
 rw[<-hN] at hlen;revert hK K;refine qW0 ?_;intro K hK;refine qL 0 [0,1,2,7,8] kk0 (inv258 xl b l) ?_ ?_
 ·cbv
  exact ⟨_,0,⟨⟨[]⟩⟩,by cbv,by simp,by simp[joinB];rfl,rfl⟩
 rintro m σ ⟨i,t,rfl,g1,g2,rfl⟩;rw[<-hN];revert hK K;refine qW0 ?_;intro K hK;simp only[hln];refine nC rfl (fun h3=>?_) (fun h3=>?_)
 ·have hlt:i < N:=qv3
  obtain ⟨x,hx,hx',ht,e1⟩:=mpA hO hxl (hN ▸ hlt);have e:bin .add .i64 (Int.ofNat i) 1=_:=iSc hO (by omega)
  have hidx:idx (Int.ofNat i) (len xl):=hln ▸ ixN hO hlt;have hcall:=ih x hx;unfold TextAt at hcall;have hsx:=hsz x hx;have hji:=hj i;have hsn:=joinB_snoc (toL b) x (l.take i);rw[<-ht] at hsn;have hne:l.take i=[]↔i=0:=by
   constructor
   ·intro h
    have:=congrArg List.length h;rw[List.length_take,List.length_nil] at this;omega
   ·rintro rfl;rfl
  have hu5:x.k=5->x.unit=40::(x.txt++[41]):=fun h=>by rw[Rx.unit,if_pos h]
  have hun5:x.k≠5->x.unit=x.txt:=fun h=>by rw[Rx.unit,if_neg h]
  generalize x.unit=ux at *;generalize x.txt=tx at *;obtain ⟨acc,hacc⟩:=qX (joinB (toL b) (l.take i));rw[<-hacc] at g2 hsn hji;have hbl:(toL b).length<=1:=by rw[toL_len];exact hb
  obtain ⟨kx,s',l'⟩:=x;simp only[agT,Rx.t_mk,Rx.k,List.map,tA] at hcall e1 hu5 hun5;generalize l'.map Rx.t=xl' at hcall e1;revert hK K;refine qW0 ?_;intro K hK;refine nC rfl (fun h5=>?_) (fun h5=>?_)
  ·have hpos:0 < i:=qw5
   rw[if_neg (fun h=>by have:=hne.1 h;omega)] at hsn
   obtain ⟨t1,ht1⟩:=qX (ofL (acc++toL b));have es0:sadd t b=t1:=by rw[g2,ht1];have:=hsadd acc (toL b);rwa[ofL_toL] at this
   have hjs:=hsn;have hal:(acc++toL b).length<=100001:=by rw[List.length_append];omega
   revert hK K;refine qW0 ?_;intro K hK;simp only[es0];refine ndC (hsok _ _ (by rw[g2,ofL_len];omega)) (ndN ?_)
   revert hK K;refine qW0 ?_;intro K hK
   repeat (simp only[e1];cbv)
   refine ndC hidx (ndC ha (ndN ?_));revert hK K;refine qW0 ?_;intro K hK;refine nC rfl (fun h6=>?_) (fun h6=>?_)
   ·have hk5:kx=5:=qv6
    have hunit:=hu5 hk5;obtain ⟨u1,hu1⟩:=qX (ofL ((acc++(toL b))++[40]));have es1:sadd t1 ⟨⟨[40]⟩⟩=u1:=by rw[ht1,hu1];exact hsadd _ [40]
    revert hK K;refine qW0 ?_;intro K hK
    repeat (simp only[e1];cbv)
    simp only[es1];refine ndC (hsok _ _ (by rw[ht1,ofL_len];show _+1<=_;omega)) (ndC hidx (ndC ha (ndN ?_)))
    refine qG ?_;refine qD hP hcall ?_;rintro res bx ⟨w,hw,rfl,rfl⟩;refine qC ?_;obtain ⟨u2,hu2⟩:=qX (ofL ((acc++(toL b))++[40]++tx));have es2:sadd u1 w=u2:=by rw[hu1,hw,hu2];exact hsadd _ _
    obtain ⟨u3,hu3⟩:=qX (ofL ((acc++(toL b))++[40]++tx++[41]));have es3:sadd u2 ⟨⟨[41]⟩⟩=u3:=by rw[hu2,hu3];exact hsadd _ [41]
    simp only[es2,es3];refine ndC (hsok _ _ (by rw[hu1,hw,ofL_len,ofL_len];simp;omega)) (ndC (hsok _ _ (by rw[hu2,ofL_len];show _+1<=_;simp;omega)) (ndN ?_))
    revert hK K;refine qW0 ?_;intro K hK;rw[e];exact ⟨N - (i+1),by omega,i+1,u3,by cbv,by omega,by rw[hu3,hjs,hunit];simp,by rw[hN]⟩
   ·have hk5:kx≠5:=qv6
    have hunit:=hun5 hk5;revert hK K;refine qW0 ?_;intro K hK
    repeat (simp only[e1];cbv)
    refine ndC hidx (ndC ha (ndN ?_));refine qG ?_;refine qD hP hcall ?_;rintro res bx ⟨w,hw,rfl,rfl⟩;refine qC ?_;obtain ⟨u2,hu2⟩:=qX (ofL ((acc++(toL b))++tx));have es2:sadd t1 w=u2:=by rw[ht1,hw,hu2];exact hsadd _ _
    simp only[es2];refine ndC (hsok _ _ (by rw[ht1,hw,ofL_len,ofL_len];omega)) (ndN ?_)
    revert hK K;refine qW0 ?_;intro K hK;rw[e];exact ⟨N - (i+1),by omega,i+1,u2,by cbv,by omega,by rw[hu2,hjs,hunit],by rw[hN]⟩
  ·have hpos:i=0:=qw5
   rw[if_pos (hne.2 hpos),List.append_nil] at hsn;have hjs:=hsn;have hal:acc.length<=100001:=by omega
   revert hK K;refine qW0 ?_;intro K hK
   repeat (simp only[e1];cbv)
   refine ndC hidx (ndC ha (ndN ?_));revert hK K;refine qW0 ?_;intro K hK;refine nC rfl (fun h6=>?_) (fun h6=>?_)
   ·have hk5:kx=5:=qv6
    have hunit:=hu5 hk5;obtain ⟨u1,hu1⟩:=qX (ofL (acc++[40]));have es1:sadd t ⟨⟨[40]⟩⟩=u1:=by rw[g2,hu1];exact hsadd _ [40]
    revert hK K;refine qW0 ?_;intro K hK
    repeat (simp only[e1];cbv)
    simp only[es1];refine ndC (hsok _ _ (by rw[g2,ofL_len];show _+1<=_;omega)) (ndC hidx (ndC ha (ndN ?_)))
    refine qG ?_;refine qD hP hcall ?_;rintro res bx ⟨w,hw,rfl,rfl⟩;refine qC ?_;obtain ⟨u2,hu2⟩:=qX (ofL (acc++[40]++tx));have es2:sadd u1 w=u2:=by rw[hu1,hw,hu2];exact hsadd _ _
    obtain ⟨u3,hu3⟩:=qX (ofL (acc++[40]++tx++[41]));have es3:sadd u2 ⟨⟨[41]⟩⟩=u3:=by rw[hu2,hu3];exact hsadd _ [41]
    simp only[es2,es3];refine ndC (hsok _ _ (by rw[hu1,hw,ofL_len,ofL_len];simp;omega)) (ndC (hsok _ _ (by rw[hu2,ofL_len];show _+1<=_;simp;omega)) (ndN ?_))
    revert hK K;refine qW0 ?_;intro K hK;rw[e];exact ⟨N - (i+1),by omega,i+1,u3,by cbv,by omega,by rw[hu3,hjs,hunit];simp,by rw[hN]⟩
   ·have hk5:kx≠5:=qv6
    have hunit:=hun5 hk5;revert hK K;refine qW0 ?_;intro K hK
    repeat (simp only[e1];cbv)
    refine ndC hidx (ndC ha (ndN ?_));refine qG ?_;refine qD hP hcall ?_;rintro res bx ⟨w,hw,rfl,rfl⟩;refine qC ?_;obtain ⟨u2,hu2⟩:=qX (ofL (acc++tx));have es2:sadd t w=u2:=by rw[g2,hw,hu2];exact hsadd _ _
    simp only[es2];refine ndC (hsok _ _ (by rw[g2,hw,ofL_len,ofL_len];omega)) (ndN ?_)
    revert hK K;refine qW0 ?_;intro K hK;rw[e];exact ⟨N - (i+1),by omega,i+1,u2,by cbv,by omega,by rw[hu2,hjs,hunit],by rw[hN]⟩
 ·have hge:i=N:=qw3
  rw[List.take_of_length_le (by omega)] at g2
  revert hK K;refine qW0 ?_;intro K hK;exact hR _ _ ⟨t,g2,rfl,rfl⟩
set_option maxHeartbeats 8000000
theorem Rx.txt_len:∀(m:Nat) (y:Rx),y.parts<=m->y.ok->y.txt.length+2<=16 * y.parts
 | 0,y,h,_=>by have:=y.parts_pos;omega
 | m+1,.mk k s l,h,hy=>by
  obtain ⟨hh,hl⟩:=Rx.ok_inv hy;rw[Rx.parts] at h;have ih:∀x∈l,x.txt.length+2<=16 * x.parts:=fun x hx=>Rx.txt_len m x (by have:=Rx.parts_mem hx;omega) (hl x hx)
  rw[Rx.parts];rcases hh with ⟨rfl,⟨c,hc,hb⟩,rfl⟩ | ⟨rfl,hs,rfl⟩ | ⟨hk,rfl,rfl⟩ | ⟨hk,rfl,h2,h8,hne⟩ | ⟨hk,rfl,x,rfl,hx⟩
  ·rw[Rx.txt,if_pos rfl,hc,Rx.partss];simp
  ·simp only[setB,Bool.and_eq_true,decide_eq_true_eq] at hs
   rw[Rx.txt];simp[Rx.partss];omega
  ·rcases hk with rfl | rfl | rfl | rfl<;>rw[Rx.txt,Rx.partss]<;>simp
  ·rcases hk with rfl | rfl
   ·have e:(Rx.mk 4 (ofL []) l).txt=Rx.cats l:=by rw[Rx.txt];rfl
    rw[e,<-joinB_cats];have:=joinB_len16 l ih;omega
   ·have e:(Rx.mk 5 (ofL []) l).txt=Rx.alts l:=by rw[Rx.txt];rfl
    rw[e];have:=alts_len16 l ih;omega
  ·have h1:=ih x List.mem_cons_self
   have e:(Rx.mk k (ofL []) [x]).txt.length=(Rx.one [x]).length+1:=by rcases hk with rfl | rfl | rfl<;>rw[Rx.txt]<;>simp
   rw[e,Rx.one_cons,Rx.partss,Rx.partss]
   split<;>(try simp only[List.length_cons,List.length_append,List.length_nil])<;>omega
where
 joinB_len16:∀l:List Rx,(∀x∈l,x.txt.length+2<=16 * x.parts)->(joinB [] l).length<=16 * Rx.partss l
 | [],_=>by simp[joinB]
 | x::l,h=>by
  have h1:=h x List.mem_cons_self;have h2:=joinB_len16 l fun z hz=>h z (List.mem_cons_of_mem _ hz);rw[joinB_cats] at h2 |-;rw[Rx.cats_cons,List.length_append,Rx.partss,Rx.unit]
  split<;>(try simp only[List.length_cons,List.length_append,List.length_nil])<;>omega
 alts_len16:∀l:List Rx,(∀x∈l,x.txt.length+2<=16 * x.parts)->(Rx.alts l).length<=16 * Rx.partss l
 | [],_=>by simp[Rx.alts]
 | [x],h=>by have:=h x List.mem_cons_self;rw[Rx.alts,Rx.partss];omega
 | x::y::r,h=>by
  have h1:=h x List.mem_cons_self;have h2:=alts_len16 (y::r) fun z hz=>h z (List.mem_cons_of_mem _ hz);rw[Rx.alts,List.length_append,List.length_cons,Rx.partss];omega
theorem c_l3One_step (x:Rx) (ih:TextAt 250 x) (hs:x.txt.length<=100000):ACl Tryz.prog 259 [agT x.t] [] (fun res bx=>∃t,t=ofL (Rx.one [x])/\res=litS t/\bx=[]):=by
 unfold TextAt at ih;rw[Rx.one_cons];have h1:(x.k=4\/x.k=5)->(if x.k=4\/x.k=5 then 40::(x.txt++[41]) else x.txt)=40::(x.txt++[41]):=fun h=>if_pos h
 have h2:¬(x.k=4\/x.k=5)->(if x.k=4\/x.k=5 then 40::(x.txt++[41]) else x.txt)=x.txt:=fun h=>if_neg h
 generalize (if x.k=4\/x.k=5 then 40::(x.txt++[41]) else x.txt)=tt at *
 generalize x.txt=tx at *;obtain ⟨k,s,l⟩:=x;simp only[agT,Rx.t_mk,Rx.k,List.map,tA] at ih h1 h2 |-;generalize l.map Rx.t=xl at *;refine qF tyK Tryz.func259 17 [.tmp 2] ?_;unhygienic intros;have hsadd:∀x y:Bs,sadd (ofL x) (ofL y)=ofL (x++y):=fun x y=>by cases hO;exact ofL_app x y
 have hsok:∀x y:ByteArray,x.size+y.size<=1000000->sOk x y:=fun x y h=>by cases hO;show x.size+y.size<=9223372036854775807;omega
 have hc:∀c:Int,cmp .eql k c=true↔k=c:=fun c=>by cases hO;simp only[Ops.std,sCm,beq_iff_eq]
 have hc4:=hc 4;have hc5:=hc 5;obtain ⟨w0,hw0⟩:=qX (ofL tx);obtain ⟨u1,hu1⟩:=qX (ofL ([40]++tx));have es1:sadd ⟨⟨[40]⟩⟩ w0=u1:=by rw[hw0,hu1];exact hsadd [40] tx
 obtain ⟨u2,hu2⟩:=qX (ofL ([40]++tx++[41]));have es2:sadd u1 ⟨⟨[41]⟩⟩=u2:=by rw[hu1,hu2];exact hsadd _ [41]
 have n1:sOk ⟨⟨[40]⟩⟩ w0:=hsok _ _ (by rw[hw0,ofL_len];show 1+_<=_;omega)
 have n2:sOk u1 ⟨⟨[41]⟩⟩:=hsok _ _ (by rw[hu1,ofL_len];show _+1<=_;simp;omega)
 have q1:k=4\/k=5->u2=ofL tt:=fun h=>by rw[h1 h,hu2];rfl
 have q2:¬(k=4\/k=5)->w0=ofL tt:=fun h=>by rw[h2 h,hw0]
 rw[<-hw0] at ih;clear h1 h2 hu2 hu1 hw0 hc hs hsadd;refine qU ?_
 repeat' first|(revert hK K;refine qV0 ?_;intro K hK)|(refine GFork.mk (fun _=>qQ ?_) fun _=>qQ ?_)|(simp only[es1,es2];try cbv)|(with_reducible refine ndC ?h ?_;case h=>first | exact n1 | exact n2)|(refine qG ?_;refine qD hP ih ?_;rintro res bx ⟨w,hw,rfl,rfl⟩;refine qC ?_)|(simp only[hw];try cbv)
 all_goals (first | exact hR _ _ ⟨_,q1 (by first | exact .inl (hc4.1 (by assumption)) | exact .inr (hc5.1 (by assumption))),rfl,rfl⟩|(refine hR _ _ ⟨_,q2 ?_,rfl,rfl⟩;clear hR ih;simp_all))
theorem c_l3Text_step (k:Int) (s:ByteArray) (l:List Rx) (hok:(Rx.mk k s l).ok) (hp:(Rx.mk k s l).parts<=60) (ih:∀x∈l,TextAt 250 x):TextAt 250 (.mk k s l):=by
 have htl:=Rx.txt_len _ _ (Nat.le_refl _) hok;obtain ⟨hh,hl⟩:=Rx.ok_inv hok;have hpl:Rx.partss l<=59:=by rw[Rx.parts] at hp;omega
 have hxl':∀x∈l,x.txt.length+2<=16 * x.parts:=fun x hx=>Rx.txt_len _ _ (Nat.le_refl _) (hl x hx);have hsz:∀x∈l,x.txt.length<=100000:=fun x hx=>by have:=hxl' x hx;have:=Rx.parts_mem hx;omega
 have hj:∀b:Bs,b.length<=1->∀i,(joinB b (l.take i)).length<=100000:=fun b hb i=>by
  have:=joinB_len b hb (l.take i) fun x hx=>hxl' x (List.mem_of_mem_take hx);have:=partss_take l i;omega
 obtain ⟨TT,hTT⟩:=qX (ofL (Rx.mk k s l).txt);have p1:k=1->s=TT:=fun h=>by subst h;rw[hTT,Rx.txt,if_pos rfl,ofL_toL]
 have p2:k=2->(⟨⟨[46]⟩⟩:ByteArray)=TT:=fun h=>by subst h;rw[hTT,Rx.txt];rfl
 have p10:k=10->(⟨⟨[94]⟩⟩:ByteArray)=TT:=fun h=>by subst h;rw[hTT,Rx.txt];rfl
 have p11:k=11->(⟨⟨[36]⟩⟩:ByteArray)=TT:=fun h=>by subst h;rw[hTT,Rx.txt];rfl
 have p9:k≠1->k≠2->k≠3->k≠4->k≠5->k≠6->k≠7->k≠8->k≠10->k≠11->(⟨⟨[40,41]⟩⟩:ByteArray)=TT:=fun a1 a2 a3 a4 a5 a6 a7 a8 a9 a10=>by
  rw[hTT,Rx.txt,if_neg a1,if_neg a2,if_neg a3,if_neg a4,if_neg a5,if_neg a6,if_neg a7,if_neg a8,if_neg a9,if_neg a10];rfl
 have p3:k=3->ofL ([91]++toL s++[93])=TT/\s.size<=10:=fun h=>by
  subst h;rcases hh with ⟨h1,_⟩ | ⟨_,hs,_⟩ | ⟨h1,_⟩ | ⟨h1,_⟩ | ⟨h1,_⟩<;>try (exact absurd h1 (by decide))
  simp only[setB,Bool.and_eq_true,decide_eq_true_eq,toL_len] at hs;exact ⟨by rw[hTT,Rx.txt];rfl,hs.2⟩
 have p45:k=4\/k=5->l.length<=8/\∀x∈l,x.k≠k:=fun h=>by
  rcases hh with ⟨h1,_⟩ | ⟨h1,_⟩ | ⟨h1,_⟩ | ⟨_,_,_,h8,hne⟩ | ⟨h1,_⟩
  ·omega
  ·omega
  ·omega
  ·exact ⟨h8,hne⟩
  ·omega
 have p4:k=4->ofL (joinB [] l)=TT:=fun h=>by subst h;rw[hTT,joinB_cats,Rx.txt];rfl
 have p5:k=5->ofL (joinB [124] l)=TT:=fun h=>by
  have:=(p45 (.inr h)).2;subst h;rw[hTT,joinB_alts l this,Rx.txt];rfl
 have p678:k=6\/k=7\/k=8->∃x,l=[x]:=fun h=>by
  rcases hh with ⟨h1,_⟩ | ⟨h1,_⟩ | ⟨h1,_⟩ | ⟨h1,_⟩ | ⟨_,_,x,hx,_⟩
  ·omega
  ·omega
  ·omega
  ·omega
  ·exact ⟨x,hx⟩
 obtain ⟨x0,hx0⟩:∃x0:Rx,k=6\/k=7\/k=8->l=[x0]:=by
  by_cases h:k=6\/k=7\/k=8
  ·obtain ⟨x,hx⟩:=p678 h;exact ⟨x,fun _=>hx⟩
  ·exact ⟨default,fun h'=>absurd h' h⟩
 have pr:∀(c:Int) (b:UInt8),(c=6/\b=42)\/(c=7/\b=43)\/(c=8/\b=63)->k=c->ofL (Rx.one [x0]++[b])=TT:=fun c b hcb h=>by
  have hl0:=hx0 (by omega)
  subst h;rw[hTT,hl0];rcases hcb with ⟨rfl,rfl⟩ | ⟨rfl,rfl⟩ | ⟨rfl,rfl⟩<;>rw[Rx.txt]<;>rfl
 have hone:k=6\/k=7\/k=8->ACl Tryz.prog 259 [agT x0.t] [] (fun res bx=>∃t,t=ofL (Rx.one [x0])/\res=litS t/\bx=[]):=fun h=>
  c_l3One_step x0 (ih x0 (by rw[hx0 h];simp)) (hsz x0 (by rw[hx0 h];simp))
 have honel:k=6\/k=7\/k=8->(Rx.one [x0]).length<=100002:=fun h=>by
  have:=hsz x0 (by rw[hx0 h];simp)
  rw[Rx.one_cons];split<;>(try simp only[List.length_cons,List.length_append,List.length_nil])<;>omega
 obtain ⟨xl,hxl⟩:=qX (l.map Rx.t);have hj4:k=4->ACl Tryz.prog 258 [roT xl,litS ⟨⟨[]⟩⟩,litI 5] [] (fun res bx=>∃t,t=TT/\res=litS t/\bx=[]):=fun h=>by
  rw[<-p4 h];exact c_l3Join_step l ⟨⟨[]⟩⟩ (by decide) ih (p45 (.inl h)).1 hsz (hj [] (by simp)) xl hxl
 have hj5:k=5->ACl Tryz.prog 258 [roT xl,litS ⟨⟨[124]⟩⟩,litI 5] [] (fun res bx=>∃t,t=TT/\res=litS t/\bx=[]):=fun h=>by
  rw[<-p5 h];exact c_l3Join_step l ⟨⟨[124]⟩⟩ (by decide) ih (p45 (.inr h)).1 hsz (hj [124] (by simp)) xl hxl
 unfold TextAt;rw[<-hTT];simp only[agT,Rx.t_mk,List.map,tA];rw[<-hxl];generalize Rx.one [x0]=ot at *;refine qF tyK Tryz.func250 55 [.tmp 2] ?_;unhygienic intros;have hsadd:∀x y:Bs,sadd (ofL x) (ofL y)=ofL (x++y):=fun x y=>by cases hO;exact ofL_app x y
 have hsok:∀x y:ByteArray,x.size+y.size<=1000000->sOk x y:=fun x y h=>by cases hO;show x.size+y.size<=9223372036854775807;omega
 have ha:all xl 3:=alO hO (by subst hxl;simp[Rx.t_len])
 have hc:∀c:Int,cmp .eql k c=true↔k=c:=fun c=>by cases hO;simp only[Ops.std,sCm,beq_iff_eq]
 have hx0':k=6\/k=7\/k=8->idx 0 (len xl)/\get xl (nat 0)=x0.t:=fun h=>by
  have hl1:l.length=1:=by rw[hx0 h];rfl
  obtain ⟨x,_,q2,_,q4⟩:=mpA hO hxl (i:=0) (by omega)
  rw[hx0 h] at q2;simp at q2;subst q2;have hln:len xl=1:=lnO hO (by simp[hxl,hl1])
  exact ⟨by rw[hln];exact ixN hO (i:=0) (n:=1) (by omega),q4⟩
 obtain ⟨u1,hu1⟩:=qX (ofL ([91]++toL s));have es1:sadd ⟨⟨[91]⟩⟩ s=u1:=by rw[hu1,<-hsadd,ofL_toL];rfl
 obtain ⟨u2,hu2⟩:=qX (ofL ([91]++toL s++[93]));have es2:sadd u1 ⟨⟨[93]⟩⟩=u2:=by rw[hu1,hu2];exact hsadd _ [93]
 rw[<-hu2] at p3;have n1:k=3->sOk ⟨⟨[91]⟩⟩ s:=fun h=>hsok _ _ (by have:=(p3 h).2;show 1+_<=_;omega)
 have n2:k=3->sOk u1 ⟨⟨[93]⟩⟩:=fun h=>hsok _ _ (by have:=(p3 h).2;rw[hu1,ofL_len,List.length_append,toL_len];show _+1<=_;simp;omega)
 obtain ⟨w0,hw0⟩:=qX (ofL ot);rw[<-hw0] at hone;have r6:k=6->sadd w0 ⟨⟨[42]⟩⟩=TT:=fun h=>by rw[hw0,<-pr 6 42 (by decide) h];exact hsadd _ [42]
 have r7:k=7->sadd w0 ⟨⟨[43]⟩⟩=TT:=fun h=>by rw[hw0,<-pr 7 43 (by decide) h];exact hsadd _ [43]
 have r8:k=8->sadd w0 ⟨⟨[63]⟩⟩=TT:=fun h=>by rw[hw0,<-pr 8 63 (by decide) h];exact hsadd _ [63]
 have n6:∀b:UInt8,k=6\/k=7\/k=8->sOk w0 ⟨⟨[b]⟩⟩:=fun b h=>hsok _ _ (by have:=honel h;rw[hw0,ofL_len];show _+1<=_;omega)
 have hk6:cmp .eql k 6=true\/cmp .eql k 7=true\/cmp .eql k 8=true->k=6\/k=7\/k=8:=fun h=>by rw[hc,hc,hc] at h;exact h
 obtain ⟨k0,s0,l0⟩:=x0;simp only[agT,Rx.t_mk,List.map,tA] at hx0' hone;generalize l0.map Rx.t=xl0 at *;clear hx0 pr p678 hj hsz hxl' hpl hl hh htl hp hok ih p4 p5 p45 honel hsadd hu1 hw0 hTT;refine qU ?_
 repeat' first|(revert hK K;refine qV0 ?_;intro K hK)|(refine GFork.mk (fun _=>qQ ?_) fun _=>qQ ?_)|(simp only[es1,es2];try cbv)|(have e0:=(hx0' (hk6 (by first | exact .inl (by assumption) | exact .inr (.inl (by assumption)) | exact .inr (.inr (by assumption))))).2;simp only[e0];(try cbv))|(with_reducible refine ndC ?h ?_;case h=>first | exact n1 ((hc 3).1 (by assumption)) | exact n2 ((hc 3).1 (by assumption)) | exact ha | exact (hx0' (hk6 (by first | exact .inl (by assumption) | exact .inr (.inl (by assumption)) | exact .inr (.inr (by assumption))))).1 | exact n6 _ (hk6 (by first | exact .inl (by assumption) | exact .inr (.inl (by assumption)) | exact .inr (.inr (by assumption)))))|(refine qG ?_;refine qD hP (hj4 ((hc 4).1 (by assumption))) ?_;rintro res bx ⟨w,rfl,rfl,rfl⟩;refine qC ?_)|(refine qG ?_;refine qD hP (hj5 ((hc 5).1 (by assumption))) ?_;rintro res bx ⟨w,rfl,rfl,rfl⟩;refine qC ?_)|(refine qG ?_;refine qD hP (hone (hk6 (by first | exact .inl (by assumption) | exact .inr (.inl (by assumption)) | exact .inr (.inr (by assumption))))) ?_;rintro res bx ⟨w,hw,rfl,rfl⟩;refine qC ?_)|(simp only[hw];try cbv)
 all_goals ((try cbv);first | exact hR _ _ ⟨_,p1 ((hc 1).1 (by assumption)),rfl,rfl⟩ | exact hR _ _ ⟨_,p2 ((hc 2).1 (by assumption)),rfl,rfl⟩ | exact hR _ _ ⟨_,(p3 ((hc 3).1 (by assumption))).1,rfl,rfl⟩ | exact hR _ _ ⟨_,rfl,rfl,rfl⟩ | exact hR _ _ ⟨_,r6 ((hc 6).1 (by assumption)),rfl,rfl⟩ | exact hR _ _ ⟨_,r7 ((hc 7).1 (by assumption)),rfl,rfl⟩ | exact hR _ _ ⟨_,r8 ((hc 8).1 (by assumption)),rfl,rfl⟩ | exact hR _ _ ⟨_,p10 ((hc 10).1 (by assumption)),rfl,rfl⟩ | exact hR _ _ ⟨_,p11 ((hc 11).1 (by assumption)),rfl,rfl⟩ | exact hR _ _ ⟨_,p9 (fun h=>by have:=(hc 1).2 h;simp_all) (fun h=>by have:=(hc 2).2 h;simp_all) (fun h=>by have:=(hc 3).2 h;simp_all) (fun h=>by have:=(hc 4).2 h;simp_all) (fun h=>by have:=(hc 5).2 h;simp_all) (fun h=>by have:=(hc 6).2 h;simp_all) (fun h=>by have:=(hc 7).2 h;simp_all) (fun h=>by have:=(hc 8).2 h;simp_all) (fun h=>by have:=(hc 10).2 h;simp_all) (fun h=>by have:=(hc 11).2 h;simp_all),rfl,rfl⟩)
theorem c_l3Text (r:Rx):r.ok->r.parts<=60->TextAt 250 r:=by
 obtain ⟨k,s,l⟩:=r;intro hok hp;exact c_l3Text_step k s l hok hp fun x hx=>c_l3Text x ((Rx.ok_inv hok).2 x hx) (by have:=Rx.parts_mem hx;rw[Rx.parts] at hp;omega)
termination_by SizeOf.sizeOf r
decreasing_by
 have:=List.sizeOf_lt_of_mem hx;simp;omega
abbrev RexTextOk (f:FuncId):Prop:=∀r:Rx,r.Wf->ACl Tryz.prog f [agT r.t] [] (fun res bx=>∃t,(r.good->t=ofL r.txt)/\(¬r.good->t=⟨⟨[]⟩⟩)/\res=litS t/\bx=[])
theorem c_RexText_spec:RexTextOk 243:=by
 intro r hw;have h1:=c_RexOk_spec r hw;have h2:=fun h:r.good=>c_l3Text r h.1 h.2.1;unfold TextAt at h2;generalize r.good=g at *;generalize r.txt=tx at *;obtain ⟨k,s,l⟩:=r;simp only[agT,Rx.t_mk,List.map,tA] at h1 h2 |-;generalize l.map Rx.t=xl at *;refine qF tyK Tryz.func243 8 [.tmp 2] ?_;unhygienic intros;have hnt:bnot true=false:=by cases hO;rfl
 have hnf:bnot false=true:=by cases hO;rfl
 revert hK K;refine qW0 ?_;intro K hK;refine qG ?_;refine qD hP h1 ?_;rintro res bx ⟨b,hb,rfl,rfl⟩;refine qC ?_;cases b
 ·revert hK K;refine qW0 ?_;intro K hK
  simp only[hnf];revert hK K;refine qW0 ?_;intro K hK;exact hR _ _ ⟨_,fun h=>absurd (hb.2 h) (by simp),fun _=>rfl,rfl,rfl⟩
 ·revert hK K;refine qW0 ?_;intro K hK
  simp only[hnt];revert hK K;refine qW0 ?_;intro K hK;refine qG ?_;refine qD hP (h2 (hb.1 rfl)) ?_;rintro res bx ⟨t,ht,rfl,rfl⟩;refine qC ?_;revert hK K;refine qW0 ?_;intro K hK;exact hR _ _ ⟨t,fun _=>ht,fun h=>absurd (hb.1 rfl) h,rfl,rfl⟩
end Go.Gv
