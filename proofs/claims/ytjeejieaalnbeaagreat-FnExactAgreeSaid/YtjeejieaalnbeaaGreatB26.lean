/- Part B26 of the proof: contracts of functions of the program, each walked once. -/
import Derived.Test.YtjeejieaalnbeaaGreatB24
import Derived.Test.YtjeejieaalnbeaaGreatB1
import Derived.Test.YtjeejieaalnbeaaGreatB8
import Derived.Test.YtjeejieaalnbeaaGreatQ1
import Derived.Test.YtjeejieaalnbeaaGreatB19
set_option linter.all false
namespace Go.Gv
open Go.Av Go.Proofs Go.Shelf Go.RowKit
set_option maxRecDepth 10000
set_option maxHeartbeats 8000000
theorem c_alt:∀L,ReadI 244 mAlt 8 L:=by
 intro L
 induction L using Nat.strongRecOn with
 | _ L ih=>exact c_alt_step L (c_cat_step L (c_item_step L (c_atom_step L ih)))
def inv26 (k:Int) (kt:List (List T)) (ks:List Int) (N:Nat) (σ:AS):Prop:=
 ∃(i:Nat),σ=⟨vag 19 [(0,⟨.one,[.ro true kt]⟩),(1,litI k),(7,litI (Int.ofNat ks.length)),(8,litI (Int.ofNat i))],[],1⟩/\i<=ks.length/\(∀p y,p < i->ks[p]?=some y->y≠k)/\N=ks.length - i
theorem c_IndexInt (k:Int) (kt:List (List T)) (ks:List Int) (hkt:kt=ks.map fun k=>[T.lit (.int .i64 k)]) (hl:ks.length<=1048576) :
  ACl Tryz.prog 278 [⟨.one,[.ro true kt]⟩,litI k] [] (fun res bx=>∃r:Int,(0<=r↔k∈ks)/\res=litI r/\bx=[]):=by
 refine qF tyK Tryz.func278 19 [.tmp 4] ?_;unhygienic intros;obtain ⟨N,hN⟩:=qX ks.length;have hln:len kt=N:=lnO hO (by simp[hkt,hN])
 have ha:all kt 1:=alO hO (by subst hkt;simp)
 rw[<-hN] at hl;revert hK K;refine qW0 ?_;intro K hK;simp only[hln];refine qL 0 [0,1,7,8] kk0 (inv26 k kt ks) ?_ ?_
 ·cbv
  exact ⟨_,0,by rw[<-hN];cbv,by omega,by omega,rfl⟩
 rintro m σ ⟨i,rfl,g1,g2,rfl⟩;rw[<-hN];revert hK K;refine qW0 ?_;intro K hK;refine nC rfl (fun h3=>?_) (fun h3=>?_)
 ·have hlt:i < N:=qv3
  have e:bin .add .i64 (Int.ofNat i) 1=_:=iSc hO (by omega)
  have hidx:idx (Int.ofNat i) (len kt):=hln ▸ ixN hO hlt;obtain ⟨y,hy⟩:∃y,ks[i]?=some y:=⟨_,List.getElem?_eq_getElem (hN ▸ hlt)⟩;have e1:get kt (nat (Int.ofNat i))=[T.lit (.int .i64 y)]:=by cases hO;rw[hkt];simp[Ops.std,hy]
  revert hK K;refine qW0 ?_;intro K hK
  repeat (simp only[e1];cbv)
  refine ndC hidx (ndC ha (ndN ?_));revert hK K;refine qW0 ?_;intro K hK;refine nC rfl (fun h5=>?_) (fun h5=>?_)
  ·have hyk:k=y:=qv5
   revert hK K;refine qW0 ?_;intro K hK;exact hR _ _ ⟨_,⟨fun _=>by rw[hyk];exact List.mem_of_getElem? hy,fun _=>Int.natCast_nonneg _⟩,rfl,rfl⟩
  ·have hyk:k≠y:=qv5
   revert hK K;refine qW0 ?_;intro K hK;rw[e];exact ⟨N - (i+1),by omega,i+1,by rw[<-hN];cbv,by omega,fun p z hp hz=>by
    by_cases hpi:p=i
    ·rw[hpi,hy] at hz;rw[<-Option.some.inj hz];exact fun h=>hyk h.symm
    ·exact g2 p z (by omega) hz,by rw[hN]⟩
 ·have hge:i=N:=qw3
  revert hK K;refine qW0 ?_;intro K hK;refine hR _ _ ⟨_,⟨fun h=>absurd h (by decide),fun h=>?_⟩,rfl,rfl⟩
  obtain ⟨p,hp⟩:=List.mem_iff_getElem?.1 h;exact absurd rfl (g2 p k (by have:=(List.getElem?_eq_some_iff.1 hp).1;omega) hp)
theorem c_ContainsInt (k:Int) (kt:List (List T)) (ks:List Int) (hkt:kt=ks.map fun k=>[T.lit (.int .i64 k)]) (hl:ks.length<=1048576) :
  ACl Tryz.prog 267 [⟨.one,[.ro true kt]⟩,litI k] [] (fun res bx=>∃b:Bool,(b=true↔k∈ks)/\res=litB b/\bx=[]):=by
 have hi:=c_IndexInt k kt ks hkt hl;refine qF tyK Tryz.func267 9 [.tmp 4] ?_;unhygienic intros;revert hK K;refine qW0 ?_;intro K hK;refine qG ?_;refine qD hP hi ?_;rintro res bx ⟨r,hr,rfl,rfl⟩;refine qC ?_;revert hK K;refine qW0 ?_;intro K hK;refine hR _ _ ⟨_,?_,rfl,rfl⟩;rw[<-hr];clear hM hP hC hR;cases hO;simp[Ops.std,sCm]
def txtIn (r:Rx) (ks:List Int):Bs:=if r.k∈ks then 40::(r.txt++[41]) else r.txt
theorem txtIn_none (r:Rx):txtIn r []=r.txt:=if_neg (by simp)
theorem txtIn_unit (r:Rx):txtIn r [5]=r.unit:=by unfold txtIn Rx.unit;simp
theorem txtIn_one (r:Rx) (l:List Rx):txtIn r [4,5]=Rx.one (r::l):=by rw[Rx.one_cons];unfold txtIn;simp
abbrev TextInOk (r:Rx):Prop:=∀(ks:List Int),ks.length<=2->∀kt,kt=(ks.map fun k=>[T.lit (.int .i64 k)])->ACl Tryz.prog 254 [agT r.t,⟨.one,[.ro true kt]⟩] [] (fun res bx=>∃t,t=ofL (txtIn r ks)/\res=litS t/\bx=[])
theorem joinS_txt:∀l:List Rx,joinS ⟨⟨[124]⟩⟩ (l.map fun x=>ofL x.txt)=ofL (Rx.alts l)
 | []=>rfl
 | [x]=>by
  rw[Rx.alts];unfold joinS;rw[List.map_cons,List.map_nil,List.map_cons,List.map_nil,Lib.join_one]
 | x::y::r=>by
  have ih:=joinS_txt (y::r);have h2:∀(a:Bs) (b:Bs) (rest:List Bs),Lib.join (a::b::rest) [124]=a++124::Lib.join (b::rest) [124]:=fun a b rest=>by simp[Lib.join,List.intercalate]
  rw[Rx.alts];have ih':Lib.join (List.map (·.data.toList) (List.map (fun x=>ofL x.txt) (y::r))) [124]=Rx.alts (y::r):=by
   have:=congrArg toL ih;rw[toL_ofL] at this;rw[<-this]
   show _=toL (ofL _)
   rw[toL_ofL]
  show ofL (Lib.join (toL (ofL x.txt)::List.map (·.data.toList) (List.map (fun x=>ofL x.txt) (y::r))) [124])=_
  rw[List.map_cons,List.map_cons] at ih' |-;rw[h2,ih',toL_ofL]
theorem app_strs {O:Ops} (hO:O=Ops.std) {els:List (List T)} {out:List ByteArray} (he:els=strs out) (v:ByteArray):O.app els [[T.lit (.string v)]]=strs (out++[v]):=by
 subst hO;subst he;simp[Ops.std,strs]
theorem cats_snoc (l:List Rx) (x:Rx):Rx.cats (l++[x])=Rx.cats l++x.unit:=by
 rw[<-joinB_cats,joinB_snoc,joinB_cats]
 split<;>simp
def inv27a (kt:List (List T)) (cs:List A) (xl:List (List T)) (l:List Rx) (N:Nat) (σ:AS):Prop:=
 ∃(i:Nat) (t:ByteArray),σ=⟨vag 98 [(1,⟨.one,[.ro true kt]⟩),(2,⟨.one,[.ptr 0 0]⟩),(5,litS t),(28,⟨.one,[.ro true xl]⟩),(29,litI (Int.ofNat l.length)),(30,litI (Int.ofNat i))],[some cs],1⟩/\i<=l.length/\t=ofL (Rx.cats (l.take i))/\N=l.length - i
def inv27b (kt:List (List T)) (cs:List A) (xl:List (List T)) (l:List Rx) (N:Nat) (σ:AS):Prop:=
 ∃(i:Nat) (els:List (List T)),σ=⟨vag 98 [(1,⟨.one,[.ro true kt]⟩),(2,⟨.one,[.ptr 0 0]⟩),(8,⟨.one,[.ow (0,0) 1 els]⟩),(43,⟨.one,[.ro true xl]⟩),(44,litI (Int.ofNat l.length)),(45,litI (Int.ofNat i))],[some cs],1⟩/\i<=l.length/\els=strs ((l.take i).map fun x=>ofL x.txt)/\N=l.length - i
theorem c_rexText_step (k:Int) (s:ByteArray) (l:List Rx) (hok:(Rx.mk k s l).ok) (hp:(Rx.mk k s l).parts<=60) (ih:∀x∈l,TextInOk x):TextInOk (.mk k s l):=by
 intro ks hks kt hkt;have htl:=Rx.txt_len _ _ (Nat.le_refl _) hok;obtain ⟨hh,hl⟩:=Rx.ok_inv hok;have hpl:Rx.partss l<=59:=by rw[Rx.parts] at hp;omega
 have hxl':∀x∈l,x.txt.length+2<=16 * x.parts:=fun x hx=>Rx.txt_len _ _ (Nat.le_refl _) (hl x hx);have hsz:∀x∈l,x.txt.length<=100000:=fun x hx=>by have:=hxl' x hx;have:=Rx.parts_mem hx;omega
 have hj:∀b:Bs,b.length<=1->∀i,(joinB b (l.take i)).length<=100000:=fun b hb i=>by
  have:=joinB_len b hb (l.take i) fun x hx=>hxl' x (List.mem_of_mem_take hx);have:=partss_take l i;omega
 have hTl:(Rx.mk k s l).txt.length<=100000:=by omega
 have hIn:txtIn (Rx.mk k s l) ks=if k∈ks then 40::((Rx.mk k s l).txt++[41]) else (Rx.mk k s l).txt:=rfl
 obtain ⟨tt,htt⟩:=qX ((Rx.mk k s l).txt);rw[<-htt] at hIn hTl;obtain ⟨TT,hTT⟩:=qX (ofL tt);rw[htt] at hTT;have p1:k=1->s=TT:=fun h=>by subst h;rw[hTT,Rx.txt,if_pos rfl,ofL_toL]
 have p2:k=2->(⟨⟨[46]⟩⟩:ByteArray)=TT:=fun h=>by subst h;rw[hTT,Rx.txt];rfl
 have p10:k=10->(⟨⟨[94]⟩⟩:ByteArray)=TT:=fun h=>by subst h;rw[hTT,Rx.txt];rfl
 have p11:k=11->(⟨⟨[36]⟩⟩:ByteArray)=TT:=fun h=>by subst h;rw[hTT,Rx.txt];rfl
 have p9:k=9->(⟨⟨[40,41]⟩⟩:ByteArray)=TT:=fun h=>by subst h;rw[hTT,Rx.txt];rfl
 have hall:k=1\/k=2\/k=3\/k=4\/k=5\/k=6\/k=7\/k=8\/k=9\/k=10\/k=11:=by
  rcases hh with ⟨h1,_⟩ | ⟨h1,_⟩ | ⟨h1,_⟩ | ⟨h1,_⟩ | ⟨h1,_⟩<;>omega
 have p3:k=3->ofL ([91]++toL s++[93])=TT/\s.size<=10:=fun h=>by
  subst h;rcases hh with ⟨h1,_⟩ | ⟨_,hs,_⟩ | ⟨h1,_⟩ | ⟨h1,_⟩ | ⟨h1,_⟩<;>try (exact absurd h1 (by decide))
  simp only[setB,Bool.and_eq_true,decide_eq_true_eq,toL_len] at hs;exact ⟨by rw[hTT,Rx.txt];rfl,hs.2⟩
 have p45:k=4\/k=5->l.length<=8/\∀x∈l,x.k≠k:=fun h=>by
  rcases hh with ⟨h1,_⟩ | ⟨h1,_⟩ | ⟨h1,_⟩ | ⟨_,_,_,h8,hne⟩ | ⟨h1,_⟩
  ·omega
  ·omega
  ·omega
  ·exact ⟨h8,hne⟩
  ·omega
 have p4:k=4->ofL (Rx.cats l)=TT:=fun h=>by subst h;rw[hTT,Rx.txt];rfl
 have p5:k=5->ofL (Rx.alts l)=TT:=fun h=>by subst h;rw[hTT,Rx.txt];rfl
 have p5l:k=5->(Rx.alts l).length<=100000:=fun h=>by
  have:=hTl;rw[htt] at this;subst h;rw[Rx.txt] at this;exact this
 have p678:k=6\/k=7\/k=8->∃x,l=[x]:=fun h=>by
  rcases hh with ⟨h1,_⟩ | ⟨h1,_⟩ | ⟨h1,_⟩ | ⟨h1,_⟩ | ⟨_,_,x,hx,_⟩
  ·omega
  ·omega
  ·omega
  ·omega
  ·exact ⟨x,hx⟩
 obtain ⟨x0,hx0⟩:∃x0:Rx,k=6\/k=7\/k=8->l=[x0]:=by
  by_cases h:k=6\/k=7\/k=8
  ·obtain ⟨x,hx⟩:=p678 h;exact ⟨x,fun _=>hx⟩
  ·exact ⟨default,fun h'=>absurd h' h⟩
 have pr:∀(c:Int) (b:UInt8),(c=6/\b=42)\/(c=7/\b=43)\/(c=8/\b=63)->k=c->ofL (Rx.one [x0]++[b])=TT:=fun c b hcb h=>by
  have hl0:=hx0 (by omega)
  subst h;rw[hTT,hl0];rcases hcb with ⟨rfl,rfl⟩ | ⟨rfl,rfl⟩ | ⟨rfl,rfl⟩<;>rw[Rx.txt]<;>rfl
 have hone:k=6\/k=7\/k=8->ACl Tryz.prog 254 [agT x0.t,⟨.one,[.ro true [[T.lit (.int .i64 4)],[T.lit (.int .i64 5)]]]⟩] [] (fun res bx=>∃t,t=ofL (Rx.one [x0])/\res=litS t/\bx=[]):=fun h=>by
  have:=ih x0 (by rw[hx0 h];simp) [4,5] (by simp) _ rfl
  rwa[txtIn_one x0 []] at this
 have honel:k=6\/k=7\/k=8->(Rx.one [x0]).length<=100002:=fun h=>by
  have:=hsz x0 (by rw[hx0 h];simp)
  rw[Rx.one_cons];split<;>(try simp only[List.length_cons,List.length_append,List.length_nil])<;>omega
 have ih4:∀x∈l,ACl Tryz.prog 254 [agT x.t,⟨.one,[.ro true [[T.lit (.int .i64 5)]]]⟩] [] (fun res bx=>∃t,t=ofL x.unit/\res=litS t/\bx=[]):=fun x hx=>by
  have:=ih x hx [5] (by simp) _ rfl
  rwa[txtIn_unit] at this
 have ih5:∀x∈l,ACl Tryz.prog 254 [agT x.t,⟨.one,[.nil]⟩] [] (fun res bx=>∃t,t=ofL x.txt/\res=litS t/\bx=[]):=fun x hx=>by
  have:=ih x hx [] (by simp) _ rfl
  rw[txtIn_none] at this;exact ACl.nilLast this
 obtain ⟨xl,hxl⟩:=qX (l.map Rx.t);have hcon:=c_ContainsInt k kt ks hkt (by omega)
 rw[hIn];have hun:∀x∈l,x.unit.length<=100002:=fun x hx=>by
  have:=hsz x hx;unfold Rx.unit;split<;>(try simp only[List.length_cons,List.length_append,List.length_nil])<;>omega
 have hj4:∀i,(Rx.cats (l.take i)).length<=100000:=fun i=>by rw[<-joinB_cats];exact hj [] (by simp) i
 have hl8:k=4\/k=5->l.length<=8:=fun h=>(p45 h).1;rw[<-htt] at hTT;simp only[agT,Rx.t_mk,List.map,tA];rw[<-hxl];generalize Rx.one [x0]=ot at *;clear htt hIn p45 hj hsz hxl' hpl hl hh htl hp hok ih p678 hks hkt;refine qF tyK Tryz.func254 98 [.tmp 4] ?_;unhygienic intros;have hsadd:∀x y:Bs,sadd (ofL x) (ofL y)=ofL (x++y):=fun x y=>by cases hO;exact ofL_app x y
 have hsok:∀x y:ByteArray,x.size+y.size<=1000000->sOk x y:=fun x y h=>by cases hO;show x.size+y.size<=9223372036854775807;omega
 have ha:all xl 3:=alO hO (by subst hxl;simp[Rx.t_len])
 obtain ⟨N,hN⟩:=qX l.length;have hlen:len xl=N:=lnO hO (by simp[hxl,hN])
 have hc:∀c:Int,cmp .eql k c=true↔k=c:=fun c=>by cases hO;simp only[Ops.std,sCm,beq_iff_eq]
 have hx0':k=6\/k=7\/k=8->idx 0 (len xl)/\get xl (nat 0)=x0.t:=fun h=>by
  have hl1:l.length=1:=by rw[hx0 h];rfl
  obtain ⟨x,_,q2,_,q4⟩:=mpA hO hxl (i:=0) (by omega)
  rw[hx0 h] at q2;simp at q2;subst q2;have hln:len xl=1:=lnO hO (by simp[hxl,hl1])
  exact ⟨by rw[hln];exact ixN hO (i:=0) (n:=1) (by omega),q4⟩
 obtain ⟨u1,hu1⟩:=qX (ofL ([91]++toL s));have es1:sadd ⟨⟨[91]⟩⟩ s=u1:=by rw[hu1,<-hsadd,ofL_toL];rfl
 obtain ⟨u2,hu2⟩:=qX (ofL ([91]++toL s++[93]));have es2:sadd u1 ⟨⟨[93]⟩⟩=u2:=by rw[hu1,hu2];exact hsadd _ [93]
 rw[<-hu2] at p3;have n1:k=3->sOk ⟨⟨[91]⟩⟩ s:=fun h=>hsok _ _ (by have:=(p3 h).2;show 1+_<=_;omega)
 have n2:k=3->sOk u1 ⟨⟨[93]⟩⟩:=fun h=>hsok _ _ (by have:=(p3 h).2;rw[hu1,ofL_len,List.length_append,toL_len];show _+1<=_;simp;omega)
 obtain ⟨w0,hw0⟩:=qX (ofL ot);rw[<-hw0] at hone;have r6:k=6->sadd w0 ⟨⟨[42]⟩⟩=TT:=fun h=>by rw[hw0,<-pr 6 42 (by decide) h];exact hsadd _ [42]
 have r7:k=7->sadd w0 ⟨⟨[43]⟩⟩=TT:=fun h=>by rw[hw0,<-pr 7 43 (by decide) h];exact hsadd _ [43]
 have r8:k=8->sadd w0 ⟨⟨[63]⟩⟩=TT:=fun h=>by rw[hw0,<-pr 8 63 (by decide) h];exact hsadd _ [63]
 have n6:∀b:UInt8,k=6\/k=7\/k=8->sOk w0 ⟨⟨[b]⟩⟩:=fun b h=>hsok _ _ (by have:=honel h;rw[hw0,ofL_len];show _+1<=_;omega)
 have hk6:cmp .eql k 6=true\/cmp .eql k 7=true\/cmp .eql k 8=true->k=6\/k=7\/k=8:=fun h=>by rw[hc,hc,hc] at h;exact h
 obtain ⟨k0,s0,l0⟩:=x0;simp only[agT,Rx.t_mk,List.map,tA] at hx0' hone;generalize l0.map Rx.t=xl0 at *;clear hx0 pr honel hu1 hw0
 conv=>whnf
 clear hK K;apply cutRest (S:=fun t:ByteArray=>⟨vag 98 [(1,⟨.one,[.ro true kt]⟩),(2,⟨.one,[.ptr 0 0]⟩),(5,litS t)],[some [.lit (.int .i64 k),.lit (.string s),.ro true xl]],1⟩) (H:=fun t=>t=TT)
 ·intro rest
  have K:=0;have hK:=True.intro;refine qU ?_
  repeat' first|(refine nWr (id:=35) (nb:=1) (keep:=fun t=>t == 1 || t == 2 || t == 5) (kk:=fun _ _=>none) (by simp at hC;simp[hC]) ?_;cbv;refine rest _ ?_)|(revert hK K;refine qS0 ?_;intro K hK)|(refine GFork.mk (fun _=>qQ ?_) fun _=>qQ ?_)|(simp only[es1,es2];try cbv)|(have e0:=(hx0' (hk6 (by first | exact .inl (by assumption) | exact .inr (.inl (by assumption)) | exact .inr (.inr (by assumption))))).2;simp only[e0];(try cbv))|(with_reducible refine ndC ?h ?_;case h=>first | exact n1 ((hc 3).1 (by assumption)) | exact n2 ((hc 3).1 (by assumption)) | exact ha | exact (hx0' (hk6 (by first | exact .inl (by assumption) | exact .inr (.inl (by assumption)) | exact .inr (.inr (by assumption))))).1 | exact n6 _ (hk6 (by first | exact .inl (by assumption) | exact .inr (.inl (by assumption)) | exact .inr (.inr (by assumption)))))|(refine GCall.by (nS []) ?_;refine qC ?_;refine qD hP (hone (hk6 (by first | exact .inl (by assumption) | exact .inr (.inl (by assumption)) | exact .inr (.inr (by assumption))))) ?_;rintro res bx ⟨w,hw,rfl,rfl⟩;refine qC ?_)|(simp only[hw];try cbv)
  all_goals ((try cbv);first | exact p1 ((hc 1).1 (by assumption)) | exact p2 ((hc 2).1 (by assumption)) | exact (p3 ((hc 3).1 (by assumption))).1 | exact r6 ((hc 6).1 (by assumption)) | exact r7 ((hc 7).1 (by assumption)) | exact r8 ((hc 8).1 (by assumption)) | exact p9 ((hc 9).1 (by assumption)) | exact p10 ((hc 10).1 (by assumption)) | exact p11 ((hc 11).1 (by assumption)) | skip)
  ·have hk4:k=4:=(hc 4).1 (by assumption)
   have hp4:=p4 hk4;have hN8:N<=8:=by rw[hN];exact hl8 (.inl hk4)
   clear p1 p2 p3 p4 p5 p5l p9 p10 p11 hall ih5 hcon hone r6 r7 r8 n1 n2 n6 hk6 hx0' es1 es2;obtain ⟨cs,hcs⟩:=qX ([.lit (.int .i64 k),.lit (.string s),.ro true xl]:List A);simp only[hlen];refine qL 1 [1,2,5,28,29,30] kk0 (inv27a kt cs xl l) ?_ ?_
   ·cbv
    exact ⟨_,0,⟨⟨[]⟩⟩,by (try rw[hcs]);rw[<-hN];cbv,by simp,by simp[Rx.cats];rfl,rfl⟩
   rintro m σ ⟨i,t,rfl,g1,g2,rfl⟩
   try rw[hcs]
   rw[<-hN];revert hK K;refine qW0 ?_;intro K hK;refine nC rfl (fun h3=>?_) (fun h3=>?_)
   ·have hlt:i < N:=qv3
    obtain ⟨x,hx,hx',ht,e1⟩:=mpA hO hxl (hN ▸ hlt);have e:bin .add .i64 (Int.ofNat i) 1=_:=iSc hO (by omega)
    have hidx:idx (Int.ofNat i) (len xl):=hlen ▸ ixN hO hlt;have hcall:=ih4 x hx;have hux:=hun x hx;have hji:=hj4 i;have hsn:=cats_snoc (l.take i) x;rw[<-ht] at hsn;generalize x.unit=ux at *;obtain ⟨acc,hacc⟩:=qX (Rx.cats (l.take i));rw[<-hacc] at g2 hsn hji;obtain ⟨w1,hw1⟩:=qX (ofL ux);obtain ⟨u3,hu3⟩:=qX (ofL (acc++ux));have es3:sadd t w1=u3:=by rw[g2,hw1,hu3];exact hsadd _ _
    have nk:sOk t w1:=hsok _ _ (by rw[g2,hw1,ofL_len,ofL_len];omega)
    obtain ⟨k',s',l'⟩:=x;simp only[agT,Rx.t_mk,List.map,tA] at hcall e1;generalize l'.map Rx.t=xl' at hcall e1;revert hK K;refine qW0 ?_;intro K hK
    repeat (simp only[e1];cbv)
    refine ndC hidx (ndC ha (ndN ?_));revert hK K;refine qW0 ?_;intro K hK;refine GCall.by (nS []) ?_;refine qC ?_;refine qD hP hcall ?_;rintro res bx ⟨w,hw,rfl,rfl⟩;refine qC ?_
    obtain rfl:w=w1:=hw.trans hw1.symm;simp only[es3];refine ndC nk (ndN ?_);revert hK K;refine qW0 ?_;intro K hK;rw[e];exact ⟨N - (i+1),by omega,i+1,u3,by (try rw[hcs]);rw[<-hN];cbv,by omega,by rw[hu3,hsn],by rw[hN]⟩
   ·have hge:i=N:=qw3
    rw[List.take_of_length_le (by omega)] at g2
    refine qU ?_
    repeat' first|(refine nWr (id:=35) (nb:=1) (keep:=fun t=>t == 1 || t == 2 || t == 5) (kk:=fun _ _=>none) (by simp at hC;simp[hC]) ?_;cbv;refine rest _ ?_)|(revert hK K;refine qS0 ?_;intro K hK)|(refine GFork.mk (fun _=>qQ ?_) fun _=>qQ ?_)
    all_goals (exact g2.trans hp4)
  ·have hk5:k=5:=(hc 5).1 (by assumption)
   have hp5:=p5 hk5;have hp5l:=p5l hk5;have hN8:N<=8:=by rw[hN];exact hl8 (.inr hk5)
   clear p1 p2 p3 p4 p5 p5l p9 p10 p11 hall ih4 hcon hone r6 r7 r8 n1 n2 n6 hk6 hx0' es1 es2;obtain ⟨cs,hcs⟩:=qX ([.lit (.int .i64 k),.lit (.string s),.ro true xl]:List A);simp only[hlen];refine qL 1 [1,2,8,43,44,45] (fun r _=>if r=.slot 8 then some 1 else none) (inv27b kt cs xl l) ?_ ?_
   ·cbv
    exact ⟨_,0,[],by (try rw[hcs]);rw[<-hN];cbv,by simp,rfl,rfl⟩
   rintro m σ ⟨i,els,rfl,g1,g2,rfl⟩
   try rw[hcs]
   rw[<-hN];revert hK K;refine qW0 ?_;intro K hK;refine nC rfl (fun h3=>?_) (fun h3=>?_)
   ·have hlt:i < N:=qv3
    obtain ⟨x,hx,hx',ht,e1⟩:=mpA hO hxl (hN ▸ hlt);have e:bin .add .i64 (Int.ofNat i) 1=_:=iSc hO (by omega)
    have hidx:idx (Int.ofNat i) (len xl):=hlen ▸ ixN hO hlt;have hcall:=ih5 x hx;obtain ⟨w1,hw1⟩:=qX (ofL x.txt);rw[<-hw1] at hcall;obtain ⟨els',hels'⟩:=qX (strs ((l.take (i+1)).map fun x=>ofL x.txt));have happ:app els [[T.lit (.string w1)]]=els':=by rw[hels',ht,List.map_append,List.map_cons,List.map_nil,<-hw1];exact app_strs hO g2 w1
    have hel:els.length<=8:=by rw[g2,strs_len,List.length_map,List.length_take];omega
    have haok:∀b,b<=64->aOk b els [[T.lit (.string w1)]]:=fun b hb=>aOk_of hO (by
     have:(els.length+1) * b<=9 * 64:=Nat.mul_le_mul (by omega) hb
     simp only[List.length_cons,List.length_nil,Nat.zero_add] at this |-;omega) (by simp only[List.length_cons,List.length_nil];omega)
    obtain ⟨k',s',l'⟩:=x;simp only[agT,Rx.t_mk,List.map,tA] at hcall e1;generalize l'.map Rx.t=xl' at hcall e1;revert hK K;refine qW0 ?_;intro K hK
    repeat (simp only[e1];cbv)
    refine ndC hidx (ndC ha (ndN ?_));revert hK K;refine qW0 ?_;intro K hK;refine GCall.by (nS []) ?_;refine qC ?_;refine qD hP hcall ?_;rintro res bx ⟨w,hw,rfl,rfl⟩;refine qC ?_
    obtain rfl:w=w1:=hw;revert hK K;refine qW0 ?_;intro K hK;simp only[happ];refine ndC (alO hO (by simp)) (ndC (haok _ (by decide)) (ndN ?_))
    revert hK K;refine qW0 ?_;intro K hK;rw[e];exact ⟨N - (i+1),by omega,i+1,els',by (try rw[hcs]);rw[<-hN];cbv,by omega,hels',by rw[hN]⟩
   ·have hge:i=N:=qw3
    rw[List.take_of_length_le (by omega)] at g2
    have hjoin:=c_Join ⟨⟨[124]⟩⟩ els (l.map fun x=>ofL x.txt) g2 (by rw[List.length_map];omega) (by rw[joinS_txt,ofL_len];omega)
    rw[joinS_txt,hp5] at hjoin;refine qU ?_
    repeat' first|(refine nWr (id:=35) (nb:=1) (keep:=fun t=>t == 1 || t == 2 || t == 5) (kk:=fun _ _=>none) (by simp at hC;simp[hC]) ?_;cbv;refine rest _ ?_)|(revert hK K;refine qS0 ?_;intro K hK)|(refine GFork.mk (fun _=>qQ ?_) fun _=>qQ ?_)|(refine GCall.by (nS []) ?_;refine qC ?_;refine qD hP hjoin ?_;rintro res bx ⟨w,hw,rfl,rfl⟩;refine qC ?_)
    all_goals (exact hw)
  ·exfalso
   rcases hall with h | h | h | h | h | h | h | h | h | h | h<;>(have:=(hc _).2 h;simp_all)
 ·intro t ht
  have K:=0;have hK:=True.intro;have htl:t.size<=100000:=by rw[ht,hTT,ofL_len];exact hTl
  obtain ⟨v1,hv1⟩:=qX (ofL ([40]++tt));have es3:sadd ⟨⟨[40]⟩⟩ t=v1:=by rw[hv1,ht,hTT];exact hsadd [40] tt
  obtain ⟨v2,hv2⟩:=qX (ofL ([40]++tt++[41]));have es4:sadd v1 ⟨⟨[41]⟩⟩=v2:=by rw[hv1,hv2];exact hsadd _ [41]
  have k1:sOk ⟨⟨[40]⟩⟩ t:=hsok _ _ (by show 1+_<=_;omega)
  have k2:sOk v1 ⟨⟨[41]⟩⟩:=hsok _ _ (by rw[hv1,ofL_len,List.length_append];show 1+_+1<=_;omega)
  clear p1 p2 p3 p4 p5 p5l p9 p10 p11 hall ih4 ih5 hone r6 r7 r8 n1 n2 n6 hk6 hx0' es1 es2;revert hK K;refine qW0 ?_;intro K hK;refine qG ?_;refine qD hP hcon ?_;rintro res bx ⟨b,hb,rfl,rfl⟩;refine qC ?_;cases b
  ·revert hK K;refine qW0 ?_;intro K hK
   exact hR _ _ ⟨t,by rw[if_neg (fun h=>absurd (hb.2 h) (by simp)),ht,hTT],rfl,rfl⟩
  ·revert hK K;refine qW0 ?_;intro K hK
   simp only[es3,es4];refine ndC k1 (ndC k2 (ndN ?_));revert hK K;refine qW0 ?_;intro K hK;exact hR _ _ ⟨v2,by rw[if_pos (hb.1 rfl),hv2];rfl,rfl,rfl⟩
theorem c_rexText (r:Rx):r.ok->r.parts<=60->TextInOk r:=by
 obtain ⟨k,s,l⟩:=r;intro hok hp;exact c_rexText_step k s l hok hp fun x hx=>c_rexText x ((Rx.ok_inv hok).2 x hx) (by have:=Rx.parts_mem hx;rw[Rx.parts] at hp;omega)
termination_by SizeOf.sizeOf r
decreasing_by
 have:=List.sizeOf_lt_of_mem hx;simp;omega
set_option maxHeartbeats 4000000
theorem c_RexText_impl:RexTextOk 246:=by
 intro r hw;have h1:=c_RexOk_impl r hw;have h2:r.good->ACl Tryz.prog 254 [agT r.t,⟨.one,[.nil]⟩] [] (fun res bx=>∃t,t=ofL r.txt/\res=litS t/\bx=[]):=fun h=>by
  have:=c_rexText r h.1 h.2.1 [] (by simp) _ rfl
  rw[txtIn_none] at this;exact ACl.nilLast this
 generalize r.good=g at *;generalize r.txt=tx at *;obtain ⟨k,s,l⟩:=r;simp only[agT,Rx.t_mk,List.map,tA] at h1 h2 |-;generalize l.map Rx.t=xl at *;refine qF tyK Tryz.func246 8 [.tmp 2] ?_;unhygienic intros;have hnt:bnot true=false:=by cases hO;rfl
 have hnf:bnot false=true:=by cases hO;rfl
 revert hK K;refine qW0 ?_;intro K hK;refine qG ?_;refine qD hP h1 ?_;rintro res bx ⟨b,hb,rfl,rfl⟩;refine qC ?_;cases b
 ·revert hK K;refine qW0 ?_;intro K hK
  simp only[hnf];revert hK K;refine qW0 ?_;intro K hK;exact hR _ _ ⟨_,fun h=>absurd (hb.2 h) (by simp),fun _=>rfl,rfl,rfl⟩
 ·revert hK K;refine qW0 ?_;intro K hK
  simp only[hnt];revert hK K;refine qW0 ?_;intro K hK;refine qG ?_;refine qD hP (h2 (hb.1 rfl)) ?_;rintro res bx ⟨t,ht,rfl,rfl⟩;refine qC ?_;revert hK K;refine qW0 ?_;intro K hK;exact hR _ _ ⟨t,fun _=>ht,fun h=>absurd (hb.1 rfl) h,rfl,rfl⟩
theorem c_ParseRex_impl:ParseOk 241:=by
 refine ParseOk.of fun s hs=>?_;have hA:ACl Tryz.prog 244 [⟨.one,[.ptr 0 0]⟩] [some [.lit (.string s),.lit (.int .i64 0),.lit (.int .i64 0),.lit (.bool false)]] _:=(c_alt s.size).opened s 0 0 hs (by omega) (by omega) (by omega)
 have hT:=c_RexText_impl;have hG:=c_RexOk_impl;unfold RexTextOk at hT;unfold GoodOk at hG;refine qF tyK Tryz.func241 37 [.cell 2 331,.tmp 3] ?_;unhygienic intros;obtain ⟨N,hN⟩:=qX s.size;have hsz:size s=N:=by cases hO;exact hN.symm
 have hnt:bnot true=false:=by cases hO;rfl
 have hnf:bnot false=true:=by cases hO;rfl
 have hfail:(∀y:Rx,y.good->ofL y.txt≠s)->IsParse s (.mk 0 e0 []) false:=fun h=>.inr ⟨rfl,rfl,h⟩;revert hK K;refine qW0 ?_;intro K hK;refine qg [1] ?_;refine qC ?_;refine qD hP hA ?_;rintro res bx ⟨x,k,sx,xl,j,bad,qt,q1,q2,q3,q4,q5,rfl,rfl⟩;refine qC ?_;have hkey:∀y:Rx,y.good->ofL y.txt=s->x=y/\bad=false/\j=N:=fun y hy he=>by
  obtain ⟨n,hn⟩:=good_read hy;have:=q5 (by omega) n y [] (by rw[List.drop_zero,<-he,toL_ofL];exact hn)
  refine ⟨this.1,this.2.1,?_⟩;have h3:=congrArg List.length this.2.2;rw[List.length_drop,toL_len,List.length_nil] at h3;have:=(q4 this.2.1).2;omega
 have hT:=hT x q1;have hG:=hG x q1;simp only[agT,qt,List.map,tA] at hT hG;cases bad
 ·revert hK K;refine qW0 ?_;intro K hK
  simp only[hsz];refine GFork.mk (fun h3=>?_) (fun h3=>?_)<;>cbv
  ·have hne:j≠N:=qw3
   revert hK K;refine qW0 ?_;intro K hK
   try cbv
   exact hR _ _ ⟨_,false,hfail fun y hy he=>absurd (hkey y hy he).2.2 hne,leaf_wf (by decide),by rw[leaf_map];rfl,rfl⟩
  ·have hje:j=N:=qw3
   revert hK K;refine qW0 ?_;intro K hK;refine qG ?_;refine qD hP hG ?_;rintro res bx ⟨b,hb,rfl,rfl⟩;refine qC ?_;cases b
   ·revert hK K;refine qW0 ?_;intro K hK
    simp only[hnf];revert hK K;refine qW0 ?_;intro K hK
    try cbv
    exact hR _ _ ⟨_,false,hfail fun y hy he=>by
     obtain ⟨rfl,_,_⟩:=hkey y hy he;exact absurd (hb.2 hy) (by simp),leaf_wf (by decide),by rw[leaf_map];rfl,rfl⟩
   ·have hg:=hb.1 rfl
    revert hK K;refine qW0 ?_;intro K hK;simp only[hnt];revert hK K;refine qW0 ?_;intro K hK;refine qG ?_;refine qD hP hT ?_;rintro res bx ⟨t,t1,t2,rfl,rfl⟩;refine qC ?_;revert hK K;refine qW0 ?_;intro K hK;refine nC rfl (fun h5=>?_) (fun h5=>?_)
    ·have hne:t≠s:=qv5
     revert hK K;refine qW0 ?_;intro K hK
     try cbv
     exact hR _ _ ⟨_,false,hfail fun y hy he=>by
      obtain ⟨rfl,_,_⟩:=hkey y hy he;exact hne ((t1 hy).trans he),leaf_wf (by decide),by rw[leaf_map];rfl,rfl⟩
    ·have hts:t=s:=qv5
     have hp:IsParse s x true:=.inl ⟨rfl,hg,by rw[<-t1 hg,hts]⟩
     revert hK K;refine qW0 ?_;intro K hK
     try cbv
     exact hR _ _ ⟨x,true,hp,q1,by rw[qt];rfl,rfl⟩
 ·revert hK K;refine qW0 ?_;intro K hK
  try cbv
  exact hR _ _ ⟨_,false,hfail fun y hy he=>absurd (hkey y hy he).2.1 (by simp),leaf_wf (by decide),by rw[leaf_map];rfl,rfl⟩
end Go.Gv
