/- Part U5 of the proof: contracts of functions of the program, each walked once. -/
import Derived.Test.YtjeejieaalnbeaaGreatU1
import Derived.Test.YtjeejieaalnbeaaGreatQ1
set_option linter.all false
namespace Go.Gv
open Go.Av Go.Proofs Go.Shelf Go.RowKit
set_option maxRecDepth 10000
set_option maxHeartbeats 8000000
def kkU (r:Root) (c:Nat):Option Nat:=match r with
 | .box 1=>match c with
  | 0=>some 1
  | 1=>some 1
  | 2=>some 4
  | 3=>some 1
  | _=>none
 | _=>none
def invU6 (pc:List A) (l:List Fu) (N:Nat) (σ:AS):Prop:=
 ∃(i:Nat) (vs' ts':List ByteArray) (cs':List Ex) (vt tt ct pt:List (List T)) (fn line bad:Bool),σ=⟨vag 95 [(1,⟨.one,[.ptr 0 0]⟩),(3,⟨.one,[.ptr 1 0]⟩),(4,litI (Int.ofNat i))],[some pc,useB vt tt ct pt fn line bad],1⟩/\i<=l.length/\
  vt=strs vs'/\tt=strs ts'/\ct=cs'.map Ex.t/\UsesP (Fu.vP (l.take i)) (Fu.tP (l.take i)) (Fu.clsL (l.take i)) (Fu.us (l.take i)) [] [] [] vs' ts' cs'/\(bad=true↔Fu.bP (l.take i))/\N=l.length - i
def invU7 (pc:List A) (p:Pg) (l:List Ru) (N:Nat) (σ:AS):Prop:=
 ∃(i:Nat) (vs' ts':List ByteArray) (cs':List Ex) (vt tt ct:List (List T)) (line bad:Bool),σ=⟨vag 95 [(1,⟨.one,[.ptr 0 0]⟩),(3,⟨.one,[.ptr 1 0]⟩),(5,litI (Int.ofNat i))],[some pc,useB vt tt ct [] false line bad],1⟩/\i<=l.length/\
  vt=strs vs'/\tt=strs ts'/\ct=cs'.map Ex.t/\UsesP (fun s=>Fu.vP p.fns s\/Ru.vP (l.take i) s) (fun s=>Fu.tP p.fns s\/Ru.tP (l.take i) s) (Fu.clsL p.fns++Ru.clsL (l.take i)) (Fu.us p.fns+Ru.us (l.take i)) [] [] [] vs' ts' cs'/\(bad=true↔Fu.bP p.fns\/Ru.bP (l.take i))/\N=l.length - i
theorem c_l12Of (p:Pg) (hz:p.sz<=1048576):ACl Tryz.prog 60 [agT p.t] [] (fun res bx=>∃vs ts cs vt tt ct pt fn line bad,NamesQ p vs ts cs bad/\vt=strs vs/\tt=strs ts/\ct=cs.map Ex.t/\res=⟨.one,[.ptr 1 0]⟩/\bx=[some [.ro true (p.rules.map Ru.t),.ro true (p.fns.map Fu.t)],useB vt tt ct pt fn line bad]):=by
 rw[Pg.sz] at hz;have hrz:∀r∈p.rules,r.sz<=1048576:=fun r hr=>by have:=Ru.szs_mem hr;omega
 have hfz:∀f∈p.fns,f.sz<=1048576:=fun f hf=>by have:=Fu.szs_mem hf;omega
 have hfu:=Fu.us_le p.fns;have hru:=Ru.us_le p.rules;rw[pg_agT];obtain ⟨rl,hrl⟩:=qX (p.rules.map Ru.t);obtain ⟨fl,hfl⟩:=qX (p.fns.map Fu.t);rw[<-hrl,<-hfl];refine qF tyK Tryz.func60 95 [.tmp 2] ?_;unhygienic intros;obtain ⟨pc,hpc⟩:=qX ([.ro true rl,.ro true fl]:List A);obtain ⟨N,hN⟩:=qX p.fns.length;obtain ⟨M,hM'⟩:=qX p.rules.length;have lf:len fl=N:=lnO hO (by simp[hfl,hN])
 have lr:len rl=M:=lnO hO (by simp[hrl,hM'])
 have hallf:all fl 3:=alO hO (by rw[hfl];simp[Fu.t_len])
 have hallr:all rl 6:=alO hO (by rw[hrl];simp[Ru.t_len])
 revert hK K;refine qW0 ?_;intro K hK;refine nW (nb:=2) (keep:=fun t=>t == 1 || t == 3 || t == 4) (kk:=kkU) (by simp at hC;simp[hC]) ?_
 try cbv
 refine nZ (.box 1) 3 ?_
 try cbv
 refine qL 2 [1,3,4] kk0 (invU6 pc p.fns) ?_ ?_
 ·cbv
  exact ⟨_,0,[],[],[],[],[],[],[],false,false,false,by rw[hpc];cbv,by simp,rfl,rfl,rfl,⟨trivial,trivial,by simp[Fu.vP],by simp[Fu.tP],by simp[Fu.clsL],by simp,by simp,by simp[Fu.clsL]⟩,by simp[Fu.bP],rfl⟩
 rintro m σ ⟨i,vs2,ts2,cs2,vt2,tt2,ct2,pt2,fn2,line2,bad2,rfl,g1,e4,e5,e6,hU2,hB2,rfl⟩;rw[<-hN] at g1 |-;rw[hpc];revert hK K;refine qW0 ?_;intro K hK;simp only[lf];refine nC rfl (fun h3=>?_) (fun h3=>?_)
 ·have hlt:i < N:=qv3
  have e:bin .add .i64 (Int.ofNat i) 1=_:=iSc hO (by omega)
  have hidx:idx (Int.ofNat i) (len fl):=lf ▸ ixN hO hlt;obtain ⟨f,hfm,hf,htk,e1⟩:=mpA hO hfl (hN ▸ hlt);obtain ⟨s1,s2,s3,s4,s5⟩:=fu_step htk;have hpl:=Fu.us_take p.fns (i+1);obtain ⟨u1,u2,u3,u4,u5,u6,u7,u8⟩:=id hU2;simp only[List.length_nil,Nat.zero_add,List.nil_append] at u5 u6 u7;have hcl2:cs2.length+Sm.uss f.a<=1073741824:=by rw[u5];omega
  have hfs:=hfz f hfm;rw[Fu.sz] at hfs;have hpn:f.params.length<=1073741824:=by omega
  obtain ⟨pt,hpt⟩:=qX (strs f.params);obtain ⟨al,hal⟩:=qX (f.a.map Sm.t);have hcall:=c_l12Block f.a (by omega) (fun y hy=>by have:=Sm.szs_mem hy;omega) al hal f.params vs2 ts2 cs2 pt vt2 tt2 ct2 true false bad2 hpt hpn e4 e5 e6 u1 u2 (by omega) (by omega) hcl2
  have e2:get fl (nat (Int.ofNat i))=[T.lit (.string f.name),.sl pt,.sl al]:=by rw[hpt,hal];exact e1
  generalize f.name=fname at e2;clear hru hrz hfz hfs;refine qU ?_
  repeat' first|(revert hK K;refine qV0 ?_;intro K hK)|(refine GFork.mk (fun _=>qQ ?_) fun _=>qQ ?_)|(simp only[e2];try cbv)|(with_reducible refine ndC ?h ?_;case h=>first | exact hidx | exact hallf)|(refine qg [1] ?_;refine qC ?_;refine qD hP hcall ?_;rintro res bx ⟨vs3,ts3,cs3,vt3,tt3,ct3,bad3,q1,q2,q3,hU3,hB3,rfl,rfl⟩;refine qC ?_)
  rw[e];exact ⟨N - (i+1),by omega,i+1,vs3,ts3,cs3,vt3,tt3,ct3,pt,true,false,bad3,by (try rw[hpc]);cbv,by omega,q1,q2,q3,hU2.trans hU3.toP s1 s2 s3 s5,by rw[s4,<-hB2];simpa [BadQ] using hB3,by rw[hN]⟩
 ·have hge:i=N:=qw3
  subst hge;rw[hN,List.take_length] at hU2 hB2;clear h3 g1 lf hallf hfz;revert hK K;refine qW0 ?_;intro K hK;refine nZ (.box 1) 3 ?_
  try cbv
  refine qL 2 [1,3,5] kk0 (invU7 pc p p.rules) ?_ ?_
  ·cbv
   exact ⟨_,0,vs2,ts2,cs2,vt2,tt2,ct2,line2,bad2,by rw[hpc];cbv,by simp,e4,e5,e6,by simpa [Ru.vP,Ru.tP,Ru.clsL,Ru.us] using hU2,by simpa [Ru.bP] using hB2,rfl⟩
  clear hU2 hB2 e4 e5 e6;rintro m σ ⟨i,vs2,ts2,cs2,vt2,tt2,ct2,line2,bad2,rfl,g1,e4,e5,e6,hU2,hB2,rfl⟩;rw[<-hM'] at g1 |-;rw[hpc];revert hK K;refine qW0 ?_;intro K hK;simp only[lr];refine nC rfl (fun h3=>?_) (fun h3=>?_)
  ·have hlt:i < M:=qv3
   have e:bin .add .i64 (Int.ofNat i) 1=_:=iSc hO (by omega)
   have hidx:idx (Int.ofNat i) (len rl):=lr ▸ ixN hO hlt;obtain ⟨f,hfm,hf,htk,e1⟩:=mpA hO hrl (hM' ▸ hlt);obtain ⟨s1,s2,s3,s4,s5⟩:=ru_step htk;have hpl:=Ru.us_take p.rules (i+1);obtain ⟨u1,u2,u3,u4,u5,u6,u7,u8⟩:=id hU2;simp only[List.length_nil,Nat.zero_add,List.nil_append] at u5 u6 u7;have hfs:=hrz f hfm;rw[Ru.sz] at hfs;obtain ⟨al,hal⟩:=qX (f.a.map Sm.t);have hc:∀c:Int,cmp .eql f.k c=true↔f.k=c:=fun c=>by cases hO;simp only[Ops.std,sCm,beq_iff_eq]
   have hcf:∀c:Int,f.k≠c->cmp .eql f.k c=false:=fun c h=>by
    cases hb:cmp .eql f.k c with
    | false=>rfl
    | true=>exact absurd ((hc c).1 hb) h
   by_cases k4:f.k=4
   ·have hhd:f.hd=[f.p]:=by rw[Ru.hd,if_pos k4]
    rw[hhd] at s1 s2 s3 s5;simp only[Ex.vss,Ex.tbs,Ex.cls,List.append_nil,Ex.partss,Nat.add_zero] at s1 s2 s3 s5;have c3:=hcf 3 (by omega)
    have c4:=(hc 4).2 k4;have hcl1:cs2.length+f.p.parts<=1073741824:=by rw[u5];omega
    have hcall1:=c_l12Expr f.p (by omega) [] vs2 ts2 cs2 [] vt2 tt2 ct2 false true bad2 rfl (by simp) e4 e5 e6 u1 u2 (by omega) (by omega) hcl1
    have hB2':∀bad3,BadQ false true bad2 (Sm.kss f.a) bad3->(bad3=true↔Fu.bP p.fns\/Ru.bP (p.rules.take (i+1))):=fun bad3 h=>by
     rw[s4,<-or_assoc,<-hB2];simpa [BadQ,k4] using h
    have hcall2:∀vs3 ts3 cs3 vt3 tt3 ct3,vt3=strs vs3->tt3=strs ts3->ct3=cs3.map Ex.t->Uses [] f.p.vs f.p.tb f.p.cl f.p.parts vs2 ts2 cs2 vs3 ts3 cs3->_:=fun vs3 ts3 cs3 vt3 tt3 ct3 a1 a2 a3 hU=>c_l12Block f.a (by omega) (fun y hy=>by have:=Sm.szs_mem hy;omega) al hal [] vs3 ts3 cs3 [] vt3 tt3 ct3 false true bad2 rfl (by simp) a1 a2 a3 hU.1 hU.2.1 (by have:=hU.2.2.2.2.2.1;omega) (by have:=hU.2.2.2.2.2.2.1;omega) (by rw[hU.2.2.2.2.1,List.length_append,u5];have:=hU.2.2.2.2.2.2.2;omega)
    generalize hfp:f.p=fp at *;obtain ⟨ek,en,es,el⟩:=fp;have e2:get rl (nat (Int.ofNat i))=[T.lit (.int .i64 f.k),.lit (.int .i64 ek),.lit (.int .i64 en),.lit (.string es),.sl (el.map Ex.t),.sl al]:=Eq.trans e1 (by rw[Ru.t,hfp,Ex.t_mk,hal];rfl)
    simp only[agT,Ex.t_mk,List.map,tA] at hcall1;generalize el.map Ex.t=xl' at hcall1 e2;clear hru hrz hfs;refine qU ?_
    repeat' first|(revert hK K;refine qV0 ?_;intro K hK)|(refine GFork.mk (fun _=>qQ ?_) fun _=>qQ ?_)|(simp only[e2,c3,c4];try cbv)|(with_reducible refine ndC ?h ?_;case h=>first | exact hidx | exact hallr)|(refine qg [1] ?_;refine qC ?_;refine qD hP hcall1 ?_;rintro res bx ⟨vs3,ts3,cs3,vt3,tt3,ct3,q1,q2,q3,hU3,rfl,rfl⟩;refine qC ?_)|(refine qg [1] ?_;refine qC ?_;refine qD hP ((hcall2 vs3 ts3 cs3 vt3 tt3 ct3 q1 q2 q3 hU3)) ?_;rintro res bx ⟨vs4,ts4,cs4,vt4,tt4,ct4,bad4,r1,r2,r3,hU4,hB4,rfl,rfl⟩;refine qC ?_)
    rw[e];have hU5:=hU3.trans hU4;exact ⟨M - (i+1),by omega,i+1,vs4,ts4,cs4,vt4,tt4,ct4,true,bad4,by (try rw[hpc]);cbv,by omega,r1,r2,r3,hU2.trans hU5.toP (fun s=>by rw[s1];simp[or_assoc]) (fun s=>by rw[s2];simp[or_assoc]) (by rw[s3];simp) (by rw[s5];omega),hB2' _ hB4,by rw[hM']⟩
   ·have hhd:f.hd=[]:=by rw[Ru.hd,if_neg k4]
    rw[hhd] at s1 s2 s3 s5;simp only[Ex.vss,Ex.tbs,Ex.cls,List.nil_append,Ex.partss,Nat.zero_add,List.not_mem_nil,false_or] at s1 s2 s3 s5;have c4:=hcf 4 k4;have hcl1:cs2.length+Sm.uss f.a<=1073741824:=by rw[u5];omega
    by_cases k3:f.k=3
    ·have c3:=(hc 3).2 k3
     have hB2':∀bad3,BadQ false true bad2 (Sm.kss f.a) bad3->(bad3=true↔Fu.bP p.fns\/Ru.bP (p.rules.take (i+1))):=fun bad3 h=>by
      rw[s4,<-or_assoc,<-hB2];simpa [BadQ,k3,k4] using h
     have hcall2:=c_l12Block f.a (by omega) (fun y hy=>by have:=Sm.szs_mem hy;omega) al hal [] vs2 ts2 cs2 [] vt2 tt2 ct2 false true bad2 rfl (by simp) e4 e5 e6 u1 u2 (by omega) (by omega) hcl1
     generalize hfp:f.p=fp at *;obtain ⟨ek,en,es,el⟩:=fp;have e2:get rl (nat (Int.ofNat i))=[T.lit (.int .i64 f.k),.lit (.int .i64 ek),.lit (.int .i64 en),.lit (.string es),.sl (el.map Ex.t),.sl al]:=Eq.trans e1 (by rw[Ru.t,hfp,Ex.t_mk,hal];rfl)
     generalize el.map Ex.t=xl' at e2;clear hru hrz hfs;refine qU ?_
     repeat' first|(revert hK K;refine qV0 ?_;intro K hK)|(refine GFork.mk (fun _=>qQ ?_) fun _=>qQ ?_)|(simp only[e2,c3,c4];try cbv)|(with_reducible refine ndC ?h ?_;case h=>first | exact hidx | exact hallr)|(refine qg [1] ?_;refine qC ?_;refine qD hP hcall2 ?_;rintro res bx ⟨vs4,ts4,cs4,vt4,tt4,ct4,bad4,r1,r2,r3,hU4,hB4,rfl,rfl⟩;refine qC ?_)
     rw[e];exact ⟨M - (i+1),by omega,i+1,vs4,ts4,cs4,vt4,tt4,ct4,true,bad4,by (try rw[hpc]);cbv,by omega,r1,r2,r3,hU2.trans hU4.toP (fun s=>by rw[s1];simp[or_assoc]) (fun s=>by rw[s2];simp[or_assoc]) (by rw[s3];simp) (by rw[s5];omega),hB2' _ hB4,by rw[hM']⟩
    ·have c3:=hcf 3 k3
     have hB2':∀bad3,BadQ false false bad2 (Sm.kss f.a) bad3->(bad3=true↔Fu.bP p.fns\/Ru.bP (p.rules.take (i+1))):=fun bad3 h=>by
      rw[s4,<-or_assoc,<-hB2];simpa [BadQ,k3,k4] using h
     have hcall2:=c_l12Block f.a (by omega) (fun y hy=>by have:=Sm.szs_mem hy;omega) al hal [] vs2 ts2 cs2 [] vt2 tt2 ct2 false false bad2 rfl (by simp) e4 e5 e6 u1 u2 (by omega) (by omega) hcl1
     generalize hfp:f.p=fp at *;obtain ⟨ek,en,es,el⟩:=fp;have e2:get rl (nat (Int.ofNat i))=[T.lit (.int .i64 f.k),.lit (.int .i64 ek),.lit (.int .i64 en),.lit (.string es),.sl (el.map Ex.t),.sl al]:=Eq.trans e1 (by rw[Ru.t,hfp,Ex.t_mk,hal];rfl)
     generalize el.map Ex.t=xl' at e2;clear hru hrz hfs;refine qU ?_
     repeat' first|(revert hK K;refine qV0 ?_;intro K hK)|(refine GFork.mk (fun _=>qQ ?_) fun _=>qQ ?_)|(simp only[e2,c3,c4];try cbv)|(with_reducible refine ndC ?h ?_;case h=>first | exact hidx | exact hallr)|(refine qg [1] ?_;refine qC ?_;refine qD hP hcall2 ?_;rintro res bx ⟨vs4,ts4,cs4,vt4,tt4,ct4,bad4,r1,r2,r3,hU4,hB4,rfl,rfl⟩;refine qC ?_)
     rw[e];exact ⟨M - (i+1),by omega,i+1,vs4,ts4,cs4,vt4,tt4,ct4,false,bad4,by (try rw[hpc]);cbv,by omega,r1,r2,r3,hU2.trans hU4.toP (fun s=>by rw[s1];simp[or_assoc]) (fun s=>by rw[s2];simp[or_assoc]) (by rw[s3];simp) (by rw[s5];omega),hB2' _ hB4,by rw[hM']⟩
  ·have hge:i=M:=qw3
   subst hge;rw[hM',List.take_length] at hU2 hB2;clear h3 g1;revert hK K;refine qW0 ?_;intro K hK;obtain ⟨u1,u2,u3,u4,u5,u6,u7,u8⟩:=hU2;simp only[List.length_nil,Nat.zero_add,List.nil_append,List.not_mem_nil,false_or] at u3 u4 u5 u6 u7;exact hR _ _ ⟨vs2,ts2,cs2,vt2,tt2,ct2,[],false,line2,bad2,⟨u1,u2,u3,u4,u5,hB2,by omega,by omega,by rw[u5];omega⟩,e4,e5,e6,rfl,rfl⟩
def IsFn (l:List Fu) (s:ByteArray):Prop:=∃f∈l,f.name=s
theorem FnAtP.ge {l:List Fu} {s:ByteArray} {r:Int} (h:FnAtP l s r):0<=r↔IsFn l s:=by
 rcases h with ⟨i,f,rfl,h1,h2,h3⟩ | ⟨rfl,h1⟩
 ·exact ⟨fun _=>⟨f,List.mem_of_getElem? h1,h2⟩,fun _=>Int.natCast_nonneg i⟩
 ·exact ⟨fun h=>by omega,fun ⟨f,hf,he⟩=>absurd he (h1 f hf)⟩
def TwoP (p:Pg) (ts:List ByteArray) (s:ByteArray):Prop:=s∈ts\/IsFn p.fns s
def BothP (p:Pg) (vs ts:List ByteArray):Prop:=(∃s∈vs,TwoP p ts s)\/(∃s∈ts,IsFn p.fns s)\/∃f∈p.fns,∃s∈f.params,TwoP p ts s
def invB1 (pc ub:List A) (Q:ByteArray->Prop) (l:List ByteArray) (sl:Nat) (N:Nat) (σ:AS):Prop:=
 ∃(i:Nat),σ=⟨vag 101 [(1,⟨.one,[.ptr 0 0]⟩),(2,⟨.one,[.ptr 1 0]⟩),(sl,litI (Int.ofNat i))],[some ub,some pc],1⟩/\i<=l.length/\(∀s∈l.take i,¬Q s)/\N=l.length - i
def invB3 (pc ub:List A) (Q:ByteArray->Prop) (l:List Fu) (N:Nat) (σ:AS):Prop:=
 ∃(i:Nat),σ=⟨vag 101 [(1,⟨.one,[.ptr 0 0]⟩),(2,⟨.one,[.ptr 1 0]⟩),(7,litI (Int.ofNat i))],[some ub,some pc],1⟩/\i<=l.length/\(∀f∈l.take i,∀s∈f.params,¬Q s)/\N=l.length - i
def invB4 (pc ub:List A) (Q:ByteArray->Prop) (j:Nat) (l:List ByteArray) (N:Nat) (σ:AS):Prop:=
 ∃(i:Nat),σ=⟨vag 101 [(1,⟨.one,[.ptr 0 0]⟩),(2,⟨.one,[.ptr 1 0]⟩),(7,litI (Int.ofNat j)),(8,litI (Int.ofNat i))],[some ub,some pc],1⟩/\i<=l.length/\(∀s∈l.take i,¬Q s)/\N=l.length - i
theorem all_take {α:Type} {Q:α->Prop} {l:List α} {i:Nat} {x:α} (hx:l[i]?=some x) (h:∀s∈l.take i,Q s) (hq:Q x):∀s∈l.take (i+1),Q s:=by
 rw[take_one hx];intro s hs;rcases List.mem_append.1 hs with hs | hs
 ·exact h s hs
 ·obtain rfl:=List.mem_singleton.1 hs;exact hq
theorem c_l12Both (p:Pg) (hz:p.sz<=1048576) (vs ts:List ByteArray) (vt tt ct pt:List (List T)) (fn line bad:Bool) (hvt:vt=strs vs) (htt:tt=strs ts) (hv:vs.length<=8388608) (ht:ts.length<=8388608) :
  ACl Tryz.prog 61 [agT p.t,⟨.one,[.ptr 0 0]⟩] [useB vt tt ct pt fn line bad] (fun res bx=>∃b:Bool,(b=true↔BothP p vs ts)/\res=litB b/\bx=[useB vt tt ct pt fn line bad]):=by
 rw[Pg.sz] at hz;have hfz:∀f∈p.fns,f.sz<=1048576:=fun f hf=>by have:=Fu.szs_mem hf;omega
 rw[pg_agT];obtain ⟨rl,hrl⟩:=qX (p.rules.map Ru.t);obtain ⟨fl,hfl⟩:=qX (p.fns.map Fu.t);rw[<-hrl,<-hfl];have hfn:=fun s=>c_l10Fn rl fl p.fns hfl s (by omega)
 have hhas:=fun s=>c_l8HasL ts tt s htt (by omega)
 refine qF tyK Tryz.func61 101 [.tmp 4] ?_;unhygienic intros;have hge:∀r:Int,cmp .geq r 0=true↔0<=r:=fun r=>by cases hO;simp[Ops.std,sCm]
 obtain ⟨pc,hpc⟩:=qX ([.ro true rl,.ro true fl]:List A);obtain ⟨ub,hub⟩:=qX ([.ow (0,0) 1 vt,.ow (0,0) 1 tt,.ow (0,0) 4 ct,.ro true pt,.lit (.bool fn),.lit (.bool line),.lit (.bool bad)]:List A);obtain ⟨N,hN⟩:=qX vs.length;obtain ⟨M,hM'⟩:=qX ts.length;obtain ⟨NF,hNF⟩:=qX p.fns.length;have lv:len vt=N:=lnO hO (by simp[hvt,hN,strs])
 have lt:len tt=M:=lnO hO (by simp[htt,hM',strs])
 have lf:len fl=NF:=lnO hO (by simp[hfl,hNF])
 have hav:all vt 1:=alO hO (by rw[hvt];exact strs_all vs)
 have hat:all tt 1:=alO hO (by rw[htt];exact strs_all ts)
 have haf:all fl 3:=alO hO (by rw[hfl];simp[Fu.t_len])
 rw[<-hN] at hv;rw[<-hM'] at ht;revert hK K;refine qW1 ?_;intro K hK;refine qL 2 [1,2,5] kk0 (invB1 pc ub (TwoP p ts) vs 5) ?_ ?_
 ·cbv
  exact ⟨_,0,by rw[hpc,hub];cbv,by simp,by simp,rfl⟩
 rintro m σ ⟨i,rfl,g1,g2,rfl⟩;rw[<-hN] at g1 |-;rw[hpc,hub];revert hK K;refine qW1 ?_;intro K hK;simp only[lv];refine nC rfl (fun h3=>?_) (fun h3=>?_)
 ·have hlt:i < N:=qv3
  have e:bin .add .i64 (Int.ofNat i) 1=_:=iSc hO (by omega)
  have hidx:idx (Int.ofNat i) (len vt):=lv ▸ ixN hO hlt;have hidx2:idx (Int.ofNat (nadd 0 (nat (Int.ofNat i)))) (len vt):=by
   have hid:nadd 0 (nat (Int.ofNat i))=i:=by cases hO;simp[Ops.std]
   rw[hid];exact hidx
  obtain ⟨x,hx⟩:∃x,vs[i]?=some x:=⟨_,List.getElem?_eq_getElem (hN ▸ hlt)⟩;have e1:get vt (nadd 0 (nat (Int.ofNat i)))=[T.lit (.string x)]:=by cases hO;rw[hvt];simp[Ops.std,strs,hx]
  have h1:=hhas x;have h2:=hfn x;refine qU ?_
  repeat' first|(revert hK K;refine qV1 ?_;intro K hK)|(refine GFork.mk (fun _=>qQ ?_) fun _=>qQ ?_)|(simp only[e1];try cbv)|(with_reducible refine ndC ?h ?_;case h=>first | exact hidx | exact hidx2 | exact hav)|(refine qG ?_;refine qD hP h1 ?_;rintro res bx ⟨b1,hb1,rfl,rfl⟩;refine qC ?_)|(refine qG ?_;refine qD hP h2 ?_;rintro res bx ⟨r1,hr1,rfl,rfl⟩;refine qC ?_)
  ·have hb:b1=true:=by assumption
   exact hR _ _ ⟨true,⟨fun _=>.inl ⟨x,List.mem_of_getElem? hx,.inl (hb1.1 hb)⟩,fun _=>rfl⟩,rfl,rfl⟩
  ·have hr:0<=r1:=(hge r1).1 (by assumption)
   exact hR _ _ ⟨true,⟨fun _=>.inl ⟨x,List.mem_of_getElem? hx,.inr (hr1.ge.1 hr)⟩,fun _=>rfl⟩,rfl,rfl⟩
  ·have hb:b1=false:=by assumption
   have hr:cmp .geq r1 0=false:=by assumption
   have hnot:¬TwoP p ts x:=fun h=>h.elim (fun h=>by rw[hb1.2 h] at hb;cases hb) fun h=>by rw[(hge r1).2 (hr1.ge.2 h)] at hr;cases hr
   rw[e];exact ⟨N - (i+1),by omega,i+1,by (try rw[hpc,hub]);cbv,by omega,all_take hx g2 hnot,by rw[hN]⟩
 ·have hge0:i=N:=qw3
  subst hge0;rw[hN,List.take_length] at g2;have n1:¬∃s∈vs,TwoP p ts s:=fun ⟨s,h1,h2⟩=>g2 s h1 h2;clear g1 h3 g2 lv hav;revert hK K;refine qW1 ?_;intro K hK;refine qL 2 [1,2,6] kk0 (invB1 pc ub (IsFn p.fns) ts 6) ?_ ?_
  ·cbv
   exact ⟨_,0,by rw[hpc,hub];cbv,by simp,by simp,rfl⟩
  rintro m σ ⟨i,rfl,g1,g2,rfl⟩;rw[<-hM'] at g1 |-;rw[hpc,hub];revert hK K;refine qW1 ?_;intro K hK;simp only[lt];refine nC rfl (fun h3=>?_) (fun h3=>?_)
  ·have hlt:i < M:=qv3
   have e:bin .add .i64 (Int.ofNat i) 1=_:=iSc hO (by omega)
   have hidx:idx (Int.ofNat i) (len tt):=lt ▸ ixN hO hlt;have hidx2:idx (Int.ofNat (nadd 0 (nat (Int.ofNat i)))) (len tt):=by
    have hid:nadd 0 (nat (Int.ofNat i))=i:=by cases hO;simp[Ops.std]
    rw[hid];exact hidx
   obtain ⟨x,hx⟩:∃x,ts[i]?=some x:=⟨_,List.getElem?_eq_getElem (hM' ▸ hlt)⟩;have e1:get tt (nadd 0 (nat (Int.ofNat i)))=[T.lit (.string x)]:=by cases hO;rw[htt];simp[Ops.std,strs,hx]
   have h2:=hfn x;refine qU ?_
   repeat' first|(revert hK K;refine qV1 ?_;intro K hK)|(refine GFork.mk (fun _=>qQ ?_) fun _=>qQ ?_)|(simp only[e1];try cbv)|(with_reducible refine ndC ?h ?_;case h=>first | exact hidx | exact hidx2 | exact hat)|(refine qG ?_;refine qD hP h2 ?_;rintro res bx ⟨r1,hr1,rfl,rfl⟩;refine qC ?_)
   ·have hr:0<=r1:=(hge r1).1 (by assumption)
    exact hR _ _ ⟨true,⟨fun _=>.inr (.inl ⟨x,List.mem_of_getElem? hx,hr1.ge.1 hr⟩),fun _=>rfl⟩,rfl,rfl⟩
   ·have hr:cmp .geq r1 0=false:=by assumption
    have hnot:¬IsFn p.fns x:=fun h=>by rw[(hge r1).2 (hr1.ge.2 h)] at hr;cases hr
    rw[e];exact ⟨M - (i+1),by omega,i+1,by (try rw[hpc,hub]);cbv,by omega,all_take hx g2 hnot,by rw[hM']⟩
  ·have hge0:i=M:=qw3
   subst hge0;rw[hM',List.take_length] at g2;have n2:¬∃s∈ts,IsFn p.fns s:=fun ⟨s,h1,h2⟩=>g2 s h1 h2;clear g1 h3 g2 lt hat;revert hK K;refine qW1 ?_;intro K hK;refine qL 2 [1,2,7] kk0 (invB3 pc ub (TwoP p ts) p.fns) ?_ ?_
   ·cbv
    exact ⟨_,0,by rw[hpc,hub];cbv,by simp,by simp,rfl⟩
   rintro m σ ⟨j,rfl,g1,g2,rfl⟩;rw[<-hNF] at g1 |-;rw[hpc,hub];revert hK K;refine qW1 ?_;intro K hK;simp only[lf];refine nC rfl (fun h3=>?_) (fun h3=>?_)
   ·have hlj:j < NF:=qv3
    have ej:bin .add .i64 (Int.ofNat j) 1=_:=iSc hO (by omega)
    have hidj:idx (Int.ofNat j) (len fl):=lf ▸ ixN hO hlj;obtain ⟨f,hfm,hf,htk,ef⟩:=mpA hO hfl (hNF ▸ hlj);have hfs:=hfz f hfm;rw[Fu.sz] at hfs;obtain ⟨al,hal⟩:=qX (f.a.map Sm.t);obtain ⟨fp,hfp⟩:=qX (strs f.params);obtain ⟨NP,hNP⟩:=qX f.params.length;have ef2:get fl (nat (Int.ofNat j))=[T.lit (.string f.name),.sl fp,.sl al]:=by rw[hal,hfp];exact ef
    have lp:len fp=NP:=lnO hO (by simp[hfp,hNP,strs])
    have hap:all fp 1:=alO hO (by rw[hfp];exact strs_all f.params)
    generalize f.name=fname at ef2;clear ef h3;revert hK K;refine qW1 ?_;intro K hK;refine qL 2 [1,2,7,8] kk0 (invB4 pc ub (TwoP p ts) j f.params) ?_ ?_
    ·cbv
     exact ⟨_,0,by rw[hpc,hub];cbv,by simp,by simp,rfl⟩
    rintro m σ ⟨i,rfl,k1,k2,rfl⟩;rw[<-hNP] at k1 |-;rw[hpc,hub]
    by_cases hlt:i < NP
    ·have c1:cmp .lss (Int.ofNat i) (Int.ofNat NP)=true:=by cases hO;simp[Ops.std,sCm,hlt]
     have e:bin .add .i64 (Int.ofNat i) 1=_:=iSc hO (by omega)
     have hidx:idx (Int.ofNat i) NP:=ixN hO hlt;obtain ⟨x,hx⟩:∃x,f.params[i]?=some x:=⟨_,List.getElem?_eq_getElem (hNP ▸ hlt)⟩;have e1:get fp (nat (Int.ofNat i))=[T.lit (.string x)]:=by cases hO;rw[hfp];simp[Ops.std,strs,hx]
     have h1:=hhas x;have h2:=hfn x;refine qU ?_
     repeat' first|(revert hK K;refine qV1 ?_;intro K hK)|(refine GFork.mk (fun _=>qQ ?_) fun _=>qQ ?_)|(simp only[ef2,lp,c1,e1];try cbv)|(with_reducible refine ndC ?h ?_;case h=>first | exact hidx | exact hidj | exact hap | exact haf)|(refine qG ?_;refine qD hP h1 ?_;rintro res bx ⟨b1,hb1,rfl,rfl⟩;refine qC ?_)|(refine qG ?_;refine qD hP h2 ?_;rintro res bx ⟨r1,hr1,rfl,rfl⟩;refine qC ?_)
     ·have hb:b1=true:=by assumption
      exact hR _ _ ⟨true,⟨fun _=>.inr (.inr ⟨f,hfm,x,List.mem_of_getElem? hx,.inl (hb1.1 hb)⟩),fun _=>rfl⟩,rfl,rfl⟩
     ·have hr:0<=r1:=(hge r1).1 (by assumption)
      exact hR _ _ ⟨true,⟨fun _=>.inr (.inr ⟨f,hfm,x,List.mem_of_getElem? hx,.inr (hr1.ge.1 hr)⟩),fun _=>rfl⟩,rfl,rfl⟩
     ·have hb:b1=false:=by assumption
      have hr:cmp .geq r1 0=false:=by assumption
      have hnot:¬TwoP p ts x:=fun h=>h.elim (fun h=>by rw[hb1.2 h] at hb;cases hb) fun h=>by rw[(hge r1).2 (hr1.ge.2 h)] at hr;cases hr
      rw[e];exact ⟨NP - (i+1),by omega,i+1,by (try rw[hpc,hub]);cbv,by omega,all_take hx k2 hnot,by rw[hNP]⟩
    ·have hie:i=NP:=by omega
     have c1:cmp .lss (Int.ofNat i) (Int.ofNat NP)=false:=by cases hO;simp[Ops.std,sCm];omega
     have k3:∀s∈f.params,¬TwoP p ts s:=by
      rw[hie,hNP,List.take_length] at k2;exact k2
     refine qU ?_
     repeat' first|(revert hK K;refine qV1 ?_;intro K hK)|(refine GFork.mk (fun _=>qQ ?_) fun _=>qQ ?_)|(simp only[ef2,lp,c1];try cbv)|(with_reducible refine ndC ?h ?_;case h=>first | exact hidj | exact haf)
     rw[ej];exact ⟨NF - (j+1),by omega,j+1,by (try rw[hpc,hub]);cbv,by omega,all_take hf g2 k3,by rw[hNF]⟩
   ·have hge0:j=NF:=qw3
    subst hge0;rw[hNF,List.take_length] at g2;revert hK K;refine qW1 ?_;intro K hK;have hno:¬BothP p vs ts:=by
     rintro (h | h | ⟨f,h1,s,h2,h3⟩)
     ·exact n1 h
     ·exact n2 h
     ·exact g2 f h1 s h2 h3
    exact hR _ _ ⟨false,⟨fun h=>Bool.noConfusion h,fun h=>absurd h hno⟩,rfl,rfl⟩
def VarsIs (p:Pg) (vs:List ByteArray):Prop:=(p.good->Asc vs/\∀s,s∈vs↔Fu.vP p.fns s\/Ru.vP p.rules s)/\(¬p.good->vs=[])
def TablesIs (p:Pg) (vs:List ByteArray):Prop:=(p.good->Asc vs/\∀s,s∈vs↔Fu.tP p.fns s\/Ru.tP p.rules s)/\(¬p.good->vs=[])
theorem VarsIs.unique {p:Pg} {a b:List ByteArray} (h:VarsIs p a) (h':VarsIs p b):a=b:=by
 by_cases hg:p.good
 ·exact Asc.unique (h.1 hg).1 (h'.1 hg).1 fun s=>by rw[(h.1 hg).2,(h'.1 hg).2]
 ·rw[h.2 hg,h'.2 hg]
theorem TablesIs.unique {p:Pg} {a b:List ByteArray} (h:TablesIs p a) (h':TablesIs p b):a=b:=by
 by_cases hg:p.good
 ·exact Asc.unique (h.1 hg).1 (h'.1 hg).1 fun s=>by rw[(h.1 hg).2,(h'.1 hg).2]
 ·rw[h.2 hg,h'.2 hg]
def VPof (p:Pg) (s:ByteArray):Prop:=Fu.vP p.fns s\/Ru.vP p.rules s
def TPof (p:Pg) (s:ByteArray):Prop:=Fu.tP p.fns s\/Ru.tP p.rules s
def BothS (p:Pg):Prop:=(∃s,VPof p s/\(TPof p s\/IsFn p.fns s))\/(∃s,TPof p s/\IsFn p.fns s)\/∃f∈p.fns,∃s∈f.params,TPof p s\/IsFn p.fns s
def Ex.s:Ex->ByteArray | .mk _ _ s _=>s
def Ex.l:Ex->List Ex | .mk _ _ _ l=>l
def CallOkE (p:Pg) (e:Ex):Prop:=∃i f,FnAtP p.fns e.s (Int.ofNat i)/\p.fns[i]?=some f/\e.l.length<=f.params.length
def CallsOk (p:Pg):Prop:=∀e∈Fu.clsL p.fns++Ru.clsL p.rules,CallOkE p e
def PlaceBad (p:Pg):Prop:=Fu.bP p.fns\/Ru.bP p.rules
def CheckIs (p:Pg) (r:Int):Prop:=(¬p.good/\r=1)\/(p.good/\BothS p/\r=2)\/(p.good/\¬BothS p/\¬CallsOk p/\r=3)\/(p.good/\¬BothS p/\CallsOk p/\PlaceBad p/\r=4)\/(p.good/\¬BothS p/\CallsOk p/\¬PlaceBad p/\r=0)
theorem CheckIs.unique {p:Pg} {a b:Int} (h:CheckIs p a) (h':CheckIs p b):a=b:=by
 unfold CheckIs at *
 grind
theorem FnAtP.ex (l:List Fu) (s:ByteArray):∃r,FnAtP l s r:=by
 by_cases h:∃f∈l,f.name=s
 ·induction l with
  | nil=>simp at h
  | cons f l ih=>
   by_cases hf:f.name=s
   ·exact ⟨Int.ofNat 0,.inl ⟨0,f,rfl,rfl,hf,fun p g hp=>by omega⟩⟩
   ·obtain ⟨r,hr⟩:=ih (by
     obtain ⟨g,hg,he⟩:=h;rcases List.mem_cons.1 hg with rfl | hg
     ·exact absurd he hf
     ·exact ⟨g,hg,he⟩)
    rcases hr with ⟨i,g,rfl,h1,h2,h3⟩ | ⟨rfl,h1⟩
    ·refine ⟨Int.ofNat (i+1),.inl ⟨i+1,g,rfl,by simpa using h1,h2,fun p g' hp hg'=>?_⟩⟩
     cases p with
     | zero=>simp at hg';rw[<-hg'];exact hf
     | succ p=>exact h3 p g' (by omega) (by simpa using hg')
    ·obtain ⟨g,hg,he⟩:=h
     rcases List.mem_cons.1 hg with rfl | hg
     ·exact absurd he hf
     ·exact absurd he (h1 g hg)
 ·exact ⟨-1,.inr ⟨rfl,fun f hf he=>h ⟨f,hf,he⟩⟩⟩
theorem BothS.iff {p:Pg} {vs ts:List ByteArray} {cs:List Ex} {bad:Bool} (h:NamesQ p vs ts cs bad):BothP p vs ts↔BothS p:=by
 obtain ⟨_,_,h3,h4,_⟩:=h;unfold BothP BothS TwoP VPof TPof;refine or_congr (exists_congr fun s=>?_) (or_congr (exists_congr fun s=>?_) (exists_congr fun f=>and_congr_right fun _=>exists_congr fun s=>and_congr_right fun _=>?_))
 ·rw[h3,h4]
 ·rw[h4]
 ·rw[h4]
theorem c_VarsOf_spec (p:Pg) (hz:p.sz<=1048576):ACl Tryz.prog 115 [agT p.t] [] (fun res bx=>∃vs els,VarsIs p vs/\vs.length<=8388608/\els=strs vs/\res=⟨.one,[.ow (0,0) 1 els]⟩/\bx=[]):=by
 have h1:=c_ProgOk_spec p hz;have h2:=c_l12Of p hz;rw[pg_agT] at h1 h2 |-;obtain ⟨rl,hrl⟩:=qX (p.rules.map Ru.t);obtain ⟨fl,hfl⟩:=qX (p.fns.map Fu.t);rw[<-hrl,<-hfl] at h1 h2 |-;refine qF tyK Tryz.func115 14 [.tmp 2] ?_;unhygienic intros;have hbn:∀c:Bool,bnot c=!c:=fun c=>by cases hO;rfl
 have happ:∀x,app [] x=x:=fun x=>by cases hO;rfl
 refine qU ?_
 repeat' first|(revert hK K;refine qV0 ?_;intro K hK)|(refine GFork.mk (fun _=>qQ ?_) fun _=>qQ ?_)|(refine qG ?_;refine qD hP h1 ?_;rintro res bx ⟨b1,hb1,rfl,rfl⟩;refine qC ?_)|(refine qG ?_;refine qD hP h2 ?_;rintro res bx ⟨vs,ts,cs,vt,tt,ct,pt,fn,line,bad,hN,q1,q2,q3,rfl,rfl⟩;refine qC ?_)
 ·have hb:bnot b1=true:=by assumption
  rw[hbn] at hb;have hg:¬p.good:=fun h=>by rw[hb1.2 h] at hb;cases hb
  exact hR _ _ ⟨[],[],⟨fun h=>absurd h hg,fun _=>rfl⟩,by simp,rfl,rfl,rfl⟩
 ·have hb:bnot b1=false:=by assumption
  rw[hbn] at hb;have hg:p.good:=hb1.1 (by simpa using hb)
  obtain ⟨n1,n2,n3,n4,n5,n6,n7,n8,n9⟩:=hN;have hl:vt.length<=8388608:=by rw[q1];simpa [strs] using n7
  refine ndC (alO hO (by rw[q1];exact strs_all _)) (ndC (aOk_of hO (by simp;omega) (by simp;omega)) (ndN ?_))
  rw[happ];revert hK K;refine qW0 ?_;intro K hK;exact hR _ _ ⟨vs,vt,⟨fun _=>⟨n1,n3⟩,fun h=>absurd hg h⟩,n7,q1,rfl,rfl⟩
theorem c_TablesOf_spec (p:Pg) (hz:p.sz<=1048576):ACl Tryz.prog 116 [agT p.t] [] (fun res bx=>∃vs els,TablesIs p vs/\vs.length<=8388608/\els=strs vs/\res=⟨.one,[.ow (0,0) 1 els]⟩/\bx=[]):=by
 have h1:=c_ProgOk_spec p hz;have h2:=c_l12Of p hz;rw[pg_agT] at h1 h2 |-;obtain ⟨rl,hrl⟩:=qX (p.rules.map Ru.t);obtain ⟨fl,hfl⟩:=qX (p.fns.map Fu.t);rw[<-hrl,<-hfl] at h1 h2 |-;refine qF tyK Tryz.func116 14 [.tmp 2] ?_;unhygienic intros;have hbn:∀c:Bool,bnot c=!c:=fun c=>by cases hO;rfl
 have happ:∀x,app [] x=x:=fun x=>by cases hO;rfl
 refine qU ?_
 repeat' first|(revert hK K;refine qV0 ?_;intro K hK)|(refine GFork.mk (fun _=>qQ ?_) fun _=>qQ ?_)|(refine qG ?_;refine qD hP h1 ?_;rintro res bx ⟨b1,hb1,rfl,rfl⟩;refine qC ?_)|(refine qG ?_;refine qD hP h2 ?_;rintro res bx ⟨vs,ts,cs,vt,tt,ct,pt,fn,line,bad,hN,q1,q2,q3,rfl,rfl⟩;refine qC ?_)
 ·have hb:bnot b1=true:=by assumption
  rw[hbn] at hb;have hg:¬p.good:=fun h=>by rw[hb1.2 h] at hb;cases hb
  exact hR _ _ ⟨[],[],⟨fun h=>absurd h hg,fun _=>rfl⟩,by simp,rfl,rfl,rfl⟩
 ·have hb:bnot b1=false:=by assumption
  rw[hbn] at hb;have hg:p.good:=hb1.1 (by simpa using hb)
  obtain ⟨n1,n2,n3,n4,n5,n6,n7,n8,n9⟩:=hN;have hl:tt.length<=8388608:=by rw[q2];simpa [strs] using n8
  refine ndC (alO hO (by rw[q2];exact strs_all _)) (ndC (aOk_of hO (by simp;omega) (by simp;omega)) (ndN ?_))
  rw[happ];revert hK K;refine qW0 ?_;intro K hK;exact hR _ _ ⟨ts,tt,⟨fun _=>⟨n2,n4⟩,fun h=>absurd hg h⟩,n8,q2,rfl,rfl⟩
def invK1 (pc ub:List A) (Q:Ex->Prop) (l:List Ex) (N:Nat) (σ:AS):Prop:=
 ∃(i:Nat),σ=⟨vag 58 [(1,⟨.one,[.ptr 0 0]⟩),(3,⟨.one,[.ptr 2 0]⟩),(4,litI (Int.ofNat i))],[some pc,some pc,some ub],1⟩/\i<=l.length/\(∀s∈l.take i,Q s)/\N=l.length - i
theorem Ex.l_len {k n:Int} {s:ByteArray} {l:List Ex}:(Ex.mk k n s l).l=l:=rfl
theorem Ex.szl_le (e:Ex):e.l.length<=e.sz:=by cases e;rw[Ex.sz,Ex.l];omega
mutual
theorem Ex.cl_sz:∀(e:Ex),∀x∈e.cl,x.sz<=e.sz
 | .mk k n s l,x,hx=>by
  rw[Ex.cl] at hx;rcases List.mem_append.1 hx with hx | hx
  ·split at hx
   ·obtain rfl:=List.mem_singleton.1 hx;exact Nat.le_refl _
   ·simp at hx
  ·have:=Ex.cls_sz l x hx
   rw[Ex.sz];omega
theorem Ex.cls_sz:∀(l:List Ex),∀x∈Ex.cls l,x.sz<=Ex.szs l
 | [],x,hx=>by simp[Ex.cls] at hx
 | e::l,x,hx=>by
  rw[Ex.cls] at hx;rw[Ex.szs];rcases List.mem_append.1 hx with hx | hx
  ·have:=Ex.cl_sz e x hx;omega
  ·have:=Ex.cls_sz l x hx;omega
end
mutual
theorem Sm.cl_sz:∀(e:Sm),∀x∈e.cl,x.sz<=e.sz
 | .mk k s t y a b,x,hx=>by
  rw[Sm.cl] at hx;rw[Sm.sz];rcases List.mem_append.1 hx with hx | hx
  ·rcases List.mem_append.1 hx with hx | hx
   ·have:=Ex.cls_sz y x hx;omega
   ·have:=Sm.cls_sz a x hx;omega
  ·have:=Sm.cls_sz b x hx;omega
theorem Sm.cls_sz:∀(l:List Sm),∀x∈Sm.cls l,x.sz<=Sm.szs l
 | [],x,hx=>by simp[Sm.cls] at hx
 | e::l,x,hx=>by
  rw[Sm.cls] at hx;rw[Sm.szs];rcases List.mem_append.1 hx with hx | hx
  ·have:=Sm.cl_sz e x hx;omega
  ·have:=Sm.cls_sz l x hx;omega
end
theorem Ru.hd_sz (r:Ru):Ex.szs r.hd<=r.p.sz:=by
 unfold Ru.hd;split
 ·simp[Ex.szs]
 ·simp[Ex.szs]
theorem clsL_sz {p:Pg} {x:Ex} (hx:x∈Fu.clsL p.fns++Ru.clsL p.rules):x.sz<=p.sz:=by
 rw[Pg.sz];rcases List.mem_append.1 hx with hx | hx
 ·simp only[Fu.clsL,List.mem_flatMap] at hx
  obtain ⟨f,hf,hx⟩:=hx;have h1:=Sm.cls_sz f.a x hx;have h2:=Fu.szs_mem hf;rw[Fu.sz] at h2;omega
 ·simp only[Ru.clsL,List.mem_flatMap] at hx
  obtain ⟨f,hf,hx⟩:=hx;have h2:=Ru.szs_mem hf;rw[Ru.sz] at h2;rcases List.mem_append.1 hx with hx | hx
  ·have h1:=Ex.cls_sz f.hd x hx
   have:=Ru.hd_sz f;omega
  ·have h1:=Sm.cls_sz f.a x hx
   omega
theorem c_Check_spec (p:Pg) (hz:p.sz<=1048576):ACl Tryz.prog 24 [agT p.t] [] (fun res bx=>∃r,CheckIs p r/\res=litI r/\bx=[]):=by
 have h1:=c_ProgOk_spec p hz;have h2:=c_l12Of p hz;have h3:=fun vs ts vt tt ct pt fn line bad=>c_l12Both p hz vs ts vt tt ct pt fn line bad;have hesz:=fun e he=>Nat.le_trans (clsL_sz (p:=p) (x:=e) he) hz;rw[Pg.sz] at hz;have hfz:∀f∈p.fns,f.sz<=1048576:=fun f hf=>by have:=Fu.szs_mem hf;omega
 rw[pg_agT] at h1 h2 |-;simp only[pg_agT] at h3;obtain ⟨rl,hrl⟩:=qX (p.rules.map Ru.t);obtain ⟨fl,hfl⟩:=qX (p.fns.map Fu.t);simp only[<-hrl,<-hfl] at h1 h2 h3 |-;have hfn:=fun s=>c_l10Fn rl fl p.fns hfl s (by omega)
 refine qF tyK Tryz.func24 58 [.tmp 2] ?_;unhygienic intros;have hbn:∀c:Bool,bnot c=!c:=fun c=>by cases hO;rfl
 obtain ⟨pc,hpc⟩:=qX ([.ro true rl,.ro true fl]:List A);obtain ⟨NF,hNF⟩:=qX p.fns.length;have lf:len fl=NF:=lnO hO (by simp[hfl,hNF])
 have haf:all fl 3:=alO hO (by rw[hfl];simp[Fu.t_len])
 revert hK K;refine qW0 ?_;intro K hK;refine qG ?_;refine qD hP h1 ?_;rintro res bx ⟨b1,hb1,rfl,rfl⟩;refine qC ?_
 by_cases hg:¬p.good
 ·have hb:b1=false:=by cases b1 with
   | false=>rfl
   | true=>exact absurd (hb1.1 rfl) hg
  subst hb;have hnf:bnot false=true:=by cases hO;rfl
  revert hK K;refine qW0 ?_;intro K hK;simp only[hnf];revert hK K;refine qW0 ?_;intro K hK;exact hR _ _ ⟨1,.inl ⟨hg,rfl⟩,rfl,rfl⟩
 replace hg:p.good:=Classical.not_not.1 hg;have hb:b1=true:=hb1.2 hg;subst hb;have hnt:bnot true=false:=by cases hO;rfl
 revert hK K;refine qW0 ?_;intro K hK;simp only[hnt];revert hK K;refine qW0 ?_;intro K hK;refine qG ?_;refine qD hP h2 ?_;rintro res bx ⟨vs,ts,cs,vt,tt,ct,pt,fn,line,bad,hN,q1,q2,q3,rfl,rfl⟩;refine qC ?_;have hBi:=BothS.iff hN;obtain ⟨n1,n2,n3,n4,n5,n6,n7,n8,n9⟩:=hN;have h4:=h3 vs ts vt tt ct pt fn line bad q1 q2 n7 n8;clear h3 h2 h1;revert hK K;refine qW0 ?_;intro K hK;refine qg [2] ?_;refine qC ?_;refine qD hP h4 ?_;rintro res bx ⟨b2,hb2,rfl,rfl⟩;refine qC ?_
 by_cases hboth:BothS p
 ·have hb:b2=true:=hb2.2 (hBi.2 hboth)
  subst hb;revert hK K;refine qW0 ?_;intro K hK;exact hR _ _ ⟨2,.inr (.inl ⟨hg,hboth,rfl⟩),rfl,rfl⟩
 have hb:b2=false:=by cases b2 with
  | false=>rfl
  | true=>exact absurd (hBi.1 (hb2.1 rfl)) hboth
 subst hb;clear h4 hb2 hBi hb1;obtain ⟨ub,hub⟩:=qX ([.ow (0,0) 1 vt,.ow (0,0) 1 tt,.ow (0,0) 4 ct,.ro true pt,.lit (.bool fn),.lit (.bool line),.lit (.bool bad)]:List A);obtain ⟨N,hNl⟩:=qX cs.length;have lc:len ct=N:=lnO hO (by simp[q3,hNl])
 have hac:all ct 4:=alO hO (by rw[q3];simp[Ex.t_len])
 rw[<-hNl] at n9;have hci:CallsOk p↔∀e∈cs,CallOkE p e:=by rw[n5];exact Iff.rfl
 have hpi:bad=true↔PlaceBad p:=n6;revert hK K;refine qW0 ?_;intro K hK;refine qL 3 [1,3,4] kk0 (invK1 pc ub (CallOkE p) cs) ?_ ?_
 ·cbv
  exact ⟨_,0,by rw[hpc,hub];cbv,by simp,by simp,rfl⟩
 rintro m σ ⟨i,rfl,g1,g2,rfl⟩;rw[<-hNl] at g1 |-;rw[hpc,hub]
 by_cases hlt:i < N
 ·have c1:cmp .lss (Int.ofNat i) (Int.ofNat (len ct))=true:=by rw[lc];cases hO;simp[Ops.std,sCm,hlt]
  have e:bin .add .i64 (Int.ofNat i) 1=_:=iSc hO (by omega)
  have hidx:idx (Int.ofNat i) (len ct):=lc ▸ ixN hO hlt;have hidx3:idx (Int.ofNat i) N:=ixN hO hlt;have hid:nadd 0 (nat (Int.ofNat i))=i:=by cases hO;simp[Ops.std]
  have hidx2:idx (Int.ofNat (nadd 0 (nat (Int.ofNat i)))) (len ct):=by rw[hid];exact hidx
  have hidx4:idx (Int.ofNat (nadd 0 (nat (Int.ofNat i)))) N:=by rw[hid];exact hidx3
  obtain ⟨x,hx⟩:∃x,cs[i]?=some x:=⟨_,List.getElem?_eq_getElem (hNl ▸ hlt)⟩;have e1:get ct (nadd 0 (nat (Int.ofNat i)))=x.t:=by cases hO;rw[q3];simp[Ops.std,hx]
  have hxs:=hesz x (n5 ▸ List.mem_of_getElem? hx);have hxl:=Ex.szl_le x;obtain ⟨NL,hNL⟩:=qX x.l.length;have hq:CallOkE p x↔∃i f,FnAtP p.fns x.s (Int.ofNat i)/\p.fns[i]?=some f/\x.l.length<=f.params.length:=Iff.rfl;rw[<-hNL] at hq hxl;obtain ⟨r0,hr0⟩:=FnAtP.ex p.fns x.s;have h2:=acI (hfn x.s) (R':=fun res bx=>res=litI r0/\bx=[]) (fun res bx ⟨r,h,e1,e2⟩=>⟨by rw[e1,h.unique hr0],e2⟩)
  obtain ⟨k,n0,s,l⟩:=x;simp only[Ex.s,Ex.l] at h2 hr0 hNL hq;obtain ⟨xl,hxl'⟩:=qX (l.map Ex.t);have ll:len xl=NL:=lnO hO (by simp[hxl',hNL])
  have e2:get ct (nadd 0 (nat (Int.ofNat i)))=[T.lit (.int .i64 k),.lit (.int .i64 n0),.lit (.string s),.sl xl]:=Eq.trans e1 (by rw[Ex.t_mk,hxl'])
  clear hxs e1;rcases id hr0 with ⟨kk,f,rfl,hkf,hkn,hmin⟩ | ⟨hm1,hno⟩
  ·have hkl:kk < NF:=hNF ▸ (List.getElem?_eq_some_iff.1 hkf).1
   have hfs:=hfz f (List.mem_of_getElem? hkf);rw[Fu.sz] at hfs;obtain ⟨al,hal⟩:=qX (f.a.map Sm.t);obtain ⟨fp,hfp⟩:=qX (strs f.params);obtain ⟨NP,hNP⟩:=qX f.params.length;have ef:get fl (nat (Int.ofNat kk))=[T.lit (.string f.name),.sl fp,.sl al]:=by
    rw[hal,hfp];have:get fl (nat (Int.ofNat kk))=f.t:=by cases hO;rw[hfl];simp[Ops.std,hkf]
    exact this
   have lp:len fp=NP:=lnO hO (by simp[hfp,hNP,strs])
   have c2:cmp .lss (Int.ofNat kk) 0=false:=by cases hO;simp[Ops.std,sCm]
   have hidk:idx (Int.ofNat kk) (len fl):=lf ▸ ixN hO hkl;have hidk2:idx (Int.ofNat kk) NF:=ixN hO hkl;have hgt:cmp .gtr (Int.ofNat NL) (Int.ofNat NP)=true↔NP < NL:=by cases hO;simp[Ops.std,sCm]
   generalize f.name=fname at ef hkn;refine qU ?_
   repeat' first|(revert hK K;refine qV0 ?_;intro K hK)|(refine GFork.mk (fun _=>qQ ?_) fun _=>qQ ?_)|(simp only[c1,e2,ll,lp,lf,c2,ef];try cbv)|(with_reducible refine ndC ?h ?_;case h=>first | exact hidx | exact hidx2 | exact hidx3 | exact hidx4 | exact hac | exact hidk | exact hidk2 | exact haf)|(refine qG ?_;refine qD hP h2 ?_;rintro res bx ⟨rfl,rfl⟩;refine qC ?_)
   ·have hlt2:NP < NL:=hgt.1 (by assumption)
    have hno:¬CallsOk p:=fun h=>by
     obtain ⟨i2,f2,k1,k2,k3⟩:=hq.1 (hci.1 h _ (List.mem_of_getElem? hx));have:=k1.unique hr0;have:i2=kk:=Int.ofNat.inj this;subst this;rw[hkf] at k2;obtain rfl:=Option.some.inj k2;omega
    exact hR _ _ ⟨3,.inr (.inr (.inl ⟨hg,hboth,hno,rfl⟩)),rfl,rfl⟩
   ·have hle:NL<=NP:=Nat.le_of_not_lt fun h=>by
     have h1:=hgt.2 h;have h2:cmp .gtr (Int.ofNat NL) (Int.ofNat NP)=false:=by assumption
     rw[h1] at h2;cases h2
    have hok:CallOkE p (Ex.mk k n0 s l):=hq.2 ⟨kk,f,hr0,hkf,by omega⟩
    rw[e];exact ⟨N - (i+1),by omega,i+1,by (try rw[hpc,hub]);cbv,by omega,all_take hx g2 hok,by rw[hNl]⟩
  ·have c2:cmp .lss r0 0=true:=by rw[hm1];cases hO;rfl
   refine qU ?_
   repeat' first|(revert hK K;refine qV0 ?_;intro K hK)|(refine GFork.mk (fun _=>qQ ?_) fun _=>qQ ?_)|(simp only[c1,e2,ll,lf,c2];try cbv)|(with_reducible refine ndC ?h ?_;case h=>first | exact hidx | exact hidx2 | exact hidx3 | exact hidx4 | exact hac)|(refine qG ?_;refine qD hP h2 ?_;rintro res bx ⟨rfl,rfl⟩;refine qC ?_)
   have hnot:¬CallsOk p:=fun h=>by
    obtain ⟨i2,f2,k1,k2,k3⟩:=hq.1 (hci.1 h _ (List.mem_of_getElem? hx));have:=k1.unique hr0;rw[hm1] at this;cases this
   exact hR _ _ ⟨3,.inr (.inr (.inl ⟨hg,hboth,hnot,rfl⟩)),rfl,rfl⟩
 ·have hie:i=N:=by omega
  have c1:cmp .lss (Int.ofNat i) (Int.ofNat (len ct))=false:=by rw[lc];cases hO;simp[Ops.std,sCm];omega
  have k3:CallsOk p:=by
   rw[hci];rw[hie,hNl,List.take_length] at g2;exact g2
  refine qU ?_
  repeat' first|(revert hK K;refine qV0 ?_;intro K hK)|(refine GFork.mk (fun _=>qQ ?_) fun _=>qQ ?_)|(simp only[c1];try cbv)|(with_reducible refine ndC ?h ?_;case h=>assumption)
  ·have hb:bad=true:=by assumption
   exact hR _ _ ⟨4,.inr (.inr (.inr (.inl ⟨hg,hboth,k3,hpi.1 hb,rfl⟩))),rfl,rfl⟩
  ·have hb:bad=false:=by assumption
   exact hR _ _ ⟨0,.inr (.inr (.inr (.inr ⟨hg,hboth,k3,fun h=>absurd (hpi.2 h) (by rw[hb];exact Bool.noConfusion),rfl⟩))),rfl,rfl⟩
end Go.Gv
