/- Part X6 of the proof: contracts of functions of the program, each walked once. -/
import Derived.Test.YtjeejieaalnbeaaGreatX4
import Derived.Test.YtjeejieaalnbeaaGreatU5
import Derived.Test.YtjeejieaalnbeaaGreatW10
import Derived.Test.YtjeejieaalnbeaaGreatQ1
set_option linter.all false
namespace Go.Gv
open Go.Av Go.Proofs Go.Shelf Go.RowKit
set_option maxRecDepth 10000
set_option maxHeartbeats 8000000
theorem VarsIs.ex (p:Pg):∃vs,VarsIs p vs:=by
 classical
 by_cases hg:p.good
 ·refine ⟨srtB ((Pa.of p).flatMap fun x=>(Ex.vss x.when_++Sm.vss x.l).filter fun s=>decide (s∉x.params)),fun _=>⟨srtB_asc _,fun s=>?_⟩,fun h=>absurd hg h⟩
  rw[srtB_mem];have h:=Pa.vP_of p s;unfold VPof at h;rw[<-h];simp[Pa.vP,List.mem_flatMap,List.mem_filter,or_and_right]
 ·exact ⟨[],fun h=>absurd h hg,fun _=>rfl⟩
theorem TablesIs.ex (p:Pg):∃vs,TablesIs p vs:=by
 by_cases hg:p.good
 ·refine ⟨srtB ((Pa.of p).flatMap fun x=>Ex.tbs x.when_++Sm.tbs x.l),fun _=>⟨srtB_asc _,fun s=>?_⟩,fun h=>absurd hg h⟩
  rw[srtB_mem];have h:=Pa.tP_of p s;unfold TPof at h;rw[<-h];simp[Pa.tP,List.mem_flatMap]
 ·exact ⟨[],fun h=>absurd h hg,fun _=>rfl⟩
theorem CheckIs.ex (p:Pg):∃r,CheckIs p r:=by
 unfold CheckIs
 by_cases h1:p.good
 ·by_cases h2:BothS p
  ·exact ⟨2,.inr (.inl ⟨h1,h2,rfl⟩)⟩
  ·by_cases h3:CallsOk p
   ·by_cases h4:PlaceBad p
    ·exact ⟨4,.inr (.inr (.inr (.inl ⟨h1,h2,h3,h4,rfl⟩)))⟩
    ·exact ⟨0,.inr (.inr (.inr (.inr ⟨h1,h2,h3,h4,rfl⟩)))⟩
   ·exact ⟨3,.inr (.inr (.inl ⟨h1,h2,h3,rfl⟩))⟩
 ·exact ⟨1,.inl ⟨h1,rfl⟩⟩
theorem bytesOf_map:∀l:List Int,bytesOf (l.map byteT)=some l
 | []=>rfl
 | a::l=>by rw[List.map_cons,byteT,bytesOf,bytesOf_map l];rfl
theorem isB_map {O:Ops} (hO:O=Ops.std) {ot:List (List T)} {l:List Int} (h:ot=l.map byteT):O.isB ot:=by
 subst hO;subst h
 show (bytesOf (l.map byteT)).isSome=true
 rw[bytesOf_map];rfl
def textS (ot:List (List T)):ByteArray:=Ops.std.text ot
theorem c_EnvNew (p:Pg) (hz:p.sz<=1048576):ACl Tryz.prog 63 [agT p.t] [] (fun res bx=>∃vs ts nl bl,VarsIs p vs/\TablesIs p ts/\vs.length<=8388608/\ts.length<=8388608/\nl=vs.map nmZT/\bl=ts.map tbZT/\res=⟨.agg,[.ro true nl,.ro true bl]⟩/\bx=[]):=by
 have h1:=acI (c_VarsOf_spec p hz).ro (R':=fun res bx=>∃vs els,VarsIs p vs/\vs.length<=8388608/\els=strs vs/\res=⟨.one,[.ro true els]⟩/\bx=[]) (fun res bx ⟨r0,⟨vs,els,e1,e2,e3,e4,e5⟩,e6⟩=>⟨vs,els,e1,e2,e3,by rw[e6,e4];rfl,e5⟩)
 have h2:=acI (c_TablesOf_spec p hz).ro (R':=fun res bx=>∃vs els,TablesIs p vs/\vs.length<=8388608/\els=strs vs/\res=⟨.one,[.ro true els]⟩/\bx=[]) (fun res bx ⟨r0,⟨vs,els,e1,e2,e3,e4,e5⟩,e6⟩=>⟨vs,els,e1,e2,e3,by rw[e6,e4];rfl,e5⟩)
 exact acI (st_EnvNew p _ _ h1 h2).ro (fun res bx ⟨r0,⟨vs,ts,nl,bl,e1,e2,e3,e4,e5,e6,e7,e8⟩,e9⟩=>⟨vs,ts,nl,bl,e1,e2,e3,e4,e5,e6,by rw[e9,e7];rfl,e8⟩)
theorem c_l27Names (p:Pg) (hz:p.sz<=1048576) (xs:List Nm) (nl':List (List T)) (hnl':nl'=xs.map Nm.t) (ws:List Tb) (bl':List (List T)) (hbl':bl'=ws.map Tb.t) :
  ACl Tryz.prog 25 [agT p.t,⟨.agg,[.ro true nl',.ro true bl']⟩] [] (fun res bx=>∃b:Bool,(b=true↔VarsIs p (xs.map Nm.name)/\TablesIs p (ws.map Tb.name))/\res=litB b/\bx=[]):=
 st_l27Names p _ _ (fun _ _ h h'=>h.unique h') (fun _ _ h h'=>h.unique h') (c_EnvNew p hz) xs nl' hnl' ws bl' hbl'
theorem lit_of {P:Program} {f:FuncId} {args:List AV} {Q:Prop} (h:ACl P f args [] (fun res bx=>∃b:Bool,(b=true↔Q)/\res=litB b/\bx=[])):∃b:Bool,(b=true↔Q)/\ACl P f args [] (fun res bx=>res=litB b/\bx=[]):=by
 by_cases hq:Q
 ·exact ⟨true,by simp[hq],acI h fun res bx ⟨b,hb,e1,e2⟩=>⟨by rw[e1,hb.2 hq],e2⟩⟩
 ·refine ⟨false,by simp[hq],acI h fun res bx ⟨b,hb,e1,e2⟩=>⟨?_,e2⟩⟩
  rw[e1];cases b with
  | false=>rfl
  | true=>exact absurd (hb.1 rfl) hq
structure AgreeP (p:Pg) (xs:List Nm) (ws:List Tb) (line:ByteArray) (fs:List ByteArray) (nr:Int) (ot:List (List T)) (fuel stop fault exit:Int) (l:List Ce) (vx:List Int) (ts:List Mt) (line2:ByteArray) (fs2:List ByteArray) (nr2:Int) (ot2:List (List T)) (fuel2 stop2 fault2 exit2:Int) (trap:Bool):Prop where
 check:CheckIs p 0
 trap:trap=false
 names:VarsIs p (xs.map Nm.name)/\TablesIs p (ws.map Tb.name)
 env:EnvSame l vx ts xs ws
 out:textS ot=textS ot2
 nr:nr=nr2
 fuel:fuel=fuel2
 stop:stop=stop2
 fault:fault=fault2
 exit:exit=exit2
 line:line=line2
 fields:fs=fs2
def invG (pc sc mc:List A) (a b:List ByteArray) (N:Nat) (σ:AS):Prop:=
 ∃(i:Nat),σ=⟨vag 110 [(3,⟨.one,[.ptr 0 0]⟩),(4,⟨.one,[.ptr 1 0]⟩),(5,⟨.one,[.ptr 2 0]⟩),(7,litI (Int.ofNat i))],[some pc,some sc,some mc],1⟩/\i<=a.length/\a.take i=b.take i/\N=a.length - i
theorem qAg {Q:Prop} (t:Q:=by
 refine qU ?_
 repeat' first|(revert hK K;refine qV0 ?_;intro K hK)|(refine GFork.mk (fun _=>qQ ?_) fun _=>qQ ?_)|(with_reducible refine ndC ?h ?_;case h=>first | exact bot | exact bot2)|(refine qG ?_;refine qD hP h1 ?_;rintro res bx ⟨rfl,rfl⟩;refine qC ?_)|(refine qG ?_;refine qD hP h2 ?_;rintro res bx ⟨rfl,rfl⟩;refine qC ?_)|(refine qG ?_;refine qD hP h3 ?_;rintro res bx ⟨rfl,rfl⟩;refine qC ?_)
 all_goals exact hR _ _ ⟨false,⟨fun h=>(by cases h),fun h=>absurd h hno⟩,rfl,rfl⟩):Q:=t
theorem c_Agree_spec (p:Pg) (hz:p.sz<=1048576) (xs:List Nm) (nl:List (List T)) (hnl:nl=xs.map Nm.t) (ws:List Tb) (bl:List (List T)) (hbl:bl=ws.map Tb.t) (line:ByteArray) (fs:List ByteArray) (fd:List (List T)) (hfd:fd=strs fs) (nr:Int) (out:List Int) (ot:List (List T)) (hot:ot=out.map byteT) (fuel calls stop fault exit:Int)
  (l:List Ce) (cl:List (List T)) (hcl:cl=l.map Ce.t) (vx:List Int) (vl:List (List T)) (hvl:vl=vx.map intT) (ts:List Mt) (tl:List (List T)) (htl:tl=ts.map Mt.t) (fl2:List (List T)) (line2:ByteArray) (fs2:List ByteArray) (fd2:List (List T)) (hfd2:fd2=strs fs2) (nr2:Int) (out2:List Int) (ot2:List (List T)) (hot2:ot2=out2.map byteT) (fuel2 stop2 fault2 exit2:Int) (trap:Bool)
  (hl:l.length<=1048576) (h1l:xs.length<=1048576) (h2l:ws.length<=1048576) (hts:∀a∈ts,a.l.length<=1048576) (hws:∀a∈ws,a.l.length<=1048576) (hfl:fs.length<=1048576) :
  ACl Tryz.prog 7 [agT p.t,⟨.agg,[.ro true nl,.ro true bl,.lit (.string line),.ro true fd,.lit (.int .i64 nr),.ro true ot,.lit (.int .i64 fuel),.lit (.int .i64 calls),.lit (.int .i64 stop),.lit (.int .i64 fault),.lit (.int .i64 exit)]⟩,⟨.agg,[.ro true cl,.ro true vl,.ro true tl,.ro true fl2,.lit (.string line2),.ro true fd2,.lit (.int .i64 nr2),.ro true ot2,.lit (.int .i64 fuel2),.lit (.int .i64 stop2),.lit (.int .i64 fault2),.lit (.int .i64 exit2),.lit (.bool trap)]⟩] [] (fun res bx=>∃b:Bool,(b=true↔AgreeP p xs ws line fs nr ot fuel stop fault exit l vx ts line2 fs2 nr2 ot2 fuel2 stop2 fault2 exit2 trap)/\res=litB b/\bx=[]):=by
 obtain ⟨r,hr⟩:=CheckIs.ex p;have h1:=acI (c_Check_spec p hz) (R':=fun res bx=>res=litI r/\bx=[]) (fun res bx ⟨r',h,e1,e2⟩=>⟨by rw[e1,h.unique hr],e2⟩)
 obtain ⟨b1,hb1,h2⟩:=lit_of (c_l27Names p hz xs nl hnl ws bl hbl);obtain ⟨b2,hb2,h3⟩:=lit_of (c_l27Env l cl hcl hl vx vl hvl ts tl htl fl2 fd2 ot2 line2 nr2 fuel2 stop2 fault2 exit2 trap xs nl hnl ws bl hbl h1l h2l hts hws);rw[pg_agT] at h1 h2 |-;obtain ⟨rl,hrl⟩:=qX (p.rules.map Ru.t);obtain ⟨fl,hfl'⟩:=qX (p.fns.map Fu.t);simp only[<-hrl,<-hfl'] at h1 h2 |-;refine qF tyK Tryz.func7 110 [.tmp 6] ?_;unhygienic intros
 have hbn:∀c:Bool,bnot c=!c:=fun c=>by cases hO;rfl
 have hcn:∀a b:Int,cmp .neq a b=true↔a≠b:=fun a b=>by cases hO;simp[Ops.std,sCm]
 have hsn:∀a b:ByteArray,scmp .neq a b=true↔a≠b:=fun a b=>by cases hO;simp[Ops.std,scmp_neq]
 have hst:scmp .neq (text ot) (text ot2)=true↔textS ot≠textS ot2:=by rw[hsn];cases hO;rfl
 have bot:isB ot:=isB_map hO hot;have bot2:isB ot2:=isB_map hO hot2;obtain ⟨N,hN⟩:=qX fs.length;obtain ⟨M,hM2⟩:=qX fs2.length;have lfd:len fd=N:=lnO hO (by simp[hfd,hN])
 have lfd2:len fd2=M:=lnO hO (by simp[hfd2,hM2])
 have afd:all fd 1:=alO hO (by rw[hfd];exact strs_all fs)
 have afd2:all fd2 1:=alO hO (by rw[hfd2];exact strs_all fs2)
 rw[<-hN] at hfl
 by_cases k1:cmp .neq r 0=true
 ·have hno:¬AgreeP p xs ws line fs nr ot fuel stop fault exit l vx ts line2 fs2 nr2 ot2 fuel2 stop2 fault2 exit2 trap:=fun h=>by have:=hr.unique h.check;rw[hcn] at k1;exact k1 this
  exact qAg
 replace k1:cmp .neq r 0=false:=by simpa using k1
 by_cases k2:trap=true
 ·have hno:¬AgreeP p xs ws line fs nr ot fuel stop fault exit l vx ts line2 fs2 nr2 ot2 fuel2 stop2 fault2 exit2 trap:=fun h=>by rw[h.trap] at k2;cases k2
  exact qAg
 replace k2:trap=false:=by simpa using k2
 by_cases k3:bnot b1=true
 ·have hno:¬AgreeP p xs ws line fs nr ot fuel stop fault exit l vx ts line2 fs2 nr2 ot2 fuel2 stop2 fault2 exit2 trap:=fun h=>by rw[hbn,hb1.2 h.names] at k3;cases k3
  exact qAg
 replace k3:bnot b1=false:=by simpa using k3
 by_cases k4:bnot b2=true
 ·have hno:¬AgreeP p xs ws line fs nr ot fuel stop fault exit l vx ts line2 fs2 nr2 ot2 fuel2 stop2 fault2 exit2 trap:=fun h=>by rw[hbn,hb2.2 h.env] at k4;cases k4
  exact qAg
 replace k4:bnot b2=false:=by simpa using k4
 by_cases k5:scmp .neq (text ot) (text ot2)=true
 ·have hno:¬AgreeP p xs ws line fs nr ot fuel stop fault exit l vx ts line2 fs2 nr2 ot2 fuel2 stop2 fault2 exit2 trap:=fun h=>by have:=h.out;rw[hst] at k5;exact k5 this
  exact qAg
 replace k5:scmp .neq (text ot) (text ot2)=false:=by simpa using k5
 by_cases k6:cmp .neq nr nr2=true
 ·have hno:¬AgreeP p xs ws line fs nr ot fuel stop fault exit l vx ts line2 fs2 nr2 ot2 fuel2 stop2 fault2 exit2 trap:=fun h=>by have:=h.nr;rw[hcn] at k6;exact k6 this
  exact qAg
 replace k6:cmp .neq nr nr2=false:=by simpa using k6
 by_cases k7:cmp .neq fuel fuel2=true
 ·have hno:¬AgreeP p xs ws line fs nr ot fuel stop fault exit l vx ts line2 fs2 nr2 ot2 fuel2 stop2 fault2 exit2 trap:=fun h=>by have:=h.fuel;rw[hcn] at k7;exact k7 this
  exact qAg
 replace k7:cmp .neq fuel fuel2=false:=by simpa using k7
 by_cases k8:cmp .neq stop stop2=true
 ·have hno:¬AgreeP p xs ws line fs nr ot fuel stop fault exit l vx ts line2 fs2 nr2 ot2 fuel2 stop2 fault2 exit2 trap:=fun h=>by have:=h.stop;rw[hcn] at k8;exact k8 this
  exact qAg
 replace k8:cmp .neq stop stop2=false:=by simpa using k8
 by_cases k9:cmp .neq fault fault2=true
 ·have hno:¬AgreeP p xs ws line fs nr ot fuel stop fault exit l vx ts line2 fs2 nr2 ot2 fuel2 stop2 fault2 exit2 trap:=fun h=>by have:=h.fault;rw[hcn] at k9;exact k9 this
  exact qAg
 replace k9:cmp .neq fault fault2=false:=by simpa using k9
 by_cases k10:cmp .neq exit exit2=true
 ·have hno:¬AgreeP p xs ws line fs nr ot fuel stop fault exit l vx ts line2 fs2 nr2 ot2 fuel2 stop2 fault2 exit2 trap:=fun h=>by have:=h.exit;rw[hcn] at k10;exact k10 this
  exact qAg
 replace k10:cmp .neq exit exit2=false:=by simpa using k10
 by_cases k11:scmp .neq line line2=true
 ·have hno:¬AgreeP p xs ws line fs nr ot fuel stop fault exit l vx ts line2 fs2 nr2 ot2 fuel2 stop2 fault2 exit2 trap:=fun h=>by have:=h.line;rw[hsn] at k11;exact k11 this
  exact qAg
 replace k11:scmp .neq line line2=false:=by simpa using k11
 by_cases k12:cmp .neq (Int.ofNat (len fd)) (Int.ofNat (len fd2))=true
 ·have hno:¬AgreeP p xs ws line fs nr ot fuel stop fault exit l vx ts line2 fs2 nr2 ot2 fuel2 stop2 fault2 exit2 trap:=fun h=>by rw[lfd,lfd2,hcn] at k12;exact k12 (by rw[hN,hM2,h.fields])
  exact qAg
 replace k12:cmp .neq (Int.ofNat (len fd)) (Int.ofNat (len fd2))=false:=by simpa using k12
 have q1:r=0:=Classical.byContradiction fun h=>by rw[(hcn _ _).2 h] at k1;cases k1
 have q3:b1=true:=by rw[hbn] at k3;simpa using k3
 have q4:b2=true:=by rw[hbn] at k4;simpa using k4
 have q5:textS ot=textS ot2:=Classical.byContradiction fun h=>by rw[hst.2 h] at k5;cases k5
 have qn:∀a b:Int,cmp .neq a b=false->a=b:=fun a b hk=>Classical.byContradiction fun h=>by rw[(hcn _ _).2 h] at hk;cases hk
 have q11:line=line2:=Classical.byContradiction fun h=>by rw[(hsn _ _).2 h] at k11;cases k11
 have q12:N=M:=by
  have:=qn _ _ k12;rw[lfd,lfd2] at this;exact Int.ofNat.inj this
 have hA:fs=fs2->AgreeP p xs ws line fs nr ot fuel stop fault exit l vx ts line2 fs2 nr2 ot2 fuel2 stop2 fault2 exit2 trap:=fun h=>⟨q1 ▸ hr,k2,hb1.1 q3,hb2.1 q4,q5,qn _ _ k6,qn _ _ k7,qn _ _ k8,qn _ _ k9,qn _ _ k10,q11,h⟩;have hA':AgreeP p xs ws line fs nr ot fuel stop fault exit l vx ts line2 fs2 nr2 ot2 fuel2 stop2 fault2 exit2 trap->fs=fs2:=fun h=>h.fields;generalize AgreeP p xs ws line fs nr ot fuel stop fault exit l vx ts line2 fs2 nr2 ot2 fuel2 stop2 fault2 exit2 trap=AG at *
 obtain ⟨pc,hpc⟩:=qX ([.ro true rl,.ro true fl]:List A);obtain ⟨sc,hsc⟩:=qX ([.ro true nl,.ro true bl,.lit (.string line),.ro true fd,.lit (.int .i64 nr),.ro true ot,.lit (.int .i64 fuel),.lit (.int .i64 calls),.lit (.int .i64 stop),.lit (.int .i64 fault),.lit (.int .i64 exit)]:List A);obtain ⟨mc,hmc⟩:=qX ([.ro true cl,.ro true vl,.ro true tl,.ro true fl2,.lit (.string line2),.ro true fd2,.lit (.int .i64 nr2),.ro true ot2,.lit (.int .i64 fuel2),.lit (.int .i64 stop2),.lit (.int .i64 fault2),.lit (.int .i64 exit2),.lit (.bool trap)]:List A)
 refine qU ?_
 repeat' first|(revert hK K;refine qV0 ?_;intro K hK)|(refine GFork.mk (fun _=>qQ ?_) fun _=>qQ ?_)|(with_reducible refine ndC ?h ?_;case h=>first | exact bot | exact bot2)|(refine qG ?_;refine qD hP h1 ?_;rintro res bx ⟨rfl,rfl⟩;refine qC ?_)|(refine qG ?_;refine qD hP h2 ?_;rintro res bx ⟨rfl,rfl⟩;refine qC ?_)|(refine qG ?_;refine qD hP h3 ?_;rintro res bx ⟨rfl,rfl⟩;refine qC ?_)
 refine qL 3 [3,4,5,7] kk0 (invG pc sc mc fs fs2) ?_ ?_
 ·cbv
  exact ⟨_,0,by rw[hpc,hsc,hmc];cbv,by simp,rfl,rfl⟩
 rintro m σ ⟨i,rfl,g1,g2,rfl⟩;rw[<-hN] at g1 |-;rw[hpc,hsc,hmc]
 by_cases hlt:i < N
 ·have c1:cmp .lss (Int.ofNat i) (Int.ofNat (len fd))=true:=by rw[lfd];cases hO;simp[Ops.std,sCm,hlt]
  have e:bin .add .i64 (Int.ofNat i) 1=_:=iSc hO (by omega)
  have hidm:idx (Int.ofNat i) (len fd):=lfd ▸ ixN hO hlt;have hidw:idx (Int.ofNat i) (len fd2):=lfd2 ▸ ixN hO (q12 ▸ hlt);obtain ⟨x,hx⟩:∃y,fs[i]?=some y:=⟨_,List.getElem?_eq_getElem (hN ▸ hlt)⟩;obtain ⟨y,hy⟩:∃y,fs2[i]?=some y:=⟨_,List.getElem?_eq_getElem (hM2 ▸ q12 ▸ hlt)⟩;have e1:get fd (nat (Int.ofNat i))=[T.lit (.string x)]:=by cases hO;rw[hfd];simp[Ops.std,strs,hx]
  have e2:get fd2 (nat (Int.ofNat i))=[T.lit (.string y)]:=by cases hO;rw[hfd2];simp[Ops.std,strs,hy]
  have t1:fs.take (i+1)=fs.take i++[x]:=by rw[List.take_add_one,hx];rfl
  have t2:fs2.take (i+1)=fs2.take i++[y]:=by rw[List.take_add_one,hy];rfl
  by_cases hxy:x=y
  ·have c2:scmp .neq x y=false:=by cases hO;simp only[Ops.std,scmp_neq];simp[hxy]
   refine qU ?_
   repeat' first|(revert hK K;refine qV0 ?_;intro K hK)|(refine GFork.mk (fun _=>qQ ?_) fun _=>qQ ?_)|(simp only[c1,c2,e1,e2];try cbv)|(with_reducible refine ndC ?h ?_;case h=>first | exact hidm | exact hidw | exact afd | exact afd2 | rfl)
   all_goals (rw[e];exact ⟨N - (i+1),by omega,i+1,by (try rw[hpc,hsc,hmc]);cbv,by omega,by rw[t1,t2,g2,hxy],by rw[hN]⟩)
  ·have c2:scmp .neq x y=true:=by cases hO;simp[Ops.std,scmp_neq,hxy]
   refine qU ?_
   repeat' first|(revert hK K;refine qV0 ?_;intro K hK)|(refine GFork.mk (fun _=>qQ ?_) fun _=>qQ ?_)|(simp only[c1,c2,e1,e2];try cbv)|(with_reducible refine ndC ?h ?_;case h=>first | exact hidm | exact hidw | exact afd | exact afd2 | rfl)
   all_goals exact hR _ _ ⟨false,⟨fun h=>(by cases h),fun h=>absurd (by rw[hA' h,hy] at hx;exact (Option.some.inj hx).symm) hxy⟩,rfl,rfl⟩
 ·have hie:i=N:=by omega
  have c1:cmp .lss (Int.ofNat i) (Int.ofNat (len fd))=false:=by rw[lfd];cases hO;simp[Ops.std,sCm];omega
  refine qU ?_
  repeat' first|(revert hK K;refine qV0 ?_;intro K hK)|(refine GFork.mk (fun _=>qQ ?_) fun _=>qQ ?_)|(simp only[c1];try cbv)
  exact hR _ _ ⟨true,⟨fun _=>hA (by rw[List.take_of_length_le (by omega),List.take_of_length_le (by omega)] at g2;exact g2),fun _=>rfl⟩,rfl,rfl⟩
end Go.Gv
