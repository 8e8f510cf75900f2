/- Part X7 of the proof: contracts of functions of the program, each walked once. -/
import Derived.Test.YtjeejieaalnbeaaGreatX6
import Derived.Test.YtjeejieaalnbeaaGreatW16
import Derived.Test.YtjeejieaalnbeaaGreatQ1
set_option linter.all false
namespace Go.Gv
open Go.Av Go.Proofs Go.Shelf Go.RowKit
set_option maxRecDepth 10000
set_option maxHeartbeats 8000000
def invAgA (pc sc mc:List A) (vt tt nl:List (List T)) (l:List Ce) (vx:List Int) (xs:List Nm) (xn vs:List ByteArray) (N:Nat) (σ:AS):Prop:=
 ∃(i:Nat),σ=⟨vag 166 [(3,⟨.one,[.ptr 0 0]⟩),(4,⟨.one,[.ptr 1 0]⟩),(5,⟨.one,[.ptr 2 0]⟩),(7,⟨.one,[.ro true vt]⟩),(8,⟨.one,[.ro true tt]⟩),(110,⟨.one,[.ro true nl]⟩),(111,litI (Int.ofNat xs.length)),(112,litI (Int.ofNat i))],[some pc,some sc,some mc],1⟩/\i<=xs.length/\xn.take i=vs.take i/\VarP l vx xs i/\N=xs.length - i
def invAgB (pc sc mc:List A) (tt bl:List (List T)) (l:List Ce) (ts:List Mt) (ws:List Tb) (wn tsn:List ByteArray) (N:Nat) (σ:AS):Prop:=
 ∃(i:Nat),σ=⟨vag 166 [(3,⟨.one,[.ptr 0 0]⟩),(4,⟨.one,[.ptr 1 0]⟩),(5,⟨.one,[.ptr 2 0]⟩),(8,⟨.one,[.ro true tt]⟩),(140,⟨.one,[.ro true bl]⟩),(141,litI (Int.ofNat ws.length)),(142,litI (Int.ofNat i))],[some pc,some sc,some mc],1⟩/\i<=ws.length/\wn.take i=tsn.take i/\TbsP l ts ws i/\N=ws.length - i
theorem qAi {Q:Prop} (t:Q:=by
 refine qU ?_
 repeat' first|(revert hK K;refine qV0 ?_;intro K hK)|(refine GFork.mk (fun _=>qQ ?_) fun _=>qQ ?_)|(with_reducible refine ndC ?h ?_;case h=>first | exact bot | exact bot2)|(refine qG ?_;refine qD hP h1 ?_;rintro res bx ⟨rfl,rfl⟩;refine qC ?_)|(refine qG ?_;refine qD hP h2 ?_;rintro res bx ⟨rfl,rfl⟩;refine qC ?_)|(refine qG ?_;refine qD hP h3 ?_;rintro res bx ⟨rfl,rfl⟩;refine qC ?_)|(refine qG ?_;refine qD hP h4 ?_;rintro res bx ⟨rfl,rfl⟩;refine qC ?_)
 all_goals exact hR _ _ ⟨false,⟨fun h=>(by cases h),fun h=>absurd h hno⟩,rfl,rfl⟩):Q:=t
theorem c_Agree_impl (p:Pg) (hz:p.sz<=1048576) (xs:List Nm) (nl:List (List T)) (hnl:nl=xs.map Nm.t) (ws:List Tb) (bl:List (List T)) (hbl:bl=ws.map Tb.t) (line:ByteArray) (fs:List ByteArray) (fd:List (List T)) (hfd:fd=strs fs) (nr:Int) (out:List Int) (ot:List (List T)) (hot:ot=out.map byteT) (fuel calls stop fault exit:Int)
  (l:List Ce) (cl:List (List T)) (hcl:cl=l.map Ce.t) (vx:List Int) (vl:List (List T)) (hvl:vl=vx.map intT) (ts:List Mt) (tl:List (List T)) (htl:tl=ts.map Mt.t) (fl2:List (List T)) (line2:ByteArray) (fs2:List ByteArray) (fd2:List (List T)) (hfd2:fd2=strs fs2) (nr2:Int) (out2:List Int) (ot2:List (List T)) (hot2:ot2=out2.map byteT) (fuel2 stop2 fault2 exit2:Int) (trap:Bool)
  (hl:l.length<=1048576) (h1l:xs.length<=1048576) (h2l:ws.length<=1048576) (hts:∀a∈ts,a.l.length<=1048576) (hws:∀a∈ws,a.l.length<=1048576) (hfl:fs.length<=1048576) :
  ACl Tryz.prog 11 [agT p.t,⟨.agg,[.ro true nl,.ro true bl,.lit (.string line),.ro true fd,.lit (.int .i64 nr),.ro true ot,.lit (.int .i64 fuel),.lit (.int .i64 calls),.lit (.int .i64 stop),.lit (.int .i64 fault),.lit (.int .i64 exit)]⟩,⟨.agg,[.ro true cl,.ro true vl,.ro true tl,.ro true fl2,.lit (.string line2),.ro true fd2,.lit (.int .i64 nr2),.ro true ot2,.lit (.int .i64 fuel2),.lit (.int .i64 stop2),.lit (.int .i64 fault2),.lit (.int .i64 exit2),.lit (.bool trap)]⟩] [] (fun res bx=>∃b:Bool,(b=true↔AgreeP p xs ws line fs nr ot fuel stop fault exit l vx ts line2 fs2 nr2 ot2 fuel2 stop2 fault2 exit2 trap)/\res=litB b/\bx=[]):=by
 obtain ⟨r,hr⟩:=CheckIs.ex p;obtain ⟨vs,hV⟩:=VarsIs.ex p;obtain ⟨tsn,hT⟩:=TablesIs.ex p;obtain ⟨vt,hvt⟩:=qX (strs vs);obtain ⟨tt,htt⟩:=qX (strs tsn);have h1:=acI (c_Check_impl p hz) (R':=fun res bx=>res=litI r/\bx=[]) (fun res bx ⟨r',h,e1,e2⟩=>⟨by rw[e1,h.unique hr],e2⟩)
 obtain ⟨b3,hb3,h2⟩:=lit_of (c_sameRec line line2 fs fs2 fd fd2 hfd hfd2 hfl);have h3:=acI (c_VarsOf_impl p hz) (R':=fun res bx=>res=⟨.one,[.ro true vt]⟩/\bx=[]) (fun res bx ⟨vs',els,g1,g2,g3,g4,g5⟩=>⟨by rw[g4,g3,hvt,g1.unique hV],g5⟩)
 have h4:=acI (c_TablesOf_impl p hz) (R':=fun res bx=>res=⟨.one,[.ro true tt]⟩/\bx=[]) (fun res bx ⟨vs',els,g1,g2,g3,g4,g5⟩=>⟨by rw[g4,g3,htt,g1.unique hT],g5⟩)
 have hval:=fun i=>c_ValAt_impl l cl hcl hl i;have htab:=fun t ml hml w wl hwl name ht hw=>c_sameTable l cl hcl hl vl tl fl2 fd2 ot2 line2 nr2 fuel2 stop2 fault2 exit2 trap t ml hml w wl hwl name ht hw;rw[pg_agT] at h1 h3 h4 |-;obtain ⟨rl,hrl⟩:=qX (p.rules.map Ru.t);obtain ⟨fl,hfl'⟩:=qX (p.fns.map Fu.t);simp only[<-hrl,<-hfl'] at h1 h3 h4 |-;refine qF tyK Tryz.func11 166 [.tmp 6] ?_;unhygienic intros
 have hbn:∀c:Bool,bnot c=!c:=fun c=>by cases hO;rfl
 have hcn:∀a b:Int,cmp .neq a b=true↔a≠b:=fun a b=>by cases hO;simp[Ops.std,sCm]
 have hsn:∀a b:ByteArray,scmp .neq a b=true↔a≠b:=fun a b=>by cases hO;simp[Ops.std,scmp_neq]
 have hst:scmp .neq (text ot) (text ot2)=true↔textS ot≠textS ot2:=by rw[hsn];cases hO;rfl
 have bot:isB ot:=isB_map hO hot;have bot2:isB ot2:=isB_map hO hot2;obtain ⟨N,hN⟩:=qX xs.length;obtain ⟨M,hM2⟩:=qX ws.length;obtain ⟨N',hN'⟩:=qX vx.length;obtain ⟨M',hM'⟩:=qX ts.length;obtain ⟨VL,hVl⟩:=qX vs.length;obtain ⟨TL,hTl⟩:=qX tsn.length;have ln:len nl=N:=lnO hO (by simp[hnl,hN])
 have lb:len bl=M:=lnO hO (by simp[hbl,hM2])
 have lv:len vl=N':=lnO hO (by simp[hvl,hN'])
 have lt:len tl=M':=lnO hO (by simp[htl,hM'])
 have lvt:len vt=VL:=lnO hO (by simp[hvt,hVl])
 have ltt:len tt=TL:=lnO hO (by simp[htt,hTl])
 have an:all nl 4:=alO hO (by rw[hnl];simp[Nm.t_len])
 have ab:all bl 2:=alO hO (by rw[hbl];simp[Tb.t_len])
 have av:all vl 1:=alO hO (by rw[hvl];simp[intT_len])
 have at_:all tl 1:=alO hO (by rw[htl];simp[Mt.t_len])
 have avt:all vt 1:=alO hO (by rw[hvt];exact strs_all vs)
 have att:all tt 1:=alO hO (by rw[htt];exact strs_all tsn)
 rw[<-hN] at h1l;rw[<-hM2] at h2l
 by_cases k1:cmp .neq r 0=true
 ·have hno:¬AgreeP p xs ws line fs nr ot fuel stop fault exit l vx ts line2 fs2 nr2 ot2 fuel2 stop2 fault2 exit2 trap:=fun h=>by have:=hr.unique h.check;rw[hcn] at k1;exact k1 this
  exact qAi
 replace k1:cmp .neq r 0=false:=by simpa using k1
 by_cases k2:trap=true
 ·have hno:¬AgreeP p xs ws line fs nr ot fuel stop fault exit l vx ts line2 fs2 nr2 ot2 fuel2 stop2 fault2 exit2 trap:=fun h=>by rw[h.trap] at k2;cases k2
  exact qAi
 replace k2:trap=false:=by simpa using k2
 by_cases k5:scmp .neq (text ot) (text ot2)=true
 ·have hno:¬AgreeP p xs ws line fs nr ot fuel stop fault exit l vx ts line2 fs2 nr2 ot2 fuel2 stop2 fault2 exit2 trap:=fun h=>by have:=h.out;rw[hst] at k5;exact k5 this
  exact qAi
 replace k5:scmp .neq (text ot) (text ot2)=false:=by simpa using k5
 by_cases k6:cmp .neq nr nr2=true
 ·have hno:¬AgreeP p xs ws line fs nr ot fuel stop fault exit l vx ts line2 fs2 nr2 ot2 fuel2 stop2 fault2 exit2 trap:=fun h=>by have:=h.nr;rw[hcn] at k6;exact k6 this
  exact qAi
 replace k6:cmp .neq nr nr2=false:=by simpa using k6
 by_cases k3:bnot b3=true
 ·have hno:¬AgreeP p xs ws line fs nr ot fuel stop fault exit l vx ts line2 fs2 nr2 ot2 fuel2 stop2 fault2 exit2 trap:=fun h=>by rw[hbn,hb3.2 ⟨h.line,h.fields⟩] at k3;cases k3
  exact qAi
 replace k3:bnot b3=false:=by simpa using k3
 by_cases k7:cmp .neq fuel fuel2=true
 ·have hno:¬AgreeP p xs ws line fs nr ot fuel stop fault exit l vx ts line2 fs2 nr2 ot2 fuel2 stop2 fault2 exit2 trap:=fun h=>by have:=h.fuel;rw[hcn] at k7;exact k7 this
  exact qAi
 replace k7:cmp .neq fuel fuel2=false:=by simpa using k7
 by_cases k8:cmp .neq stop stop2=true
 ·have hno:¬AgreeP p xs ws line fs nr ot fuel stop fault exit l vx ts line2 fs2 nr2 ot2 fuel2 stop2 fault2 exit2 trap:=fun h=>by have:=h.stop;rw[hcn] at k8;exact k8 this
  exact qAi
 replace k8:cmp .neq stop stop2=false:=by simpa using k8
 by_cases k9:cmp .neq fault fault2=true
 ·have hno:¬AgreeP p xs ws line fs nr ot fuel stop fault exit l vx ts line2 fs2 nr2 ot2 fuel2 stop2 fault2 exit2 trap:=fun h=>by have:=h.fault;rw[hcn] at k9;exact k9 this
  exact qAi
 replace k9:cmp .neq fault fault2=false:=by simpa using k9
 by_cases k10:cmp .neq exit exit2=true
 ·have hno:¬AgreeP p xs ws line fs nr ot fuel stop fault exit l vx ts line2 fs2 nr2 ot2 fuel2 stop2 fault2 exit2 trap:=fun h=>by have:=h.exit;rw[hcn] at k10;exact k10 this
  exact qAi
 replace k10:cmp .neq exit exit2=false:=by simpa using k10
 by_cases k11:cmp .neq (Int.ofNat (len nl)) (Int.ofNat (len vt))=true
 ·have hno:¬AgreeP p xs ws line fs nr ot fuel stop fault exit l vx ts line2 fs2 nr2 ot2 fuel2 stop2 fault2 exit2 trap:=fun h=>by rw[ln,lvt,hcn] at k11;exact k11 (by rw[hN,hVl,hV.unique h.names.1,List.length_map])
  exact qAi
 replace k11:cmp .neq (Int.ofNat (len nl)) (Int.ofNat (len vt))=false:=by simpa using k11
 by_cases k12:cmp .neq (Int.ofNat (len vl)) (Int.ofNat (len vt))=true
 ·have hno:¬AgreeP p xs ws line fs nr ot fuel stop fault exit l vx ts line2 fs2 nr2 ot2 fuel2 stop2 fault2 exit2 trap:=fun h=>by rw[lv,lvt,hcn] at k12;exact k12 (by rw[hN',hVl,hV.unique h.names.1,List.length_map,h.env.1])
  exact qAi
 replace k12:cmp .neq (Int.ofNat (len vl)) (Int.ofNat (len vt))=false:=by simpa using k12
 by_cases k13:cmp .neq (Int.ofNat (len bl)) (Int.ofNat (len tt))=true
 ·have hno:¬AgreeP p xs ws line fs nr ot fuel stop fault exit l vx ts line2 fs2 nr2 ot2 fuel2 stop2 fault2 exit2 trap:=fun h=>by rw[lb,ltt,hcn] at k13;exact k13 (by rw[hM2,hTl,hT.unique h.names.2,List.length_map])
  exact qAi
 replace k13:cmp .neq (Int.ofNat (len bl)) (Int.ofNat (len tt))=false:=by simpa using k13
 by_cases k14:cmp .neq (Int.ofNat (len tl)) (Int.ofNat (len tt))=true
 ·have hno:¬AgreeP p xs ws line fs nr ot fuel stop fault exit l vx ts line2 fs2 nr2 ot2 fuel2 stop2 fault2 exit2 trap:=fun h=>by rw[lt,ltt,hcn] at k14;exact k14 (by rw[hM',hTl,hT.unique h.names.2,List.length_map,h.env.2.1])
  exact qAi
 replace k14:cmp .neq (Int.ofNat (len tl)) (Int.ofNat (len tt))=false:=by simpa using k14
 have q1:r=0:=Classical.byContradiction fun h=>by rw[(hcn _ _).2 h] at k1;cases k1
 have q3:b3=true:=by rw[hbn] at k3;simpa using k3
 have q5:textS ot=textS ot2:=Classical.byContradiction fun h=>by rw[hst.2 h] at k5;cases k5
 have qn:∀a b:Int,cmp .neq a b=false->a=b:=fun a b hk=>Classical.byContradiction fun h=>by rw[(hcn _ _).2 h] at hk;cases hk
 have e11:N=VL:=by
  have:=qn _ _ k11;rw[ln,lvt] at this;exact Int.ofNat.inj this
 have e12:N'=VL:=by
  have:=qn _ _ k12;rw[lv,lvt] at this;exact Int.ofNat.inj this
 have e13:M=TL:=by
  have:=qn _ _ k13;rw[lb,ltt] at this;exact Int.ofNat.inj this
 have e14:M'=TL:=by
  have:=qn _ _ k14;rw[lt,ltt] at this;exact Int.ofNat.inj this
 obtain ⟨xn,hxn⟩:=qX (xs.map Nm.name);obtain ⟨wn,hwn⟩:=qX (ws.map Tb.name);have hA:xn=vs->wn=tsn->VarP l vx xs xs.length->TbsP l ts ws ws.length->AgreeP p xs ws line fs nr ot fuel stop fault exit l vx ts line2 fs2 nr2 ot2 fuel2 stop2 fault2 exit2 trap:=fun g1 g2 g3 g4=>⟨q1 ▸ hr,k2,⟨hxn ▸ g1 ▸ hV,hwn ▸ g2 ▸ hT⟩,⟨by omega,by omega,g3,g4⟩,q5,qn _ _ k6,qn _ _ k7,qn _ _ k8,qn _ _ k9,qn _ _ k10,(hb3.1 q3).1,(hb3.1 q3).2⟩
 have hA1:AgreeP p xs ws line fs nr ot fuel stop fault exit l vx ts line2 fs2 nr2 ot2 fuel2 stop2 fault2 exit2 trap->xn=vs:=fun h=>hxn ▸ h.names.1.unique hV;have hA2:AgreeP p xs ws line fs nr ot fuel stop fault exit l vx ts line2 fs2 nr2 ot2 fuel2 stop2 fault2 exit2 trap->wn=tsn:=fun h=>hwn ▸ h.names.2.unique hT;have hA3:AgreeP p xs ws line fs nr ot fuel stop fault exit l vx ts line2 fs2 nr2 ot2 fuel2 stop2 fault2 exit2 trap->VarP l vx xs xs.length:=fun h=>h.env.2.2.1
 have hA4:AgreeP p xs ws line fs nr ot fuel stop fault exit l vx ts line2 fs2 nr2 ot2 fuel2 stop2 fault2 exit2 trap->TbsP l ts ws ws.length:=fun h=>h.env.2.2.2;generalize AgreeP p xs ws line fs nr ot fuel stop fault exit l vx ts line2 fs2 nr2 ot2 fuel2 stop2 fault2 exit2 trap=AG at *;obtain ⟨pc,hpc⟩:=qX ([.ro true rl,.ro true fl]:List A);obtain ⟨sc,hsc⟩:=qX ([.ro true nl,.ro true bl,.lit (.string line),.ro true fd,.lit (.int .i64 nr),.ro true ot,.lit (.int .i64 fuel),.lit (.int .i64 calls),.lit (.int .i64 stop),.lit (.int .i64 fault),.lit (.int .i64 exit)]:List A)
 obtain ⟨mc,hmc⟩:=qX ([.ro true cl,.ro true vl,.ro true tl,.ro true fl2,.lit (.string line2),.ro true fd2,.lit (.int .i64 nr2),.ro true ot2,.lit (.int .i64 fuel2),.lit (.int .i64 stop2),.lit (.int .i64 fault2),.lit (.int .i64 exit2),.lit (.bool trap)]:List A);refine qU ?_
 repeat' first|(revert hK K;refine qV0 ?_;intro K hK)|(refine GFork.mk (fun _=>qQ ?_) fun _=>qQ ?_)|(with_reducible refine ndC ?h ?_;case h=>first | exact bot | exact bot2)|(refine qG ?_;refine qD hP h1 ?_;rintro res bx ⟨rfl,rfl⟩;refine qC ?_)|(refine qG ?_;refine qD hP h2 ?_;rintro res bx ⟨rfl,rfl⟩;refine qC ?_)|(refine qG ?_;refine qD hP h3 ?_;rintro res bx ⟨rfl,rfl⟩;refine qC ?_)|(refine qG ?_;refine qD hP h4 ?_;rintro res bx ⟨rfl,rfl⟩;refine qC ?_)
 simp only[ln];clear h1 h2 h3 h4 k1 k3 k5 k6 k7 k8 k9 k10 k11 k12 k13 k14 q1 q3 q5 hb3 hr hV hT;refine qL 3 [3,4,5,7,8,110,111,112] kk0 (invAgA pc sc mc vt tt nl l vx xs xn vs) ?_ ?_
 ·cbv
  exact ⟨_,0,by rw[hpc,hsc,hmc,<-hN];cbv,by simp,rfl,VarP.zero l vx xs,rfl⟩
 rintro m σ ⟨i,rfl,g1,g2,g3,rfl⟩;rw[<-hN] at g1 |-;rw[hpc,hsc,hmc]
 by_cases hlt:i < N
 ·have c1:cmp .lss (Int.ofNat i) (Int.ofNat N)=true:=by cases hO;simp[Ops.std,sCm,hlt]
  have e:bin .add .i64 (Int.ofNat i) 1=_:=iSc hO (by omega)
  have hidm:idx (Int.ofNat i) (len nl):=ln ▸ ixN hO hlt;have hidn:idx (Int.ofNat i) N:=ixN hO hlt;have hidw:idx (Int.ofNat i) (len vl):=lv ▸ ixN hO (by omega)
  have hidv:idx (Int.ofNat i) (len vt):=lvt ▸ ixN hO (by omega)
  obtain ⟨a,ha⟩:∃y,vx[i]?=some y:=⟨_,List.getElem?_eq_getElem (by omega)⟩
  obtain ⟨b,hb⟩:∃y,xs[i]?=some y:=⟨_,List.getElem?_eq_getElem (hN ▸ hlt)⟩;obtain ⟨v,hv'⟩:∃y,vs[i]?=some y:=⟨_,List.getElem?_eq_getElem (by omega)⟩
  have e1:get vl (nat (Int.ofNat i))=[T.lit (.int .i64 a)]:=by cases hO;rw[hvl];simp[Ops.std,ha,intT]
  have e2:get nl (nat (Int.ofNat i))=[T.lit (.string b.name),.lit (.int .i64 b.v.k),.lit (.int .i64 b.v.n),.lit (.string b.v.s)]:=by
   have:get nl (nat (Int.ofNat i))=b.t:=by cases hO;rw[hnl];simp[Ops.std,hb]
   exact this
  have e3:get vt (nat (Int.ofNat i))=[T.lit (.string v)]:=by cases hO;rw[hvt];simp[Ops.std,strs,hv']
  have t1:xn.take (i+1)=xn.take i++[b.name]:=by rw[List.take_add_one,hxn,List.getElem?_map,hb];rfl
  have t2:vs.take (i+1)=vs.take i++[v]:=by rw[List.take_add_one,hv'];rfl
  have hbn':xn[i]?=some b.name:=by rw[hxn,List.getElem?_map,hb];rfl
  obtain ⟨k0,n0,s0,hv⟩:∃k n s,valAt l a=⟨k,n,s⟩:=⟨_,_,_,rfl⟩;have h1:=acI (hval a) (R':=fun res bx=>res=⟨.agg,[.lit (.int .i64 k0),.lit (.int .i64 n0),.lit (.string s0)]⟩/\bx=[]) (fun res bx ⟨k,n,s,h,e1,e2⟩=>by
   rw[hv] at h;cases h;exact ⟨e1,e2⟩)
  have hnext:=fun (h2:valAt l a=b.v)=>VarP.succ g3 ha hb h2;have hbad:valAt l a≠b.v->¬AG:=fun h h'=>h (hA3 h' i a b (by omega) ha hb)
  rw[hv] at hnext hbad;obtain ⟨bk,⟨k,n,s⟩⟩:=b;simp only at e1 e2 h1 hnext hbad hv t1 hbn'
  by_cases hkey:bk=v
  rotate_left
  ·have c2:scmp .neq bk v=true:=by cases hO;simp[Ops.std,scmp_neq,hkey]
   refine qU ?_
   repeat' first|(revert hK K;refine qV0 ?_;intro K hK)|(refine GFork.mk (fun _=>qQ ?_) fun _=>qQ ?_)|(simp only[c1,c2,e1,e2,e3];try cbv)|(with_reducible refine ndC ?h ?_;case h=>first | exact hidm | exact hidw | exact hidn | exact hidv | exact an | exact av | exact avt | rfl)
   all_goals exact hR _ _ ⟨false,⟨fun h=>(by cases h),fun h=>absurd (by rw[hA1 h,hv'] at hbn';exact (Option.some.inj hbn').symm) hkey⟩,rfl,rfl⟩
  have c2:scmp .neq bk v=false:=by cases hO;simp only[Ops.std,scmp_neq];simp[hkey]
  by_cases hval2:(⟨k0,n0,s0⟩:Vl)=⟨k,n,s⟩
  ·have c4:bnot (band (cmp .eql k k0) (band (cmp .eql n n0) (scmp .eql s s0)))=false:=vl_eq hO hval2.symm
   refine qU ?_
   repeat' first|(revert hK K;refine qV0 ?_;intro K hK)|(refine GFork.mk (fun _=>qQ ?_) fun _=>qQ ?_)|(simp only[c1,c2,c4,e1,e2,e3];try cbv)|(with_reducible refine ndC ?h ?_;case h=>first | exact hidm | exact hidw | exact hidn | exact hidv | exact an | exact av | exact avt | rfl)|(refine qG ?_;refine qD hP h1 ?_;rintro res bx ⟨rfl,rfl⟩;refine qC ?_)
   all_goals (rw[e];exact ⟨N - (i+1),by omega,i+1,by (try rw[hpc,hsc,hmc]);(try rw[hN]);cbv,by omega,by rw[t1,t2,g2,hkey],hnext hval2,by rw[hN]⟩)
  ·have c4:bnot (band (cmp .eql k k0) (band (cmp .eql n n0) (scmp .eql s s0)))=true:=vl_ne hO (Ne.symm hval2)
   refine qU ?_
   repeat' first|(revert hK K;refine qV0 ?_;intro K hK)|(refine GFork.mk (fun _=>qQ ?_) fun _=>qQ ?_)|(simp only[c1,c2,c4,e1,e2,e3];try cbv)|(with_reducible refine ndC ?h ?_;case h=>first | exact hidm | exact hidw | exact hidn | exact hidv | exact an | exact av | exact avt | rfl)|(refine qG ?_;refine qD hP h1 ?_;rintro res bx ⟨rfl,rfl⟩;refine qC ?_)
   all_goals exact hR _ _ ⟨false,⟨fun h=>(by cases h),fun h=>absurd h (hbad hval2)⟩,rfl,rfl⟩
 have hie:i=N:=by omega
 have c1:cmp .lss (Int.ofNat i) (Int.ofNat N)=false:=by cases hO;simp[Ops.std,sCm];omega
 have hxv:xn=vs:=by
  have:xn.length=N:=by rw[hxn,List.length_map,hN]
  rw[List.take_of_length_le (by omega),List.take_of_length_le (by omega)] at g2;exact g2
 have hVP:VarP l vx xs xs.length:=by rw[<-hN,<-hie];exact g3
 refine qU ?_
 repeat' first|(revert hK K;refine qV0 ?_;intro K hK)|(refine GFork.mk (fun _=>qQ ?_) fun _=>qQ ?_)|(simp only[c1];try cbv)
 simp only[lb];clear c1 hie g1 g2 g3 hlt hval;refine qL 3 [3,4,5,8,140,141,142] kk0 (invAgB pc sc mc tt bl l ts ws wn tsn) ?_ ?_
 ·cbv
  exact ⟨_,0,by rw[hpc,hsc,hmc,<-hM2];cbv,by simp,rfl,TbsP.zero l ts ws,rfl⟩
 rintro m σ ⟨i,rfl,g1,g2,g3,rfl⟩;rw[<-hM2] at g1 |-;rw[hpc,hsc,hmc]
 by_cases hlt:i < M
 ·have c1:cmp .lss (Int.ofNat i) (Int.ofNat M)=true:=by cases hO;simp[Ops.std,sCm,hlt]
  have e:bin .add .i64 (Int.ofNat i) 1=_:=iSc hO (by omega)
  have hidm:idx (Int.ofNat i) (len bl):=lb ▸ ixN hO hlt;have hidn:idx (Int.ofNat i) M:=ixN hO hlt;have hidw:idx (Int.ofNat i) (len tl):=lt ▸ ixN hO (by omega)
  have hidv:idx (Int.ofNat i) (len tt):=ltt ▸ ixN hO (by omega)
  obtain ⟨a,ha⟩:∃y,ts[i]?=some y:=⟨_,List.getElem?_eq_getElem (by omega)⟩
  obtain ⟨b,hb⟩:∃y,ws[i]?=some y:=⟨_,List.getElem?_eq_getElem (hM2 ▸ hlt)⟩;obtain ⟨v,hv'⟩:∃y,tsn[i]?=some y:=⟨_,List.getElem?_eq_getElem (by omega)⟩
  obtain ⟨ml,hml⟩:=qX (a.l.map Me.t);obtain ⟨wl,hwl⟩:=qX (b.l.map En.t);have e1:get tl (nat (Int.ofNat i))=[.sl ml]:=by
   have:get tl (nat (Int.ofNat i))=a.t:=by cases hO;rw[htl];simp[Ops.std,ha]
   rw[hml];exact this
  have e2:get bl (nat (Int.ofNat i))=[T.lit (.string b.name),.sl wl]:=by
   have:get bl (nat (Int.ofNat i))=b.t:=by cases hO;rw[hbl];simp[Ops.std,hb]
   rw[hwl];exact this
  have e3:get tt (nat (Int.ofNat i))=[T.lit (.string v)]:=by cases hO;rw[htt];simp[Ops.std,strs,hv']
  have t1:wn.take (i+1)=wn.take i++[b.name]:=by rw[List.take_add_one,hwn,List.getElem?_map,hb];rfl
  have t2:tsn.take (i+1)=tsn.take i++[v]:=by rw[List.take_add_one,hv'];rfl
  have hbn':wn[i]?=some b.name:=by rw[hwn,List.getElem?_map,hb];rfl
  obtain ⟨b1,hb1,h1⟩:=lit_of (htab a.l ml hml b.l wl hwl b.name (hts a (List.mem_of_getElem? ha)) (hws b (List.mem_of_getElem? hb)));have hnext:=fun (h2:TabSame l a.l b.l)=>TbsP.succ g3 ha hb h2;have hbad:¬TabSame l a.l b.l->¬AG:=fun h h'=>h (hA4 h' i a b (by omega) ha hb)
  generalize TabSame l a.l b.l=q at *;generalize b.name=bn at *
  by_cases hkey:bn=v
  rotate_left
  ·have c2:scmp .neq bn v=true:=by cases hO;simp[Ops.std,scmp_neq,hkey]
   refine qU ?_
   repeat' first|(revert hK K;refine qV0 ?_;intro K hK)|(refine GFork.mk (fun _=>qQ ?_) fun _=>qQ ?_)|(simp only[c1,c2,e1,e2,e3];try cbv)|(with_reducible refine ndC ?h ?_;case h=>first | exact hidm | exact hidw | exact hidn | exact hidv | exact ab | exact at_ | exact att | rfl)
   all_goals exact hR _ _ ⟨false,⟨fun h=>(by cases h),fun h=>absurd (by rw[hA2 h,hv'] at hbn';exact (Option.some.inj hbn').symm) hkey⟩,rfl,rfl⟩
  have c2:scmp .neq bn v=false:=by cases hO;simp only[Ops.std,scmp_neq];simp[hkey]
  cases b1
  ·have hq:¬q:=fun h=>Bool.noConfusion (hb1.2 h)
   have c4:bnot false=true:=by rw[hbn];rfl
   refine qU ?_
   repeat' first|(revert hK K;refine qV0 ?_;intro K hK)|(refine GFork.mk (fun _=>qQ ?_) fun _=>qQ ?_)|(simp only[c1,c2,c4,e1,e2,e3];try cbv)|(with_reducible refine ndC ?h ?_;case h=>first | exact hidm | exact hidw | exact hidn | exact hidv | exact ab | exact at_ | exact att | rfl)|(refine qG ?_;refine qD hP h1 ?_;rintro res bx ⟨rfl,rfl⟩;refine qC ?_)
   all_goals exact hR _ _ ⟨false,⟨fun h=>(by cases h),fun h=>absurd h (hbad hq)⟩,rfl,rfl⟩
  ·have hq:q:=hb1.1 rfl
   have c4:bnot true=false:=by rw[hbn];rfl
   refine qU ?_
   repeat' first|(revert hK K;refine qV0 ?_;intro K hK)|(refine GFork.mk (fun _=>qQ ?_) fun _=>qQ ?_)|(simp only[c1,c2,c4,e1,e2,e3];try cbv)|(with_reducible refine ndC ?h ?_;case h=>first | exact hidm | exact hidw | exact hidn | exact hidv | exact ab | exact at_ | exact att | rfl)|(refine qG ?_;refine qD hP h1 ?_;rintro res bx ⟨rfl,rfl⟩;refine qC ?_)
   all_goals (rw[e];exact ⟨M - (i+1),by omega,i+1,by (try rw[hpc,hsc,hmc]);(try rw[hM2]);cbv,by omega,by rw[t1,t2,g2,hkey],hnext hq,by rw[hM2]⟩)
 ·have hie:i=M:=by omega
  have c1:cmp .lss (Int.ofNat i) (Int.ofNat M)=false:=by cases hO;simp[Ops.std,sCm];omega
  have hwt:wn=tsn:=by
   have:wn.length=M:=by rw[hwn,List.length_map,hM2]
   rw[List.take_of_length_le (by omega),List.take_of_length_le (by omega)] at g2;exact g2
  have hTP:TbsP l ts ws ws.length:=by rw[<-hM2,<-hie];exact g3
  refine qU ?_
  repeat' first|(revert hK K;refine qV0 ?_;intro K hK)|(refine GFork.mk (fun _=>qQ ?_) fun _=>qQ ?_)|(simp only[c1];try cbv)
  exact hR _ _ ⟨true,⟨fun _=>hA hxv hwt hVP hTP,fun _=>rfl⟩,rfl,rfl⟩
end Go.Gv
