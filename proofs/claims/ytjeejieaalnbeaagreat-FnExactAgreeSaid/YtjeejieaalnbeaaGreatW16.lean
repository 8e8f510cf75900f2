/- Part W16 of the proof: contracts of functions of the program, each walked once. -/
import Derived.Test.YtjeejieaalnbeaaGreatW10
import Derived.Test.YtjeejieaalnbeaaGreatN14
import Derived.Test.YtjeejieaalnbeaaGreatT1
import Derived.Test.YtjeejieaalnbeaaGreatQ1
import Derived.Test.YtjeejieaalnbeaaGreatU5
set_option linter.all false
namespace Go.Gv
open Go.Av Go.Proofs Go.Shelf Go.RowKit
set_option maxRecDepth 10000
set_option maxHeartbeats 8000000
theorem TlO.le {ps z:List ByteArray} {n:Nat} {v:List (List T)} {v':List (List T)} {y:List ByteArray} (hv:v=strs y) (h:(TlO ps).P z n v v'):∃y',v'=strs y'/\(∀s,s∈y'↔s∈y\/(s∈z/\s∉ps))/\y'.length<=y.length+n:=by
 obtain ⟨a,b,h1,h2,h3,h4⟩:=h;rw[hv] at h1;have:=strs_inj h1;subst this;exact ⟨b,h2,h3,h4⟩
theorem vs_mem {x:Pa} {s:ByteArray}:s∈(Ex.zl zv x.when_++Sm.zl (fun y=>Ex.zl zv y.x) x.l)++Sm.zl zvS x.l↔s∈Ex.vss x.when_\/s∈Sm.vss x.l:=by
 rw[List.mem_append,List.mem_append,Ex.zl_vs,<-Sm.ml_vs,or_assoc];exact or_congr_right Or.comm
theorem tb_mem {x:Pa} {s:ByteArray}:s∈(Ex.zl zt x.when_++Sm.zl (fun y=>Ex.zl zt y.x) x.l)++Sm.zl ztS x.l↔s∈Ex.tbs x.when_\/s∈Sm.tbs x.l:=by
 rw[List.mem_append,List.mem_append,Ex.zl_tb,<-Sm.ml_tb,or_assoc];exact or_congr_right Or.comm
def invPV (pc:List A) (els:List (List T)) (q:List Pa) (N:Nat) (σ:AS):Prop:=
 ∃(i:Nat) (y:List ByteArray) (v:List (List T)),σ=⟨vag 28 [(1,⟨.one,[.ptr 0 0]⟩),(3,⟨.one,[.ptr 1 0]⟩),(11,⟨.one,[.ro true els]⟩),(12,litI (Int.ofNat q.length)),(13,litI (Int.ofNat i))],[some pc,some [.ow (0,0) 1 v]],1⟩/\i<=q.length/\v=strs y/\(∀s,s∈y↔Pa.vP (q.take i) s)/\y.length<=Pa.ws (q.take i)/\N=q.length - i
def invPT (pc:List A) (els:List (List T)) (q:List Pa) (N:Nat) (σ:AS):Prop:=
 ∃(i:Nat) (y:List ByteArray) (v:List (List T)),σ=⟨vag 26 [(1,⟨.one,[.ptr 0 0]⟩),(3,⟨.one,[.ptr 1 0]⟩),(10,⟨.one,[.ro true els]⟩),(11,litI (Int.ofNat q.length)),(12,litI (Int.ofNat i))],[some pc,some [.ow (0,0) 1 v]],1⟩/\i<=q.length/\v=strs y/\(∀s,s∈y↔Pa.tP (q.take i) s)/\y.length<=Pa.ws (q.take i)/\N=q.length - i
theorem c_VarsOf_impl (p:Pg) (hz:p.sz<=1048576):ACl Tryz.prog 38 [agT p.t] [] (fun res bx=>∃vs els,VarsIs p vs/\vs.length<=8388608/\els=strs vs/\res=⟨.one,[.ro true els]⟩/\bx=[]):=by
 have h1:=c_ProgOk_impl p hz;have h2:=acI (c_partsIn p hz).ro (R':=fun res bx=>∃els,els=(Pa.of p).map Pa.t/\res=⟨.one,[.ro true els]⟩/\bx=[]) (fun res bx ⟨r0,⟨els,e1,e2,e3⟩,e4⟩=>⟨els,e1,by rw[e4,e2];rfl,e3⟩)
 have hws:=Pa.ws_of p;have hql:=Pa.lnO p;have hok:=fun x hx=>Pa.ok_of hz (x:=x) hx;have hiff:=fun s=>Pa.vP_of p s;have hfin:∀vs,p.good->(∀s,s∈vs↔Pa.vP (Pa.of p) s)->VarsIs p (srtB vs):=fun vs hg h=>⟨fun _=>⟨srtB_asc vs,fun s=>by rw[srtB_mem,h,hiff];exact Iff.rfl⟩,fun h=>absurd hg h⟩
 have hfinN:¬p.good->VarsIs p []:=fun h=>⟨fun g=>absurd g h,fun _=>rfl⟩;rw[pg_agT] at h1 h2 |-;obtain ⟨rl,hrl⟩:=qX (p.rules.map Ru.t);obtain ⟨fl,hfl⟩:=qX (p.fns.map Fu.t);simp only[<-hrl,<-hfl] at h1 h2 |-;refine acI (ACl.ro (R:=fun res bx=>∃vs els,VarsIs p vs/\vs.length<=8388608/\els=strs vs/\(res=⟨.one,[.ow (0,0) 1 els]⟩\/(els=[]/\res=⟨.one,[.nil]⟩))/\bx=[]) ?_) (fun res bx ⟨r0,⟨vs,els,e1,e2,e3,e4,e5⟩,e6⟩=>⟨vs,els,e1,e2,e3,by
  rcases e4 with e4 | ⟨e4,e7⟩
  ·rw[e6,e4];rfl
  ·rw[e6,e7,e4];rfl,e5⟩)
 generalize Pa.of p=q at *;generalize VarsIs p=VI at *;generalize p.good=pg at *;refine qF tysF_ok Tryz.func38 28 [.tmp 2] ?_;unhygienic intros;have hbn:∀c:Bool,bnot c=!c:=fun c=>by cases hO;rfl
 obtain ⟨pc,hpc⟩:=qX ([.ro true rl,.ro true fl]:List A);revert hK K;refine qW0 ?_;intro K hK;refine qG ?_;refine qD hP h1 ?_;rintro res bx ⟨b1,hb1,rfl,rfl⟩;refine qC ?_
 by_cases hg:pg
 rotate_left
 ·have hb:b1=false:=by cases b1 with
   | false=>rfl
   | true=>exact absurd (hb1.1 rfl) hg
  subst hb;have c1:bnot false=true:=by rw[hbn];rfl
  refine qU ?_
  repeat' first|(revert hK K;refine qV0 ?_;intro K hK)|(refine GFork.mk (fun _=>qQ ?_) fun _=>qQ ?_)|(simp only[c1];try cbv)
  exact hR _ _ ⟨[],[],hfinN hg,by simp,rfl,.inr ⟨rfl,rfl⟩,rfl⟩
 have hb:b1=true:=hb1.2 hg;subst hb;have c1:bnot true=false:=by rw[hbn];rfl
 clear h1 hb1 hfinN;refine qU ?_
 repeat' first|(revert hK K;refine qV0 ?_;intro K hK)|(refine GFork.mk (fun _=>qQ ?_) fun _=>qQ ?_)|(simp only[c1];try cbv)|(refine qG ?_;refine qD hP h2 ?_;rintro res bx ⟨els,hels,rfl,rfl⟩;refine qC ?_)
 clear h2 c1;obtain ⟨N,hN⟩:=qX q.length;have le:len els=N:=lnO hO (by simp[hels,hN])
 have ae:all els 4:=alO hO (by rw[hels];simp[Pa.t_len])
 rw[<-hN] at hql;simp only[le];refine qL 2 [1,3,11,12,13] (fun r _=>if r=.box 1 then some 1 else none) (invPV pc els q) ?_ ?_
 ·cbv
  exact ⟨_,0,[],[],by rw[hpc,<-hN];cbv,by simp,rfl,by simp[Pa.vP],by simp,rfl⟩
 rintro m σ ⟨i,y,v,rfl,g1,hv,hy,hyl,rfl⟩;rw[<-hN] at g1 |-;rw[hpc]
 by_cases hlt:i < N
 ·have c3:cmp .lss (Int.ofNat i) (Int.ofNat N)=true:=by cases hO;simp[Ops.std,sCm,hlt]
  have e:bin .add .i64 (Int.ofNat i) 1=_:=iSc hO (by omega)
  have hidm:idx (Int.ofNat i) (len els):=le ▸ ixN hO hlt;have hidn:idx (Int.ofNat i) N:=ixN hO hlt;obtain ⟨x,hxm,hx,htk,e1⟩:=mpA hO hels (hN ▸ hlt);obtain ⟨s1,s2,s3,s4,s5⟩:=pa_step htk;have hwt:=Pa.ws_take q (i+1);obtain ⟨o1,o2,o3,o4,o5⟩:=hok x hxm;obtain ⟨wt,hwtt⟩:=qX (x.when_.map Ex.t);obtain ⟨lt,hltt⟩:=qX (x.l.map Sm.t);obtain ⟨pt,hpt⟩:=qX (strs x.params);replace e1:get els (nat (Int.ofNat i))=[T.sl pt,.sl wt,.sl lt,.lit (.int .i64 x.rule)]:=e1.trans (by rw[hwtt,hltt,hpt];rfl)
  have hwx:x.w=Ex.partss x.when_+Sm.wl (fun y=>Ex.partss y.x) x.l+Sm.wl (fun _=>1) x.l:=by rw[Pa.w,Sm.wl_parts]
  rw[hwx] at s5;rw[s5] at hwt;have hG:(TlO x.params).G v (Ex.partss x.when_+Sm.wl (fun y=>Ex.partss y.x) x.l+Sm.wl (fun _=>1) x.l):=⟨y,hv,by omega⟩
  have h3:=xxV (TlO x.params) zv pt wt lt x.rule (c_V2 x.params pt wt lt x.rule hpt (by omega)) pt x.rule x.when_ o1 o2 x.l o3 o4 wt lt hwtt hltt v ((TlO x.params).mono (by omega) hG)
  have h4:=fun v=>esVs (TlO x.params) zvS (fun _=>1) pt wt lt x.rule (c_V3 x.params pt wt lt x.rule hpt (by omega)) x.l o3 o4 lt v hltt
  generalize x.rule=ru at *;refine qU ?_
  repeat' first|(revert hK K;refine qV0 ?_;intro K hK)|(refine GFork.mk (fun _=>qQ ?_) fun _=>qQ ?_)|(simp only[c3,e1];try cbv)|(with_reducible refine ndC ?h ?_;case h=>first | exact hidm | exact hidn | exact ae | rfl)|(refine qg [2,1,3] ?_;refine qC ?_;refine qD hP h3 ?_;rintro res bx ⟨v3,hP3,rfl,rfl⟩;refine qC ?_)|(refine qg [2,1,3] ?_;refine qC ?_;refine qD hP ((h4 v3 ((TlO x.params).go hG hP3))) ?_;rintro res bx ⟨v4,hP4,rfl,rfl⟩;refine qC ?_)
  obtain ⟨y',q1,q2,q3⟩:=TlO.le hv ((TlO x.params).trans hP3 hP4);rw[e];exact ⟨N - (i+1),by omega,i+1,y',v4,by (try rw[hpc]);(try rw[hN]);cbv,by omega,q1,fun s=>by rw[q2,hy,vs_mem,s1],by rw[s5];omega,by rw[hN]⟩
 ·have hie:i=N:=by omega
  have c3:cmp .lss (Int.ofNat i) (Int.ofNat N)=false:=by cases hO;simp[Ops.std,sCm];omega
  rw[List.take_of_length_le (by omega)] at hy hyl
  have h5:=c_ascending y v hv (by omega)
  have hsl:(srtB y).length<=y.length:=by
   unfold srtB;rw[List.length_map];have:=compact_le (y.map (·.data.toList))
   simpa using this
  refine qU ?_
  repeat' first|(revert hK K;refine qV0 ?_;intro K hK)|(refine GFork.mk (fun _=>qQ ?_) fun _=>qQ ?_)|(simp only[c3];try cbv)|(refine GCall.by (nM []) ?_;refine qC ?_;refine qD hP h5 ?_;rintro res bx ⟨els',hels',rfl,rfl⟩;refine qC ?_)
  exact hR _ _ ⟨srtB y,els',hfin y hg hy,by omega,hels',.inl rfl,rfl⟩
theorem c_TablesOf_impl (p:Pg) (hz:p.sz<=1048576):ACl Tryz.prog 39 [agT p.t] [] (fun res bx=>∃vs els,TablesIs p vs/\vs.length<=8388608/\els=strs vs/\res=⟨.one,[.ro true els]⟩/\bx=[]):=by
 have h1:=c_ProgOk_impl p hz;have h2:=acI (c_partsIn p hz).ro (R':=fun res bx=>∃els,els=(Pa.of p).map Pa.t/\res=⟨.one,[.ro true els]⟩/\bx=[]) (fun res bx ⟨r0,⟨els,e1,e2,e3⟩,e4⟩=>⟨els,e1,by rw[e4,e2];rfl,e3⟩)
 have hws:=Pa.ws_of p;have hql:=Pa.lnO p;have hok:=fun x hx=>Pa.ok_of hz (x:=x) hx;have hiff:=fun s=>Pa.tP_of p s;have hfin:∀vs,p.good->(∀s,s∈vs↔Pa.tP (Pa.of p) s)->TablesIs p (srtB vs):=fun vs hg h=>⟨fun _=>⟨srtB_asc vs,fun s=>by rw[srtB_mem,h,hiff];exact Iff.rfl⟩,fun h=>absurd hg h⟩
 have hfinN:¬p.good->TablesIs p []:=fun h=>⟨fun g=>absurd g h,fun _=>rfl⟩;rw[pg_agT] at h1 h2 |-;obtain ⟨rl,hrl⟩:=qX (p.rules.map Ru.t);obtain ⟨fl,hfl⟩:=qX (p.fns.map Fu.t);simp only[<-hrl,<-hfl] at h1 h2 |-;refine acI (ACl.ro (R:=fun res bx=>∃vs els,TablesIs p vs/\vs.length<=8388608/\els=strs vs/\(res=⟨.one,[.ow (0,0) 1 els]⟩\/(els=[]/\res=⟨.one,[.nil]⟩))/\bx=[]) ?_) (fun res bx ⟨r0,⟨vs,els,e1,e2,e3,e4,e5⟩,e6⟩=>⟨vs,els,e1,e2,e3,by
  rcases e4 with e4 | ⟨e4,e7⟩
  ·rw[e6,e4];rfl
  ·rw[e6,e7,e4];rfl,e5⟩)
 generalize Pa.of p=q at *;generalize TablesIs p=VI at *;generalize p.good=pg at *;refine qF tysF_ok Tryz.func39 26 [.tmp 2] ?_;unhygienic intros;have hbn:∀c:Bool,bnot c=!c:=fun c=>by cases hO;rfl
 obtain ⟨pc,hpc⟩:=qX ([.ro true rl,.ro true fl]:List A);revert hK K;refine qW0 ?_;intro K hK;refine qG ?_;refine qD hP h1 ?_;rintro res bx ⟨b1,hb1,rfl,rfl⟩;refine qC ?_
 by_cases hg:pg
 rotate_left
 ·have hb:b1=false:=by cases b1 with
   | false=>rfl
   | true=>exact absurd (hb1.1 rfl) hg
  subst hb;have c1:bnot false=true:=by rw[hbn];rfl
  refine qU ?_
  repeat' first|(revert hK K;refine qV0 ?_;intro K hK)|(refine GFork.mk (fun _=>qQ ?_) fun _=>qQ ?_)|(simp only[c1];try cbv)
  exact hR _ _ ⟨[],[],hfinN hg,by simp,rfl,.inr ⟨rfl,rfl⟩,rfl⟩
 have hb:b1=true:=hb1.2 hg;subst hb;have c1:bnot true=false:=by rw[hbn];rfl
 clear h1 hb1 hfinN;refine qU ?_
 repeat' first|(revert hK K;refine qV0 ?_;intro K hK)|(refine GFork.mk (fun _=>qQ ?_) fun _=>qQ ?_)|(simp only[c1];try cbv)|(refine qG ?_;refine qD hP h2 ?_;rintro res bx ⟨els,hels,rfl,rfl⟩;refine qC ?_)
 clear h2 c1;obtain ⟨N,hN⟩:=qX q.length;have le:len els=N:=lnO hO (by simp[hels,hN])
 have ae:all els 4:=alO hO (by rw[hels];simp[Pa.t_len])
 rw[<-hN] at hql;simp only[le];refine qL 2 [1,3,10,11,12] (fun r _=>if r=.box 1 then some 1 else none) (invPT pc els q) ?_ ?_
 ·cbv
  exact ⟨_,0,[],[],by rw[hpc,<-hN];cbv,by simp,rfl,by simp[Pa.tP],by simp,rfl⟩
 rintro m σ ⟨i,y,v,rfl,g1,hv,hy,hyl,rfl⟩;rw[<-hN] at g1 |-;rw[hpc]
 by_cases hlt:i < N
 ·have c3:cmp .lss (Int.ofNat i) (Int.ofNat N)=true:=by cases hO;simp[Ops.std,sCm,hlt]
  have e:bin .add .i64 (Int.ofNat i) 1=_:=iSc hO (by omega)
  have hidm:idx (Int.ofNat i) (len els):=le ▸ ixN hO hlt;have hidn:idx (Int.ofNat i) N:=ixN hO hlt;obtain ⟨x,hxm,hx,htk,e1⟩:=mpA hO hels (hN ▸ hlt);obtain ⟨s1,s2,s3,s4,s5⟩:=pa_step htk;have hwt:=Pa.ws_take q (i+1);obtain ⟨o1,o2,o3,o4,o5⟩:=hok x hxm;obtain ⟨wt,hwtt⟩:=qX (x.when_.map Ex.t);obtain ⟨lt,hltt⟩:=qX (x.l.map Sm.t);obtain ⟨pt,hpt⟩:=qX (strs x.params);replace e1:get els (nat (Int.ofNat i))=[T.sl pt,.sl wt,.sl lt,.lit (.int .i64 x.rule)]:=e1.trans (by rw[hwtt,hltt,hpt];rfl)
  have hwx:x.w=Ex.partss x.when_+Sm.wl (fun y=>Ex.partss y.x) x.l+Sm.wl (fun _=>1) x.l:=by rw[Pa.w,Sm.wl_parts]
  rw[hwx] at s5;rw[s5] at hwt;have hG:(TlO []).G v (Ex.partss x.when_+Sm.wl (fun y=>Ex.partss y.x) x.l+Sm.wl (fun _=>1) x.l):=⟨y,hv,by omega⟩
  have h3:=xxT (TlO []) zt c_T1 pt x.rule x.when_ o1 o2 x.l o3 o4 wt lt hwtt hltt v ((TlO []).mono (by omega) hG)
  have h4:=fun v=>esTs (TlO []) ztS (fun _=>1) c_T2 x.l o3 o4 lt v hltt;generalize x.rule=ru at *;refine qU ?_
  repeat' first|(revert hK K;refine qV0 ?_;intro K hK)|(refine GFork.mk (fun _=>qQ ?_) fun _=>qQ ?_)|(simp only[c3,e1];try cbv)|(with_reducible refine ndC ?h ?_;case h=>first | exact hidm | exact hidn | exact ae | rfl)|(refine qg [1] ?_;refine qC ?_;refine qD hP h3 ?_;rintro res bx ⟨v3,hP3,rfl,rfl⟩;refine qC ?_)|(refine qg [1] ?_;refine qC ?_;refine qD hP ((h4 v3 ((TlO []).go hG hP3))) ?_;rintro res bx ⟨v4,hP4,rfl,rfl⟩;refine qC ?_)
  obtain ⟨y',q1,q2,q3⟩:=TlO.le hv ((TlO []).trans hP3 hP4);rw[e];exact ⟨N - (i+1),by omega,i+1,y',v4,by (try rw[hpc]);(try rw[hN]);cbv,by omega,q1,fun s=>by simp only[List.not_mem_nil,not_false_eq_true,and_true] at q2;rw[q2,hy,tb_mem,s2],by rw[s5];omega,by rw[hN]⟩
 ·have hie:i=N:=by omega
  have c3:cmp .lss (Int.ofNat i) (Int.ofNat N)=false:=by cases hO;simp[Ops.std,sCm];omega
  rw[List.take_of_length_le (by omega)] at hy hyl
  have h5:=c_ascending y v hv (by omega)
  have hsl:(srtB y).length<=y.length:=by
   unfold srtB;rw[List.length_map];have:=compact_le (y.map (·.data.toList))
   simpa using this
  refine qU ?_
  repeat' first|(revert hK K;refine qV0 ?_;intro K hK)|(refine GFork.mk (fun _=>qQ ?_) fun _=>qQ ?_)|(simp only[c3];try cbv)|(refine GCall.by (nM []) ?_;refine qC ?_;refine qD hP h5 ?_;rintro res bx ⟨els',hels',rfl,rfl⟩;refine qC ?_)
  exact hR _ _ ⟨srtB y,els',hfin y hg hy,by omega,hels',.inl rfl,rfl⟩
def TkP (p:Pg) (ts:List ByteArray) (s:ByteArray):Prop:=s∈ts\/IsFn p.fns s
theorem c_taken (p:Pg) (hz:p.sz<=1048576) (rl fl:List (List T)) (hfl:fl=p.fns.map Fu.t) (ts:List ByteArray) (tt:List (List T)) (htt:tt=strs ts) (htl:ts.length<=8388608) (s:ByteArray) :
  ACl Tryz.prog 131 [litS s,⟨.one,[.ptr 0 0]⟩,⟨.one,[.ptr 1 0]⟩] [some [.ro true tt],some [.ro true rl,.ro true fl]] (fun res bx=>∃b:Bool,(b=true↔TkP p ts s)/\res=litB b/\bx=[some [.ro true tt],some [.ro true rl,.ro true fl]]):=by
 rw[Pg.sz] at hz;have h1:=c_ContainsStr ts tt s htt (by omega)
 have h2:=acI (c_fnAt rl fl p.fns hfl s (by omega)) (R':=fun res bx=>∃r:Int,(0<=r↔IsFn p.fns s)/\res=litI r/\bx=[]) (fun res bx ⟨r,h,e1,e2⟩=>⟨r,h.ge,e1,e2⟩)
 unfold TkP;generalize IsFn p.fns s=q at *;refine qF tysF_ok Tryz.func131 14 [.tmp 4] ?_;unhygienic intros;have hge:∀r:Int,cmp .geq r 0=true↔0<=r:=fun r=>by cases hO;simp[Ops.std,sCm]
 revert hK K;refine qW2 ?_;intro K hK;refine qG ?_;refine qD hP h1 ?_;rintro res bx ⟨b1,hb1,rfl,rfl⟩;refine qC ?_;cases b1
 ·refine qU ?_
  repeat' first|(revert hK K;refine qV2 ?_;intro K hK)|(refine GFork.mk (fun _=>qQ ?_) fun _=>qQ ?_)|(refine qG ?_;refine qD hP h2 ?_;rintro res bx ⟨r,hr,rfl,rfl⟩;refine qC ?_)
  all_goals (refine hR _ _ ⟨_,?_,rfl,rfl⟩;rw[hge,hr];constructor;(· exact .inr);(· rintro (h | h);(· exact absurd (hb1.2 h) (by simp));(· exact h)))
 ·refine qU ?_
  repeat' first|(revert hK K;refine qV2 ?_;intro K hK)|(refine GFork.mk (fun _=>qQ ?_) fun _=>qQ ?_)
  all_goals exact hR _ _ ⟨true,⟨fun _=>.inl (hb1.1 rfl),fun _=>rfl⟩,rfl,rfl⟩
def invIT (tt rl fl:List (List T)) (Q:ByteArray->Prop) (xl:List (List T)) (l:List ByteArray) (N:Nat) (σ:AS):Prop:=
 ∃(i:Nat),σ=⟨vag 19 [(0,⟨.one,[.ro true xl]⟩),(1,⟨.one,[.fn 131 [(0,0),(1,0)]]⟩),(7,litI (Int.ofNat l.length)),(8,litI (Int.ofNat i))],[some [.ro true tt],some [.ro true rl,.ro true fl]],1⟩/\i<=l.length/\(∀s∈l.take i,¬Q s)/\N=l.length - i
theorem c_IndexTaken (p:Pg) (hz:p.sz<=1048576) (rl fl:List (List T)) (hfl:fl=p.fns.map Fu.t) (ts:List ByteArray) (tt:List (List T)) (htt:tt=strs ts) (htl:ts.length<=8388608) (l:List ByteArray) (hl:l.length<=1048576) (xl:List (List T)) (hxl:xl=strs l) :
  ACl Tryz.prog 176 [⟨.one,[.ro true xl]⟩,⟨.one,[.fn 131 [(0,0),(1,0)]]⟩] [some [.ro true tt],some [.ro true rl,.ro true fl]]
  (fun res bx=>∃r:Int,(0<=r↔∃s∈l,TkP p ts s)/\res=litI r/\bx=[some [.ro true tt],some [.ro true rl,.ro true fl]]):=by
 have hc:=fun s=>c_taken p hz rl fl hfl ts tt htt htl s;generalize TkP p ts=Q at *;refine qF tysF_ok Tryz.func176 19 [.tmp 4] ?_;unhygienic intros;obtain ⟨N,hN⟩:=qX l.length;have hlen:len xl=N:=lnO hO (by simp[hxl,hN])
 have ha:all xl 1:=alO hO (by subst hxl;exact strs_all l)
 rw[<-hN] at hl;revert hK K;refine qW2 ?_;intro K hK;simp only[hlen];refine qL 2 [0,1,7,8] kk0 (invIT tt rl fl Q xl l) ?_ ?_
 ·cbv
  exact ⟨_,0,by rw[<-hN];cbv,by simp,by simp,rfl⟩
 rintro m σ ⟨i,rfl,g1,g2,rfl⟩;rw[<-hN] at g1 |-
 by_cases hlt:i < N
 ·have c1:cmp .lss (Int.ofNat i) (Int.ofNat N)=true:=by cases hO;simp[Ops.std,sCm,hlt]
  have e:bin .add .i64 (Int.ofNat i) 1=_:=iSc hO (by omega)
  have hidx:idx (Int.ofNat i) (len xl):=hlen ▸ ixN hO hlt;obtain ⟨y,hy⟩:∃y,l[i]?=some y:=⟨_,List.getElem?_eq_getElem (hN ▸ hlt)⟩;have e1:get xl (nat (Int.ofNat i))=[T.lit (.string y)]:=by cases hO;rw[hxl];simp[Ops.std,strs,hy]
  have hcall:=hc y;have hym:=List.mem_of_getElem? hy;have hnext:=fun h=>all_take hy g2 h;refine qU ?_
  repeat' first|(revert hK K;refine qV2 ?_;intro K hK)|(refine GFork.mk (fun _=>qQ ?_) fun _=>qQ ?_)|(simp only[c1,e1];try cbv)|(with_reducible refine ndC ?h ?_;case h=>first | exact hidx | exact ha | rfl)|(refine qg [0,1] ?_;refine qC ?_;refine qD hP hcall ?_;rintro res bx ⟨b1,hb1,rfl,rfl⟩;refine qC ?_)
  ·have hb:b1=true:=by assumption
   exact hR _ _ ⟨_,⟨fun _=>⟨y,hym,hb1.1 hb⟩,fun _=>Int.natCast_nonneg _⟩,rfl,rfl⟩
  ·have hb:b1=false:=by assumption
   rw[e];exact ⟨N - (i+1),by omega,i+1,by (try rw[hN]);cbv,by omega,hnext (fun h=>by rw[hb1.2 h] at hb;cases hb),by rw[hN]⟩
 ·have hie:i=N:=by omega
  have c1:cmp .lss (Int.ofNat i) (Int.ofNat N)=false:=by cases hO;simp[Ops.std,sCm];omega
  rw[List.take_of_length_le (by omega)] at g2
  refine qU ?_
  repeat' first|(revert hK K;refine qV2 ?_;intro K hK)|(refine GFork.mk (fun _=>qQ ?_) fun _=>qQ ?_)|(simp only[c1];try cbv)
  exact hR _ _ ⟨_,⟨fun h=>by simp at h,fun ⟨s,hs,h⟩=>absurd h (g2 s hs)⟩,rfl,rfl⟩
theorem c_ContainsTaken (p:Pg) (hz:p.sz<=1048576) (rl fl:List (List T)) (hfl:fl=p.fns.map Fu.t) (ts:List ByteArray) (tt:List (List T)) (htt:tt=strs ts) (htl:ts.length<=8388608) (l:List ByteArray) (hl:l.length<=1048576) (xl:List (List T)) (hxl:xl=strs l) :
  ACl Tryz.prog 132 [⟨.one,[.ro true xl]⟩,⟨.one,[.fn 131 [(0,0),(1,0)]]⟩] [some [.ro true tt],some [.ro true rl,.ro true fl]]
  (fun res bx=>∃b:Bool,(b=true↔∃s∈l,TkP p ts s)/\res=litB b/\bx=[some [.ro true tt],some [.ro true rl,.ro true fl]]):=by
 have hc:=c_IndexTaken p hz rl fl hfl ts tt htt htl l hl xl hxl;generalize (∃s∈l,TkP p ts s)=q at *;refine qF tysF_ok Tryz.func132 9 [.tmp 4] ?_;unhygienic intros;revert hK K;refine qW2 ?_;intro K hK;refine qg [0,1] ?_;refine qC ?_;refine qD hP hc ?_;rintro res bx ⟨r,hr,rfl,rfl⟩;refine qC ?_;revert hK K;refine qW2 ?_;intro K hK;refine hR _ _ ⟨_,?_,rfl,rfl⟩;rw[<-hr];cases hO;simp[Ops.std,sCm]
def FtP (p:Pg) (ts:List ByteArray) (f:Fu):Prop:=f.name∈ts\/∃s∈f.params,TkP p ts s
def TwQ (p:Pg) (vs ts:List ByteArray):Prop:=(∃s∈vs,TkP p ts s)\/∃f∈p.fns,FtP p ts f
theorem TwQ.iff {p:Pg} {vs ts:List ByteArray} (hg:p.good) (hV:VarsIs p vs) (hT:TablesIs p ts):TwQ p vs ts↔BothS p:=by
 have h1:=(hV.1 hg).2;have h2:=(hT.1 hg).2;have hv:∀s,s∈vs↔VPof p s:=h1;have ht:∀s,s∈ts↔TPof p s:=h2;unfold TwQ BothS FtP TkP
 constructor
 ·rintro (⟨s,hs,h⟩ | ⟨f,hf,h | ⟨s,hs,h⟩⟩)
  ·exact .inl ⟨s,(hv s).1 hs,h.imp (ht s).1 id⟩
  ·exact .inr (.inl ⟨f.name,(ht _).1 h,f,hf,rfl⟩)
  ·exact .inr (.inr ⟨f,hf,s,hs,h.imp (ht s).1 id⟩)
 ·rintro (⟨s,hs,h⟩ | ⟨s,hs,f,hf,rfl⟩ | ⟨f,hf,s,hs,h⟩)
  ·exact .inl ⟨s,(hv s).2 hs,h.imp (ht s).2 id⟩
  ·exact .inr ⟨f,hf,.inl ((ht _).2 hs)⟩
  ·exact .inr ⟨f,hf,.inr ⟨s,hs,h.imp (ht s).2 id⟩⟩
def invT1 (tt rl fl vt:List (List T)) (Q:ByteArray->Prop) (l:List ByteArray) (N:Nat) (σ:AS):Prop:=
 ∃(i:Nat),σ=⟨vag 41 [(1,⟨.one,[.ptr 0 0]⟩),(3,⟨.one,[.ptr 1 0]⟩),(4,⟨.one,[.fn 131 [(1,0),(0,0)]]⟩),(13,⟨.one,[.ro true vt]⟩),(14,litI (Int.ofNat l.length)),(15,litI (Int.ofNat i))],[some [.ro true rl,.ro true fl],some [.ro true tt]],1⟩/\i<=l.length/\(∀s∈l.take i,¬Q s)/\N=l.length - i
def invT2 (tt rl fl:List (List T)) (Q:Fu->Prop) (l:List Fu) (N:Nat) (σ:AS):Prop:=
 ∃(i:Nat),σ=⟨vag 41 [(1,⟨.one,[.ptr 0 0]⟩),(3,⟨.one,[.ptr 1 0]⟩),(4,⟨.one,[.fn 131 [(1,0),(0,0)]]⟩),(24,⟨.one,[.ro true fl]⟩),(25,litI (Int.ofNat l.length)),(26,litI (Int.ofNat i))],[some [.ro true rl,.ro true fl],some [.ro true tt]],1⟩/\i<=l.length/\(∀s∈l.take i,¬Q s)/\N=l.length - i
theorem c_twice (p:Pg) (hz:p.sz<=1048576) (hg:p.good):ACl Tryz.prog 75 [agT p.t] [] (fun res bx=>∃b:Bool,(b=true↔BothS p)/\res=litB b/\bx=[]):=by
 have h1:=c_VarsOf_impl p hz;have h2:=c_TablesOf_impl p hz;have htk:=fun rl fl hfl ts tt htt htl s=>c_taken p hz rl fl hfl ts tt htt htl s;have hct:=fun rl fl hfl ts tt htt htl l hl xl hxl=>c_ContainsTaken p hz rl fl hfl ts tt htt htl l hl xl hxl;have hpz:=hz;rw[Pg.sz] at hpz;have hfz:∀f∈p.fns,f.sz<=1048576:=fun f hf=>by have:=Fu.szs_mem hf;omega
 rw[pg_agT] at h1 h2 |-;obtain ⟨rl,hrl⟩:=qX (p.rules.map Ru.t);obtain ⟨fl,hfl⟩:=qX (p.fns.map Fu.t);simp only[<-hrl,<-hfl] at h1 h2 |-;replace htk:=htk rl fl hfl;replace hct:=hct rl fl hfl;refine qF tysF_ok Tryz.func75 41 [.tmp 2] ?_;unhygienic intros;revert hK K;refine qW0 ?_;intro K hK;refine qG ?_;refine qD hP h2 ?_;rintro res bx ⟨ts,tt,hT,htl,htt,rfl,rfl⟩;refine qC ?_;replace htk:=htk ts tt htt htl
 replace hct:=hct ts tt htt htl;revert hK K;refine qW0 ?_;intro K hK;refine qG ?_;refine qD hP h1 ?_;rintro res bx ⟨vs,vt,hV,hvl,hvt,rfl,rfl⟩;refine qC ?_;have hcs:=fun s=>c_ContainsStr ts tt s htt (by omega)
 have hiff:=TwQ.iff hg hV hT;clear h1 h2 hV hT;obtain ⟨N,hN⟩:=qX vs.length;obtain ⟨M,hM2⟩:=qX p.fns.length;have lv:len vt=N:=lnO hO (by simp[hvt,hN])
 have lf:len fl=M:=lnO hO (by simp[hfl,hM2])
 have av:all vt 1:=alO hO (by rw[hvt];exact strs_all vs)
 have af:all fl 3:=alO hO (by rw[hfl];simp[Fu.t_len])
 rw[<-hN] at hvl;revert hK K;refine qW0 ?_;intro K hK;simp only[lv];refine qL 2 [1,3,4,13,14,15] kk0 (invT1 tt rl fl vt (TkP p ts) vs) ?_ ?_
 ·cbv
  exact ⟨_,0,by rw[<-hN];cbv,by simp,by simp,rfl⟩
 rintro m σ ⟨i,rfl,g1,g2,rfl⟩;rw[<-hN] at g1 |-
 by_cases hlt:i < N
 ·have c1:cmp .lss (Int.ofNat i) (Int.ofNat N)=true:=by cases hO;simp[Ops.std,sCm,hlt]
  have e:bin .add .i64 (Int.ofNat i) 1=_:=iSc hO (by omega)
  have hidx:idx (Int.ofNat i) (len vt):=lv ▸ ixN hO hlt;obtain ⟨y,hy⟩:∃y,vs[i]?=some y:=⟨_,List.getElem?_eq_getElem (hN ▸ hlt)⟩;have e1:get vt (nat (Int.ofNat i))=[T.lit (.string y)]:=by cases hO;rw[hvt];simp[Ops.std,strs,hy]
  have hcall:=htk y;have hym:=List.mem_of_getElem? hy;have hnext:=fun h=>all_take hy g2 h;refine qU ?_
  repeat' first|(revert hK K;refine qV0 ?_;intro K hK)|(refine GFork.mk (fun _=>qQ ?_) fun _=>qQ ?_)|(simp only[c1,e1];try cbv)|(with_reducible refine ndC ?h ?_;case h=>first | exact hidx | exact av | rfl)|(refine qg [1,0] ?_;refine qC ?_;refine qD hP hcall ?_;rintro res bx ⟨b1,hb1,rfl,rfl⟩;refine qC ?_)
  ·have hb:b1=true:=by assumption
   exact hR _ _ ⟨true,⟨fun _=>hiff.1 (.inl ⟨y,hym,hb1.1 hb⟩),fun _=>rfl⟩,rfl,rfl⟩
  ·have hb:b1=false:=by assumption
   rw[e];exact ⟨N - (i+1),by omega,i+1,by (try rw[hN]);cbv,by omega,hnext (fun h=>by rw[hb1.2 h] at hb;cases hb),by rw[hN]⟩
 have hie:i=N:=by omega
 have c1:cmp .lss (Int.ofNat i) (Int.ofNat N)=false:=by cases hO;simp[Ops.std,sCm];omega
 rw[List.take_of_length_le (by omega)] at g2
 refine qU ?_
 repeat' first|(revert hK K;refine qV0 ?_;intro K hK)|(refine GFork.mk (fun _=>qQ ?_) fun _=>qQ ?_)|(simp only[c1];try cbv)
 clear c1 hie g1 hlt;simp only[lf];refine qL 2 [1,3,4,24,25,26] kk0 (invT2 tt rl fl (FtP p ts) p.fns) ?_ ?_
 ·cbv
  exact ⟨_,0,by rw[<-hM2];cbv,by simp,by simp,rfl⟩
 rintro m σ ⟨i,rfl,g1,g3,rfl⟩;rw[<-hM2] at g1 |-
 by_cases hlt:i < M
 ·have c1:cmp .lss (Int.ofNat i) (Int.ofNat M)=true:=by cases hO;simp[Ops.std,sCm,hlt]
  have e:bin .add .i64 (Int.ofNat i) 1=_:=iSc hO (by omega)
  have hidx:idx (Int.ofNat i) (len fl):=lf ▸ ixN hO hlt;obtain ⟨f,hf⟩:∃y,p.fns[i]?=some y:=⟨_,List.getElem?_eq_getElem (hM2 ▸ hlt)⟩;have hfm:=List.mem_of_getElem? hf;have hfs:=hfz f hfm;rw[Fu.sz] at hfs;obtain ⟨pt,hpt⟩:=qX (strs f.params);obtain ⟨al,hal⟩:=qX (f.a.map Sm.t);have e1:get fl (nat (Int.ofNat i))=[T.lit (.string f.name),.sl pt,.sl al]:=by
   have:get fl (nat (Int.ofNat i))=f.t:=by cases hO;rw[hfl];simp[Ops.std,hf]
   exact this.trans (by rw[hpt,hal];rfl)
  have hc1:=hcs f.name;have hc2:=hct f.params (by omega) pt hpt
  have hnext:=fun h=>all_take hf g3 h;have hbad:=fun h=>hiff.1 (.inr ⟨f,hfm,h⟩);have hft:FtP p ts f↔f.name∈ts\/∃s∈f.params,TkP p ts s:=Iff.rfl;generalize FtP p ts f=qf at *;clear hfs;generalize (∃s∈f.params,TkP p ts s)=q2 at *;generalize f.name=fname at *;generalize (fname∈ts)=q1 at *;refine qU ?_
  repeat' first|(revert hK K;refine qV0 ?_;intro K hK)|(refine GFork.mk (fun _=>qQ ?_) fun _=>qQ ?_)|(simp only[c1,e1];try cbv)|(with_reducible refine ndC ?h ?_;case h=>first | exact hidx | exact af | rfl)|(refine qG ?_;refine qD hP hc1 ?_;rintro res bx ⟨b1,hb1,rfl,rfl⟩;refine qC ?_)|(refine qg [1,0] ?_;refine qC ?_;refine qD hP hc2 ?_;rintro res bx ⟨b2,hb2,rfl,rfl⟩;refine qC ?_)
  ·have hb:b1=true:=by assumption
   exact hR _ _ ⟨true,⟨fun _=>hbad (hft.2 (.inl (hb1.1 hb))),fun _=>rfl⟩,rfl,rfl⟩
  ·have hb:b2=true:=by assumption
   exact hR _ _ ⟨true,⟨fun _=>hbad (hft.2 (.inr (hb2.1 hb))),fun _=>rfl⟩,rfl,rfl⟩
  ·have hb:b1=false:=by assumption
   have hb':b2=false:=by assumption
   rw[e];exact ⟨M - (i+1),by omega,i+1,by (try rw[hM2]);cbv,by omega,hnext (fun h=>(hft.1 h).elim (fun h=>by rw[hb1.2 h] at hb;cases hb) (fun h=>by rw[hb2.2 h] at hb';cases hb')),by rw[hM2]⟩
 ·have hie:i=M:=by omega
  have c1:cmp .lss (Int.ofNat i) (Int.ofNat M)=false:=by cases hO;simp[Ops.std,sCm];omega
  rw[List.take_of_length_le (by omega)] at g3
  have hno:¬BothS p:=fun h=>(hiff.2 h).elim (fun ⟨s,hs,h⟩=>g2 s hs h) (fun ⟨f,hf,h⟩=>g3 f hf h);refine qU ?_
  repeat' first|(revert hK K;refine qV0 ?_;intro K hK)|(refine GFork.mk (fun _=>qQ ?_) fun _=>qQ ?_)|(simp only[c1];try cbv)
  exact hR _ _ ⟨false,⟨fun h=>(by cases h),fun h=>absurd h hno⟩,rfl,rfl⟩
theorem cl_mem {x:Pa} {e:Ex}:e∈Ex.zl zc x.when_++Sm.zl (fun y=>Ex.zl zc y.x) x.l↔e∈Ex.cls x.when_\/e∈Sm.cls x.l:=by
 rw[List.mem_append,Ex.zl_cl,Sm.ml_cl]
def invPC (pc:List A) (els:List (List T)) (Q:Ex->Prop) (q:List Pa) (N:Nat) (σ:AS):Prop:=
 ∃(i:Nat) (v w:Bool),σ=⟨vag 33 [(1,⟨.one,[.ptr 0 0]⟩),(3,⟨.one,[.ptr 1 0]⟩),(4,⟨.one,[.ptr 2 0]⟩),(13,⟨.one,[.ro true els]⟩),(14,litI (Int.ofNat q.length)),(15,litI (Int.ofNat i))],[some pc,some [.lit (.bool v)],some [.lit (.bool w)]],1⟩/\i<=q.length/\(v=true↔Pa.cP Q (q.take i))/\(w=true↔Pa.kP (q.take i))/\N=q.length - i
theorem c_Check_impl (p:Pg) (hz:p.sz<=1048576):ACl Tryz.prog 36 [agT p.t] [] (fun res bx=>∃r,CheckIs p r/\res=litI r/\bx=[]):=by
 have h1:=c_ProgOk_impl p hz;have h2:=acI (c_partsIn p hz).ro (R':=fun res bx=>∃els,els=(Pa.of p).map Pa.t/\res=⟨.one,[.ro true els]⟩/\bx=[]) (fun res bx ⟨r0,⟨els,e1,e2,e3⟩,e4⟩=>⟨els,e1,by rw[e4,e2];rfl,e3⟩)
 have h3:=c_twice p hz;have hql:=Pa.lnO p;have hok:=fun x hx=>Pa.ok_of hz (x:=x) hx;have hcP:=Pa.cP_of p;have hkP:=Pa.kP_of p;have hC1:=fun rl fl hfl=>c_C1 p hz rl fl hfl;rw[pg_agT] at h1 h2 h3 |-;obtain ⟨rl,hrl⟩:=qX (p.rules.map Ru.t);obtain ⟨fl,hfl⟩:=qX (p.fns.map Fu.t);simp only[<-hrl,<-hfl] at h1 h2 h3 |-;replace hC1:=hC1 rl fl hfl;generalize Pa.of p=q at *;refine qF tyK Tryz.func36 33 [.tmp 2] ?_;unhygienic intros
 have hbn:∀c:Bool,bnot c=!c:=fun c=>by cases hO;rfl
 have cT:bnot true=false:=by rw[hbn];rfl
 have cF:bnot false=true:=by rw[hbn];rfl
 obtain ⟨pc,hpc⟩:=qX ([.ro true rl,.ro true fl]:List A);revert hK K;refine qW0 ?_;intro K hK;refine qG ?_;refine qD hP h1 ?_;rintro res bx ⟨b1,hb1,rfl,rfl⟩;refine qC ?_
 by_cases hg:p.good
 rotate_left
 ·have hb:b1=false:=by cases b1 with
   | false=>rfl
   | true=>exact absurd (hb1.1 rfl) hg
  subst hb;refine qU ?_
  repeat' first|(revert hK K;refine qV0 ?_;intro K hK)|(refine GFork.mk (fun _=>qQ ?_) fun _=>qQ ?_)|(simp only[cF];try cbv)
  exact hR _ _ ⟨1,.inl ⟨hg,rfl⟩,rfl,rfl⟩
 have hb:b1=true:=hb1.2 hg;subst hb;replace h3:=h3 hg;replace hkP:=hkP hg;clear h1 hb1;revert hK K;refine qW0 ?_;intro K hK;simp only[cT];revert hK K;refine qW0 ?_;intro K hK;refine qG ?_;refine qD hP h3 ?_;rintro res bx ⟨b2,hb2,rfl,rfl⟩;refine qC ?_
 by_cases hboth:BothS p
 ·have hb:b2=true:=hb2.2 hboth
  subst hb;revert hK K;refine qW0 ?_;intro K hK;exact hR _ _ ⟨2,.inr (.inl ⟨hg,hboth,rfl⟩),rfl,rfl⟩
 have hb:b2=false:=by cases b2 with
  | false=>rfl
  | true=>exact absurd (hb2.1 rfl) hboth
 subst hb;clear h3 hb2;refine qU ?_
 repeat' first|(revert hK K;refine qV0 ?_;intro K hK)|(refine GFork.mk (fun _=>qQ ?_) fun _=>qQ ?_)|(refine qG ?_;refine qD hP h2 ?_;rintro res bx ⟨els,hels,rfl,rfl⟩;refine qC ?_)
 clear h2;obtain ⟨N,hN⟩:=qX q.length;have le:len els=N:=lnO hO (by simp[hels,hN])
 have ae:all els 4:=alO hO (by rw[hels];simp[Pa.t_len])
 rw[<-hN] at hql;simp only[le];refine qL 3 [1,3,4,13,14,15] kk0 (invPC pc els (CallOkE p) q) ?_ ?_
 ·cbv
  exact ⟨_,0,true,true,by rw[hpc,<-hN];cbv,by simp,by simp[Pa.cP],by simp[Pa.kP],rfl⟩
 rintro m σ ⟨i,v,w,rfl,g1,hv,hw,rfl⟩;rw[<-hN] at g1 |-;rw[hpc]
 by_cases hlt:i < N
 ·have c3:cmp .lss (Int.ofNat i) (Int.ofNat N)=true:=by cases hO;simp[Ops.std,sCm,hlt]
  have e:bin .add .i64 (Int.ofNat i) 1=_:=iSc hO (by omega)
  have hidm:idx (Int.ofNat i) (len els):=le ▸ ixN hO hlt;have hidn:idx (Int.ofNat i) N:=ixN hO hlt;obtain ⟨x,hxm,hx,htk,e1⟩:=mpA hO hels (hN ▸ hlt);obtain ⟨s1,s2,s3,s4,s5⟩:=pa_step htk;obtain ⟨o1,o2,o3,o4,o5⟩:=hok x hxm;obtain ⟨wt,hwtt⟩:=qX (x.when_.map Ex.t);obtain ⟨lt,hltt⟩:=qX (x.l.map Sm.t);obtain ⟨pt,hpt⟩:=qX (strs x.params);replace e1:get els (nat (Int.ofNat i))=[T.sl pt,.sl wt,.sl lt,.lit (.int .i64 x.rule)]:=e1.trans (by rw[hwtt,hltt,hpt];rfl)
  have h3:=xxC (TlB (CallOkE p)) zc rl fl hC1 pt x.rule x.when_ o1 o2 x.l o3 o4 wt lt hwtt hltt v trivial;have h4:=esCs (TlB (PlOk x.rule)) (fun y=>[y]) (fun _=>1) pt wt lt x.rule (c_C2 pt wt lt x.rule) x.l o3 o4 lt w hltt trivial;have hks:=Sm.ml_ks x.rule x.l;generalize x.rule=ru at *;refine qU ?_
  repeat' first|(revert hK K;refine qV0 ?_;intro K hK)|(refine GFork.mk (fun _=>qQ ?_) fun _=>qQ ?_)|(simp only[c3,e1];try cbv)|(with_reducible refine ndC ?h ?_;case h=>first | exact hidm | exact hidn | exact ae | rfl)|(refine qg [1,0] ?_;refine qC ?_;refine qD hP h3 ?_;rintro res bx ⟨v3,hP3,rfl,rfl⟩;refine qC ?_)|(refine qg [2,3] ?_;refine qC ?_;refine qD hP h4 ?_;rintro res bx ⟨v4,hP4,rfl,rfl⟩;refine qC ?_)
  rw[e];have q3:v3=true↔v=true/\∀e∈Ex.zl zc x.when_++Sm.zl (fun y=>Ex.zl zc y.x) x.l,CallOkE p e:=hP3;have q4:v4=true↔w=true/\∀y∈Sm.zl (fun y=>[y]) x.l,PlOk ru y:=hP4;exact ⟨N - (i+1),by omega,i+1,v3,v4,by (try rw[hpc]);(try rw[hN]);cbv,by omega,by rw[q3,hv,s3];simp only[cl_mem],by rw[q4,hw,s4,hks],by rw[hN]⟩
 ·have hie:i=N:=by omega
  have c3:cmp .lss (Int.ofNat i) (Int.ofNat N)=false:=by cases hO;simp[Ops.std,sCm];omega
  rw[List.take_of_length_le (by omega)] at hv hw
  rw[hcP] at hv;rw[hkP] at hw;cases v
  ·have hno:¬CallsOk p:=fun h=>Bool.noConfusion (hv.2 h)
   refine qU ?_
   repeat' first|(revert hK K;refine qV0 ?_;intro K hK)|(refine GFork.mk (fun _=>qQ ?_) fun _=>qQ ?_)|(simp only[c3,cF];try cbv)
   all_goals exact hR _ _ ⟨3,.inr (.inr (.inl ⟨hg,hboth,hno,rfl⟩)),rfl,rfl⟩
  ·have hyes:CallsOk p:=hv.1 rfl
   cases w
   ·have hbad:PlaceBad p:=Classical.byContradiction fun h=>Bool.noConfusion (hw.2 h)
    refine qU ?_
    repeat' first|(revert hK K;refine qV0 ?_;intro K hK)|(refine GFork.mk (fun _=>qQ ?_) fun _=>qQ ?_)|(simp only[c3,cF,cT];try cbv)
    all_goals exact hR _ _ ⟨4,.inr (.inr (.inr (.inl ⟨hg,hboth,hyes,hbad,rfl⟩))),rfl,rfl⟩
   ·have hgood:¬PlaceBad p:=hw.1 rfl
    refine qU ?_
    repeat' first|(revert hK K;refine qV0 ?_;intro K hK)|(refine GFork.mk (fun _=>qQ ?_) fun _=>qQ ?_)|(simp only[c3,cF,cT];try cbv)
    all_goals exact hR _ _ ⟨0,.inr (.inr (.inr (.inr ⟨hg,hboth,hyes,hgood,rfl⟩))),rfl,rfl⟩
end Go.Gv
