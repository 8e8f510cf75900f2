/- Part X4 of the proof: contracts of functions of the program, each walked once. -/
import Derived.Test.YtjeejieaalnbeaaGreatX1
import Derived.Test.YtjeejieaalnbeaaGreatQ1
set_option linter.all false
namespace Go.Gv
open Go.Av Go.Proofs
set_option maxRecDepth 10000
set_option maxHeartbeats 8000000
def nmZT (s:ByteArray):List T:=[.lit (.string s),.lit (.int .i64 0),.lit (.int .i64 0),.lit (.string ⟨#[]⟩)]
def tbZT (s:ByteArray):List T:=[.lit (.string s),.sl []]
def kkE (r:Root) (c:Nat):Option Nat:=match r with
 | .box 2=>match c with
  | 0=>some 4
  | 1=>some 2
  | _=>none
 | _=>none
def invEnA (pc:List A) (els:List (List T)) (vs:List ByteArray) (N:Nat) (σ:AS):Prop:=
 ∃(i:Nat) (out:List (List T)),σ=⟨vag 46 [(1,⟨.one,[.ptr 0 0]⟩),(2,⟨.one,[.ptr 1 0]⟩),(3,⟨.one,[.ptr 2 0]⟩),(4,⟨.one,[.ro true els]⟩),(5,litI (Int.ofNat i))],[some pc,some [.nil,.nil],some [.ow (0,0) 4 out,.ow (0,0) 2 []]],1⟩/\i<=vs.length/\out=(vs.take i).map nmZT/\N=vs.length - i
def invEnB (pc:List A) (els:List (List T)) (nl:List (List T)) (vs:List ByteArray) (N:Nat) (σ:AS):Prop:=
 ∃(i:Nat) (out:List (List T)),σ=⟨vag 46 [(1,⟨.one,[.ptr 0 0]⟩),(2,⟨.one,[.ptr 1 0]⟩),(3,⟨.one,[.ptr 2 0]⟩),(6,⟨.one,[.ro true els]⟩),(7,litI (Int.ofNat i))],[some pc,some [.nil,.nil],some [.ow (0,0) 4 nl,.ow (0,0) 2 out]],1⟩/\i<=vs.length/\out=(vs.take i).map tbZT/\N=vs.length - i
theorem st_EnvNew (p:Pg) (VI TI:List ByteArray->Prop)
  (hV:ACl Tryz.prog 115 [agT p.t] [] (fun res bx=>∃vs els,VI vs/\vs.length<=8388608/\els=strs vs/\res=⟨.one,[.ro true els]⟩/\bx=[]))
  (hT:ACl Tryz.prog 116 [agT p.t] [] (fun res bx=>∃vs els,TI vs/\vs.length<=8388608/\els=strs vs/\res=⟨.one,[.ro true els]⟩/\bx=[])) :
  ACl Tryz.prog 63 [agT p.t] [] (fun res bx=>∃vs ts nl bl,VI vs/\TI ts/\vs.length<=8388608/\ts.length<=8388608/\nl=vs.map nmZT/\bl=ts.map tbZT/\res=⟨.agg,[.ow (0,0) 4 nl,.ow (0,0) 2 bl]⟩/\bx=[]):=by
 have hagt:agT p.t=⟨.agg,[.ro true (p.rules.map Ru.t),.ro true (p.fns.map Fu.t)]⟩:=rfl;rw[hagt] at hV hT |-;obtain ⟨rl,hrl⟩:=qX (p.rules.map Ru.t);obtain ⟨fl,hfl⟩:=qX (p.fns.map Fu.t);simp only[<-hrl,<-hfl] at hV hT |-;refine qF tyK Tryz.func63 46 [.cell 2 56] ?_;unhygienic intros;obtain ⟨pc,hpc⟩:=qX ([.ro true rl,.ro true fl]:List A);revert hK K;refine qW0 ?_;intro K hK;refine qG ?_;refine qD hP hV ?_;rintro res bx ⟨vs,els,hVI,hvl,hels,rfl,rfl⟩;refine qC ?_
 obtain ⟨N,hN⟩:=qX vs.length;have le:len els=N:=lnO hO (by simp[hels,hN])
 have ae:all els 1:=alO hO (by rw[hels];exact strs_all vs)
 rw[<-hN] at hvl;revert hK K;refine qW0 ?_;intro K hK;refine qL 3 [1,2,3,4,5] (kkE) (invEnA pc els vs) ?_ ?_
 ·cbv
  exact ⟨_,0,[],by rw[hpc];cbv,by simp,rfl,rfl⟩
 rintro m σ ⟨i,out,rfl,g1,g2,rfl⟩;rw[<-hN] at g1 |-;rw[hpc]
 by_cases hlt:i < N
 ·have c3:cmp .lss (Int.ofNat i) (Int.ofNat (len els))=true:=by rw[le];cases hO;simp[Ops.std,sCm,hlt]
  have e:bin .add .i64 (Int.ofNat i) 1=_:=iSc hO (by omega)
  have hidm:idx (Int.ofNat i) (len els):=le ▸ ixN hO hlt;obtain ⟨a,ha⟩:∃y,vs[i]?=some y:=⟨_,List.getElem?_eq_getElem (hN ▸ hlt)⟩;have e1:get els (nat (Int.ofNat i))=[T.lit (.string a)]:=by cases hO;rw[hels];simp[Ops.std,strs,ha]
  have hol:out.length=i:=by rw[g2,List.length_map,List.length_take];omega
  obtain ⟨out2,ho2⟩:=qX ((vs.take (i+1)).map nmZT);have hout:app out [[.lit (.string a),.lit (.int .i64 0),.lit (.int .i64 0),.lit (.string ⟨⟨[]⟩⟩)]]=out2:=by
   rw[ho2,List.take_add_one,ha,List.map_append,<-g2];cases hO;rfl
  have k1:all out 4:=alO hO (by rw[g2];intro e he;obtain ⟨x,_,rfl⟩:=List.mem_map.1 he;rfl)
  have k2:all [[T.lit (.string a),.lit (.int .i64 0),.lit (.int .i64 0),.lit (.string ⟨⟨[]⟩⟩)]] 4:=alO hO (by simp)
  have k3:aOk 48 out [[.lit (.string a),.lit (.int .i64 0),.lit (.int .i64 0),.lit (.string ⟨⟨[]⟩⟩)]]:=aOk_of hO (by simp;omega) (by simp;omega)
  refine qU ?_
  repeat' first|(revert hK K;refine qV0 ?_;intro K hK)|(refine GFork.mk (fun _=>qQ ?_) fun _=>qQ ?_)|(simp only[c3,e1,hseg,hout];try cbv)|(with_reducible refine ndC ?h ?_;case h=>first | exact hidm | exact ae | exact k1 | exact k2 | exact k3 | rfl)
  all_goals (rw[e];exact ⟨N - (i+1),by omega,i+1,out2,by (try rw[hpc]);cbv,by omega,ho2,by rw[hN]⟩)
 have hie:i=N:=by omega
 have c3:cmp .lss (Int.ofNat i) (Int.ofNat (len els))=false:=by rw[le];cases hO;simp[Ops.std,sCm];omega
 rw[List.take_of_length_le (by omega)] at g2
 refine qU ?_
 repeat' first|(revert hK K;refine qV0 ?_;intro K hK)|(refine GFork.mk (fun _=>qQ ?_) fun _=>qQ ?_)|(simp only[c3];try cbv)|(refine qG ?_;refine qD hP hT ?_;rintro res bx ⟨ts,els2,hTI,htl,hels2,rfl,rfl⟩;refine qC ?_)
 clear c3 hie g1;obtain ⟨M,hM2⟩:=qX ts.length;have le2:len els2=M:=lnO hO (by simp[hels2,hM2])
 have ae2:all els2 1:=alO hO (by rw[hels2];exact strs_all ts)
 rw[<-hM2] at htl;refine qL 3 [1,2,3,6,7] kk0 (invEnB pc els2 out ts) ?_ ?_
 ·cbv
  exact ⟨_,0,[],by rw[hpc];cbv,by simp,rfl,rfl⟩
 rintro m σ ⟨i,out',rfl,g1,g3,rfl⟩;rw[<-hM2] at g1 |-;rw[hpc]
 by_cases hlt:i < M
 ·have c3:cmp .lss (Int.ofNat i) (Int.ofNat (len els2))=true:=by rw[le2];cases hO;simp[Ops.std,sCm,hlt]
  have e:bin .add .i64 (Int.ofNat i) 1=_:=iSc hO (by omega)
  have hidm:idx (Int.ofNat i) (len els2):=le2 ▸ ixN hO hlt;obtain ⟨a,ha⟩:∃y,ts[i]?=some y:=⟨_,List.getElem?_eq_getElem (hM2 ▸ hlt)⟩;have e1:get els2 (nat (Int.ofNat i))=[T.lit (.string a)]:=by cases hO;rw[hels2];simp[Ops.std,strs,ha]
  have hol:out'.length=i:=by rw[g3,List.length_map,List.length_take];omega
  obtain ⟨out2,ho2⟩:=qX ((ts.take (i+1)).map tbZT);have hout:app out' [[.lit (.string a),.sl []]]=out2:=by
   rw[ho2,List.take_add_one,ha,List.map_append,<-g3];cases hO;rfl
  have k1:all out' 2:=alO hO (by rw[g3];intro e he;obtain ⟨x,_,rfl⟩:=List.mem_map.1 he;rfl)
  have k2:all [[T.lit (.string a),.sl []]] 2:=alO hO (by simp)
  have k3:aOk 40 out' [[.lit (.string a),.sl []]]:=aOk_of hO (by simp;omega) (by simp;omega)
  refine qU ?_
  repeat' first|(revert hK K;refine qV0 ?_;intro K hK)|(refine GFork.mk (fun _=>qQ ?_) fun _=>qQ ?_)|(simp only[c3,e1,hseg,hout];try cbv)|(with_reducible refine ndC ?h ?_;case h=>first | exact hidm | exact ae2 | exact k1 | exact k2 | exact k3 | rfl)
  all_goals (rw[e];exact ⟨M - (i+1),by omega,i+1,out2,by (try rw[hpc]);cbv,by omega,ho2,by rw[hM2]⟩)
 ·have hie:i=M:=by omega
  have c3:cmp .lss (Int.ofNat i) (Int.ofNat (len els2))=false:=by rw[le2];cases hO;simp[Ops.std,sCm];omega
  rw[List.take_of_length_le (by omega)] at g3
  refine qU ?_
  repeat' first|(revert hK K;refine qV0 ?_;intro K hK)|(refine GFork.mk (fun _=>qQ ?_) fun _=>qQ ?_)|(simp only[c3];try cbv)
  exact hR _ _ ⟨vs,ts,out,out',hVI,hTI,by omega,by omega,g2,g3,rfl,rfl⟩
def invM1 (pc pe pn:List A) (a b:List ByteArray) (N:Nat) (σ:AS):Prop:=
 ∃(i:Nat),σ=⟨vag 66 [(2,⟨.one,[.ptr 0 0]⟩),(3,⟨.one,[.ptr 1 0]⟩),(5,⟨.one,[.ptr 2 0]⟩),(6,litI (Int.ofNat i))],[some pc,some pe,some pn],1⟩/\i<=a.length/\a.take i=b.take i/\N=a.length - i
def invM2 (pc pe pn:List A) (a b:List ByteArray) (N:Nat) (σ:AS):Prop:=
 ∃(i:Nat),σ=⟨vag 66 [(2,⟨.one,[.ptr 0 0]⟩),(3,⟨.one,[.ptr 1 0]⟩),(5,⟨.one,[.ptr 2 0]⟩),(7,litI (Int.ofNat i))],[some pc,some pe,some pn],1⟩/\i<=a.length/\a.take i=b.take i/\N=a.length - i
theorem st_l27Names (p:Pg) (VI TI:List ByteArray->Prop) (uV:∀a b,VI a->VI b->a=b) (uT:∀a b,TI a->TI b->a=b)
  (hE:ACl Tryz.prog 63 [agT p.t] [] (fun res bx=>∃vs ts nl bl,VI vs/\TI ts/\vs.length<=8388608/\ts.length<=8388608/\nl=vs.map nmZT/\bl=ts.map tbZT/\res=⟨.agg,[.ro true nl,.ro true bl]⟩/\bx=[]))
  (xs:List Nm) (nl':List (List T)) (hnl':nl'=xs.map Nm.t) (ws:List Tb) (bl':List (List T)) (hbl':bl'=ws.map Tb.t) :
  ACl Tryz.prog 25 [agT p.t,⟨.agg,[.ro true nl',.ro true bl']⟩] [] (fun res bx=>∃b:Bool,(b=true↔VI (xs.map Nm.name)/\TI (ws.map Tb.name))/\res=litB b/\bx=[]):=by
 have hagt:agT p.t=⟨.agg,[.ro true (p.rules.map Ru.t),.ro true (p.fns.map Fu.t)]⟩:=rfl;rw[hagt] at hE |-;obtain ⟨rl,hrl⟩:=qX (p.rules.map Ru.t);obtain ⟨fl,hfl⟩:=qX (p.fns.map Fu.t);simp only[<-hrl,<-hfl] at hE |-;refine qF tyK Tryz.func25 66 [.tmp 4] ?_;unhygienic intros;obtain ⟨pc,hpc⟩:=qX ([.ro true rl,.ro true fl]:List A);revert hK K;refine qW0 ?_;intro K hK;refine qG ?_;refine qD hP hE ?_;rintro res bx ⟨vs,ts,nl,bl,hVI,hTI,hvl,htl,hnl,hbl,rfl,rfl⟩;refine qC ?_
 obtain ⟨xn,hxn⟩:=qX (xs.map Nm.name);obtain ⟨wn,hwn⟩:=qX (ws.map Tb.name);have iV:VI xn↔vs=xn:=⟨fun h=>uV _ _ hVI h,fun h=>h ▸ hVI⟩;have iT:TI wn↔ts=wn:=⟨fun h=>uT _ _ hTI h,fun h=>h ▸ hTI⟩;simp only[<-hxn,<-hwn,iV,iT] at hR;clear iV iT hVI hTI uV uT hE;obtain ⟨N,hN⟩:=qX vs.length;obtain ⟨M,hM2⟩:=qX ts.length;obtain ⟨N',hN'⟩:=qX xs.length;obtain ⟨M',hM'⟩:=qX ws.length;have ln:len nl=N:=lnO hO (by simp[hnl,hN])
 have lb:len bl=M:=lnO hO (by simp[hbl,hM2])
 have ln':len nl'=N':=lnO hO (by simp[hnl',hN'])
 have lb':len bl'=M':=lnO hO (by simp[hbl',hM'])
 have an:all nl 4:=alO hO (by rw[hnl];intro e he;obtain ⟨x,_,rfl⟩:=List.mem_map.1 he;rfl)
 have ab:all bl 2:=alO hO (by rw[hbl];intro e he;obtain ⟨x,_,rfl⟩:=List.mem_map.1 he;rfl)
 have an':all nl' 4:=alO hO (by rw[hnl'];simp[Nm.t_len])
 have ab':all bl' 2:=alO hO (by rw[hbl'];simp[Tb.t_len])
 rw[<-hN] at hvl;rw[<-hM2] at htl;have n1:cmp .neq (Int.ofNat (len nl)) (Int.ofNat (len nl'))=true↔N≠N':=by rw[ln,ln'];cases hO;simp[Ops.std,sCm];omega
 have n2:cmp .neq (Int.ofNat (len bl)) (Int.ofNat (len bl'))=true↔M≠M':=by rw[lb,lb'];cases hO;simp[Ops.std,sCm];omega
 have hxl:xn.length=N':=by rw[hxn,List.length_map,hN']
 have hwl:wn.length=M':=by rw[hwn,List.length_map,hM']
 by_cases hq1:N=N'
 rotate_left
 ·have c1:cmp .neq (Int.ofNat (len nl)) (Int.ofNat (len nl'))=true:=n1.2 hq1
  refine qU ?_
  repeat' first|(revert hK K;refine qV0 ?_;intro K hK)|(refine GFork.mk (fun _=>qQ ?_) fun _=>qQ ?_)|(simp only[c1];try cbv)
  all_goals exact hR _ _ ⟨false,⟨fun h=>(by cases h),fun h=>absurd (by rw[hN,h.1,hxl]) hq1⟩,rfl,rfl⟩
 have c1:cmp .neq (Int.ofNat (len nl)) (Int.ofNat (len nl'))=false:=by cases h:cmp .neq (Int.ofNat (len nl)) (Int.ofNat (len nl')) with
  | false=>rfl
  | true=>exact absurd hq1 (n1.1 h)
 by_cases hq2:M=M'
 rotate_left
 ·have c2:cmp .neq (Int.ofNat (len bl)) (Int.ofNat (len bl'))=true:=n2.2 hq2
  refine qU ?_
  repeat' first|(revert hK K;refine qV0 ?_;intro K hK)|(refine GFork.mk (fun _=>qQ ?_) fun _=>qQ ?_)|(simp only[c1,c2];try cbv)
  all_goals exact hR _ _ ⟨false,⟨fun h=>(by cases h),fun h=>absurd (by rw[hM2,h.2,hwl]) hq2⟩,rfl,rfl⟩
 have c2:cmp .neq (Int.ofNat (len bl)) (Int.ofNat (len bl'))=false:=by cases h:cmp .neq (Int.ofNat (len bl)) (Int.ofNat (len bl')) with
  | false=>rfl
  | true=>exact absurd hq2 (n2.1 h)
 subst hq1;subst hq2;refine qU ?_
 repeat' first|(revert hK K;refine qV0 ?_;intro K hK)|(refine GFork.mk (fun _=>qQ ?_) fun _=>qQ ?_)|(simp only[c1,c2];try cbv)
 clear c1 c2 n1 n2;refine qL 3 [2,3,5,6] kk0 (invM1 pc [.ro true nl',.ro true bl'] [.ro true nl,.ro true bl] vs xn) ?_ ?_
 ·cbv
  exact ⟨_,0,by rw[hpc];cbv,by simp,rfl,rfl⟩
 rintro m σ ⟨i,rfl,g1,g2,rfl⟩;rw[<-hN] at g1 |-;rw[hpc]
 by_cases hlt:i < N
 ·have c3:cmp .lss (Int.ofNat i) (Int.ofNat (len nl))=true:=by rw[ln];cases hO;simp[Ops.std,sCm,hlt]
  have e:bin .add .i64 (Int.ofNat i) 1=_:=iSc hO (by omega)
  have hidm:idx (Int.ofNat i) (len nl):=ln ▸ ixN hO hlt;have hidw:idx (Int.ofNat i) (len nl'):=ln' ▸ ixN hO hlt;have hidn:idx (Int.ofNat i) N:=ixN hO hlt;obtain ⟨a,ha⟩:∃y,vs[i]?=some y:=⟨_,List.getElem?_eq_getElem (hN ▸ hlt)⟩;obtain ⟨b,hb⟩:∃y,xs[i]?=some y:=⟨_,List.getElem?_eq_getElem (hN' ▸ hlt)⟩;obtain ⟨r1,e1⟩:∃r,get nl (nat (Int.ofNat i))=T.lit (.string a)::r:=⟨_,by cases hO;rw[hnl];simp[Ops.std,ha,nmZT];rfl⟩
  obtain ⟨r2,e2⟩:∃r,get nl' (nat (Int.ofNat i))=T.lit (.string b.name)::r:=⟨_,by
   have:get nl' (nat (Int.ofNat i))=b.t:=by cases hO;rw[hnl'];simp[Ops.std,hb]
   rw[this];rfl⟩
  have t1:vs.take (i+1)=vs.take i++[a]:=by rw[List.take_add_one,ha];rfl
  have t2:xn.take (i+1)=xn.take i++[b.name]:=by rw[List.take_add_one,hxn,List.getElem?_map,hb];rfl
  have hbn:xn[i]?=some b.name:=by rw[hxn,List.getElem?_map,hb];rfl
  generalize b.name=bn at *
  by_cases hxy:a=bn
  ·have c2:scmp .neq a bn=false:=by cases hO;simp only[Ops.std,scmp_neq];simp[hxy]
   refine qU ?_
   repeat' first|(revert hK K;refine qV0 ?_;intro K hK)|(refine GFork.mk (fun _=>qQ ?_) fun _=>qQ ?_)|(simp only[c3,c2,e1,e2];try cbv)|(with_reducible refine ndC ?h ?_;case h=>first | exact hidm | exact hidw | exact hidn | exact an | exact an' | rfl)
   all_goals (rw[e];exact ⟨N - (i+1),by omega,i+1,by (try rw[hpc]);cbv,by omega,by rw[t1,t2,g2,hxy],by rw[hN]⟩)
  ·have c2:scmp .neq a bn=true:=by cases hO;simp[Ops.std,scmp_neq,hxy]
   refine qU ?_
   repeat' first|(revert hK K;refine qV0 ?_;intro K hK)|(refine GFork.mk (fun _=>qQ ?_) fun _=>qQ ?_)|(simp only[c3,c2,e1,e2];try cbv)|(with_reducible refine ndC ?h ?_;case h=>first | exact hidm | exact hidw | exact hidn | exact an | exact an' | rfl)
   all_goals (refine hR _ _ ⟨false,⟨fun h=>(by cases h),fun h=>?_⟩,rfl,rfl⟩;have h2:=(And.left h);rw[<-h2,ha] at hbn;exact absurd (Option.some.inj hbn) hxy)
 have hie:i=N:=by omega
 have c3:cmp .lss (Int.ofNat i) (Int.ofNat (len nl))=false:=by rw[ln];cases hO;simp[Ops.std,sCm];omega
 have hvx:vs=xn:=by rw[List.take_of_length_le (by omega),List.take_of_length_le (by omega)] at g2;exact g2
 refine qU ?_
 repeat' first|(revert hK K;refine qV0 ?_;intro K hK)|(refine GFork.mk (fun _=>qQ ?_) fun _=>qQ ?_)|(simp only[c3];try cbv)
 clear c3 hie g1 g2;refine qL 3 [2,3,5,7] kk0 (invM2 pc [.ro true nl',.ro true bl'] [.ro true nl,.ro true bl] ts wn) ?_ ?_
 ·cbv
  exact ⟨_,0,by rw[hpc];cbv,by simp,rfl,rfl⟩
 rintro m σ ⟨i,rfl,g1,g2,rfl⟩;rw[<-hM2] at g1 |-;rw[hpc]
 by_cases hlt:i < M
 ·have c3:cmp .lss (Int.ofNat i) (Int.ofNat (len bl))=true:=by rw[lb];cases hO;simp[Ops.std,sCm,hlt]
  have e:bin .add .i64 (Int.ofNat i) 1=_:=iSc hO (by omega)
  have hidm:idx (Int.ofNat i) (len bl):=lb ▸ ixN hO hlt;have hidw:idx (Int.ofNat i) (len bl'):=lb' ▸ ixN hO hlt;have hidn:idx (Int.ofNat i) M:=ixN hO hlt;obtain ⟨a,ha⟩:∃y,ts[i]?=some y:=⟨_,List.getElem?_eq_getElem (hM2 ▸ hlt)⟩;obtain ⟨b,hb⟩:∃y,ws[i]?=some y:=⟨_,List.getElem?_eq_getElem (hM' ▸ hlt)⟩;obtain ⟨r1,e1⟩:∃r,get bl (nat (Int.ofNat i))=T.lit (.string a)::r:=⟨_,by cases hO;rw[hbl];simp[Ops.std,ha,tbZT];rfl⟩
  obtain ⟨r2,e2⟩:∃r,get bl' (nat (Int.ofNat i))=T.lit (.string b.name)::r:=⟨_,by
   have:get bl' (nat (Int.ofNat i))=b.t:=by cases hO;rw[hbl'];simp[Ops.std,hb]
   rw[this];rfl⟩
  have t1:ts.take (i+1)=ts.take i++[a]:=by rw[List.take_add_one,ha];rfl
  have t2:wn.take (i+1)=wn.take i++[b.name]:=by rw[List.take_add_one,hwn,List.getElem?_map,hb];rfl
  have hbn:wn[i]?=some b.name:=by rw[hwn,List.getElem?_map,hb];rfl
  generalize b.name=bn at *
  by_cases hxy:a=bn
  ·have c2:scmp .neq a bn=false:=by cases hO;simp only[Ops.std,scmp_neq];simp[hxy]
   refine qU ?_
   repeat' first|(revert hK K;refine qV0 ?_;intro K hK)|(refine GFork.mk (fun _=>qQ ?_) fun _=>qQ ?_)|(simp only[c3,c2,e1,e2];try cbv)|(with_reducible refine ndC ?h ?_;case h=>first | exact hidm | exact hidw | exact hidn | exact ab | exact ab' | rfl)
   all_goals (rw[e];exact ⟨M - (i+1),by omega,i+1,by (try rw[hpc]);cbv,by omega,by rw[t1,t2,g2,hxy],by rw[hM2]⟩)
  ·have c2:scmp .neq a bn=true:=by cases hO;simp[Ops.std,scmp_neq,hxy]
   refine qU ?_
   repeat' first|(revert hK K;refine qV0 ?_;intro K hK)|(refine GFork.mk (fun _=>qQ ?_) fun _=>qQ ?_)|(simp only[c3,c2,e1,e2];try cbv)|(with_reducible refine ndC ?h ?_;case h=>first | exact hidm | exact hidw | exact hidn | exact ab | exact ab' | rfl)
   all_goals (refine hR _ _ ⟨false,⟨fun h=>(by cases h),fun h=>?_⟩,rfl,rfl⟩;have h2:=(And.right h);rw[<-h2,ha] at hbn;exact absurd (Option.some.inj hbn) hxy)
 have hie:i=M:=by omega
 have c3:cmp .lss (Int.ofNat i) (Int.ofNat (len bl))=false:=by rw[lb];cases hO;simp[Ops.std,sCm];omega
 refine qU ?_
 repeat' first|(revert hK K;refine qV0 ?_;intro K hK)|(refine GFork.mk (fun _=>qQ ?_) fun _=>qQ ?_)|(simp only[c3];try cbv)
 exact hR _ _ ⟨true,⟨fun _=>⟨hvx,by rw[List.take_of_length_le (by omega),List.take_of_length_le (by omega)] at g2;exact g2⟩,fun _=>rfl⟩,rfl,rfl⟩
end Go.Gv
