/- Part PB3 of the proof: contracts of functions of the program, each walked once. -/
import Derived.Test.YtnmkmfancgcaeaaGreatDoorPD7
import Derived.Test.YtnmkmfancgcaeaaGreatDoorPB2
import Derived.Test.YtnmkmfancgcaeaaGreatDoorPD13
set_option linter.all false
namespace Go.Gv
open Go.Av Go.Proofs Go.Shelf Go.RowKit
set_option maxRecDepth 10000
set_option maxHeartbeats 4000000
theorem one_byte {s:ByteArray} (h:s.size=1):toL s=[wN0 s 0]:=by
 have h1:(toL s).length=1:=by rw[zG0,h]
 obtain ⟨c,hc⟩:=List.length_eq_one_iff.1 h1;obtain ⟨d,hd,_⟩:=byte_at (O:=Ops.std) rfl (s:=s) (i:=0) (by omega)
 have:wN0 s 0=d:=by
  have h2:=hd;unfold wN0;rw[getElem?_pos s 0 (by omega)]
  unfold toL at h2;rw[List.getElem?_eq_getElem (by rw[<-zG0] at h;exact (by rw[toL] at h;omega))] at h2
  exact Option.some.inj h2
 rw[hc] at hd |-;simp at hd;rw[this,hd]
theorem ok_iff {k:Int} {s:ByteArray} {l:List Rx}:(Rx.mk k s l).ok↔Rx.here k s l/\∀x∈l,Rx.ok x:=⟨Rx.ok_inv,fun h=>.mk h.1 h.2⟩
theorem MT0 {k:Int} {s:ByteArray} {l:List Rx} (h:Rx.here k s l) {x:Rx} (hx:x∈l):x.k≠k\/uW0 k=true:=by
 rcases h with ⟨_,_,rfl⟩ | ⟨_,_,rfl⟩ | ⟨_,_,rfl⟩ | ⟨_,_,_,_,h⟩ | ⟨hk,_⟩
 ·simp at hx
 ·simp at hx
 ·simp at hx
 ·exact .inl (h x hx)
 ·right;simp[uW0];omega
theorem fU0 {k:Int} {s:ByteArray} {l:List Rx} {N:Nat} (hN:N=l.length) {x0:Rx} (hx0:1<=N->l[0]?=some x0) (hne:∀x∈l,x.k≠k\/uW0 k=true) :
  Rx.here k s l↔(k=1/\s.size=1/\xQ0 (wN0 s 0)=true/\N=0)\/(k=3/\setB (toL s)=true/\N=0)\/((k=2\/k=9\/k=10\/k=11)/\s=ofL []/\N=0)\/
   ((k=4\/k=5)/\s=ofL []/\2<=N/\N<=8)\/((k=6\/k=7\/k=8)/\s=ofL []/\N=1/\uW0 x0.k=false):=by
 have h0:l=[]↔N=0:=by rw[hN];exact List.length_eq_zero_iff.symm
 unfold Rx.here;refine or_congr ?_ (or_congr ?_ (or_congr ?_ (or_congr ?_ ?_)))
 ·refine and_congr_right fun _=>?_
  constructor
  ·rintro ⟨⟨c,hc,hs⟩,hl⟩
   have h1:s.size=1:=by rw[<-zG0,hc];rfl
   rw[one_byte h1] at hc;simp at hc;exact ⟨h1,by rw[hc];exact hs,h0.1 hl⟩
  ·rintro ⟨h1,h2,h3⟩
   exact ⟨⟨_,one_byte h1,h2⟩,h0.2 h3⟩
 ·rw[h0]
 ·rw[h0]
 ·refine and_congr_right fun hk=>and_congr_right fun _=>?_
  rw[<-hN]
  constructor
  ·rintro ⟨h1,h2,_⟩;exact ⟨h1,h2⟩
  ·rintro ⟨h1,h2⟩
   refine ⟨h1,h2,fun x hx=>?_⟩;rcases hne x hx with h | h
   ·exact h
   ·simp[uW0] at h;omega
 ·refine and_congr_right fun hk=>and_congr_right fun _=>?_
  constructor
  ·rintro ⟨x,rfl,hx⟩
   have h1:N=1:=by rw[hN];rfl
   have:=hx0 (by omega)
   simp at this;exact ⟨h1,by rw[<-this];exact hx⟩
  ·rintro ⟨h1,h2⟩
   have:=hx0 (by omega)
   rw[hN] at h1;obtain ⟨x,rfl⟩:=List.length_eq_one_iff.1 h1;simp at this;exact ⟨x,rfl,by rw[this];exact h2⟩
def vJ1 (cs:List A) (k:Int) (l:List Rx) (N:Nat) (σ:AS):Prop:=
 ∃(i:Nat),σ=⟨vag 114 [(1,⟨.one,[.ptr 0 0]⟩),(3,litI (Int.ofNat i))],[some cs],1⟩/\i<=l.length/\(∀x∈l.take i,x.ok/\(x.k≠k\/uW0 k=true))/\N=l.length - i
abbrev HE0 (f:FuncId) (r:Rx):Prop:=r.Wf->ACl Tryz.prog f [agT r.t] [] (fun res bx=>∃b:Bool,(b=true↔r.ok)/\res=litB b/\bx=[])
theorem WZ0 (k:Int) (s:ByteArray) (l:List Rx) (ih:∀x∈l,HE0 179 x):HE0 179 (.mk k s l):=by
 intro hw;rw[ok_iff];obtain ⟨hsz,hll,hwl⟩:=hw.inv;obtain ⟨xl,hxl⟩:=qX (l.map Rx.t);simp only[agT,Rx.t_mk,List.map,tA];rw[<-hxl];refine qF tyK Tryz.func179 114 [.tmp 2] ?_;unhygienic intros
 obtain ⟨N,hN⟩:=qX l.length;have hlen:len xl=N:=lnO hO (by simp[hxl,hN])
 have ha:all xl 3:=alO hO (by subst hxl;simp[Rx.t_len])
 have hnt:bnot true=false:=by cases hO;rfl
 have hnf:bnot false=true:=by cases hO;rfl
 obtain ⟨cs,hcs⟩:=qX ([.lit (.int .i64 k),.lit (.string s),.ro true xl]:List A);rw[<-hN] at hll;revert hK K;refine qW 0 ?_;intro K hK;refine qL 1 [1,3] kk0 (vJ1 cs k l) ?_ ?_
 ·cbv
  exact ⟨_,0,by (try rw[hcs]);cbv,by simp,by simp,rfl⟩
 rintro m σ ⟨i,rfl,g1,g2,rfl⟩
 try rw[hcs]
 revert hK K;refine qW 0 ?_;intro K hK;simp only[hlen];refine nC rfl (fun h3=>?_) (fun h3=>?_)
 ·have hlt:i < N:=qv3
  obtain ⟨x,hx,hx',ht,e1⟩:=mpA hO hxl (hN ▸ hlt);have e:bin .add .i64 (Int.ofNat i) 1=_:=iSc hO (by omega)
  have hidx:idx (Int.ofNat i) (len xl):=hlen ▸ ixN hO hlt;have hcall:=ih x hx (hwl x hx);obtain ⟨o,ho⟩:=qX x.ok;rw[<-ho] at hcall;obtain ⟨k',s',l'⟩:=x;simp only[agT,Rx.t_mk,List.map,tA] at hcall e1;generalize l'.map Rx.t=xl' at hcall e1;revert hK K;refine qW 0 ?_;intro K hK
  repeat (simp only[e1];cbv)
  refine ndC hidx (ndC ha (ndN ?_));revert hK K;refine qW 0 ?_;intro K hK;refine qG ?_;refine qD hP hcall ?_;rintro res bx ⟨b,hb,rfl,rfl⟩;refine qC ?_;cases b
  ·revert hK K;refine qW 0 ?_;intro K hK
   simp only[hnf];revert hK K;refine qW 0 ?_;intro K hK;refine hR _ _ ⟨_,⟨fun h=>by simp at h,fun h=>absurd (hb.2 (ho ▸ h.2 _ hx)) (by simp)⟩,rfl,rfl⟩
  ·have hok:=hb.1 rfl
   rw[ho] at hok;revert hK K;refine qW 0 ?_;intro K hK;simp only[hnt];revert hK K;refine qW 0 ?_;intro K hK
   repeat (simp only[e1];cbv)
   refine ndC hidx (ndC ha (ndN ?_));refine GFork.mk (fun h5=>?_) (fun h5=>?_)<;>cbv
   ·have hkk:k'=k:=qv5
    revert hK K;refine qW 0 ?_;intro K hK;refine qG ?_;refine qD hP (jD0 k) ?_;rintro res bx ⟨b,hb2,rfl,rfl⟩;refine qC ?_;cases b
    ·revert hK K;refine qW 0 ?_;intro K hK
     simp only[hnf];revert hK K;refine qW 0 ?_;intro K hK;refine hR _ _ ⟨_,⟨fun h=>by simp at h,fun h=>?_⟩,rfl,rfl⟩
     rcases MT0 h.1 hx with h | h
     ·exact absurd hkk h
     ·rw[h] at hb2;simp at hb2
    ·revert hK K;refine qW 0 ?_;intro K hK
     simp only[hnt];revert hK K;refine qW 0 ?_;intro K hK;rw[e];refine ⟨N - (i+1),by omega,i+1,by (try rw[hcs]);cbv,by omega,?_,by rw[hN]⟩
     rw[ht];intro y hy;rcases List.mem_append.1 hy with hy | hy
     ·exact g2 y hy
     obtain rfl:=List.mem_singleton.1 hy;exact ⟨hok,.inr hb2.symm⟩
   ·have hkk:k'≠k:=qv5
    revert hK K;refine qW 0 ?_;intro K hK;rw[e];refine ⟨N - (i+1),by omega,i+1,by (try rw[hcs]);cbv,by omega,?_,by rw[hN]⟩
    rw[ht];intro y hy;rcases List.mem_append.1 hy with hy | hy
    ·exact g2 y hy
    obtain rfl:=List.mem_singleton.1 hy;exact ⟨hok,.inl hkk⟩
 ·have hge:i=N:=qw3
  have hil:i=l.length:=by omega
  have e2:l.take i=l:=List.take_of_length_le (by omega)
  rw[e2] at g2;obtain ⟨x0,hx0⟩:∃x0:Rx,1<=N->l[0]?=some x0:=by
   cases l with
   | nil=>exact ⟨default,fun h=>by rw[hN] at h;simp at h⟩
   | cons x l=>exact ⟨x,fun _=>rfl⟩
  have H:=fU0 (s:=s) (k:=k) hN hx0 fun x hx=>(g2 x hx).2;have hfin:∀b:Bool,(b=true↔Rx.here k s l)->(b=true↔Rx.here k s l/\∀x∈l,x.ok):=fun b hb=>hb.trans ⟨fun h=>⟨h,fun x hx=>(g2 x hx).1⟩,fun h=>h.1⟩;replace hfin:∀b:Bool,(b=true↔_)->(b=true↔Rx.here k s l/\∀x∈l,x.ok):=fun b hb=>hfin b (hb.trans H.symm);have hb0:byte s (nat 0)=Int.ofNat (wN0 s 0).toNat:=by cases hO;rfl
  have hs1:size s=s.size:=by cases hO;rfl
  generalize wN0 s 0=c0 at hb0 hfin;obtain ⟨b0,hb0'⟩:=qX (Int.ofNat c0.toNat);rw[<-hb0'] at hb0;have hself:=dE0 c0 b0 hb0';have hset:=xB1 s hsz;generalize setB (toL s)=sb at hset hfin;generalize xQ0 c0=cb at hself hfin;obtain ⟨Z,hZ⟩:=qX s.size;rw[<-hZ] at hs1 hfin;have hx0':1<=N->idx 0 (len xl)/\get xl (nat 0)=x0.t:=by
   intro h1;obtain ⟨x,_,q2,_,q4⟩:=mpA hO hxl (i:=0) (by omega)
   rw[hx0 h1] at q2;obtain rfl:=Option.some.inj q2;exact ⟨hlen ▸ ixN hO h1,q4⟩
  have hz0:Z=1->idx 0 Z:=fun h=>by rw[h];exact ixN hO (i:=0) (n:=1) (by omega)
  have hz1:cmp .eql (Int.ofNat (size s)) 1=true->Z=1:=fun h=>by rw[hs1] at h;cases hO;simp only[Ops.std,sCm,beq_iff_eq,Int.ofNat_eq_natCast] at h;omega
  clear g2 H hx0 ih hwl e2;obtain ⟨k0,s0,l0⟩:=x0;simp only[Rx.t_mk,Rx.k] at hx0' hfin;generalize l0.map Rx.t=xl0 at hx0';have hrep:=jD0 k0;generalize uW0 k0=lk at hrep hfin;have hem:ofL []=⟨⟨[]⟩⟩:=rfl;rw[hem] at hfin;have hx0'':cmp .eql (Int.ofNat (len xl)) 1=true->idx 0 N/\get xl (nat 0)=[T.lit (.int .i64 k0),T.lit (.string s0),T.sl xl0]:=fun h=>by
   have h1:1<=N:=by rw[hlen] at h;cases hO;simp only[Ops.std,sCm,beq_iff_eq,Int.ofNat_eq_natCast] at h;omega
   exact ⟨hlen ▸ (hx0' h1).1,(hx0' h1).2⟩
  refine qO ?_
  repeat' first|(revert hK K;refine qV 0 ?_;intro K hK)|(refine qK (fun _=>?_) fun _=>?_)|(simp only[hb0,hlen,hs1];try cbv)|(have e0:=(hx0'' (by assumption)).2;simp only[e0];(try cbv))|(with_reducible refine ndC ?h ?_;case h=>first | exact (hx0'' (by assumption)).1 | exact ha | exact hz0 (hz1 (by assumption)))|(refine qG ?_;refine qD hP hself ?_;rintro res bx ⟨r,hr,rfl,rfl⟩;refine qC ?_)|(refine qG ?_;refine qD hP hset ?_;rintro res bx ⟨r,hr,rfl,rfl⟩;refine qC ?_)|(refine qG ?_;refine qD hP hrep ?_;rintro res bx ⟨r,hr,rfl,rfl⟩;refine qC ?_)|(refine qG ?_;refine qD hP (qG0 (Int.ofNat N) 2 8) ?_;rintro res bx ⟨r,hr,rfl,rfl⟩;refine qC ?_)|fail
  all_goals (refine hR _ _ ⟨_,hfin _ ?_,rfl,rfl⟩;clear hR hseg hxl hcs hsz hll hself hset hrep hx0' hx0'' hb0 hb0' hz0 hz1 ha hnt hnf h3 hfin;cases hO;simp only[Ops.std,sCm,sqL,Int.ofNat_eq_natCast] at *;generalize ({ data:={ toList:=[] } }:ByteArray)=em at *;clear hN hil hge g1;(try clear e0);grind)
theorem DZ0 (r:Rx):HE0 179 r:=by
 obtain ⟨k,s,l⟩:=r;exact WZ0 k s l fun x hx=>DZ0 x
termination_by SizeOf.sizeOf r
decreasing_by
 have:=List.sizeOf_lt_of_mem hx;simp;omega
end Go.Gv
