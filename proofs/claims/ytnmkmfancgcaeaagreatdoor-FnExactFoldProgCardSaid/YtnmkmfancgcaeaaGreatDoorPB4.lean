/- Part PB4 of the proof: contracts of functions of the program, each walked once. -/
import Derived.Test.YtnmkmfancgcaeaaGreatDoorPD7
import Derived.Test.YtnmkmfancgcaeaaGreatDoorPB2
set_option linter.all false
namespace Go.Gv
open Go.Av Go.Proofs Go.Shelf Go.RowKit
set_option maxRecDepth 10000
set_option maxHeartbeats 4000000
theorem yU1 (k:Int) (s:ByteArray) (xl:List (List T)) (x:Rx):ACl Tryz.prog 186 [agT x.t,⟨.one,[.ptr 0 0]⟩] [some [.lit (.int .i64 k),.lit (.string s),.ro true xl]]
  (fun res bx=>∃b:Bool,(b=true↔x.k=k)/\res=litB b/\bx=[some [.lit (.int .i64 k),.lit (.string s),.ro true xl]]):=by
 obtain ⟨k',s',l'⟩:=x;simp only[agT,Rx.t_mk,List.map,tA,Rx.k];generalize l'.map Rx.t=xl';refine qF tyK Tryz.func186 9 [.tmp 3] ?_;unhygienic intros
 revert hK K;refine qW 1 ?_;intro K hK;refine hR _ _ ⟨_,?_,rfl,rfl⟩;cases hO;simp only[Ops.std,sCm,beq_iff_eq]
def invIF (bx:Option (List A)) (xl:List (List T)) (l:List Rx) (k:Int) (N:Nat) (σ:AS):Prop:=
 ∃(i:Nat),σ=⟨vag 19 [(0,⟨.one,[.ro true xl]⟩),(1,⟨.one,[.fn 186 [(0,0)]]⟩),(7,litI (Int.ofNat l.length)),(8,litI (Int.ofNat i))],[bx],1⟩/\i<=l.length/\(∀x∈l.take i,x.k≠k)/\N=l.length - i
theorem XA0 (k:Int) (s:ByteArray) (l:List Rx) (hl:l.length<=4611686018427387904) (xl:List (List T)) (hxl:xl=l.map Rx.t) :
  ACl Tryz.prog 201 [roT xl,⟨.one,[.fn 186 [(0,0)]]⟩] [some [.lit (.int .i64 k),.lit (.string s),.ro true xl]]
  (fun res bx=>∃r:Int,(0<=r↔∃x∈l,x.k=k)/\res=litI r/\bx=[some [.lit (.int .i64 k),.lit (.string s),.ro true xl]]):=by
 refine qF tyK Tryz.func201 19 [.tmp 4] ?_;unhygienic intros
 obtain ⟨N,hN⟩:=qX l.length;have hlen:len xl=N:=lnO hO (by simp[hxl,hN])
 have ha:all xl 3:=alO hO (by subst hxl;simp[Rx.t_len])
 rw[<-hN] at hl;revert hK K;refine qW 1 ?_;intro K hK;simp only[hlen];refine qL 1 [0,1,7,8] kk0 (invIF (some [.lit (.int .i64 k),.lit (.string s),.ro true xl]) xl l k) ?_ ?_
 ·cbv
  exact ⟨_,0,by rw[<-hN];cbv,by simp,by simp,rfl⟩
 rintro m σ ⟨i,rfl,g1,g2,rfl⟩;rw[<-hN];revert hK K;refine qW 1 ?_;intro K hK;refine nC rfl (fun h3=>?_) (fun h3=>?_)
 ·have hlt:i < N:=qv3
  obtain ⟨x,hx,hx',ht,e1⟩:=mpA hO hxl (hN ▸ hlt);have e:bin .add .i64 (Int.ofNat i) 1=_:=iSc hO (by omega)
  have hidx:idx (Int.ofNat i) (len xl):=hlen ▸ ixN hO hlt;have hcall:=yU1 k s xl x;have hxk:x.k≠k->∀y∈List.take (i+1) l,y.k≠k:=fun h y hy=>by
   rw[ht] at hy;rcases List.mem_append.1 hy with hy | hy
   ·exact g2 y hy
   ·obtain rfl:=List.mem_singleton.1 hy;exact h
  have hex:x.k=k->∃x∈l,x.k=k:=fun h=>⟨x,hx,h⟩;obtain ⟨k',s',l'⟩:=x;simp only[agT,Rx.t_mk,List.map,tA] at hcall e1;generalize l'.map Rx.t=xl' at hcall e1;generalize (Rx.mk k' s' l').k=kx at *;revert hK K;refine qW 1 ?_;intro K hK
  repeat (simp only[e1];cbv)
  refine ndC hidx (ndC ha (ndN ?_));refine qg (nN [0]) ?_;refine qC ?_;refine qD hP hcall ?_;rintro res bx ⟨b,hb,rfl,rfl⟩;refine qC ?_;cases b
  ·revert hK K;refine qW 1 ?_;intro K hK
   rw[e];exact ⟨N - (i+1),by omega,i+1,by rw[<-hN];cbv,by omega,hxk fun h=>by simpa using hb.2 h,by rw[hN]⟩
  ·revert hK K;refine qW 1 ?_;intro K hK
   refine hR _ _ ⟨_,⟨fun _=>hex (hb.1 rfl),fun _=>?_⟩,rfl,rfl⟩;simp
 ·have hge:i=N:=qw3
  rw[List.take_of_length_le (by omega)] at g2
  revert hK K;refine qW 1 ?_;intro K hK;exact hR _ _ ⟨_,⟨fun h=>by simp at h,fun ⟨x,hx,hk⟩=>absurd hk (g2 x hx)⟩,rfl,rfl⟩
theorem VQ0 (k:Int) (s:ByteArray) (l:List Rx) (hl:l.length<=4611686018427387904) (xl:List (List T)) (hxl:xl=l.map Rx.t) :
  ACl Tryz.prog 185 [roT xl,⟨.one,[.fn 186 [(0,0)]]⟩] [some [.lit (.int .i64 k),.lit (.string s),.ro true xl]]
  (fun res bx=>∃b:Bool,(b=true↔∃x∈l,x.k=k)/\res=litB b/\bx=[some [.lit (.int .i64 k),.lit (.string s),.ro true xl]]):=by
 have hc:=XA0 k s l hl xl hxl;refine qF tyK Tryz.func185 9 [.tmp 4] ?_;unhygienic intros
 revert hK K;refine qW 1 ?_;intro K hK;refine qg (nN [0]) ?_;refine qC ?_;refine qD hP hc ?_;rintro res bx ⟨r,hr,rfl,rfl⟩;refine qC ?_;revert hK K;refine qW 1 ?_;intro K hK;refine hR _ _ ⟨_,?_,rfl,rfl⟩;rw[<-hr];cases hO;simp[Ops.std,sCm]
end Go.Gv
