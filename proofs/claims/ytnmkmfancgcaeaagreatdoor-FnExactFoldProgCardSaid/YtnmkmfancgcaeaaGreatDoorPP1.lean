/- Part PP1 of the proof: contracts of functions of the program, each walked once. -/
import Derived.Test.YtnmkmfancgcaeaaGreatDoorPR2
import Derived.Test.YtnmkmfancgcaeaaGreatDoorPQ5
import Derived.Test.YtnmkmfancgcaeaaGreatDoorPD13
import Derived.Deep.RegionWith
set_option linter.all false
namespace Go.Gv
open Go.Av Go.Proofs
set_option maxRecDepth 10000
set_option maxHeartbeats 8000000
variable {I:∀{α:Type},α->α}
open Go.RowKit
def All (w:World) (b:Nat):Prop:=b < w.heap.size
theorem GdW.all {w:World} (h:GdW w):Gd w (All w):=fun x hx=>h x hx
theorem fZ0 {P:Program} {f:FuncId} {args:List AV} {R:AV->List (Option (List A))->Prop} (h:ACl P f args [] R) (w:World) (hg:GdW w) (vals:Array Value) (hv:RpS (Go.Av.Env.zero (All w) (All w) [] w) args vals.toList []) :
  Calls P f vals w fun e w'=>∃v,e=.returned v/\Keeps [] w w'/\∃res bx' S' bl' o1,R res bx'/\RepV (Go.Av.Env.zero S' S' bl' w') res v o1/\o1.Nodup/\(∀b∈o1,w.heap.size<=b)/\∀b,S' b->b < w'.heap.size/\b∉o1:=by
 refine (h w vals (All w) (All w) [] [] [] hv ⟨rfl,rfl⟩ (by simp) (fun _ h=>h) (fun b hb=>⟨hb,by simp⟩) hg.all).mono ?_
 rintro e w' ⟨v,rfl,res,bx',S',bl',o1,o2,hR,hv,_,hnd,hs,_,_,hk,ho,_⟩;exact ⟨v,rfl,hk,res,bx',S',bl',o1,hR,hv,(List.nodup_append.1 hnd).1,fun b hb=>(ho b (List.mem_append_left _ hb)).elim (fun h=>by simp at h) id,fun b hb=>⟨(hs b hb).1,fun h=>(hs b hb).2 (List.mem_append_left _ h)⟩⟩
theorem NW0 {E:Go.Av.Env} {c:A} {v:Value} {own:List Nat} (h:RepV E ⟨.one,[c]⟩ v own):RepA E c v own:=by
 obtain ⟨⟨ht,ha⟩,u,us,p,q,h1,rfl,h3,h4⟩:=h;have h2:us=[]:=h4.1;have h5:q=[]:=h4.2;subst h2 h5;have:v=u:=by cases v<;>simp[flat,isTuple,zZ0] at h1 ht ha |-<;>exact h1
 rw[this,List.append_nil];exact h3
theorem wW1 {S:Nat->Prop} {w:World} {g:zV0} {k:Nat} {els:List (List T)} {u:Value} {own:List Nat} {bl:List Nat} (h:RepA (Go.Av.Env.zero S S bl w) (.ow g true k els) u own):RepL S w (.own els) u own:=by
 obtain ⟨ad,cap,h1,h2,h3,h4⟩:=h;refine ⟨ad,cap,h1,h2,?_⟩;rcases h4 with ⟨h4,h5,_⟩ | ⟨b,o,arr,ty,fz,n,g1,g2,g3,g4,g5,g6⟩
 ·exact .inl ⟨h5,h4⟩
 ·refine .inr ⟨b,o,arr,ty,fz,n,g1,g2,g3,fun x hx hy=>g5 x hx ?_,g6⟩
  rw[zC0 h3] at hy;have:=Nat.mul_le_mul_right k h2;omega
mutual
def fr:T->Bool
 | .lit _=>true
 | .sl _=>false
 | .own els=>frE els
def frC:List T->Bool
 | []=>true
 | c::cs=>fr c && frC cs
def frE:List (List T)->Bool
 | []=>true
 | e::es=>frC e && frE es
end
mutual
theorem fr_L {S S':Nat->Prop} {w:World}:∀(t:T) (u:Value) (own:List Nat),fr t=true->RepL S w t u own->RepL S' w t u own
 | .lit v,u,own,_,h=>by simpa only [RepL] using h
 | .sl els,u,own,hf,h=>by simp[fr] at hf
 | .own els,u,own,hf,h=>by
  simp only[RepL] at h |-;simp only[fr] at hf;obtain ⟨ad,cap,h1,h2,h3⟩:=h;refine ⟨ad,cap,h1,h2,h3.imp id ?_⟩;rintro ⟨b,o,arr,ty,fz,own',g1,g2,g3,g4,g5⟩;exact ⟨b,o,arr,ty,fz,own',g1,g2,g3,g4,vU1 b o els own' hf g5⟩
theorem vV1 {S S':Nat->Prop} {w:World} (b:Nat):∀(o:Nat) (cs:List T) (own:List Nat),frC cs=true->RepLC S w b o cs own->RepLC S' w b o cs own
 | _,[],own,_,h=>by simpa only [RepLC] using h
 | o,c::cs,own,hf,h=>by
  simp only[frC,Bool.and_eq_true] at hf;simp only[RepLC] at h |-;obtain ⟨u,o1,o2,h0,h1,h2,h3⟩:=h;exact ⟨u,o1,o2,h0,h1,fr_L c u o1 hf.1 h2,vV1 b (o+1) cs o2 hf.2 h3⟩
theorem vU1 {S S':Nat->Prop} {w:World} (b:Nat):∀(o:Nat) (es:List (List T)) (own:List Nat),frE es=true->RepLE S w b o es own->RepLE S' w b o es own
 | _,[],own,_,h=>by simpa only [RepLE] using h
 | o,e::es,own,hf,h=>by
  simp only[frE,Bool.and_eq_true] at hf;simp only[RepLE] at h |-;obtain ⟨o1,o2,h0,h1,h2⟩:=h;exact ⟨o1,o2,h0,vV1 b o e o1 hf.1 h1,vU1 b (o+e.length) es o2 hf.2 h2⟩
end
mutual
theorem Ex.o_fr:∀e:Ex,frC e.o=true
 | .mk k n s l=>by rw[Ex.o.eq_1];simp only[frC,fr,Ex.os_fr l];rfl
theorem Ex.os_fr:∀l:List Ex,frE (Ex.os l)=true
 | []=>rfl
 | e::l=>by rw[Ex.os.eq_2,frE,Ex.o_fr e,Ex.os_fr l];rfl
end
theorem Ex.map_fr (l:List Ex):frE (l.map Ex.o)=true:=by rw[<-Ex.os_map,Ex.os_fr]
abbrev EA (w:World):Go.Av.Env:=Go.Av.Env.zero (All w) (All w) [] w
theorem rQ0 {w w':World} (hk:Keeps [] w w') {av:AV} {v:Value} (h:RepV (EA w) av v []):RepV (EA w') av v []:=by
 have le:Env.Le none (EA w) (EA w'):=⟨fun b hb=>Nat.lt_of_lt_of_le hb hk.size,fun b hb=>Nat.lt_of_lt_of_le hb hk.size,fun b hb=>hk.block b (hb.elim id id) (by simp),fun _ _ hb=>hb,fun r c g d k els' _ he=>by simp[Go.Av.Env.zero] at he⟩
 obtain ⟨sh,cs⟩:=av;cases sh with
 | any=>exact h
 | one=>exact ⟨h.1,RpA.go le (by simp) (yR0 cs) h.2⟩
 | agg=>exact ⟨h.1,RpA.go le (by simp) (yR0 cs) h.2⟩
 | tup ns=>exact ⟨h.1,RpA.go le (by simp) (yR0 cs) h.2⟩
theorem wX1 {E:Go.Av.Env} {c:A} {v:Value} {own:List Nat} (h:RepA E c v own):RepV E ⟨.one,[c]⟩ v own:=by
 have h1:=h.oneC;exact ⟨h1,by rw[yK0 h1];exact ⟨v,[],own,[],rfl,by simp,h,rfl,rfl⟩⟩
theorem sl1 {w:World} {a:AV} {v:Value} (h:RepV (EA w) a v []) {avs:List AV} {vs:List Value} (h2:RpS (EA w) avs vs []):RpS (EA w) (a::avs) (v::vs) []:=⟨v,vs,[],[],rfl,rfl,h,h2⟩
theorem sli {w:World} {n:Int} {avs:List AV} {vs:List Value} (h2:RpS (EA w) avs vs []):RpS (EA w) (litI n::avs) (.int .i64 n::vs) []:=sl1 (wX1 (c:=.lit (.int .i64 n)) (v:=.int .i64 n) ⟨rfl,rfl,rfl⟩) h2
theorem uW1 {f:FuncId} {args:List AV} {n:Int} (h:ACl Tryz.prog f args [] (fun res bx=>res=litI n/\bx=[])) {w:World} (hg:GdW w) {vals:Array Value} (hv:RpS (EA w) args vals.toList []):Calls Tryz.prog f vals w fun e w'=>e=.returned (.int .i64 n)/\Keeps [] w w':=by
 refine (fZ0 h w hg vals hv).mono ?_;rintro e w' ⟨v,rfl,hk,res,bx',S',bl',o1,⟨rfl,_⟩,hr,_⟩;have h:=(NW0 hr).1;exact ⟨by rw[h],hk⟩
theorem RH0 {f:FuncId} {args:List AV} {n:Bool} (h:ACl Tryz.prog f args [] (fun res bx=>res=litB n/\bx=[])) {w:World} (hg:GdW w) {vals:Array Value} (hv:RpS (EA w) args vals.toList []):Calls Tryz.prog f vals w fun e w'=>e=.returned (.bool n)/\Keeps [] w w':=by
 refine (fZ0 h w hg vals hv).mono ?_;rintro e w' ⟨v,rfl,hk,res,bx',S',bl',o1,⟨rfl,_⟩,hr,_⟩;have h:=(NW0 hr).1;exact ⟨by rw[h],hk⟩
open Go.Av Go.Proofs Go.RowKit
set_option maxRecDepth 100000
set_option maxHeartbeats 4000000
variable {I:∀{α:Type},α->α}
theorem xG0 (w:World) (o:Obj):Keeps [] w (w.alloc o):=(Av.Keeps.refl [] w).alloc o
theorem WA0 (w:World):Keeps [] w w.drew:=⟨rfl,rfl,rfl,Nat.le_refl _,fun _ _ _=>rfl⟩
theorem kt {a b c:World} (h:Keeps [] a b) (k:Keeps [] b c):Keeps [] a c:=Keeps.tr h k
theorem kn {o:List Nat} {a b c:World} (h:Keeps [] a b) (k:Keeps o b c) (ho:∀x∈o,a.heap.size<=x):Keeps [] a c:=⟨k.os.trans h.os,k.tape.trans h.tape,k.output.trans h.output,Nat.le_trans h.size k.size,fun x hx _=>by have:=h.size;rw[k.block x (by omega) (fun hm=>by have:=ho x hm;omega),h.block x hx (by simp)]⟩
mutual
theorem zX1:∀e:Ex,e.mk'<=3+3 * e.sz
 | .mk k n s l=>by
  have h:=fN0 l;rw[Ex.mk'.eq_1,Ex.mks'_eq,Ex.sz];omega
theorem fN0:∀l:List Ex,cs Ex.mk' l<=3 * (l.length+Ex.szs l)
 | []=>by simp[cs]
 | e::l=>by
  have h1:=zX1 e;have h2:=fN0 l;rw[show cs Ex.mk' (e::l)=e.mk' + cs Ex.mk' l by simp[cs],Ex.szs,List.length_cons];omega
end
theorem vA1 (e:Ex):cs Ex.mk' e.l<=3 * e.sz:=by have h:=fN0 e.l;rw[Ex.sz_eq];omega
end Go.Gv
