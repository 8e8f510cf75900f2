/- Part L1 of the proof: contracts of functions of the program, each walked once. -/
import Derived.Test.YtomgmhbmchidnaaGreatM2
import Derived.Test.YtomgmhbmchidnaaGreatS2
import Derived.Test.YtomgmhbmchidnaaGreatH4
import Derived.Test.YtomgmhbmchidnaaGreatD14
set_option linter.all false
namespace Go.Gv
open Go.Av Go.Proofs Go.RowKit
set_option maxRecDepth 100000
set_option maxHeartbeats 4000000
def All (w:World) (b:Nat):Prop:=b < w.heap.size
theorem hG0 {P:Program} {f:FuncId} {args:List AV} {R:AV->List (Option (List A))->Prop} (h:ACl P f args [] R) (w:World) (vals:Array Value) (hv:RpS (Go.Av.Env.zero (All w) (All w) [] w) args vals.toList []) :
  Calls P f vals w fun e w'=>∃v,e=.returned v/\Keeps [] w w'/\∃res bx' S' bl' o1,R res bx'/\RepV (Go.Av.Env.zero S' S' bl' w') res v o1/\o1.Nodup/\(∀b∈o1,w.heap.size<=b)/\∀b,S' b->b < w'.heap.size/\b∉o1:=by
 refine (h w vals (All w) (All w) [] [] [] hv ⟨rfl,rfl⟩ (by simp) (fun _ h=>h) (fun b hb=>⟨hb,by simp⟩)).mono ?_
 rintro e w' ⟨v,rfl,res,bx',S',bl',o1,o2,hR,hv,_,hnd,hs,_,_,hk,ho,_⟩;exact ⟨v,rfl,hk,res,bx',S',bl',o1,hR,hv,(List.nodup_append.1 hnd).1,fun b hb=>(ho b (List.mem_append_left _ hb)).elim (fun h=>by simp at h) id,fun b hb=>⟨(hs b hb).1,fun h=>(hs b hb).2 (List.mem_append_left _ h)⟩⟩
theorem jG0 {E:Go.Av.Env} {c:A} {v:Value} {own:List Nat} (h:RepV E ⟨.one,[c]⟩ v own):RepA E c v own:=by
 obtain ⟨⟨ht,ha⟩,u,us,p,q,h1,rfl,h3,h4⟩:=h;have h2:us=[]:=h4.1;have h5:q=[]:=h4.2;subst h2 h5;have:v=u:=by cases v<;>simp[flat,isTuple,yM0] at h1 ht ha |-<;>exact h1
 rw[this,List.append_nil];exact h3
theorem zP1 {E:Go.Av.Env} {c d:A} {v:Value} {own:List Nat} (h:RepV E ⟨.agg,[c,d]⟩ v own):∃u1 u2 o1 o2,v=.agg #[u1,u2]/\own=o1++o2/\RepA E c u1 o1/\RepA E d u2 o2:=by
 obtain ⟨ha,u,us,p,q,h1,rfl,h3,u',us',p',q',h1',rfl,h3',h4⟩:=h;have h2:us'=[]:=h4.1;have h5:q'=[]:=h4.2;subst h2 h5 h1';have ha:yM0 v=true:=ha;cases v<;>simp[yM0] at ha
 rename_i cs;refine ⟨u,u',p,p',?_,by simp,h3,h3'⟩
 congr 1
 exact Array.toList_inj.1 (by simpa [flat] using h1)
theorem tQ1 {S:Nat->Prop} {w:World} {g:yA0} {k:Nat} {els:List (List T)} {u:Value} {own:List Nat} {bl:List Nat} (h:RepA (Go.Av.Env.zero S S bl w) (.ow g true k els) u own):RepL S w (.own els) u own:=by
 obtain ⟨ad,cap,h1,h2,h3,h4⟩:=h;refine ⟨ad,cap,h1,h2,?_⟩;rcases h4 with ⟨h4,h5,_⟩ | ⟨b,o,arr,ty,fz,n,g1,g2,g3,g4,g5,g6⟩
 ·exact .inl ⟨h5,h4⟩
 ·refine .inr ⟨b,o,arr,ty,fz,n,g1,g2,g3,fun x hx hy=>g5 x hx ?_,g6⟩
  rw[zE0 h3] at hy;have:=Nat.mul_le_mul_right k h2;omega
mutual
theorem Ex.o_er:∀e:Ex,erC e.o=e.t
 | .mk k n s l=>by rw[Ex.o.eq_1,Ex.t.eq_1];simp only[erC,T.er];rw[Ex.os_er l]
theorem Ex.os_er:∀l:List Ex,erE (Ex.os l)=Ex.ts l
 | []=>rfl
 | e::l=>by rw[Ex.os.eq_2,Ex.ts.eq_2,erE,Ex.o_er e,Ex.os_er l]
end
theorem Ex.map_er (l:List Ex):erE (l.map Ex.o)=l.map Ex.t:=by rw[<-Ex.os_map,Ex.os_er,Ex.ts_map]
mutual
theorem Sm.o_er:∀e:Sm,erC e.o=e.t
 | .mk k s t x a b=>by rw[Sm.o.eq_1,Sm.t_mk];simp only[erC,T.er];rw[Ex.map_er,Sm.os_er a,Sm.os_er b]
theorem Sm.os_er:∀l:List Sm,erE (Sm.os l)=l.map Sm.t
 | []=>rfl
 | e::l=>by rw[Sm.os.eq_2,erE,Sm.o_er e,Sm.os_er l];rfl
end
theorem Sm.map_er (l:List Sm):erE (l.map Sm.o)=l.map Sm.t:=by rw[<-Sm.os_map,Sm.os_er]
theorem vV1:∀l:List ByteArray,erE (l.map strT)=l.map strT
 | []=>rfl
 | s::l=>by rw[List.map_cons,erE,vV1 l];rfl
theorem Ru.o_er (r:Ru):erC r.o=r.t:=by rw[Ru.o];simp only[erC,T.er,Ex.map_er,Sm.map_er];rw[Ru.tI (I:=@id) rfl];rfl
theorem Fu.o_er (r:Fu):erC r.o=r.t:=by rw[Fu.o];simp only[erC,T.er,vV1,Sm.map_er];rw[Fu.tI (I:=@id) rfl];rfl
theorem Ru.map_er:∀l:List Ru,erE (l.map Ru.o)=l.map Ru.t
 | []=>rfl
 | s::l=>by rw[List.map_cons,erE,Ru.map_er l,Ru.o_er];rfl
theorem Fu.map_er:∀l:List Fu,erE (l.map Fu.o)=l.map Fu.t
 | []=>rfl
 | s::l=>by rw[List.map_cons,erE,Fu.map_er l,Fu.o_er];rfl
abbrev EA (w:World):Go.Av.Env:=Go.Av.Env.zero (All w) (All w) [] w
theorem wF0 {w w':World} (hk:Keeps [] w w') {av:AV} {v:Value} (h:RepV (EA w) av v []):RepV (EA w') av v []:=by
 have le:Env.Le none (EA w) (EA w'):=⟨fun b hb=>Nat.lt_of_lt_of_le hb hk.size,fun b hb=>Nat.lt_of_lt_of_le hb hk.size,fun b hb=>hk.block b (hb.elim id id) (by simp),fun _ _ hb=>hb,fun r c g d k els' _ he=>by simp[Go.Av.Env.zero] at he⟩
 obtain ⟨sh,cs⟩:=av;cases sh with
 | any=>exact h
 | one=>exact ⟨h.1,RpA.go le (by simp) (xT0 cs) h.2⟩
 | agg=>exact ⟨h.1,RpA.go le (by simp) (xT0 cs) h.2⟩
 | tup ns=>exact ⟨h.1,RpA.go le (by simp) (xT0 cs) h.2⟩
theorem one_mk {E:Go.Av.Env} {c:A} {v:Value} {own:List Nat} (h:RepA E c v own):RepV E ⟨.one,[c]⟩ v own:=by
 have h1:=h.oneC;exact ⟨h1,by rw[yU0 h1];exact ⟨v,[],own,[],rfl,by simp,h,rfl,rfl⟩⟩
abbrev pI (p:Pg):AV:=⟨.agg,[.ro true (p.rules.map Ru.t),.ro true (p.fns.map Fu.t)]⟩
abbrev sI (l:List Sm):AV:=⟨.one,[.ro true (l.map Sm.t)]⟩
abbrev cI (c:List Ik):AV:=⟨.one,[.ro true (c.map Ik.t)]⟩
theorem sl1 {w:World} {a:AV} {v:Value} (h:RepV (EA w) a v []) {avs:List AV} {vs:List Value} (h2:RpS (EA w) avs vs []):RpS (EA w) (a::avs) (v::vs) []:=⟨v,vs,[],[],rfl,rfl,h,h2⟩
theorem sli {w:World} {n:Int} {avs:List AV} {vs:List Value} (h2:RpS (EA w) avs vs []):RpS (EA w) (litI n::avs) (.int .i64 n::vs) []:=sl1 (one_mk (c:=.lit (.int .i64 n)) (v:=.int .i64 n) ⟨rfl,rfl,rfl⟩) h2
theorem kK1 {f:FuncId} {args:List AV} {n:Int} (h:ACl Tryz.prog f args [] (fun res bx=>res=litI n/\bx=[])) {w:World} {vals:Array Value} (hv:RpS (EA w) args vals.toList []):Calls Tryz.prog f vals w fun e w'=>e=.returned (.int .i64 n)/\Keeps [] w w':=by
 refine (hG0 h w vals hv).mono ?_;rintro e w' ⟨v,rfl,hk,res,bx',S',bl',o1,⟨rfl,_⟩,hr,_⟩;have h:=(jG0 hr).1;exact ⟨by rw[h],hk⟩
theorem VP0 {f:FuncId} {args:List AV} {n:Bool} (h:ACl Tryz.prog f args [] (fun res bx=>res=litB n/\bx=[])) {w:World} {vals:Array Value} (hv:RpS (EA w) args vals.toList []):Calls Tryz.prog f vals w fun e w'=>e=.returned (.bool n)/\Keeps [] w w':=by
 refine (hG0 h w vals hv).mono ?_;rintro e w' ⟨v,rfl,hk,res,bx',S',bl',o1,⟨rfl,_⟩,hr,_⟩;have h:=(jG0 hr).1;exact ⟨by rw[h],hk⟩
mutual
def fr:T->Bool
 | .lit _=>true
 | .sl _=>false
 | .own els=>frE els
def frC:List T->Bool
 | []=>true
 | c::cs=>fr c && frC cs
def frE:List (List T)->Bool
 | []=>true
 | e::es=>frC e && frE es
end
mutual
theorem fr_L {S S':Nat->Prop} {w:World}:∀(t:T) (u:Value) (own:List Nat),fr t=true->RepL S w t u own->RepL S' w t u own
 | .lit v,u,own,_,h=>by simpa only [RepL] using h
 | .sl els,u,own,hf,h=>by simp[fr] at hf
 | .own els,u,own,hf,h=>by
  simp only[RepL] at h |-;simp only[fr] at hf;obtain ⟨ad,cap,h1,h2,h3⟩:=h;refine ⟨ad,cap,h1,h2,h3.imp id ?_⟩;rintro ⟨b,o,arr,ty,fz,own',g1,g2,g3,g4,g5⟩;exact ⟨b,o,arr,ty,fz,own',g1,g2,g3,g4,mK1 b o els own' hf g5⟩
theorem mL1 {S S':Nat->Prop} {w:World} (b:Nat):∀(o:Nat) (cs:List T) (own:List Nat),frC cs=true->RepLC S w b o cs own->RepLC S' w b o cs own
 | _,[],own,_,h=>by simpa only [RepLC] using h
 | o,c::cs,own,hf,h=>by
  simp only[frC,Bool.and_eq_true] at hf;simp only[RepLC] at h |-;obtain ⟨u,o1,o2,h0,h1,h2,h3⟩:=h;exact ⟨u,o1,o2,h0,h1,fr_L c u o1 hf.1 h2,mL1 b (o+1) cs o2 hf.2 h3⟩
theorem mK1 {S S':Nat->Prop} {w:World} (b:Nat):∀(o:Nat) (es:List (List T)) (own:List Nat),frE es=true->RepLE S w b o es own->RepLE S' w b o es own
 | _,[],own,_,h=>by simpa only [RepLE] using h
 | o,e::es,own,hf,h=>by
  simp only[frE,Bool.and_eq_true] at hf;simp only[RepLE] at h |-;obtain ⟨o1,o2,h0,h1,h2⟩:=h;exact ⟨o1,o2,h0,mL1 b o e o1 hf.1 h1,mK1 b (o+e.length) es o2 hf.2 h2⟩
end
mutual
theorem Ex.o_fr:∀e:Ex,frC e.o=true
 | .mk k n s l=>by rw[Ex.o.eq_1];simp only[frC,fr,Ex.os_fr l];rfl
theorem Ex.os_fr:∀l:List Ex,frE (Ex.os l)=true
 | []=>rfl
 | e::l=>by rw[Ex.os.eq_2,frE,Ex.o_fr e,Ex.os_fr l];rfl
end
theorem Ex.map_fr (l:List Ex):frE (l.map Ex.o)=true:=by rw[<-Ex.os_map,Ex.os_fr]
mutual
theorem Sm.o_fr:∀e:Sm,frC e.o=true
 | .mk k s t x a b=>by rw[Sm.o.eq_1];simp only[frC,fr,Ex.map_fr,Sm.os_fr a,Sm.os_fr b];rfl
theorem Sm.os_fr:∀l:List Sm,frE (Sm.os l)=true
 | []=>rfl
 | e::l=>by rw[Sm.os.eq_2,frE,Sm.o_fr e,Sm.os_fr l];rfl
end
theorem Sm.map_fr (l:List Sm):frE (l.map Sm.o)=true:=by rw[<-Sm.os_map,Sm.os_fr]
theorem vU1:∀l:List ByteArray,frE (l.map strT)=true
 | []=>rfl
 | s::l=>by rw[List.map_cons,frE,vU1 l];rfl
theorem Ru.map_fr:∀l:List Ru,frE (l.map Ru.o)=true
 | []=>rfl
 | r::l=>by rw[List.map_cons,frE,Ru.map_fr l,Ru.o];simp only[frC,fr,Ex.map_fr,Sm.map_fr];rfl
theorem Fu.map_fr:∀l:List Fu,frE (l.map Fu.o)=true
 | []=>rfl
 | r::l=>by rw[List.map_cons,frE,Fu.map_fr l,Fu.o];simp only[frC,fr,vU1,Sm.map_fr];rfl
structure OwnP (S:Nat->Prop) (w:World) (p:Pg) (u1 u2:Value) (o1 o2:List Nat):Prop where
 r1:RepL S w (.own (p.rules.map Ru.o)) u1 o1
 r2:RepL S w (.own (p.fns.map Fu.o)) u2 o2
 nd:(o1++o2).Nodup
 hS:∀b,S b->b < w.heap.size/\b∉o1++o2
structure OwnS (S:Nat->Prop) (w:World) (l:List Sm) (u:Value) (o:List Nat):Prop where
 r:RepL S w (.own (l.map Sm.o)) u o
 nd:o.Nodup
 hS:∀b,S b->b < w.heap.size/\b∉o
theorem OwnP.keeps {S:Nat->Prop} {w w':World} {p:Pg} {u1 u2:Value} {o1 o2:List Nat} (h:OwnP S w p u1 u2 o1 o2) (hk:Keeps [] w w'):OwnP S w' p u1 u2 o1 o2:=
 ⟨wQ0 h.r1 hk (fun b hb=>⟨(h.hS b hb).1,by simp⟩) (by simp),wQ0 h.r2 hk (fun b hb=>⟨(h.hS b hb).1,by simp⟩) (by simp),h.nd,fun b hb=>⟨Nat.lt_of_lt_of_le (h.hS b hb).1 hk.size,(h.hS b hb).2⟩⟩
theorem OwnS.keeps {S:Nat->Prop} {w w':World} {l:List Sm} {u:Value} {o O:List Nat} (h:OwnS S w l u o) (hk:Keeps O w w') (hS:∀b,S b->b∉O) (ho:∀b∈o,b∉O):OwnS S w' l u o:=
 ⟨wQ0 h.r hk (fun b hb=>⟨(h.hS b hb).1,hS b hb⟩) ho,h.nd,fun b hb=>⟨Nat.lt_of_lt_of_le (h.hS b hb).1 hk.size,(h.hS b hb).2⟩⟩
theorem OwnP.read {S:Nat->Prop} {w:World} {p:Pg} {u1 u2:Value} {o1 o2:List Nat} (h:OwnP S w p u1 u2 o1 o2):RepV (EA w) (pI p) (.agg #[u1,u2]) []:=by
 have a1:=RepL.toS (S':=All w) (fun b hb=>(h.hS b hb).1) _ _ _ (RepL.lt _ _ _ h.r1) h.r1;have a2:=RepL.toS (S':=All w) (fun b hb=>(h.hS b hb).1) _ _ _ (RepL.lt _ _ _ h.r2) h.r2;simp only[T.er,Ru.map_er] at a1;simp only[T.er,Fu.map_er] at a2;exact ⟨rfl,u1,[u2],[],[],rfl,rfl,⟨a1,rfl⟩,u2,[],[],[],rfl,rfl,⟨a2,rfl⟩,rfl,rfl⟩
theorem OwnS.read {S:Nat->Prop} {w:World} {l:List Sm} {u:Value} {o:List Nat} (h:OwnS S w l u o):RepV (EA w) (sI l) u []:=by
 have a1:=RepL.toS (S':=All w) (fun b hb=>(h.hS b hb).1) _ _ _ (RepL.lt _ _ _ h.r) h.r;simp only[T.er,Sm.map_er] at a1;exact one_mk ⟨a1,rfl⟩
theorem vM1 (p:Pg) (hz:p.sz<=1048576) {w:World} {v:Value} (hv:RepV (EA w) (pI p) v []):Calls Tryz.prog 9 #[v] w fun e w'=>∃a1 n1 c1 a2 n2 c2 o1 o2,e=.returned (.agg #[.slice a1 n1 c1,.slice a2 n2 c2])/\Keeps [] w w'/\OwnP (fun _=>False) w' p (.slice a1 n1 c1) (.slice a2 n2 c2) o1 o2/\∀b∈o1++o2,w.heap.size<=b:=by
 refine (hG0 (pM1 (I:=@id) rfl p hz) w #[v] (sl1 hv slots_nil)).mono ?_;rintro e w' ⟨v,rfl,hk,res,bx',S',bl',o,⟨rfl,_⟩,hr,hnd,hf,hS⟩;obtain ⟨u1,u2,o1,o2,rfl,rfl,a1,a2⟩:=zP1 hr;have e1:=fr_L (S':=fun _=>False) (.own (p.rules.map Ru.o)) _ _ (Ru.map_fr _) (tQ1 a1);have e2:=fr_L (S':=fun _=>False) (.own (p.fns.map Fu.o)) _ _ (Fu.map_fr _) (tQ1 a2);obtain ⟨x1,y1,rfl,-⟩:=id e1;obtain ⟨x2,y2,rfl,-⟩:=id e2
 exact ⟨_,_,_,_,_,_,o1,o2,rfl,hk,⟨e1,e2,hnd,fun _ h=>h.elim⟩,hf⟩
theorem vL1 (l:List Sm) (hz:l.length+Sm.szs l<=1048576) {w:World} {v:Value} (hv:RepV (EA w) (sI l) v []):Calls Tryz.prog 10 #[v] w fun e w'=>∃u o,e=.returned u/\Keeps [] w w'/\OwnS (fun _=>False) w' l u o/\∀b∈o,w.heap.size<=b:=by
 refine (hG0 (VU0 (I:=@id) rfl l hz) w #[v] (sl1 hv slots_nil)).mono ?_;rintro e w' ⟨v,rfl,hk,res,bx',S',bl',o,⟨rfl,_⟩,hr,hnd,hf,hS⟩;exact ⟨v,o,rfl,hk,⟨fr_L _ _ _ (Sm.map_fr _) (tQ1 (jG0 hr)),hnd,fun _ h=>h.elim⟩,hf⟩
structure Flat (w:World) (c:List Ik) (v:Value) (o:List Nat):Prop where
 hv:∃ad cap,v=.slice ad c.length cap/\c.length<=cap/\(c=[]\/∃b off,ad=some ⟨b,off,none⟩/\b∈o/\b < w.heap.size/\(∀x,x < c.length * 2->w.frozen? ⟨b,off+x,none⟩=false)/\
  ∀x,x < c.length * 2->∃u,w.cell? ⟨b,off+x,none⟩=some u)
 r:RepS (fun b=>b∈o) w (.sl (c.map Ik.t)) v
 lt:∀b∈o,b < w.heap.size
theorem Flat.read {w:World} {c:List Ik} {v:Value} {o:List Nat} (h:Flat w c v o):RepV (EA w) (cI c) v []:=one_mk ⟨RepS.mono (fun b hb=>h.lt b hb) (fun _ _=>rfl) _ _ h.r,rfl⟩
theorem Flat.keeps {w w':World} {c:List Ik} {v:Value} {o O:List Nat} (h:Flat w c v o) (hk:Keeps O w w') (hO:∀b∈o,b∉O):Flat w' c v o:=by
 obtain ⟨⟨ad,cap,h1,h2,h3⟩,h4,h5⟩:=h;refine ⟨⟨ad,cap,h1,h2,h3.imp id ?_⟩,RepS.mono (fun _ h=>h) (fun b hb=>hk.block b (h5 b hb) (hO b hb)) _ _ h4,fun b hb=>Nat.lt_of_lt_of_le (h5 b hb) hk.size⟩;rintro ⟨b,off,g1,g2,g3,g4,g5⟩;have e:=hk.block b g3 (hO b g2);refine ⟨b,off,g1,g2,Nat.lt_of_lt_of_le g3 hk.size,fun x hx=>?_,fun x hx=>by rw[cell?_congr e];exact g5 x hx⟩
 have:=g4 x hx;unfold World.frozen? at this |-;rw[e];exact this
theorem GY0 {S S':Nat->Prop} {w:World} {b:Nat}:∀(c:List Ik) (o:Nat),RepSE S w b o (c.map Ik.t)->RepSE S' w b o (c.map Ik.t)
 | [],o,h=>by simpa only [List.map_nil,RepSE] using h
 | x::c,o,h=>by
  simp only[List.map_cons,RepSE,Ik.t,RepSC,RepS] at h |-;exact ⟨h.1,GY0 c _ h.2⟩
theorem qZ1 {f:FuncId} {p:Pg} {fn:Int} {l:List Sm} (h:ACl Tryz.prog f [pI p,litI fn,sI l] [] (fun res bx=>∃c:List Ik,GenIs p fn l c/\res=⟨.one,[.ow (0,0) false 2 (c.map Ik.t)]⟩/\bx=[])) {w:World} {v x:Value} (hv:RepV (EA w) (pI p) v []) (hx:RepV (EA w) (sI l) x []) :
  Calls Tryz.prog f #[v,.int .i64 fn,x] w fun e w'=>∃c u o,GenIs p fn l c/\e=.returned u/\Keeps [] w w'/\Flat w' c u o/\∀b∈o,w.heap.size<=b:=by
 refine (hG0 h w _ (sl1 hv (sli (sl1 hx slots_nil)))).mono ?_;rintro e w' ⟨v,rfl,hk,res,bx',S',bl',o,⟨c,hc,rfl,_⟩,hr,hnd,hf,hS⟩;have hr:=jG0 hr;have hlt:=RepA.lt hr;have hr:RepO S' w' false 2 (c.map Ik.t) v o:=hr;have hro:RepS (fun b=>b∈o) w' (.sl (c.map Ik.t)) v:=by
  obtain ⟨ad,cap,h1,h2,h3,h4⟩:=hr;simp only[RepS];refine ⟨ad,cap,h1,h2,fun hne=>?_⟩;rcases h4 with ⟨_,h5,_⟩ | ⟨b,off,arr,ty,fz,g1,g2,g3,g4,g5,g6⟩
  ·exact absurd h5 hne
  ·exact ⟨b,off,g1,by simp[g2],GY0 c off g6⟩
 refine ⟨c,v,o,hc,rfl,hk,⟨?_,hro,hlt⟩,hf⟩;obtain ⟨ad,cap,h1,h2,h3,h4⟩:=hr;rw[List.length_map] at h1 h2;refine ⟨ad,cap,h1,h2,?_⟩;rcases h4 with ⟨_,h5,_⟩ | ⟨b,off,arr,ty,fz,g1,g2,g3,g4,g5,g6⟩
 ·exact .inl (List.map_eq_nil_iff.1 h5)
 ·have hm:=Nat.mul_le_mul_right 2 h2
  refine .inr ⟨b,off,g1,by simp[g2],hlt b (by simp[g2]),fun x hx=>?_,fun x hx=>?_⟩
  ·have:=g5 (off+x) (by omega) (by omega)
   unfold World.frozen?;simp only[g3];simp;omega
  ·unfold World.cell?
   simp only[g3];exact ⟨arr[off+x]'(by omega),by simp⟩
theorem kt {a b c:World} (h:Keeps [] a b) (k:Keeps [] b c):Keeps [] a c:=⟨k.os.trans h.os,k.tape.trans h.tape,k.output.trans h.output,Nat.le_trans h.size k.size,fun x hx _=>by have:=h.size;rw[k.block x (by omega) (by simp),h.block x hx (by simp)]⟩
theorem kn {o:List Nat} {a b c:World} (h:Keeps [] a b) (k:Keeps o b c) (ho:∀x∈o,a.heap.size<=x):Keeps [] a c:=⟨k.os.trans h.os,k.tape.trans h.tape,k.output.trans h.output,Nat.le_trans h.size k.size,fun x hx _=>by have:=h.size;rw[k.block x (by omega) (fun hm=>by have:=ho x hm;omega),h.block x hx (by simp)]⟩
structure BxW (w:World) (B:Nat) (a b:Value):Prop where
 lt:B < w.heap.size
 c0:w.cell? ⟨B,0,none⟩=some a
 c1:w.cell? ⟨B,1,none⟩=some b
theorem BxW.keeps {w w':World} {B:Nat} {a b:Value} {O:List Nat} (h:BxW w B a b) (hk:Keeps O w w') (hB:B∉O):BxW w' B a b:=by
 have e:=hk.block B h.lt hB;exact ⟨Nat.lt_of_lt_of_le h.lt hk.size,by rw[cell?_congr e];exact h.c0,by rw[cell?_congr e];exact h.c1⟩
theorem yD1:∀l:List Ex,l.length<=1048576->(∀x∈l,x.sz<=1048576)->MkQ 49 (l.map Ex.o) (cs Ex.mk' l):=by
 have key:∀e:Ex,e.sz<=1048576->MkQ 49 (e.l.map Ex.o) (cs Ex.mk' e.l):=by
  refine Ex.ind fun e ih hz=>?_;have h:=Ex.sz_inv hz;exact qU0 e.l (fun x hx=>ih x hx (h.2 x hx)) h.1
 exact fun l hl hz=>qU0 l (fun x hx=>key x (hz x hx)) hl
theorem RP0:∀l:List Sm,l.length<=1048576->(∀x∈l,x.sz<=1048576)->MkQ 16 (l.map Sm.o) (cs Sm.mk' l):=by
 have key:∀e:Sm,e.sz<=1048576->MkQ 49 (e.x.map Ex.o) (cs Ex.mk' e.x)/\MkQ 16 (e.a.map Sm.o) (cs Sm.mk' e.a)/\MkQ 16 (e.b.map Sm.o) (cs Sm.mk' e.b):=by
  refine Sm.ind fun e ih hz=>?_;obtain ⟨h1,h2,h3⟩:=Sm.sz_inv hz;exact ⟨yD1 e.x h1.1 h1.2,vY0 e.a (fun x hx=>ih x (List.mem_append_left _ hx) (h2.2 x hx)) h2.1,vY0 e.b (fun x hx=>ih x (List.mem_append_right _ hx) (h3.2 x hx)) h3.1⟩
 exact fun l hl hz=>vY0 l (fun x hx=>key x (hz x hx)) hl
theorem qR1 (l:List Ru) (hl:l.length<=1048576) (hz:∀r∈l,r.sz<=1048576):MkQ 46 (l.map Ru.o) (cs Ru.mk' l):=by
 refine bM0 l (fun r hr=>?_) hl;obtain ⟨h1,h2⟩:=Ru.sz_inv (hz r hr);exact ⟨yD1 r.p.l (Ex.sz_inv h1).1 (Ex.sz_inv h1).2,RP0 r.a (by omega) fun x hx=>by have:=Sm.szs_mem hx;omega⟩
theorem K_FnS (l:List Fu) (hl:l.length<=1048576) (hz:∀r∈l,r.sz<=1048576):MkQ 47 (l.map Fu.o) (cs Fu.mk' l):=by
 refine UE0 l (fun r hr=>?_) hl;obtain ⟨h1,h2⟩:=Fu.sz_inv (hz r hr);exact ⟨jQ0 r.params h1,RP0 r.a (by omega) fun x hx=>by have:=Sm.szs_mem hx;omega⟩
theorem csl {α:Type} (f:α->Nat) (a:α) (l:List α):cs f (a::l)=f a+cs f l:=by simp[cs]
mutual
theorem Ex.mk_le:∀e:Ex,e.mk'<=3+3 * e.sz
 | .mk k n s l=>by
  have h:=Ex.mks_le l;rw[Ex.mk'.eq_1,Ex.mks'_eq,Ex.sz];omega
theorem Ex.mks_le:∀l:List Ex,cs Ex.mk' l<=3 * (l.length+Ex.szs l)
 | []=>by simp[cs]
 | e::l=>by
  have h1:=Ex.mk_le e;have h2:=Ex.mks_le l;rw[csl,Ex.szs,List.length_cons];omega
end
mutual
theorem Sm.mk_le:∀e:Sm,e.mk'<=3+3 * e.sz
 | .mk k s t x a b=>by
  have h:=Ex.mks_le x;have h1:=Sm.mks_le a;have h2:=Sm.mks_le b;rw[Sm.mk'.eq_1,Sm.mks'_eq,Sm.mks'_eq,Sm.sz];omega
theorem Sm.mks_le:∀l:List Sm,cs Sm.mk' l<=3 * (l.length+Sm.szs l)
 | []=>by simp[cs]
 | e::l=>by
  have h1:=Sm.mk_le e;have h2:=Sm.mks_le l;rw[csl,Sm.szs,List.length_cons];omega
end
theorem pV1 (l:List ByteArray):cs str1 l=l.length:=by
 induction l with
 | nil=>rfl
 | cons a l ih=>rw[csl,ih,str1,List.length_cons];omega
theorem Ru.mks_le (l:List Ru):cs Ru.mk' l<=4 * (l.length+Ru.szs l):=by
 induction l with
 | nil=>simp[cs]
 | cons r l ih=>
  have h1:=Ex.mks_le r.p.l;have h2:=Sm.mks_le r.a;have h3:r.p.sz=r.p.s.size+r.p.l.length+Ex.szs r.p.l:=by cases r.p;rw[Ex.sz];rfl
  have h4:=Ru.szs_app [r] l;rw[Ru.szs_one,Ru.sz] at h4;simp only[List.cons_append,List.nil_append] at h4;rw[csl,Ru.mk',List.length_cons];omega
theorem Fu.mks_le (l:List Fu):cs Fu.mk' l<=4 * (l.length+Fu.szs l):=by
 induction l with
 | nil=>simp[cs]
 | cons r l ih=>
  have h1:=pV1 r.params;have h2:=Sm.mks_le r.a;have h4:=Fu.szs_app [r] l;rw[Fu.szs_one,Fu.sz] at h4;simp only[List.cons_append,List.nil_append] at h4;rw[csl,Fu.mk',List.length_cons];omega
theorem qX1 (p:Pg) (hz:p.sz<=1048576) {S:Nat->Prop} {w:World} {u1 u2:Value} {o1 o2:List Nat} (h:OwnP S w p u1 u2 o1 o2) :
  Calls Tryz.prog 15 #[.agg #[u1,u2],.int .i64 1] w fun e w'=>∃n:Nat,n<=10000000/\e=.returned (.int .i64 n)/\Keeps (o1++o2) w w':=by
 obtain ⟨⟨h1,h2⟩,h3,h4⟩:=Pg.sz_inv hz;have b1:=Ru.mks_le p.rules;have b2:=Fu.mks_le p.fns;rw[Pg.sz] at hz;refine (nQ1 _ _ _ _ (qR1 p.rules h1 h2) (K_FnS p.fns h3 h4) S w u1 u2 o1 o2 1 h.r1 h.r2 h.nd h.hS (by omega) (by omega)).mono ?_
 rintro e w' ⟨rfl,hk⟩;exact ⟨1+cs Ru.mk' p.rules+cs Fu.mk' p.fns,by omega,by simp,hk⟩
theorem qW1 (l:List Sm) (hz:l.length+Sm.szs l<=1048576) {S:Nat->Prop} {w:World} {u:Value} {o:List Nat} (h:OwnS S w l u o) (n:Nat) (hn:n<=10000000) :
  Calls Tryz.prog 16 #[u,.int .i64 n] w fun e w'=>∃m:Nat,m<=20000000/\e=.returned (.int .i64 m)/\Keeps o w w':=by
 have b:=Sm.mks_le l;refine (RP0 l (by omega) (fun x hx=>by have:=Sm.szs_mem hx;omega) S w w u o o n h.r (fun _ h=>h) (RepL.lt _ _ _ h.r) (Wk.refl _ _) (by omega) (by omega)).mono ?_
 rintro e w' ⟨rfl,hk⟩;exact ⟨n+cs Sm.mk' l,by omega,by simp,hk.to⟩
theorem tX1 (ad:Option Addr) (cap:Nat) (k:Int) (w:World):Calls Tryz.prog 17 #[.slice ad 0 cap,.int .i64 k] w fun e w'=>e=.returned (.int .i64 k)/\w'=w:=by
 go_enter Tryz.func17,Tryz.ntmps17
 go_wp2
 go_loopw [1,5] (fun v i wr=>i=.int .i64 0/\v=.int .i64 k/\wr=w) (fun _ i _=>0)
 case atStart=>exact ⟨rfl,rfl,rfl⟩
 case round=>
  obtain ⟨rfl,rfl,rfl⟩:=hrel
  go_wp2
  go_ret
  exact ⟨rfl,rfl⟩
theorem rD1 (ad:Option Addr) (cap:Nat) (k:Int) (w:World):Calls Tryz.prog 18 #[.slice ad 0 cap,.int .i64 k] w fun e w'=>e=.returned (.int .i64 k)/\w'=w:=by
 go_enter Tryz.func18,Tryz.ntmps18
 go_wp2
 go_loopw [1,5] (fun v i wr=>i=.int .i64 0/\v=.int .i64 k/\wr=w) (fun _ i _=>0)
 case atStart=>exact ⟨rfl,rfl,rfl⟩
 case round=>
  obtain ⟨rfl,rfl,rfl⟩:=hrel
  go_wp2
  go_ret
  exact ⟨rfl,rfl⟩
def Mkd (w:World) (n:Nat) (v:Value):Prop:=∃ad cap,v=.slice ad n cap/\n<=cap/\(n=0\/∃b off,ad=some ⟨b,off,none⟩/\b < w.heap.size/\∀x:Nat,x < n * 2->w.cell? ⟨b,off+x,none⟩=some (.int .i64 (1+x)))
theorem Mkd.keeps {w w':World} {n:Nat} {v:Value} (h:Mkd w n v) (hk:Keeps [] w w'):Mkd w' n v:=by
 obtain ⟨ad,cap,h1,h2,h3⟩:=h;refine ⟨ad,cap,h1,h2,h3.imp id ?_⟩;rintro ⟨b,off,g1,g2,g3⟩;exact ⟨b,off,g1,Nat.lt_of_lt_of_le g2 hk.size,fun x hx=>by rw[cell?_congr (hk.block b g2 (by simp))];exact g3 x hx⟩
theorem qY1 {w:World} {c:List Ik} {v:Value} {o:List Nat} (h:Flat w c v o) (hc:c.length<=274877906944):Calls Tryz.prog 17 #[v,.int .i64 1] w fun e w'=>e=.returned (.int .i64 (1+2 * c.length))/\Keeps o w w'/\Mkd w' c.length v:=by
 obtain ⟨⟨ad,cap,rfl,h2,h3⟩,_,_⟩:=h;rcases h3 with rfl | ⟨b,off,rfl,g2,g3,g4,g5⟩
 ·refine (tX1 ad cap 1 w).mono ?_
  rintro e w' ⟨rfl,rfl⟩;exact ⟨rfl,Keeps.refl _ _,ad,cap,rfl,h2,.inl rfl⟩
 ·refine (nR1 b off c.length cap 1 w hc h2 (by decide) (by decide) g5 g4).mono ?_
  rintro e w' ⟨rfl,hk,hcell⟩;exact ⟨rfl,⟨hk.os,hk.tape,hk.output,hk.size,fun b' hb hn=>hk.block b' hb (fun hm=>hn (by simp at hm;rw[hm];exact g2))⟩,_,cap,rfl,h2,.inr ⟨b,off,rfl,Nat.lt_of_lt_of_le g3 hk.size,hcell⟩⟩
theorem yH1 {w:World} {n:Nat} {v:Value} (h:Mkd w n v) (hc:n<=274877906944):Calls Tryz.prog 18 #[v,.int .i64 1] w fun e w'=>e=.returned (.int .i64 (1+2 * n))/\Keeps [] w w':=by
 obtain ⟨ad,cap,rfl,h2,h3⟩:=h;rcases h3 with rfl | ⟨b,off,rfl,g3,g4⟩
 ·refine (rD1 ad cap 1 w).mono ?_
  rintro e w' ⟨rfl,rfl⟩;exact ⟨rfl,Keeps.refl _ _⟩
 ·exact mJ1 b off n cap 1 w hc h2 (by decide) (by decide) g4
end Go.Gv
