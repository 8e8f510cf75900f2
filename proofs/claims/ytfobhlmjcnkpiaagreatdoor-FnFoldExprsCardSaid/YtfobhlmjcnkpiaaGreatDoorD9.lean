/- Part D9 of the proof: Which places a machine holds, and how often one of them is there. / Regular expressions as trees: which are right, their texts, and how a text is read what is right is read back of its text. / Reading regular expressions, told backwards: what the parts of the model reader came to, step by step, and what a loop of parts keeps. / The words state as data that is read. / A step of the elder walks, once. / A slice of bytes that is converted to its own type as bytes out of a constant text are laid: it -/
import Derived.Test.YtfobhlmjcnkpiaaGreatDoorD7
import Derived.Test.YtfobhlmjcnkpiaaGreatDoorD5
import Derived.Test.YtfobhlmjcnkpiaaGreatDoorProg
import Derived.KernelRfl
import Derived.Test.YtfobhlmjcnkpiaaGreatDoorD8
import Derived.WalkKit
import Derived.ProofKit
import Derived.OpenShut
import Derived.ShutString
import Derived.ChangeOld
import Derived.Below
set_option linter.all false
/- Which places a machine holds, and how often one of them is there. -/
namespace Go.Gv
open Go.Av
end Go.Gv
/- Regular expressions as trees: which are right, their texts, and how a text is read; what is right is read back of its text. -/
namespace Go.Gv
open Go.Av
inductive Rx where
 | mk (k:Int) (s:ByteArray) (l:List Rx)
 deriving Inhabited
def Rx.k:Rx->Int | .mk k _ _=>k
mutual
def Rx.t:Rx->List T
 | .mk k s l=>[.lit (.int .i64 k),.lit (.string s),.sl (Rx.ts l)]
def Rx.ts:List Rx->List (List T)
 | []=>[]
 | e::l=>Rx.t e::Rx.ts l
end
theorem Rx.ts_map:∀l,Rx.ts l=l.map Rx.t
 | []=>rfl
 | e::l=>by rw[Rx.ts,Rx.ts_map l,List.map_cons]
theorem Rx.t_mk (k:Int) (s:ByteArray) (l:List Rx):(Rx.mk k s l).t=[.lit (.int .i64 k),.lit (.string s),.sl (l.map Rx.t)]:=by rw[Rx.t,Rx.ts_map]
theorem Rx.t_len (e:Rx):e.t.length=3:=by cases e;rw[Rx.t];rfl
inductive Rx.Wf:Rx->Prop where
 | mk {k:Int} {s:ByteArray} {l:List Rx} (hs:s.size<=4611686018427387904) (hl:l.length<=4611686018427387904) (h:∀x∈l,Rx.Wf x):Rx.Wf (.mk k s l)
theorem Rx.Wf.inv {k:Int} {s:ByteArray} {l:List Rx} (h:(Rx.mk k s l).Wf):s.size<=4611686018427387904/\l.length<=4611686018427387904/\∀x∈l,Rx.Wf x:=by
 cases h with | mk h1 h2 h3=>exact ⟨h1,h2,h3⟩
abbrev Bs:=List UInt8
def ofL (l:Bs):ByteArray:=⟨l.toArray⟩
def toL (b:ByteArray):Bs:=b.data.toList
@[simp] theorem uH0 (l:Bs):toL (ofL l)=l:=by simp[toL,ofL]
@[simp] theorem tM0 (b:ByteArray):ofL (toL b)=b:=by simp[toL,ofL]
theorem bG0 (a b:Bs):ofL a++ofL b=ofL (a++b):=by
 apply ByteArray.ext;simp[ofL]
theorem zJ0 (a:ByteArray):(toL a).length=a.size:=Array.length_toList
theorem zP0 (a:Bs):(ofL a).size=a.length:=by rw[<-zJ0,uH0]
def wE0 (c:UInt8):Bool:=(97<=c && c<=122) || (65<=c && c<=90) || (48<=c && c<=57) || c == 32 || c == 95 || c == 45 || c == 44 || c == 58
def NQ0:Bs->Bool
 | a::b::l=>a < b && NQ0 (b::l)
 | _=>true
def setB (l:Bs):Bool:=l.all wE0 && NQ0 l && decide (1<=l.length) && decide (l.length<=10)
def tP0 (k:Int):Bool:=k == 6 || k == 7 || k == 8
def Rx.here (k:Int) (s:ByteArray) (l:List Rx):Prop:=
 (k=1/\(∃c,toL s=[c]/\wE0 c=true)/\l=[])\/(k=3/\setB (toL s)=true/\l=[])\/((k=2\/k=9\/k=10\/k=11)/\s=ofL []/\l=[])\/
 ((k=4\/k=5)/\s=ofL []/\2<=l.length/\l.length<=8/\∀x∈l,x.k≠k)\/((k=6\/k=7\/k=8)/\s=ofL []/\∃x,l=[x]/\tP0 x.k=false)
inductive Rx.ok:Rx->Prop where
 | mk {k:Int} {s:ByteArray} {l:List Rx} (h:Rx.here k s l) (hl:∀x∈l,Rx.ok x):Rx.ok (.mk k s l)
mutual
def Rx.parts:Rx->Nat
 | .mk _ _ l=>1+Rx.partss l
def Rx.partss:List Rx->Nat
 | []=>0
 | e::l=>Rx.parts e+Rx.partss l
end
mutual
def Rx.depth:Rx->Nat
 | .mk _ _ l=>1+Rx.depths l
def Rx.depths:List Rx->Nat
 | []=>0
 | e::l=>max (Rx.depth e) (Rx.depths l)
end
def Rx.good (r:Rx):Prop:=r.ok/\r.parts<=60/\r.depth<=6
mutual
def Rx.txt:Rx->Bs
 | .mk k s l=>if k=1 then toL s else if k=2 then [46] else if k=3 then 91::(toL s++[93]) else if k=4 then Rx.cats l else if k=5 then Rx.alts l
  else if k=6 then Rx.one l++[42] else if k=7 then Rx.one l++[43] else if k=8 then Rx.one l++[63] else if k=10 then [94] else if k=11 then [36] else [40,41]
def Rx.cats:List Rx->Bs
 | []=>[]
 | .mk k s l::r=>(if k=5 then 40::(Rx.txt (.mk k s l)++[41]) else Rx.txt (.mk k s l))++Rx.cats r
def Rx.alts:List Rx->Bs
 | []=>[]
 | [x]=>Rx.txt x
 | x::y::r=>Rx.txt x++124::Rx.alts (y::r)
def Rx.one:List Rx->Bs
 | .mk k s l::_=>if k=4\/k=5 then 40::(Rx.txt (.mk k s l)++[41]) else Rx.txt (.mk k s l)
 | []=>[]
end
def e0:ByteArray:=ofL []
def upTo:Bs->Option (Bs×Bs)
 | []=>none
 | c::r=>if c=93 then some ([],r) else match upTo r with
  | some (a,b)=>some (c::a,b)
  | none=>none
mutual
def mAtom:Nat->Nat->Bs->Option (Rx×Bs)
 | 0,_,_=>none
 | _+1,_,[]=>none
 | n+1,d,c::r=>
  if wE0 c=true then some (.mk 1 (ofL [c]) [],r)
  else if c=46 then some (.mk 2 e0 [],r)
  else if c=94 then some (.mk 10 e0 [],r)
  else if c=36 then some (.mk 11 e0 [],r)
  else if c=91 then match upTo r with
   | some (a,b)=>some (.mk 3 (ofL a) [],b)
   | none=>none
  else if c=40 then match r with
   | []=>none
   | c'::r'=>if c'=41 then some (.mk 9 e0 [],r') else match d with
    | 0=>none
    | d+1=>match mAlt n d (c'::r') with
     | some (x,c''::r'')=>if c''=41 then some (x,r'') else none
     | _=>none
  else none
def mItem:Nat->Nat->Bs->Option (Rx×Bs)
 | 0,_,_=>none
 | n+1,d,l=>match mAtom n d l with
  | none=>none
  | some (x,[])=>some (x,[])
  | some (x,c::r)=>if c=42 then some (.mk 6 e0 [x],r) else if c=43 then some (.mk 7 e0 [x],r) else if c=63 then some (.mk 8 e0 [x],r) else some (x,c::r)
def mItems:Nat->Nat->Bs->Option (List Rx×Bs)
 | 0,_,_=>none
 | _+1,_,[]=>some ([],[])
 | n+1,d,c::r=>if c=124\/c=41 then some ([],c::r) else match mItem n d (c::r) with
  | none=>none
  | some (x,r1)=>match mItems n d r1 with
   | none=>none
   | some (xs,r2)=>some (x::xs,r2)
def mCat:Nat->Nat->Bs->Option (Rx×Bs)
 | 0,_,_=>none
 | n+1,d,l=>match mItems n d l with
  | none=>none
  | some ([],_)=>none
  | some ([x],r)=>some (x,r)
  | some (x::y::xs,r)=>some (.mk 4 e0 (x::y::xs),r)
def mAlts:Nat->Nat->Bs->Option (List Rx×Bs)
 | 0,_,_=>none
 | _+1,_,[]=>some ([],[])
 | n+1,d,c::r=>if c=124 then match mCat n d r with
   | none=>none
   | some (x,r1)=>match mAlts n d r1 with
    | none=>none
    | some (xs,r2)=>some (x::xs,r2)
  else some ([],c::r)
def mAlt:Nat->Nat->Bs->Option (Rx×Bs)
 | 0,_,_=>none
 | n+1,d,l=>match mCat n d l with
  | none=>none
  | some (x,r)=>match mAlts n d r with
   | none=>none
   | some ([],r')=>some (x,r')
   | some (y::xs,r')=>some (.mk 5 e0 (x::y::xs),r')
end
def uY0 (c:UInt8):Prop:=c≠41/\c≠42/\c≠43/\c≠63/\c≠124
theorem RL0 {c:UInt8} (h:wE0 c=true):uY0 c/\c≠46/\c≠94/\c≠36/\c≠91/\c≠40/\c≠93:=by
 refine ⟨⟨?_,?_,?_,?_,?_⟩,?_,?_,?_,?_,?_,?_⟩<;>(rintro rfl;exact absurd h (by decide))
theorem Rx.ok_inv {k:Int} {s:ByteArray} {l:List Rx} (h:(Rx.mk k s l).ok):Rx.here k s l/\∀x∈l,Rx.ok x:=by
 cases h with | mk h hl=>exact ⟨h,hl⟩
theorem Rx.parts_pos (r:Rx):1<=r.parts:=by cases r;rw[Rx.parts];omega
theorem Rx.parts_mem:∀{l:List Rx} {x:Rx},x∈l->x.parts<=Rx.partss l
 | [],x,h=>by simp at h
 | y::l,x,h=>by
  rw[Rx.partss];rcases List.mem_cons.1 h with rfl | h
  ·omega
  ·have:=Rx.parts_mem h;omega
theorem Rx.depth_mem:∀{l:List Rx} {x:Rx},x∈l->x.depth<=Rx.depths l
 | [],x,h=>by simp at h
 | y::l,x,h=>by
  rw[Rx.depths];rcases List.mem_cons.1 h with rfl | h
  ·omega
  ·have:=Rx.depth_mem h;omega
def Rx.unit (x:Rx):Bs:=if x.k=5 then 40::(x.txt++[41]) else x.txt
theorem Rx.cats_cons (x:Rx) (l:List Rx):Rx.cats (x::l)=x.unit++Rx.cats l:=by
 obtain ⟨k,s,l'⟩:=x;rw[Rx.cats];rfl
theorem Rx.one_cons (x:Rx) (l:List Rx):Rx.one (x::l)=if x.k=4\/x.k=5 then 40::(x.txt++[41]) else x.txt:=by
 obtain ⟨k,s,l'⟩:=x;rw[Rx.one];rfl
theorem Rx.head_ok:∀(m:Nat) (y:Rx),y.parts<=m->y.ok->∃c r,y.txt=c::r/\uY0 c
 | 0,y,h,_=>by have:=y.parts_pos;omega
 | m+1,.mk k s l,h,hy=>by
  obtain ⟨hh,hl⟩:=Rx.ok_inv hy;rw[Rx.parts] at h;have ih:∀x∈l,∃c r,x.txt=c::r/\uY0 c:=fun x hx=>Rx.head_ok m x (by have:=Rx.parts_mem hx;omega) (hl x hx)
  rcases hh with ⟨rfl,⟨c,hc,hb⟩,rfl⟩ | ⟨rfl,_,rfl⟩ | ⟨hk,rfl,rfl⟩ | ⟨hk,rfl,h2,h8,hne⟩ | ⟨hk,rfl,x,rfl,hx⟩
  ·exact ⟨c,[],by rw[Rx.txt,if_pos rfl,hc],(RL0 hb).1⟩
  ·exact ⟨91,_,by rw[Rx.txt];rfl,by unfold uY0;decide⟩
  ·rcases hk with rfl | rfl | rfl | rfl<;>exact ⟨_,_,by rw[Rx.txt];rfl,by unfold uY0;decide⟩
  ·match l,h2,ih with
   | x::y::r,_,ih=>
    obtain ⟨c,r',hc,hn⟩:=ih x List.mem_cons_self;rcases hk with rfl | rfl
    ·rw[Rx.txt]
     simp only[Rx.cats_cons,Rx.unit,show ¬(4:Int)=1 by decide,show ¬(4:Int)=2 by decide,show ¬(4:Int)=3 by decide,if_true,if_false]
     split
     ·exact ⟨40,_,rfl,by unfold uY0;decide⟩
     ·exact ⟨c,_,by rw[hc];rfl,hn⟩
    ·rw[Rx.txt]
     simp only[Rx.alts,show ¬(5:Int)=1 by decide,show ¬(5:Int)=2 by decide,show ¬(5:Int)=3 by decide,show ¬(5:Int)=4 by decide,if_true,if_false]
     exact ⟨c,_,by rw[hc];rfl,hn⟩
  ·obtain ⟨c,r',hc,hn⟩:=ih x List.mem_cons_self
   have:∃d,(Rx.mk k (ofL []) [x]).txt=Rx.one [x]++[d]:=by
    rcases hk with rfl | rfl | rfl<;>exact ⟨_,by rw[Rx.txt];rfl⟩
   obtain ⟨d,hd⟩:=this;rw[hd,Rx.one_cons]
   split
   ·exact ⟨40,_,rfl,by unfold uY0;decide⟩
   ·exact ⟨c,_,by rw[hc];rfl,hn⟩
theorem RD0:∀(a b:Bs),(∀c∈a,c≠93)->upTo (a++93::b)=some (a,b)
 | [],b,_=>by simp[upTo]
 | c::a,b,h=>by
  rw[List.cons_append,upTo,if_neg (h c List.mem_cons_self),RD0 a b fun x hx=>h x (List.mem_cons_of_mem _ hx)]
def endA (p:Bs):Prop:=p=[]\/∃r,p=41::r
def endC (p:Bs):Prop:=p=[]\/(∃r,p=41::r)\/∃r,p=124::r
def endI (p:Bs):Prop:=p=[]\/∃c r,p=c::r/\c≠42/\c≠43/\c≠63
theorem JM0:wE0 40=false:=by decide
theorem UC0:wE0 91=false:=by decide
theorem uC0 {k:Int} {s:ByteArray} (hh:Rx.here k s []) (n d:Nat) (p:Bs):mAtom (n+1) d ((Rx.mk k s []).txt++p)=some (.mk k s [],p):=by
 rcases hh with ⟨rfl,⟨c,hc,hb⟩,_⟩ | ⟨rfl,hs,_⟩ | ⟨hk,rfl,_⟩ | ⟨_,_,h2,_⟩ | ⟨_,_,x,hx,_⟩
 ·rw[Rx.txt,if_pos rfl,hc,List.singleton_append,mAtom.eq_def]
  simp only[if_pos hb,<-hc,tM0]
 ·have hn:∀c∈toL s,c≠93:=by
   intro c hc;simp only[setB,Bool.and_eq_true,List.all_eq_true] at hs;exact (RL0 (hs.1.1.1 c hc)).2.2.2.2.2.2
  have e:(Rx.mk 3 s []).txt++p=91::(toL s++93::p):=by rw[Rx.txt];simp
  rw[e,mAtom.eq_def];simp[UC0,RD0 _ _ hn]
 ·rcases hk with rfl | rfl | rfl | rfl
  ·have e:(Rx.mk 2 (ofL []) []).txt++p=46::p:=by rw[Rx.txt];rfl
   rw[e,mAtom.eq_def];rfl
  ·have e:(Rx.mk 9 (ofL []) []).txt++p=40::41::p:=by rw[Rx.txt];rfl
   rw[e,mAtom.eq_def];rfl
  ·have e:(Rx.mk 10 (ofL []) []).txt++p=94::p:=by rw[Rx.txt];rfl
   rw[e,mAtom.eq_def];rfl
  ·have e:(Rx.mk 11 (ofL []) []).txt++p=36::p:=by rw[Rx.txt];rfl
   rw[e,mAtom.eq_def];rfl
 ·simp at h2
 ·simp at hx
theorem KD0 {y:Rx} {n d:Nat} {p:Bs} (hh:∃c r,y.txt=c::r/\uY0 c) (h:mAlt n d (y.txt++41::p)=some (y,41::p)):mAtom (n+1) (d+1) (40::(y.txt++[41])++p)=some (y,p):=by
 obtain ⟨c,r,hc,hn⟩:=hh;have e:40::(y.txt++[41])++p=40::c::(r++41::p):=by rw[hc];simp
 have e2:y.txt++41::p=c::(r++41::p):=by rw[hc];rfl
 rw[e2] at h;rw[e,mAtom,JM0];simp only[Bool.false_eq_true,if_false,show ¬(40:UInt8)=46 by decide,show ¬(40:UInt8)=94 by decide,show ¬(40:UInt8)=36 by decide,show ¬(40:UInt8)=91 by decide,if_true,if_neg hn.1,h]
theorem pA0 {x:Rx} {n d:Nat} {l p:Bs} (h:mAtom n d l=some (x,p)) (hp:endI p):mItem (n+1) d l=some (x,p):=by
 rw[mItem,h];rcases hp with rfl | ⟨c,r,rfl,h1,h2,h3⟩
 ·rfl
 ·simp only[if_neg h1,if_neg h2,if_neg h3]
theorem XQ0 {n d:Nat} {p:Bs} (hp:endC p):mItems (n+1) d p=some ([],p):=by
 rcases hp with rfl | ⟨r,rfl⟩ | ⟨r,rfl⟩<;>rw[mItems.eq_def]<;>simp
theorem fX0 {n d:Nat} {l r1 r2:Bs} {x:Rx} {xs:List Rx} (hl:∃c r,l=c::r/\c≠124/\c≠41) (h1:mItem n d l=some (x,r1)) (h2:mItems n d r1=some (xs,r2)):mItems (n+1) d l=some (x::xs,r2):=by
 obtain ⟨c,r,rfl,h3,h4⟩:=hl;rw[mItems.eq_def];simp only[h3,h4,or_self,if_false,h1,h2]
theorem PU0 {n d:Nat} {p:Bs} (hp:endA p):mAlts (n+1) d p=some ([],p):=by
 rcases hp with rfl | ⟨r,rfl⟩<;>rw[mAlts.eq_def]<;>simp
theorem VL0 {n d:Nat} {l r1 r2:Bs} {x:Rx} {xs:List Rx} (h1:mCat n d l=some (x,r1)) (h2:mAlts n d r1=some (xs,r2)):mAlts (n+1) d (124::l)=some (x::xs,r2):=by
 rw[mAlts.eq_def];simp only[if_true,h1,h2]
def zQ1 (y:Rx):Prop:=∀n d p,endA p->y.depth<=d+1->7 * y.txt.length+3<=n->mAlt n d (y.txt++p)=some (y,p)
def vA1 (y:Rx):Prop:=y.k≠5->∀n d p,endC p->y.depth<=d+1->7 * y.txt.length+2<=n->mCat n d (y.txt++p)=some (y,p)
def zP1 (y:Rx):Prop:=y.k≠4->y.k≠5->∀n d p,endI p->y.depth<=d+1->7 * y.txt.length<=n->mItem n d (y.txt++p)=some (y,p)
theorem Rx.ok_head {y:Rx} (h:y.ok):∃c r,y.txt=c::r/\uY0 c:=Rx.head_ok _ y (Nat.le_refl _) h
theorem Rx.txt_pos {y:Rx} (h:y.ok):1<=y.txt.length:=by
 obtain ⟨c,r,hc,_⟩:=Rx.ok_head h;rw[hc];simp
theorem Rx.unit_head {y:Rx} (h:y.ok):∃c r,y.unit=c::r/\uY0 c:=by
 unfold Rx.unit
 split
 ·exact ⟨40,_,rfl,by unfold uY0;decide⟩
 ·exact Rx.ok_head h
theorem Rx.depth_pos (y:Rx):1<=y.depth:=by cases y;rw[Rx.depth];omega
theorem fZ0 {x:Rx} (hx:x.ok) (hA:zQ1 x) {n d:Nat} {p:Bs} (hd:x.depth<=d) (hn:7 * x.txt.length+4<=n):mAtom n d (40::(x.txt++[41])++p)=some (x,p):=by
 have:=x.depth_pos;obtain ⟨d,rfl⟩:∃e,d=e+1:=⟨d - 1,by omega⟩
 obtain ⟨n,rfl⟩:∃m,n=m+1:=⟨n - 1,by omega⟩
 exact KD0 (Rx.ok_head hx) (hA n d (41::p) (.inr ⟨p,rfl⟩) hd (by omega))
theorem KU0 {x:Rx} (hx:x.ok) (hk:x.k≠4) (hA:zQ1 x) (hC:zP1 x) {n d:Nat} {p:Bs} (hp:endI p) (hd:x.depth<=d) (hn:7 * x.unit.length<=n):mItem n d (x.unit++p)=some (x,p):=by
 by_cases h5:x.k=5
 ·simp only[Rx.unit,if_pos h5,List.length_cons,List.length_append,List.length_nil] at hn |-
  obtain ⟨n,rfl⟩:∃m,n=m+1:=⟨n - 1,by omega⟩
  exact pA0 (fZ0 hx hA hd (by omega)) hp
 ·simp only[Rx.unit,if_neg h5] at hn |-
  exact hC hk h5 n d p hp (by omega) hn
theorem FJ0 {p:Bs} (h:endA p):endC p:=by
 rcases h with rfl | ⟨r,rfl⟩
 ·exact .inl rfl
 ·exact .inr (.inl ⟨_,rfl⟩)
theorem FH0 {p:Bs} (h:endC p):endI p:=by
 rcases h with rfl | ⟨r,rfl⟩ | ⟨r,rfl⟩
 ·exact .inl rfl
 ·exact .inr ⟨41,r,rfl,by decide,by decide,by decide⟩
 ·exact .inr ⟨124,r,rfl,by decide,by decide,by decide⟩
theorem xR1 {c:UInt8} {r p:Bs} (h:uY0 c):endI (c::r++p):=.inr ⟨c,r++p,rfl,h.2.1,h.2.2.1,h.2.2.2.1⟩
theorem fY0:∀(xs:List Rx) {n d:Nat} {p:Bs},(∀x∈xs,x.ok/\x.k≠4/\zQ1 x/\zP1 x/\x.depth<=d)->endC p->7 * (Rx.cats xs).length+1<=n->mItems n d (Rx.cats xs++p)=some (xs,p)
 | [],n,d,p,_,hp,hn=>by
  obtain ⟨n,rfl⟩:∃m,n=m+1:=⟨n - 1,by omega⟩
  exact XQ0 hp
 | x::xs,n,d,p,h,hp,hn=>by
  obtain ⟨n,rfl⟩:∃m,n=m+1:=⟨n - 1,by omega⟩
  obtain ⟨h1,h2,h3,h4,h5⟩:=h x List.mem_cons_self;obtain ⟨c,r,hc,hno⟩:=Rx.unit_head h1;have hlen:1<=x.unit.length:=by rw[hc];simp
  rw[Rx.cats_cons,List.append_assoc];rw[Rx.cats_cons,List.length_append] at hn;refine fX0 ⟨c,r++(Rx.cats xs++p),by rw[hc];rfl,hno.2.2.2.2,hno.1⟩ (KU0 h1 h2 h3 h4 ?_ h5 (by omega)) (fY0 xs (fun y hy=>h y (List.mem_cons_of_mem _ hy)) hp (by omega))
  cases xs with
  | nil=>simp only[Rx.cats,List.nil_append];exact FH0 hp
  | cons y ys=>
   obtain ⟨c',r',hc',hno'⟩:=Rx.unit_head (h y (List.mem_cons_of_mem _ List.mem_cons_self)).1;rw[Rx.cats_cons,hc',List.append_assoc];exact xR1 hno'
theorem VM0:∀(xs:List Rx) {n d:Nat} {p:Bs},xs≠[]->(∀x∈xs,x.ok/\x.k≠5/\vA1 x/\x.depth<=d)->endA p->7 * (Rx.alts xs).length+8<=n->mAlts n d (124::(Rx.alts xs++p))=some (xs,p)
 | [],n,d,p,h0,_,_,_=>absurd rfl h0
 | [x],n,d,p,_,h,hp,hn=>by
  obtain ⟨n,rfl⟩:∃m,n=m+2:=⟨n - 2,by omega⟩
  obtain ⟨h1,h2,h3,h4⟩:=h x List.mem_cons_self;rw[Rx.alts] at hn |-;exact VL0 (h3 h2 (n+1) d p (FJ0 hp) (by omega) (by omega)) (PU0 hp)
 | x::y::xs,n,d,p,_,h,hp,hn=>by
  obtain ⟨n,rfl⟩:∃m,n=m+1:=⟨n - 1,by omega⟩
  obtain ⟨h1,h2,h3,h4⟩:=h x List.mem_cons_self;rw[Rx.alts,List.length_append,List.length_cons] at hn;have:=Rx.txt_pos h1;rw[Rx.alts,List.append_assoc,List.cons_append];exact VL0 (h3 h2 n d _ (.inr (.inr ⟨_,rfl⟩)) (by omega) (by omega)) (VM0 (y::xs) (by simp) (fun z hz=>h z (List.mem_cons_of_mem _ hz)) hp (by omega))
theorem Rx.comp:∀(m:Nat) (y:Rx),y.parts<=m->y.ok->zQ1 y/\vA1 y/\zP1 y
 | 0,y,h,_=>by have:=y.parts_pos;omega
 | m+1,.mk k s l,h,hy=>by
  obtain ⟨hh,hl⟩:=Rx.ok_inv hy;rw[Rx.parts] at h;have ih:∀x∈l,zQ1 x/\vA1 x/\zP1 x:=fun x hx=>Rx.comp m x (by have:=Rx.parts_mem hx;omega) (hl x hx)
  have hdep:∀x∈l,x.depth+1<=(Rx.mk k s l).depth:=fun x hx=>by have:=Rx.depth_mem hx;rw[Rx.depth];omega
  have hC:zP1 (.mk k s l):=by
   intro hk4 hk5 n d p hp hd hn;simp only[Rx.k] at hk4 hk5;have hpos:=Rx.txt_pos hy;obtain ⟨n,rfl⟩:∃m,n=m+2:=⟨n - 2,by omega⟩
   rcases hh with h1 | h1 | h1 | ⟨hk,_⟩ | ⟨hk,rfl,x,rfl,hx⟩
   ·have e:l=[]:=h1.2.2
    subst e;exact pA0 (uC0 (.inl h1) n d p) hp
   ·have e:l=[]:=h1.2.2
    subst e;exact pA0 (uC0 (.inr (.inl h1)) n d p) hp
   ·have e:l=[]:=h1.2.2
    subst e;exact pA0 (uC0 (.inr (.inr (.inl h1))) n d p) hp
   ·rcases hk with rfl | rfl
    ·exact absurd rfl hk4
    ·exact absurd rfl hk5
   ·have hxo:=hl x List.mem_cons_self
    have hxd:=hdep x List.mem_cons_self;obtain ⟨ihA,_,ihC⟩:=ih x List.mem_cons_self;have key:∃c,(Rx.mk k (ofL []) [x]).txt=Rx.one [x]++[c]/\((k=6/\c=42)\/(k=7/\c=43)\/(k=8/\c=63)):=by
     rcases hk with rfl | rfl | rfl
     ·exact ⟨42,by rw[Rx.txt];rfl,by decide⟩
     ·exact ⟨43,by rw[Rx.txt];rfl,by decide⟩
     ·exact ⟨63,by rw[Rx.txt];rfl,by decide⟩
    obtain ⟨c,hc,hkc⟩:=key;rw[hc,List.length_append,List.length_singleton] at hn;rw[hc,List.append_assoc,List.singleton_append];have hat:mAtom (n+1) d (Rx.one [x]++c::p)=some (x,c::p):=by
     rw[Rx.one_cons] at hn |-
     by_cases hx45:x.k=4\/x.k=5
     ·rw[if_pos hx45] at hn |-
      simp only[List.length_cons,List.length_append,List.length_nil] at hn;exact fZ0 hxo ihA (by omega) (by omega)
     ·rw[if_neg hx45] at hn |-
      obtain ⟨xk,xs,xl⟩:=x;obtain ⟨hxh,_⟩:=Rx.ok_inv hxo;simp only[Rx.k] at hx hx45;rcases hxh with h1 | h1 | h1 | ⟨h1,_⟩ | ⟨h1,_⟩
      ·have e:xl=[]:=h1.2.2
       subst e;exact uC0 (.inl h1) n d _
      ·have e:xl=[]:=h1.2.2
       subst e;exact uC0 (.inr (.inl h1)) n d _
      ·have e:xl=[]:=h1.2.2
       subst e;exact uC0 (.inr (.inr (.inl h1))) n d _
      ·exact absurd h1 hx45
      ·rcases h1 with rfl | rfl | rfl<;>exact absurd hx (by decide)
    rw[mItem,hat];rcases hkc with ⟨rfl,rfl⟩ | ⟨rfl,rfl⟩ | ⟨rfl,rfl⟩<;>rfl
  have hB:vA1 (.mk k s l):=by
   intro hk5 n d p hp hd hn;simp only[Rx.k] at hk5;have hpos:=Rx.txt_pos hy;obtain ⟨n,rfl⟩:∃m,n=m+3:=⟨n - 3,by omega⟩
   by_cases hk4:k=4
   ·subst hk4
    rcases hh with ⟨h1,_⟩ | ⟨h1,_⟩ | ⟨h1,_⟩ | ⟨_,rfl,h2,h8,hne⟩ | ⟨h1,_⟩<;>try exact absurd h1 (by decide)
    have e:(Rx.mk 4 (ofL []) l).txt=Rx.cats l:=by rw[Rx.txt];rfl
    rw[e] at hn |-;have:=fY0 l (n:=n+2) (d:=d) (p:=p) (fun x hx=>⟨hl x hx,hne x hx,(ih x hx).1,(ih x hx).2.2,by have:=hdep x hx;omega⟩) hp (by omega)
    rw[mCat,this]
    match l,h2 with
    | x::y::r,_=>rfl
   ·obtain ⟨c,r,hc,hno⟩:=Rx.ok_head hy
    have h1:=hC hk4 hk5 (n+1) d p (FH0 hp) hd (by omega)
    have h2:=fX0 ⟨c,r++p,by rw[hc];rfl,hno.2.2.2.2,hno.1⟩ h1 (XQ0 hp)
    rw[mCat,h2]
  refine ⟨?_,hB,hC⟩;intro n d p hp hd hn;have hpC:endC p:=FJ0 hp;obtain ⟨n,rfl⟩:∃m,n=m+2:=⟨n - 2,by omega⟩
  by_cases hk5:k=5
  ·subst hk5
   rcases hh with ⟨h1,_⟩ | ⟨h1,_⟩ | ⟨h1,_⟩ | ⟨_,rfl,h2,h8,hne⟩ | ⟨h1,_⟩<;>try exact absurd h1 (by decide)
   have e:(Rx.mk 5 (ofL []) l).txt=Rx.alts l:=by rw[Rx.txt];rfl
   rw[e] at hn |-
   match l,h2,hl,ih,hdep,hne with
   | x::y::r,_,hl,ih,hdep,hne=>
    rw[Rx.alts,List.length_append,List.length_cons] at hn;rw[Rx.alts,List.append_assoc,List.cons_append];have hx:=Rx.txt_pos (hl x List.mem_cons_self);have h1:=(ih x List.mem_cons_self).2.1 (hne x List.mem_cons_self) (n+1) d (124::(Rx.alts (y::r)++p)) (.inr (.inr ⟨_,rfl⟩)) (by have:=hdep x List.mem_cons_self;omega) (by omega)
    have h2:=VM0 (y::r) (n:=n+1) (d:=d) (p:=p) (by simp) (fun z hz=>⟨hl z (List.mem_cons_of_mem _ hz),hne z (List.mem_cons_of_mem _ hz),(ih z (List.mem_cons_of_mem _ hz)).2.1,by have:=hdep z (List.mem_cons_of_mem _ hz);omega⟩) hp (by omega)
    rw[mAlt,h1];simp only[h2]
    rfl
  ·have h1:=hB hk5 (n+1) d p hpC hd (by omega)
   rw[mAlt,h1];simp only[PU0 hp]
end Go.Gv
/- Reading regular expressions, told backwards: what the parts of the model reader came to, step by step, and what a loop of parts keeps. -/
namespace Go.Gv
open Go.Av
def mGroup (n d:Nat) (l:Bs):Option (Rx×Bs):=match l with
 | []=>none
 | c::r=>if c=41 then some (.mk 9 e0 [],r) else match d with
  | 0=>none
  | d+1=>match mAlt n d (c::r) with
   | some (x,c'::r')=>if c'=41 then some (x,r') else none
   | _=>none
theorem vE0 {n D:Nat} {l:Bs} {y:Rx} {rest:Bs} (h:mGroup n D l=some (y,rest)) :
  (l=41::rest/\y=.mk 9 e0 [])\/∃D',D=D' + 1/\(∀r,l≠41::r)/\l≠[]/\mAlt n D' l=some (y,41::rest):=by
 cases l with
 | nil=>simp[mGroup] at h
 | cons c r=>
  rw[mGroup.eq_def] at h;simp only at h
  split at h
  ·rename_i hc;simp only[Option.some.injEq,Prod.mk.injEq] at h;exact .inl ⟨by rw[hc,h.2],h.1.symm⟩
  rename_i hc;cases D with
  | zero=>simp at h
  | succ D=>
   refine .inr ⟨D,rfl,fun r' he=>hc (by simpa using (List.cons.inj he).1),by simp,?_⟩
   simp only at h
   split at h
   ·rename_i x c' r' hm
    split at h
    ·rename_i hc';simp only[Option.some.injEq,Prod.mk.injEq] at h;rw[hm,h.1,hc',h.2]
    ·simp at h
   ·simp at h
def gL0 (D:Nat) (l:Bs) (x:Rx) (bad:Bool) (out:Bs):Prop:=∀n y rest,mAtom n D l=some (y,rest)->x=y/\bad=false/\rest=out
def kF1 (D:Nat) (l:Bs) (x:Rx) (bad:Bool) (out:Bs):Prop:=∀n y rest,mGroup n D l=some (y,rest)->x=y/\bad=false/\rest=out
theorem PQ0 {D:Nat} {x:Rx} {bad:Bool} {out:Bs}:gL0 D [] x bad out:=by
 intro n y rest h;cases n<;>rw[mAtom.eq_def] at h<;>simp at h
theorem VJ0 {D:Nat} {c:UInt8} {r:Bs} (hc:wE0 c=true):gL0 D (c::r) (.mk 1 (ofL [c]) []) false r:=by
 intro n y rest h;cases n with
 | zero=>rw[mAtom.eq_def] at h;simp at h
 | succ n=>
  rw[mAtom.eq_def] at h;simp only[if_pos hc,Option.some.injEq,Prod.mk.injEq] at h;exact ⟨h.1,rfl,h.2.symm⟩
theorem pQ1:wE0 46=false:=by decide
theorem pP1:wE0 94=false:=by decide
theorem pR1:wE0 36=false:=by decide
theorem PT0 {D:Nat} {r:Bs}:gL0 D (46::r) (.mk 2 e0 []) false r:=by
 intro n y rest h;cases n with
 | zero=>rw[mAtom.eq_def] at h;simp at h
 | succ n=>
  rw[mAtom.eq_def] at h;simp[pQ1] at h;exact ⟨h.1,rfl,h.2.symm⟩
theorem dP0 {D:Nat} {r:Bs}:gL0 D (94::r) (.mk 10 e0 []) false r:=by
 intro n y rest h;cases n with
 | zero=>rw[mAtom.eq_def] at h;simp at h
 | succ n=>
  rw[mAtom.eq_def] at h;simp[pP1] at h;exact ⟨h.1,rfl,h.2.symm⟩
theorem PR0 {D:Nat} {r:Bs}:gL0 D (36::r) (.mk 11 e0 []) false r:=by
 intro n y rest h;cases n with
 | zero=>rw[mAtom.eq_def] at h;simp at h
 | succ n=>
  rw[mAtom.eq_def] at h;simp[pR1] at h;exact ⟨h.1,rfl,h.2.symm⟩
theorem pT0 {D:Nat} {r:Bs} {x:Rx} {bad:Bool} {out:Bs} (h0:kF1 D r x bad out):gL0 D (40::r) x bad out:=by
 intro n y rest h;cases n with
 | zero=>rw[mAtom.eq_def] at h;simp at h
 | succ n=>
  rw[mAtom.eq_def] at h;simp[JM0] at h;refine h0 n y rest ?_;unfold mGroup;exact h
theorem PP0 {D:Nat} {r a b:Bs} (hu:upTo r=some (a,b)):gL0 D (91::r) (.mk 3 (ofL a) []) false b:=by
 intro n y rest h;cases n with
 | zero=>rw[mAtom.eq_def] at h;simp at h
 | succ n=>
  rw[mAtom.eq_def] at h;simp[UC0,hu] at h;exact ⟨h.1,rfl,h.2.symm⟩
theorem dN0 {D:Nat} {r:Bs} {x:Rx} {bad:Bool} {out:Bs} (hu:upTo r=none):gL0 D (91::r) x bad out:=by
 intro n y rest h;cases n with
 | zero=>rw[mAtom.eq_def] at h;simp at h
 | succ n=>
  rw[mAtom.eq_def] at h;simp[UC0,hu] at h
theorem pU0 {D:Nat} {c:UInt8} {r:Bs} {x:Rx} {bad:Bool} {out:Bs} (h1:c≠46) (h2:c≠94) (h3:c≠36) (h4:c≠40) (h5:¬wE0 c=true) (h6:c≠91):gL0 D (c::r) x bad out:=by
 intro n y rest h;cases n with
 | zero=>rw[mAtom.eq_def] at h;simp at h
 | succ n=>
  rw[mAtom.eq_def] at h;simp[h1,h2,h3,h4,h5,h6] at h
theorem kV0 {t:Bs}:∀(k f:Nat),(∀q,f<=q->q < f+k->t[q]?≠some 93)->t[f+k]?=some 93->upTo (t.drop f)=some ((t.drop f).take k,t.drop (f+k+1))
 | 0,f,_,h=>by
  have hlt:f < t.length:=(List.getElem?_eq_some_iff.1 h).1;have he:t[f]=93:=(List.getElem?_eq_some_iff.1 h).2;rw[List.drop_eq_getElem_cons hlt,upTo,if_pos he];rfl
 | k+1,f,h1,h2=>by
  have hlt0:f+(k+1) < t.length:=(List.getElem?_eq_some_iff.1 h2).1;have hlt:f < t.length:=by omega
  have hne:t[f]≠93:=fun he=>h1 f (Nat.le_refl _) (by omega) (by rw[List.getElem?_eq_getElem hlt,he])
  have ih:=kV0 k (f+1) (fun q a b=>h1 q (by omega) (by omega)) (by rw[show f+1+k=f+(k+1) by omega];exact h2)
  rw[List.drop_eq_getElem_cons hlt,upTo,if_neg hne,ih,List.take_succ_cons,show f+1+k+1=f+(k+1)+1 by omega]
theorem kW0:∀{l:Bs},(∀c∈l,c≠93)->upTo l=none
 | [],_=>rfl
 | c::l,h=>by rw[upTo,if_neg (h c List.mem_cons_self),kW0 fun x hx=>h x (List.mem_cons_of_mem _ hx)]
theorem YM0 {t:Bs} {f:Nat} (h:∀q,f<=q->q < t.length->t[q]?≠some 93):upTo (t.drop f)=none:=by
 refine kW0 fun c hc he=>?_;obtain ⟨q,hq,hg⟩:=List.getElem_of_mem hc;rw[List.length_drop] at hq;rw[List.getElem_drop] at hg;exact h (f+q) (by omega) (by omega) (by rw[List.getElem?_eq_getElem (by omega),hg,he])
theorem drop_cons {t:Bs} {j:Nat} {c:UInt8} (h:t[j]?=some c):t.drop j=c::t.drop (j+1):=by
 have hlt:j < t.length:=(List.getElem?_eq_some_iff.1 h).1;rw[List.drop_eq_getElem_cons hlt,(List.getElem?_eq_some_iff.1 h).2]
def kP0 (k:Int):List Rx->Rx
 | [x]=>x
 | xs=>.mk k e0 xs
theorem yG0 (k:Int) (x:Rx):kP0 k [x]=x:=rfl
theorem zV0 {k:Int} {xs:List Rx} (h:xs.length≠1):kP0 k xs=.mk k e0 xs:=by
 match xs,h with
 | [],_=>rfl
 | [x],h=>exact absurd rfl h
 | x::y::r,_=>rfl
theorem QA0 {n d:Nat} {l:Bs} {y:Rx} {rest:Bs} (h:mCat n d l=some (y,rest)):∃m xs,mItems m d l=some (xs,rest)/\xs≠[]/\y=kP0 4 xs:=by
 cases n with
 | zero=>rw[mCat.eq_def] at h;simp at h
 | succ n=>
  rw[mCat] at h
  split at h
  ·simp at h
  ·simp at h
  ·rename_i x r hm;simp only[Option.some.injEq,Prod.mk.injEq] at h;exact ⟨n,[x],by rw[hm,h.2],by simp,h.1.symm⟩
  ·rename_i x z xs r hm;simp only[Option.some.injEq,Prod.mk.injEq] at h;exact ⟨n,x::z::xs,by rw[hm,h.2],by simp,h.1.symm⟩
theorem yX1 {n d:Nat} {l:Bs} {y:Rx} {rest:Bs} (h:mAlt n d l=some (y,rest)):∃m x r xs,mCat m d l=some (x,r)/\mAlts m d r=some (xs,rest)/\y=kP0 5 (x::xs):=by
 cases n with
 | zero=>rw[mAlt.eq_def] at h;simp at h
 | succ n=>
  rw[mAlt] at h
  split at h
  ·simp at h
  rename_i x r hm
  split at h
  ·simp at h
  ·rename_i r' hn;simp only[Option.some.injEq,Prod.mk.injEq] at h;exact ⟨n,x,r,[],hm,by rw[hn,h.2],h.1.symm⟩
  ·rename_i z xs r' hn;simp only[Option.some.injEq,Prod.mk.injEq] at h;exact ⟨n,x,r,z::xs,hm,by rw[hn,h.2],h.1.symm⟩
theorem rB0 {n d:Nat} {l:Bs} {ys:List Rx} {rest:Bs} (h:mItems n d l=some (ys,rest)) :
  (ys=[]/\rest=l/\(l=[]\/∃c r,l=c::r/\(c=124\/c=41)))\/
  ∃m c r x xs r1,l=c::r/\c≠124/\c≠41/\mItem m d l=some (x,r1)/\mItems m d r1=some (xs,rest)/\ys=x::xs:=by
 cases n with
 | zero=>rw[mItems.eq_def] at h;simp at h
 | succ n=>
  cases l with
  | nil=>rw[mItems] at h;simp only[Option.some.injEq,Prod.mk.injEq] at h;exact .inl ⟨h.1.symm,h.2.symm,.inl rfl⟩
  | cons c r=>
   rw[mItems] at h
   split at h
   ·rename_i hc;simp only[Option.some.injEq,Prod.mk.injEq] at h;exact .inl ⟨h.1.symm,h.2.symm,.inr ⟨c,r,rfl,hc⟩⟩
   rename_i hc
   split at h
   ·simp at h
   rename_i x r1 hm
   split at h
   ·simp at h
   rename_i xs r2 hn;simp only[Option.some.injEq,Prod.mk.injEq] at h;exact .inr ⟨n,c,r,x,xs,r1,rfl,fun e=>hc (.inl e),fun e=>hc (.inr e),hm,by rw[hn,h.2],h.1.symm⟩
theorem XG0 {n d:Nat} {l:Bs} {ys:List Rx} {rest:Bs} (h:mAlts n d l=some (ys,rest)) :
  (ys=[]/\rest=l/\∀r,l≠124::r)\/∃m r x xs r1,l=124::r/\mCat m d r=some (x,r1)/\mAlts m d r1=some (xs,rest)/\ys=x::xs:=by
 cases n with
 | zero=>rw[mAlts.eq_def] at h;simp at h
 | succ n=>
  cases l with
  | nil=>rw[mAlts] at h;simp only[Option.some.injEq,Prod.mk.injEq] at h;exact .inl ⟨h.1.symm,h.2.symm,by simp⟩
  | cons c r=>
   rw[mAlts] at h
   split at h
   ·rename_i hc
    split at h
    ·simp at h
    rename_i x r1 hm
    split at h
    ·simp at h
    rename_i xs r2 hn;simp only[Option.some.injEq,Prod.mk.injEq] at h;exact .inr ⟨n,r,x,xs,r1,by rw[hc],hm,by rw[hn,h.2],h.1.symm⟩
   ·rename_i hc;simp only[Option.some.injEq,Prod.mk.injEq] at h
    exact .inl ⟨h.1.symm,h.2.symm,fun r' he=>hc (by simpa using (List.cons.inj he).1)⟩
def kD1 (D:Nat) (l:Bs) (x:Rx) (bad:Bool) (out:Bs):Prop:=∀n y rest,mItem n D l=some (y,rest)->x=y/\bad=false/\rest=out
def CatP (D:Nat) (l:Bs) (x:Rx) (bad:Bool) (out:Bs):Prop:=∀n y rest,mCat n D l=some (y,rest)->x=y/\bad=false/\rest=out
def AltP (D:Nat) (l:Bs) (x:Rx) (bad:Bool) (out:Bs):Prop:=∀n y rest,mAlt n D l=some (y,rest)->x=y/\bad=false/\rest=out
def CatI (D:Nat) (l:Bs) (xs:List Rx) (bad:Bool) (out:Bs):Prop:=∀n ys rest,mItems n D l=some (ys,rest)->ys≠[]->
 bad=false/\∃m zs,ys=xs++zs/\mItems m D out=some (zs,rest)
theorem FR0 {D:Nat} {l:Bs}:CatI D l [] false l:=fun n ys rest h _=>⟨rfl,n,ys,rfl,h⟩
theorem xV1 {D:Nat} {l out:Bs} {x:Rx} {bad:Bool} (h:kD1 D l x bad out):CatI D l [x] bad out:=by
 intro n ys rest hm hne;rcases rB0 hm with ⟨rfl,_⟩ | ⟨m,c,r,x',xs,r1,hl,hc1,hc2,h1,h2,rfl⟩
 ·exact absurd rfl hne
 ·obtain ⟨rfl,hb,rfl⟩:=h _ _ _ h1
  exact ⟨hb,m,xs,rfl,h2⟩
theorem WD0 {D:Nat} {l mid out:Bs} {xs:List Rx} {x:Rx} {bad:Bool} {c:UInt8} {r:Bs} (h:CatI D l xs false mid) (hm:mid=c::r) (hc1:c≠124) (hc2:c≠41) (hx:kD1 D mid x bad out):CatI D l (xs++[x]) bad out:=by
 intro n ys rest h1 hne;obtain ⟨_,m,zs,rfl,h2⟩:=h n ys rest h1 hne;rcases rB0 h2 with ⟨_,_,h3⟩ | ⟨m,c,r,x',xs,r1,hl,hc1,hc2,h3,h4,rfl⟩
 ·rcases h3 with h3 | ⟨c',r',h3,h4⟩
  ·rw[hm] at h3;simp at h3
  ·rw[hm] at h3
   obtain ⟨rfl,rfl⟩:=List.cons.inj h3;rcases h4 with h4 | h4
   ·exact absurd h4 hc1
   ·exact absurd h4 hc2
 ·obtain ⟨rfl,hb,rfl⟩:=hx _ _ _ h3
  exact ⟨hb,m,xs,by simp,h4⟩
theorem VH0 {n d:Nat} {r:Bs}:mAtom n d (0::r)=none:=by
 cases h:mAtom n d (0::r) with
 | none=>rfl
 | some p=>
  have h1:=pU0 (D:=d) (c:=0) (r:=r) (x:=.mk 0 e0 []) (bad:=true) (out:=[]) (by decide) (by decide) (by decide) (by decide) (by decide) (by decide) n p.1 p.2 h
  exact absurd h1.2.1 (by simp)
theorem vP0 {D:Nat} {l out:Bs} {xs:List Rx} {bad:Bool} (h:CatI D l xs bad out) (he:bad=true\/out=[]\/∃c r,out=c::r/\(c=124\/c=41\/c=0)):CatP D l (kP0 4 xs) bad out:=by
 intro n y rest h1;obtain ⟨m,ys,h2,h3,rfl⟩:=QA0 h1;obtain ⟨hb,k,zs,rfl,h4⟩:=h m ys rest h2 h3;have key:zs=[]/\rest=out:=by
  rcases rB0 h4 with ⟨rfl,rfl,_⟩ | ⟨m,c,r,x',xs,r1,rfl,hc1,hc2,h5,h6,_⟩
  ·exact ⟨rfl,rfl⟩
  ·rcases he with he | he | ⟨c',r',he,h7⟩
   ·rw[hb] at he;simp at he
   ·simp at he
   ·obtain ⟨rfl,rfl⟩:=List.cons.inj he
    rcases h7 with h7 | h7 | h7
    ·exact absurd h7 hc1
    ·exact absurd h7 hc2
    ·subst h7
     cases m with
     | zero=>rw[mItem.eq_def] at h5;simp at h5
     | succ m=>rw[mItem,VH0] at h5;simp at h5
 obtain ⟨rfl,rfl⟩:=key;rw[List.append_nil] at *;exact ⟨rfl,hb,rfl⟩
theorem kK0 {D:Nat} {l out:Bs} {x:Rx} {b b':Bool} {o:Bs} (h:CatI D l [] b out) (he:b=true\/out=[]\/∃c r,out=c::r/\(c=124\/c=41\/c=0)):CatP D l x b' o:=by
 intro n y rest h1;obtain ⟨m,ys,h2,h3,rfl⟩:=QA0 h1;obtain ⟨hb,k,zs,rfl,h4⟩:=h m ys rest h2 h3;rcases rB0 h4 with ⟨rfl,rfl,_⟩ | ⟨m,c,r,x',xs,r1,rfl,hc1,hc2,h5,h6,_⟩
 ·exact absurd rfl h3
 ·rcases he with he | he | ⟨c',r',he,h7⟩
  ·rw[hb] at he;simp at he
  ·simp at he
  ·obtain ⟨rfl,rfl⟩:=List.cons.inj he
   rcases h7 with h7 | h7 | h7
   ·exact absurd h7 hc1
   ·exact absurd h7 hc2
   ·subst h7
    cases m with
    | zero=>rw[mItem.eq_def] at h5;simp at h5
    | succ m=>rw[mItem,VH0] at h5;simp at h5
def AltI (D:Nat) (l:Bs) (xs:List Rx) (bad:Bool) (out:Bs):Prop:=∀n m x r ys rest,mCat n D l=some (x,r)->mAlts m D r=some (ys,rest)->
 bad=false/\∃k zs,x::ys=xs++zs/\mAlts k D out=some (zs,rest)
theorem YC0 {D:Nat} {l out:Bs} {x:Rx} {bad:Bool} (h:CatP D l x bad out):AltI D l [x] bad out:=by
 intro n m x' r ys rest h1 h2;obtain ⟨rfl,hb,rfl⟩:=h _ _ _ h1;exact ⟨hb,m,ys,rfl,h2⟩
theorem gC0 {D:Nat} {l mid out:Bs} {xs:List Rx} {x:Rx} {b bad:Bool} {r:Bs} (h:AltI D l xs b mid) (hm:mid=124::r) (hx:CatP D r x bad out):AltI D l (xs++[x]) bad out:=by
 intro n m x' r' ys rest h1 h2;obtain ⟨_,k,zs,e,h3⟩:=h n m x' r' ys rest h1 h2;rcases XG0 h3 with ⟨_,_,h4⟩ | ⟨m',r1,x1,xs1,r2,h4,h5,h6,rfl⟩
 ·exact absurd hm (h4 r)
 ·rw[hm] at h4
  obtain ⟨_,rfl⟩:=List.cons.inj h4;obtain ⟨rfl,hb,rfl⟩:=hx _ _ _ h5;exact ⟨hb,m',xs1,by rw[e];simp,h6⟩
theorem pW0 {D:Nat} {l out:Bs} {xs:List Rx} {bad:Bool} (h:AltI D l xs bad out) (he:bad=true\/∀r,out≠124::r):AltP D l (kP0 5 xs) bad out:=by
 intro n y rest h1;obtain ⟨m,x,r,ys,h2,h3,rfl⟩:=yX1 h1;obtain ⟨hb,k,zs,e,h4⟩:=h _ _ _ _ _ _ h2 h3;rcases XG0 h4 with ⟨rfl,rfl,_⟩ | ⟨m',r1,x1,xs1,r2,h5,_⟩
 ·rw[List.append_nil] at e
  exact ⟨by rw[e],hb,rfl⟩
 ·rcases he with he | he
  ·rw[hb] at he;simp at he
  ·exact absurd h5 (he r1)
theorem wG0 {k:Int} {xs:List Rx} (hl:xs.length<=4611686018427387904) (h:∀x∈xs,x.Wf):(kP0 k xs).Wf:=by
 match xs,h,hl with
 | [],h,hl=>exact .mk (by decide) hl h
 | [x],h,_=>exact h x List.mem_cons_self
 | x::y::r,h,hl=>exact .mk (by decide) hl h
end Go.Gv
/- The words' state as data that is read. -/
namespace Go.Gv
open Go.Av
open Go.Av Go.Proofs
def tys:Nat->Option TI:=look [(1,⟨.other,1,8,[.nilFunc],true⟩),
 (3,⟨.int .i64,1,8,[.int .i64 0],true⟩),
 (4,⟨.bool,1,1,[.bool false],true⟩),
 (5,⟨.int .u8,1,1,[.int .u8 0],true⟩),
 (9,⟨.str,1,16,[.string ⟨#[]⟩],true⟩),
 (21,⟨.int .i32,1,4,[.int .i32 0],true⟩),
 (22,⟨.slice 5,1,24,[.slice none 0 0],true⟩),
 (23,⟨.other,1,8,[.nilFunc],true⟩),
 (24,⟨.slice 26,1,24,[.slice none 0 0],true⟩),
 (25,⟨.struct [(0,3),(1,3),(2,9),(3,24)],4,56,[.int .i64 0,.int .i64 0,.string ⟨#[]⟩,.slice none 0 0],true⟩),
 (26,⟨.struct [(0,3),(1,3),(2,9),(3,24)],4,56,[.int .i64 0,.int .i64 0,.string ⟨#[]⟩,.slice none 0 0],true⟩),
 (27,⟨.other,1,8,[.nilFunc],true⟩),
 (28,⟨.other,1,8,[.nilFunc],true⟩),
 (29,⟨.slice 50,1,24,[.slice none 0 0],true⟩),
 (30,⟨.slice 55,1,24,[.slice none 0 0],true⟩),
 (31,⟨.struct [(0,29),(1,30)],2,48,[.slice none 0 0,.slice none 0 0],true⟩),
 (32,⟨.struct [(0,29),(1,30)],2,48,[.slice none 0 0,.slice none 0 0],true⟩),
 (33,⟨.other,1,8,[.nilFunc],true⟩),
 (34,⟨.other,1,8,[.nilFunc],true⟩),
 (35,⟨.other,1,8,[.nilFunc],true⟩),
 (36,⟨.other,1,8,[.nilFunc],true⟩),
 (37,⟨.other,1,8,[.nilFunc],true⟩),
 (38,⟨.other,1,8,[.nilFunc],true⟩),
 (39,⟨.ptr 64,1,8,[.pointer none],true⟩),
 (40,⟨.other,1,8,[.nilFunc],true⟩),
 (41,⟨.other,1,8,[.nilFunc],true⟩),
 (42,⟨.other,1,8,[.nilFunc],true⟩),
 (43,⟨.other,1,8,[.nilFunc],true⟩),
 (44,⟨.other,1,8,[.nilFunc],true⟩),
 (45,⟨.other,1,8,[.nilFunc],true⟩),
 (46,⟨.other,1,8,[.nilFunc],true⟩),
 (47,⟨.other,1,8,[.nilFunc],true⟩),
 (48,⟨.slice 74,1,24,[.slice none 0 0],true⟩),
 (49,⟨.struct [(0,3),(1,26),(5,48)],6,88,[.int .i64 0,.int .i64 0,.int .i64 0,.string ⟨#[]⟩,.slice none 0 0,.slice none 0 0],true⟩),
 (50,⟨.struct [(0,3),(1,26),(5,48)],6,88,[.int .i64 0,.int .i64 0,.int .i64 0,.string ⟨#[]⟩,.slice none 0 0,.slice none 0 0],true⟩),
 (51,⟨.other,1,8,[.nilFunc],true⟩),
 (52,⟨.other,1,8,[.nilFunc],true⟩),
 (53,⟨.slice 9,1,24,[.slice none 0 0],true⟩),
 (54,⟨.struct [(0,9),(1,53),(2,48)],3,64,[.string ⟨#[]⟩,.slice none 0 0,.slice none 0 0],true⟩),
 (55,⟨.struct [(0,9),(1,53),(2,48)],3,64,[.string ⟨#[]⟩,.slice none 0 0,.slice none 0 0],true⟩),
 (56,⟨.other,1,8,[.nilFunc],true⟩),
 (57,⟨.other,1,8,[.nilFunc],true⟩),
 (58,⟨.other,1,8,[.nilFunc],true⟩),
 (59,⟨.other,1,8,[.nilFunc],true⟩),
 (60,⟨.other,1,8,[.nilFunc],true⟩),
 (61,⟨.other,1,8,[.nilFunc],true⟩),
 (62,⟨.other,1,8,[.nilFunc],true⟩),
 (63,⟨.struct [(0,22),(1,3),(2,3)],3,40,[.slice none 0 0,.int .i64 0,.int .i64 0],true⟩),
 (64,⟨.struct [(0,22),(1,3),(2,3)],3,40,[.slice none 0 0,.int .i64 0,.int .i64 0],true⟩),
 (65,⟨.other,1,8,[.nilFunc],true⟩),
 (66,⟨.other,1,8,[.nilFunc],true⟩),
 (67,⟨.other,1,8,[.nilFunc],true⟩),
 (68,⟨.slice 3,1,24,[.slice none 0 0],true⟩),
 (69,⟨.other,1,8,[.nilFunc],true⟩),
 (70,⟨.other,1,8,[.nilFunc],true⟩),
 (71,⟨.other,1,8,[.nilFunc],true⟩),
 (72,⟨.other,1,8,[.nilFunc],true⟩),
 (73,⟨.struct [(0,3),(1,9),(2,9),(3,24),(4,48),(5,48)],6,112,[.int .i64 0,.string ⟨#[]⟩,.string ⟨#[]⟩,.slice none 0 0,.slice none 0 0,.slice none 0 0],true⟩),
 (74,⟨.struct [(0,3),(1,9),(2,9),(3,24),(4,48),(5,48)],6,112,[.int .i64 0,.string ⟨#[]⟩,.string ⟨#[]⟩,.slice none 0 0,.slice none 0 0,.slice none 0 0],true⟩),
 (75,⟨.other,1,8,[.nilFunc],true⟩),
 (76,⟨.other,1,8,[.nilFunc],true⟩),
 (77,⟨.struct [(0,3),(1,3),(2,9)],3,32,[.int .i64 0,.int .i64 0,.string ⟨#[]⟩],true⟩),
 (78,⟨.struct [(0,3),(1,3),(2,9)],3,32,[.int .i64 0,.int .i64 0,.string ⟨#[]⟩],true⟩),
 (79,⟨.other,1,8,[.nilFunc],true⟩),
 (81,⟨.other,1,8,[.nilFunc],true⟩),
 (82,⟨.other,1,8,[.nilFunc],true⟩),
 (83,⟨.other,1,8,[.nilFunc],true⟩),
 (84,⟨.other,1,8,[.nilFunc],true⟩),
 (85,⟨.other,1,8,[.nilFunc],true⟩),
 (86,⟨.other,1,8,[.nilFunc],true⟩),
 (87,⟨.other,1,8,[.nilFunc],true⟩),
 (88,⟨.other,1,8,[.nilFunc],true⟩),
 (89,⟨.other,1,8,[.nilFunc],true⟩),
 (90,⟨.other,1,8,[.nilFunc],true⟩),
 (91,⟨.other,1,8,[.nilFunc],true⟩),
 (92,⟨.other,1,8,[.nilFunc],true⟩),
 (93,⟨.slice 96,1,24,[.slice none 0 0],true⟩),
 (94,⟨.other,1,8,[.nilFunc],true⟩),
 (95,⟨.struct [(0,53),(1,24),(2,48),(3,3)],4,80,[.slice none 0 0,.slice none 0 0,.slice none 0 0,.int .i64 0],true⟩),
 (96,⟨.struct [(0,53),(1,24),(2,48),(3,3)],4,80,[.slice none 0 0,.slice none 0 0,.slice none 0 0,.int .i64 0],true⟩),
 (97,⟨.other,1,8,[.nilFunc],true⟩),
 (98,⟨.other,1,8,[.nilFunc],true⟩),
 (99,⟨.other,1,8,[.nilFunc],true⟩),
 (100,⟨.other,1,8,[.nilFunc],true⟩),
 (101,⟨.other,1,8,[.nilFunc],true⟩),
 (102,⟨.other,1,8,[.nilFunc],true⟩),
 (104,⟨.other,1,8,[.nilFunc],true⟩),
 (105,⟨.other,1,8,[.nilFunc],true⟩),
 (106,⟨.other,1,8,[.nilFunc],true⟩),
 (107,⟨.other,1,8,[.nilFunc],true⟩),
 (109,⟨.other,1,8,[.nilFunc],true⟩),
 (110,⟨.other,1,8,[.nilFunc],true⟩),
 (111,⟨.other,1,8,[.nilFunc],true⟩),
 (112,⟨.other,1,8,[.nilFunc],true⟩),
 (113,⟨.other,1,8,[.nilFunc],true⟩),
 (114,⟨.other,1,8,[.nilFunc],true⟩),
 (115,⟨.other,1,8,[.nilFunc],true⟩),
 (116,⟨.other,1,8,[.nilFunc],true⟩),
 (117,⟨.other,1,8,[.nilFunc],true⟩),
 (118,⟨.other,1,8,[.nilFunc],true⟩),
 (119,⟨.other,1,8,[.nilFunc],true⟩),
 (120,⟨.int .u64,1,8,[.int .u64 0],true⟩),
 (121,⟨.other,1,8,[.nilFunc],true⟩),
 (122,⟨.other,1,8,[.nilFunc],true⟩),
 (123,⟨.other,1,8,[.nilFunc],true⟩),
 (124,⟨.other,1,8,[.nilFunc],true⟩),
 (125,⟨.other,1,8,[.nilFunc],true⟩),
 (126,⟨.ptr 130,1,8,[.pointer none],true⟩),
 (127,⟨.other,1,8,[.nilFunc],true⟩),
 (128,⟨.slice 160,1,24,[.slice none 0 0],true⟩),
 (129,⟨.struct [(0,128),(1,3),(2,4),(3,3)],4,48,[.slice none 0 0,.int .i64 0,.bool false,.int .i64 0],true⟩),
 (130,⟨.struct [(0,128),(1,3),(2,4),(3,3)],4,48,[.slice none 0 0,.int .i64 0,.bool false,.int .i64 0],true⟩),
 (131,⟨.other,1,8,[.nilFunc],true⟩),
 (132,⟨.other,1,8,[.nilFunc],true⟩),
 (133,⟨.other,1,8,[.nilFunc],true⟩),
 (134,⟨.other,1,8,[.nilFunc],true⟩),
 (135,⟨.other,1,8,[.nilFunc],true⟩),
 (136,⟨.slice 138,1,24,[.slice none 0 0],true⟩),
 (137,⟨.struct [(0,3),(1,9),(2,136)],3,48,[.int .i64 0,.string ⟨#[]⟩,.slice none 0 0],true⟩),
 (138,⟨.struct [(0,3),(1,9),(2,136)],3,48,[.int .i64 0,.string ⟨#[]⟩,.slice none 0 0],true⟩),
 (140,⟨.other,1,8,[.nilFunc],true⟩),
 (141,⟨.other,1,8,[.nilFunc],true⟩),
 (142,⟨.other,1,8,[.nilFunc],true⟩),
 (143,⟨.other,1,8,[.nilFunc],true⟩),
 (145,⟨.other,1,8,[.nilFunc],true⟩),
 (146,⟨.other,1,8,[.nilFunc],true⟩),
 (147,⟨.other,1,8,[.nilFunc],true⟩),
 (148,⟨.other,1,8,[.nilFunc],true⟩),
 (149,⟨.other,1,8,[.nilFunc],true⟩),
 (150,⟨.other,1,8,[.nilFunc],true⟩),
 (151,⟨.ptr 153,1,8,[.pointer none],true⟩),
 (152,⟨.struct [(0,9),(1,3),(2,3),(3,4)],4,40,[.string ⟨#[]⟩,.int .i64 0,.int .i64 0,.bool false],true⟩),
 (153,⟨.struct [(0,9),(1,3),(2,3),(3,4)],4,40,[.string ⟨#[]⟩,.int .i64 0,.int .i64 0,.bool false],true⟩),
 (154,⟨.other,1,8,[.nilFunc],true⟩),
 (155,⟨.other,1,8,[.nilFunc],true⟩),
 (156,⟨.other,1,8,[.nilFunc],true⟩),
 (157,⟨.other,1,8,[.nilFunc],true⟩),
 (159,⟨.other,1,8,[.nilFunc],true⟩),
 (160,⟨.struct [(0,3),(1,3),(2,9)],3,32,[.int .i64 0,.int .i64 0,.string ⟨#[]⟩],true⟩),
 (162,⟨.other,1,8,[.nilFunc],true⟩),
 (163,⟨.other,1,8,[.nilFunc],true⟩),
 (164,⟨.other,1,8,[.nilFunc],true⟩),
 (165,⟨.other,1,8,[.nilFunc],true⟩),
 (166,⟨.ptr 168,1,8,[.pointer none],true⟩),
 (167,⟨.struct [(0,9),(1,3),(2,4),(3,3)],4,40,[.string ⟨#[]⟩,.int .i64 0,.bool false,.int .i64 0],true⟩),
 (168,⟨.struct [(0,9),(1,3),(2,4),(3,3)],4,40,[.string ⟨#[]⟩,.int .i64 0,.bool false,.int .i64 0],true⟩),
 (169,⟨.other,1,8,[.nilFunc],true⟩),
 (170,⟨.other,1,8,[.nilFunc],true⟩),
 (171,⟨.other,1,8,[.nilFunc],true⟩),
 (172,⟨.other,1,8,[.nilFunc],true⟩),
 (173,⟨.slice 48,1,24,[.slice none 0 0],true⟩),
 (174,⟨.other,1,8,[.nilFunc],true⟩),
 (175,⟨.array 24 5,24,24,[.int .u8 0,.int .u8 0,.int .u8 0,.int .u8 0,.int .u8 0,.int .u8 0,.int .u8 0,.int .u8 0,.int .u8 0,.int .u8 0,.int .u8 0,.int .u8 0,.int .u8 0,.int .u8 0,.int .u8 0,.int .u8 0,.int .u8 0,.int .u8 0,.int .u8 0,.int .u8 0,.int .u8 0,.int .u8 0,.int .u8 0,.int .u8 0],true⟩),
 (181,⟨.other,1,8,[.nilFunc],true⟩),
 (182,⟨.other,1,8,[.nilFunc],true⟩),
 (183,⟨.other,1,8,[.nilFunc],true⟩),
 (184,⟨.other,1,8,[.nilFunc],true⟩),
 (185,⟨.other,1,8,[.nilFunc],true⟩),
 (186,⟨.other,1,8,[.nilFunc],true⟩),
 (187,⟨.other,1,8,[.nilFunc],true⟩),
 (188,⟨.other,1,8,[.nilFunc],true⟩),
 (189,⟨.other,1,8,[.nilFunc],true⟩),
 (191,⟨.int .u32,1,4,[.int .u32 0],true⟩),
 (192,⟨.array 65 5,65,65,[.int .u8 0,.int .u8 0,.int .u8 0,.int .u8 0,.int .u8 0,.int .u8 0,.int .u8 0,.int .u8 0,.int .u8 0,.int .u8 0,.int .u8 0,.int .u8 0,.int .u8 0,.int .u8 0,.int .u8 0,.int .u8 0,.int .u8 0,.int .u8 0,.int .u8 0,.int .u8 0,.int .u8 0,.int .u8 0,.int .u8 0,.int .u8 0,.int .u8 0,.int .u8 0,.int .u8 0,.int .u8 0,.int .u8 0,.int .u8 0,.int .u8 0,.int .u8 0,.int .u8 0,.int .u8 0,.int .u8 0,.int .u8 0,.int .u8 0,.int .u8 0,.int .u8 0,.int .u8 0,.int .u8 0,.int .u8 0,.int .u8 0,.int .u8 0,.int .u8 0,.int .u8 0,.int .u8 0,.int .u8 0,.int .u8 0,.int .u8 0,.int .u8 0,.int .u8 0,.int .u8 0,.int .u8 0,.int .u8 0,.int .u8 0,.int .u8 0,.int .u8 0,.int .u8 0,.int .u8 0,.int .u8 0,.int .u8 0,.int .u8 0,.int .u8 0,.int .u8 0],true⟩),
 (193,⟨.other,1,8,[.nilFunc],true⟩),
 (194,⟨.other,1,8,[.nilFunc],true⟩),
 (195,⟨.other,1,8,[.nilFunc],true⟩),
 (196,⟨.other,1,8,[.nilFunc],true⟩),
 (197,⟨.other,1,8,[.nilFunc],true⟩),
 (198,⟨.ptr 200,1,8,[.pointer none],true⟩),
 (199,⟨.struct [(0,198),(1,22)],2,32,[.pointer none,.slice none 0 0],true⟩),
 (200,⟨.struct [(0,198),(1,22)],2,32,[.pointer none,.slice none 0 0],true⟩),
 (201,⟨.other,1,8,[.nilFunc],true⟩),
 (205,⟨.other,1,8,[.nilFunc],true⟩),
 (206,⟨.other,1,8,[.nilFunc],true⟩),
 (207,⟨.other,1,8,[.nilFunc],true⟩),
 (208,⟨.other,1,8,[.nilFunc],true⟩),
 (209,⟨.ptr 5,1,8,[.pointer none],true⟩),
 (210,⟨.array 32 5,32,32,[.int .u8 0,.int .u8 0,.int .u8 0,.int .u8 0,.int .u8 0,.int .u8 0,.int .u8 0,.int .u8 0,.int .u8 0,.int .u8 0,.int .u8 0,.int .u8 0,.int .u8 0,.int .u8 0,.int .u8 0,.int .u8 0,.int .u8 0,.int .u8 0,.int .u8 0,.int .u8 0,.int .u8 0,.int .u8 0,.int .u8 0,.int .u8 0,.int .u8 0,.int .u8 0,.int .u8 0,.int .u8 0,.int .u8 0,.int .u8 0,.int .u8 0,.int .u8 0],true⟩),
 (211,⟨.array 64 5,64,64,[.int .u8 0,.int .u8 0,.int .u8 0,.int .u8 0,.int .u8 0,.int .u8 0,.int .u8 0,.int .u8 0,.int .u8 0,.int .u8 0,.int .u8 0,.int .u8 0,.int .u8 0,.int .u8 0,.int .u8 0,.int .u8 0,.int .u8 0,.int .u8 0,.int .u8 0,.int .u8 0,.int .u8 0,.int .u8 0,.int .u8 0,.int .u8 0,.int .u8 0,.int .u8 0,.int .u8 0,.int .u8 0,.int .u8 0,.int .u8 0,.int .u8 0,.int .u8 0,.int .u8 0,.int .u8 0,.int .u8 0,.int .u8 0,.int .u8 0,.int .u8 0,.int .u8 0,.int .u8 0,.int .u8 0,.int .u8 0,.int .u8 0,.int .u8 0,.int .u8 0,.int .u8 0,.int .u8 0,.int .u8 0,.int .u8 0,.int .u8 0,.int .u8 0,.int .u8 0,.int .u8 0,.int .u8 0,.int .u8 0,.int .u8 0,.int .u8 0,.int .u8 0,.int .u8 0,.int .u8 0,.int .u8 0,.int .u8 0,.int .u8 0,.int .u8 0],true⟩),
 (214,⟨.other,1,8,[.nilFunc],true⟩),
 (220,⟨.other,1,8,[.nilFunc],true⟩)]
theorem HY0 {P:Program} {k:Nat} {v:TI} {l:List (Nat×TI)} (h:tyOf P k=some v) (hl:∀n ti,look l n=some ti->tyOf P n=some ti):∀n ti,look ((k,v)::l) n=some ti->tyOf P n=some ti:=by
 intro n ti hx;simp only[look] at hx
 split at hx
 ·rename_i hk;subst hk;simp at hx;subst hx;exact h
 ·exact hl n ti hx
theorem look_nil {P:Program}:∀n ti,look [] n=some ti->tyOf P n=some ti:=by intro n ti hx;simp[look] at hx
set_option maxRecDepth 100000 in
theorem tyK:∀n ti,tys n=some ti->tyOf Tryz.prog n=some ti:=by
 unfold tys
 repeat' first | exact look_nil | refine HY0 (by kernel_rfl) ?_
end Go.Gv
/- A step of the elder walks, once. -/
namespace Go.Gv
open Go.Av
structure Wo (p:Prop):Prop where
 go:p
theorem qO {G H:Prop} (h:H) (t:Wo H->G:=by
 intro hZ
 (try with_reducible refine Nx.mk ?_);first|(with_reducible refine atId ?_)|(with_reducible refine nxId ?_;(conv=>whnf);(first|(with_reducible refine atId ?_)|(with_reducible refine FinAt.mk ?_;cbv;try simp only[hseg])|(cbv;try simp only[hseg])))|(try cbv;try simp only[hseg])
 exact hZ.go):G:=t ⟨h⟩
end Go.Gv
/- A slice of bytes that is converted to its own type (as bytes out of a constant text are laid): its block gets a mark, the slice is shared; and a rule for regions with one operation that is shown by hand. -/
namespace Go.Av
theorem UQ0 {w:World} {b n:Nat} {arr:Array Value} {ty:TypeId} {fz:Nat×Nat} (h:w.heap[b]?=some (.cells arr ty fz)):∃fz',(w.freeze ⟨b,n,none⟩ 1).heap[b]?=some (.cells arr ty fz'):=by
 obtain ⟨lo,hi⟩:=fz;unfold World.freeze;rw[if_neg (by decide)]
 exact ⟨_,by simp only[Array.getElem?_modify,if_true,h,Option.map_some];rfl⟩
theorem mJ0 {w:World} {b n x:Nat} (h:x≠b):(w.freeze ⟨b,n,none⟩ 1).heap[x]?=w.heap[x]?:=by
 unfold World.freeze;rw[if_neg (by decide)]
 simp only[Array.getElem?_modify,if_neg (Ne.symm h)]
theorem hF0 {w:World} {b n:Nat}:(w.freeze ⟨b,n,none⟩ 1).heap.size=w.heap.size:=by
 unfold World.freeze;rw[if_neg (by decide)]
 simp
theorem Keeps.freeze {O:List Nat} {w0 w:World} {b n:Nat} (h:Keeps O w0 w) (hg:b∈O\/w0.heap.size<=b):Keeps O w0 (w.freeze ⟨b,n,none⟩ 1):=by
 refine ⟨?_,?_,?_,by rw[hF0];exact h.size,fun x hx hn=>?_⟩
 ·unfold World.freeze;rw[if_neg (by decide)];exact h.os
 ·unfold World.freeze;rw[if_neg (by decide)];exact h.tape
 ·unfold World.freeze;rw[if_neg (by decide)];exact h.output
 ·rw[mJ0 (by rintro rfl;rcases hg with hg | hg;exact hn hg;omega)]
  exact h.block x hx hn
section
variable {P:Program} {C:Ctx} {σ:AS} {i:Nat} {dst:Option Tmp}
theorem tN1 {s e:TypeId} {x:Operand} {r:Root} {c k:Nat} {g:yA0} {els:List (List T)} {ti te:TI} (hx:σ.ev x=some ⟨.one,[.sref r c g 0 els.length]⟩) (hat:σ.at? r c g=some (k,els)) (hs:tyOf P s=some ti) (hk:ti.tk=.slice e)
  (he:tyOf P e=some te) (hke:te.tk=.int .u8) (hne:els≠[]):OpOk P C i (.convert s s x) dst σ ⟨.one,[.ro true els]⟩ (σ.setCell r c (.ro true els)):=by
 rintro X a w ⟨S,L,bl,O1,O2,h⟩ hi type pos after guard;have h':=h.mono (fun x hx=>List.mem_cons_of_mem i hx);have hxe:=h.ev hx;have hc:=AS.at?_some hat;obtain ⟨hra,_⟩:=hxe.cell;obtain ⟨_,_,hra⟩:=hra;obtain ⟨_,ad,cap,xx,e1,e2,e3⟩:=hra false k els hc;obtain ⟨u0,o,k1,k2,k3,k4,k5⟩:=h'.recell (i:=i) hc (h.fresh hi);rw[e1] at k1;simp only[Option.some.injEq] at k1;subst k1;obtain ⟨ad',cap',m1,m2,m3,m4⟩:=k2
 simp only[Value.slice.injEq,true_and] at m1;obtain ⟨rfl,rfl⟩:=m1;rcases m4 with ⟨_,h0,_⟩ | ⟨b,ob,arr,ty,fz,m5,m6,m7,m8,m9,m10⟩
 ·exact absurd h0 hne
 subst m5;subst m6;have hcap:0 < cap:=by
  have:0 < els.length:=List.length_pos_iff.2 hne;omega
 have hxx:xx=some ⟨b,ob,none⟩:=by
  have:=e3 hcap;simpa [Addr.add] using this
 subst hxx;have hnL:¬L b:=fun hS=>(h.stable b hS).2 (k4 b (by simp))
 have hnS:¬S b:=fun hS=>hnL (h.sl b hS);obtain ⟨w1,hw1⟩:∃w1,w1=w.freeze ⟨b,arr.size,none⟩ 1:=⟨_,rfl⟩;obtain ⟨fz',hfz⟩:=UQ0 (n:=arr.size) m7;rw[<-hw1] at hfz;have hother:∀x,x≠b->w1.heap[x]?=w.heap[x]?:=fun x hx=>by rw[hw1];exact mJ0 hx
 have hcell:∀j,w1.cell? ⟨b,j,none⟩=w.cell? ⟨b,j,none⟩:=fun j=>by simp only[World.cell?,hfz,m7]
 have hrow:RepSE (fun x=>S x\/x∈[b]) w1 b ob els:=RepSE.of_get m3 fun i' e' hi'=>RepSC.of_get fun j t hj=>by
  obtain ⟨u,hu,hr⟩:=(m10.get m3 i' e' hi').get j t hj;exact ⟨u,by rw[hcell];exact hu,RepS.mono (fun _ hb=>.inl hb) (fun x hx=>hother x (by rintro rfl;exact hnS hx)) _ _ hr⟩
 have hro:RepS (fun x=>S x\/x∈[b]) w1 (.sl els) (.slice (some ⟨b,ob,none⟩) els.length cap):=by
  simp only[RepS];exact ⟨_,cap,rfl,m2,fun _=>⟨b,ob,rfl,.inr (by simp),hrow⟩⟩
 have hown:=h.own b (k4 b (by simp))
 obtain ⟨O1a,O2a,ha,hmem⟩:=k5 (fun x=>S x\/x∈[b]) (fun x=>L x\/x∈[b]) w1 (.ro true els) [] (fun _ hb=>.inl hb) (fun _ hb=>.inl hb) (fun x hb=>hb.imp (h.sl x) id) (fun x hb=>hb) (fun x hb=>hb) (by simp) (.inr rfl)
  (fun x hx _=>hother x (by simpa using hx)) (by rw[hw1];exact h.keeps.freeze hown) (by rw[hw1,hF0];exact Nat.le_refl _) ⟨hro,rfl⟩ (fun g hg=>by simp[A.stamp] at hg) (fun g d k els' he=>by simp at he)
 refine ⟨_,.slice (some ⟨b,ob,none⟩) els.length cap,w1,?_,.inl rfl,?_⟩
 ·have hcv:(convert s s (a.eval x)).run P w=.ok (.slice (some ⟨b,ob,none⟩) els.length cap) w1:=by
   rw[e2];have hsh:w.shape? b=some (ty,arr.size):=by simp only[World.shape?,m7]
   simp only[convert,Sem.run_bind,yH0 hs w hk,Result.andThen,xQ0 he w hke,beq_self_eq_true,markStringish,run_shape,hsh,run_freeze,Sem.run_pure,hw1,Nat.sub_zero]
  simp only[execOp,Sem.run_bind,hcv,Result.andThen]
  rfl
 ·have hep:(σ.setCell r c (.ro true els)).epoch=σ.epoch:=yR0
  refine ha.done (i:=i) (o':=[]) (by rw[hep];exact (h.fresh hi).setDead rfl) ?_ (fun c' hc'=>by simp at hc';subst hc';exact .inl rfl) (fun c' hc' g' hg=>by simp at hc';subst hc';simp[A.stamp] at hg) (fun g' d' k' els' hm=>by simp at hm) List.nodup_nil (by simp)
  exact ⟨⟨rfl,rfl⟩,_,[],[],[],rfl,rfl,⟨hro,rfl⟩,rfl,rfl⟩
theorem VP0 {base:Nat} {ops:Array Oper} {Q:Exit->Act->World->Prop} {K:AS->Prop} {l':List Nat}:∀(l:List Nat) (X:List Nat) (σ:AS) (a:Act) (w:World),l.Nodup->(∀i∈l,i∉X)->aOps P base ops l σ K->Inv C X σ a w->
  (∀X' σ' a' w',(∀j∈X',j∈X\/j∈l)->K σ'->Inv C X' σ' a' w'->wpOps P ops Q l' a' w')->wpOps P ops Q (l++l') a w
 | [],X,σ,a,w,_,_,hx,h,hK=>hK X σ a w (fun _ h=>.inl h) hx h
 | i::rest,X,σ,a,w,hn,hd,hx,h,hK=>by
  rw[List.cons_append,wpOps_cons];simp only[List.nodup_cons] at hn;refine wpOp_mono ?_ (kL0 hx h (hd i List.mem_cons_self));rintro a' w' ⟨σ',hK',h'⟩;refine VP0 rest (i::X) σ' a' w' hn.2 (fun j hj hm=>?_) hK' h' fun X' σ2 a2 w2 hX=>hK X' σ2 a2 w2 fun j hj=>?_
  ·rcases List.mem_cons.1 hm with rfl | hm
   ·exact hn.1 hj
   ·exact hd j (List.mem_cons_of_mem _ hj) hm
  ·rcases hX j hj with h | h
   ·rcases List.mem_cons.1 h with rfl | h
    ·exact .inr List.mem_cons_self
    ·exact .inl h
   ·exact .inr (List.mem_cons_of_mem _ h)
end
end Go.Av
namespace Go.Gv
open Go.Av
variable {O:Ops} {ts:Nat->Option TI} {P:Program} {C:Ctx} {σ:AS} {Q:Exit->AS->Prop}
theorem GWp.regionX {base id:Nat} {ops:Array Oper} {pre post:List Nat} {j:Nat} {o:Oper} (hr:List.range ops.size=pre++j::post) (ho:ops[j]?=some o) (hg:o.guard=none) (K1:AS->Prop)
  (h:O=.std->(∀n ti,ts n=some ti->tyOf P n=some ti)->aOps P base ops pre σ K1)
  (h1:∀σ',K1 σ'->∃av σ1,OpOk P C j o.op o.dst σ' av σ1/\∀K:AS->Prop,(∀σ2,Q .normal σ2->K σ2)->gOps O ts P base ops post [] [] (σ1.putO o.dst av) K):GWp O ts P C (.region id ops false) σ Q:=by
 intro hO ht;subst hO;have hnd:(pre++j::post).Nodup:=hr ▸ List.nodup_range;obtain ⟨hn1,hn2,hn3⟩:=List.nodup_append.1 hnd;simp only[List.nodup_cons] at hn2;intro a w hi;refine wp_region ?_;rw[hr];refine VP0 pre [] σ a w hn1 (by simp) (h rfl ht) hi fun X' σ' a' w' hX hK hi'=>?_
 obtain ⟨av,σ1,hop,hrest⟩:=h1 σ' hK;have hj:j∉X':=fun hm=>by
  rcases hX j hm with h | h
  ·simp at h
  ·exact hn3 j h j List.mem_cons_self rfl
 obtain ⟨dst,op,type,pos,after,guard⟩:=o;obtain ⟨n,v,w2,g1,g2,g3⟩:=hop X' a' w' hi' hj type pos after guard;simp only at hg;subst hg;rw[wpOps_cons];unfold wpOp;simp only[ho,Region.wanted,if_true];refine .inl ?_;unfold Oper.wp;rw[g1];have hpost:=UP0 ht (hrest (fun σ2=>Q .normal σ2) fun _ h=>h);have key:∀a2,Inv C (j::X') (σ1.putO dst av) a2 w2->wpOps P ops (fun e a' w'=>∃σ',Q e σ'/\Inv C [] σ' a' w') post a2 w2:=fun a2 hi2=>
  TY0 (Q:=fun e a' w'=>∃σ',Q e σ'/\Inv C [] σ' a' w') (fun _ _ _ _ hq hv=>⟨_,hq,hv.next⟩) post (j::X') _ _ _ hn2.2 (fun i hi hm=>by
   rcases List.mem_cons.1 hm with rfl | hm
   ·exact hn2.1 hi
   ·rcases hX i hm with h | h
    ·simp at h
    ·exact hn3 i h i (List.mem_cons_of_mem _ hi) rfl) hpost.2 hi2
 rcases g2 with rfl | ⟨rfl,rfl⟩
 ·exact key _ g3
 ·exact key _ g3
structure GHand (P:Program) (C:Ctx) (i:Nat) (op:Op) (dst:Option Tmp) (σ:AS) (K:AS->Prop):Prop where
 go:∃av σ1,OpOk P C i op dst σ av σ1/\K (σ1.putO dst av)
theorem xR {base id:Nat} {ops:Array Oper} {post:List Nat} {o:Oper} (hr:List.range ops.size=0::1::post) (ho:ops[1]?=some o) (hg:o.guard=none)
  (h:xH1 O ts P base ops 0 [] [] σ fun acc _ σ'=>out acc (GHand P C 1 o.op o.dst σ' fun σ2=>∀K:AS->Prop,(∀σ3,Q .normal σ3->K σ3)->gOps O ts P base ops post [] [] σ2 K)):At O ts P C (.region id ops false) σ Q:=by
 refine ⟨GWp.regionX (base:=base) (pre:=[0]) hr ho hg (fun σ'=>GHand P C 1 o.op o.dst σ' fun σ2=>∀K:AS->Prop,(∀σ3,Q .normal σ3->K σ3)->gOps O ts P base ops post [] [] σ2 K) (fun hO ht=>?_) fun σ' hK=>?_⟩
 ·subst hO
  exact (QN0 ht (fun acc _ σ' hk=>out_iff.1 hk) h).2
 ·obtain ⟨av,σ1,h1,h2⟩:=hK.go
  exact ⟨av,σ1,h1,h2⟩
end Go.Gv
/- What a function hands over as nil may be taken for an empty slice of one's own. -/
namespace Go.Av
end Go.Av
/- A slice of one's own is opened: its row lies as a box among the boxes, so that what is one's own in its elements can be written; and shut again, to be shared. -/
namespace Go.Av
def oA:T->A
 | .lit v=>.lit v
 | .sl els=>.ro true els
 | .own els=>.ow (0,0) true (els.headD []).length els
theorem RepL.oA {S:Nat->Prop} {bl:List Bk} {w:World}:∀{t:T} {u:Value} {own:List Nat},(∀a,t=.own a->a≠[])->RepL S w t u own->RepA (Env.zero S S bl w) (oA t) u own
 | .lit v,u,own,_,h=>by simp only[RepL] at h;exact h
 | .sl els,u,own,_,h=>by simp only[RepL] at h;exact h
 | .own els,u,own,hn,h=>by
  have hne:=hn els rfl;simp only[RepL] at h;obtain ⟨ad,cap,h1,h2,h3⟩:=h;rcases h3 with ⟨h0,_⟩ | ⟨b,o,arr,ty,fz,own',g1,g2,g3,⟨k,k1,k2,k3⟩,g5⟩
  ·exact absurd h0 hne
  have hk:(els.headD []).length=k:=by
   cases els with
   | nil=>exact absurd rfl hne
   | cons a l=>exact k1 a List.mem_cons_self
  show qR1 S w (els.headD []).length els u own
  rw[hk];exact ⟨ad,cap,h1,h2,k1,.inr ⟨b,o,arr,ty,fz,own',g1,g2,g3,k2,k3,g5⟩⟩
theorem RepLC.oA {S:Nat->Prop} {bl:List Bk} {w:World} {b:Nat}:∀{o:Nat} {cs:List T} {own:List Nat},(∀a,T.own a∈cs->a≠[])->RepLC S w b o cs own->
  ∃us,RpA (Env.zero S S bl w) (cs.map Go.Av.oA) us own/\∀j u,us[j]?=some u->w.cell? ⟨b,o+j,none⟩=some u
 | _,[],own,_,h=>by simp only[RepLC] at h;exact ⟨[],⟨rfl,h⟩,by simp⟩
 | o,c::cs,own,hn,h=>by
  simp only[RepLC] at h;obtain ⟨u,o1,o2,rfl,h1,h2,h3⟩:=h;obtain ⟨us,k1,k2⟩:=RepLC.oA (bl:=bl) (fun a ha=>hn a (List.mem_cons_of_mem _ ha)) h3;refine ⟨u::us,⟨u,us,o1,o2,rfl,rfl,RepL.oA (fun a ha=>hn a (by rw[ha];exact List.mem_cons_self)) h2,k1⟩,fun j v hj=>?_⟩
  cases j with
  | zero=>simp at hj;subst hj;exact h1
  | succ j=>simp at hj;have:=k2 j v hj;rwa[Nat.add_assoc,Nat.add_comm 1 j] at this
theorem RepLE.oA {S:Nat->Prop} {bl:List Bk} {w:World} {b:Nat}:∀{o:Nat} {es:List (List T)} {own:List Nat},(∀e∈es,∀a,T.own a∈e->a≠[])->RepLE S w b o es own->
  ∃us,RpA (Env.zero S S bl w) (es.flatten.map Go.Av.oA) us own/\∀j u,us[j]?=some u->w.cell? ⟨b,o+j,none⟩=some u
 | _,[],own,_,h=>by simp only[RepLE] at h;exact ⟨[],⟨rfl,h⟩,by simp⟩
 | o,e::es,own,hn,h=>by
  simp only[RepLE] at h;obtain ⟨o1,o2,rfl,h1,h2⟩:=h;obtain ⟨us,k1,k2⟩:=RepLC.oA (bl:=bl) (hn e List.mem_cons_self) h1;obtain ⟨vs,k3,k4⟩:=RepLE.oA (bl:=bl) (fun e he=>hn e (List.mem_cons_of_mem _ he)) h2;have hl:=RpA.length k1;rw[List.length_map] at hl;refine ⟨us++vs,?_,fun j u hj=>?_⟩
  ·rw[List.flatten_cons,List.map_append]
   exact RpA.append_iff.2 ⟨us,vs,o1,o2,rfl,rfl,k1,k3⟩
  ·by_cases hlt:j < us.length
   ·rw[List.getElem?_append_left hlt] at hj
    exact k2 j u hj
   ·rw[List.getElem?_append_right (by omega)] at hj
    have:=k4 _ u hj;rwa[show o+e.length+(j - us.length)=o+j by omega] at this
theorem wX1 {P:Program} {f:FuncId} {args:List AV} {bx:List (Option (List A))} {α:Type} {W:α->Prop} {k:Nat} {els:α->List (List T)} {c:α->A} {b:α->List (Option (List A))}
  (h:ACl P f args bx (fun res bx=>∃x,W x/\res=⟨.agg,[.ow (0,0) true k (els x),c x]⟩/\bx=b x)) (hne:∀x,W x->els x≠[]) (hin:∀x,W x->∀e∈els x,∀a,T.own a∈e->a≠[]) :
  ACl P f args bx (fun res bx=>∃x,W x/\res=⟨.agg,[.bsl (b x).length k (els x).length,c x]⟩/\bx=b x++[some ((els x).flatten.map oA)]):=by
 intro w vals S L bl O1 O2 h1 h2 h3 h4 h5 h6;refine (h w vals S L bl O1 O2 h1 h2 h3 h4 h5 h6).mono ?_;rintro e w' ⟨v,rfl,res,bx',S',bl',o1,o2,⟨x,hW,rfl,rfl⟩,hv,hb,hn,hs,hSS,hS',hk,ho,hp⟩;obtain ⟨ha,u,us',p1,p2,hfl,rfl,hu,hrest⟩:=hv;have hu:qR1 S' w' k (els x) u p1:=hu;obtain ⟨ad,cap,rfl,hcap,hall,h4⟩:=hu;rcases h4 with ⟨_,hnil,_⟩ | ⟨b0,o,arr,ty,fz,n,rfl,rfl,g3,g4,g5,g6⟩
 ·exact absurd hnil (hne x hW)
 obtain ⟨us,k1,k2⟩:=RepLE.oA (bl:=bl'++[⟨b0,o⟩]) (hin x hW) g6;have hul:=RpA.length k1;rw[List.length_map,zF0 hall] at hul;have hroom:(els x).length * k<=cap * k:=Nat.mul_le_mul_right k hcap;have hwin:Win w' ⟨b0,o⟩ us:=⟨arr,ty,fz,g3,by simp only;omega,fun y y1 y2=>g5 y y1 (by simp only at y2;omega),fun j u hj=>by
  have:=k2 j u hj;simp only[World.cell?,g3] at this;simpa using this⟩
 have hle:Env.Le none (Env.zero S' S' bl' w') (Env.zero S' S' (bl'++[⟨b0,o⟩]) w'):=⟨fun _ h=>h,fun _ h=>h,fun _ _=>rfl,fun i blk hi=>by
   simp only[Env.zero] at hi |-;rw[List.getElem?_append_left (List.getElem?_eq_some_iff.1 hi).1];exact hi,fun r c g d k els' _ he=>by simp[Env.zero] at he⟩
 have hbl:=RpB.length hb;have t1:=RpA.go hle (fun _ _=>rfl) (xA0 _) hrest;have t2:=RpB.go hle (fun _ _=>rfl) (fun c cs' _ _=>xA0 cs') hb;have t3:=RpB.append t2 (x:=some ((els x).flatten.map oA)) (b:=⟨b0,o⟩) (o:=b0::n) ⟨n,us,rfl,hwin,k1⟩;have hmem:∀y,y∈p2++(o2++(b0::n))↔y∈(b0::n++p2)++o2:=fun y=>by
  simp only[List.mem_append,List.mem_cons]
  constructor
  ·rintro (h | h | h | h)<;>simp[h]
  ·rintro (((h | h) | h) | h)<;>simp[h]
 have hperm:List.Perm (p2++(o2++(b0::n))) ((b0::n++p2)++o2):=by
  rw[<-List.append_assoc,List.append_assoc (b0::n) p2 o2];exact List.perm_append_comm
 exact ⟨v,rfl,_,_,S',bl'++[⟨b0,o⟩],p2,o2++(b0::n),⟨x,hW,rfl,rfl⟩,
  ⟨ha,_,us',[],p2,hfl,rfl,⟨rfl,⟨b0,o⟩,cap,by show (bl'++[(⟨b0,o⟩:Bk)])[(b x).length]?=_;rw[List.getElem?_append_right (by omega)];simp[hbl],rfl,hcap⟩,t1⟩,t3,
  hperm.nodup_iff.2 hn,fun y hy=>⟨(hs y hy).1,fun q=>(hs y hy).2 ((hmem y).1 q)⟩,hSS,hS',hk,fun y hy=>ho y ((hmem y).1 hy),hp.trans (List.prefix_append _ _)⟩
theorem RepSC.ofA {S:Nat->Prop} {bl:List Bk} {w:World} {b:Nat}:∀{o:Nat} {cs:List T} {us:List Value} {own:List Nat},(∀a,T.own a∉cs)->RpA (Env.zero S S bl w) (cs.map (tA true)) us own->(∀j u,us[j]?=some u->w.cell? ⟨b,o+j,none⟩=some u)->RepSC S w b o cs
 | _,[],_,_,_,_,_=>by simp only[RepSC]
 | o,c::cs,us,own,hn,h,hc=>by
  obtain ⟨u,us',o1,o2,rfl,rfl,h3,h4⟩:=h;simp only[RepSC];refine ⟨⟨u,hc 0 u rfl,?_⟩,RepSC.ofA (fun a ha=>hn a (List.mem_cons_of_mem _ ha)) h4 fun j v hj=>by have:=hc (j+1) v (by simpa using hj);rwa[Nat.add_assoc,Nat.add_comm 1 j]⟩
  cases c with
  | lit v=>simp only[RepS];exact ⟨h3.1,h3.2.1⟩
  | sl els=>exact h3.1
  | own els=>exact absurd List.mem_cons_self (hn els)
theorem RepSE.ofA {S:Nat->Prop} {bl:List Bk} {w:World} {b:Nat}:∀{o:Nat} {es:List (List T)} {us:List Value} {own:List Nat},(∀e∈es,∀a,T.own a∉e)->RpA (Env.zero S S bl w) (es.flatten.map (tA true)) us own->(∀j u,us[j]?=some u->w.cell? ⟨b,o+j,none⟩=some u)->RepSE S w b o es
 | _,[],_,_,_,_,_=>by simp only[RepSE]
 | o,e::es,us,own,hn,h,hc=>by
  rw[List.flatten_cons,List.map_append] at h;obtain ⟨u1,u2,o1,o2,rfl,rfl,h3,h4⟩:=RpA.append_iff.1 h;have hl:=RpA.length h3;rw[List.length_map] at hl;simp only[RepSE];refine ⟨RepSC.ofA (hn e List.mem_cons_self) h3 fun j v hj=>hc j v (by rw[List.getElem?_append_left (List.getElem?_eq_some_iff.1 hj).1];exact hj),RepSE.ofA (fun e he=>hn e (List.mem_cons_of_mem _ he)) h4 fun j v hj=>?_⟩
  have:=hc (e.length+j) v (by rw[<-hl,List.getElem?_append_right (by omega),Nat.add_sub_cancel_left];exact hj)
  rwa[<-Nat.add_assoc] at this
def kA1 (nb:Nat) (els els2:List (List T)) (b0:List (Option (List A))) (res:AV) (bx:List (Option (List A))):Prop:=
 ∃j k n c cells rest,res=⟨.agg,[.bsl j k n,c]⟩/\n=els.length/\nb<=j/\bx[j]?=some (some (cells++rest))/\cells.map A.roC=els.flatten.map (tA true)/\(∀e∈els,∀a,T.own a∉e)/\c.roC=.ro true els2/\(bx.take nb).map (wM0 nb)=b0
theorem wV1 {P:Program} {f:FuncId} {args:List AV} {bx:List (Option (List A))} {α:Type} {W:α->Prop} {els els2:α->List (List T)} {b:α->List (Option (List A))} (nb:Nat) (hbx:bx.length=nb)
  (h:ACl P f args bx (fun res bx=>∃x,W x/\kA1 nb (els x) (els2 x) (b x) res bx)) :
  ACl P f args bx (fun res bx=>∃x,W x/\res=⟨.agg,[.ro true (els x),.ro true (els2 x)]⟩/\bx=b x):=by
 intro w vals S L bl O1 O2 h1 h2 h3 h4 h5 h6;refine (h w vals S L bl O1 O2 h1 h2 h3 h4 h5 h6).mono ?_;rintro e w' ⟨v,rfl,res,bx',S',bl',o1,o2,⟨x,hW,j,k,n,c,cells,rest,rfl,rfl,hj,hbj,hcells,hno,hc,hb0⟩,hv,hb,hn,hs,hSS,hS',hk,ho,hp⟩;obtain ⟨ha,u,us',p1,p2,hfl,rfl,⟨rfl,blk,cap,hblk,rfl,hcap⟩,hrest⟩:=hv;obtain ⟨u2,us2,q1,q2,rfl,rfl,hc2,rfl,rfl⟩:=hrest;have hjl:j < bx'.length:=(List.getElem?_eq_some_iff.1 hbj).1
 have hb':=hb;rw[<-List.take_append_drop nb bx'] at hb';obtain ⟨b1,b2,oa,ob,e1,rfl,m1,m2⟩:=RpB.split_append hb';have hb1:b1.length=nb:=by rw[RpB.length m1,List.length_take];omega
 have hbd:(bx'.drop nb)[j - nb]?=some (some (cells++rest)):=by rw[List.getElem?_drop,show nb+(j - nb)=j by omega];exact hbj
 obtain ⟨blk',pp,oo,qq,g1,rfl,⟨oi,us,rfl,hwin,hra⟩,_⟩:=RpB.split _ _ m2 hbd;have hblk2:blk'=blk:=by
  have hblk:bl'[j]?=some blk:=hblk;rw[e1,List.getElem?_append_right (by omega),hb1,g1] at hblk
  simpa using hblk
 subst hblk2;have hzero:(Env.zero S' S' bl' w')=⟨S',S',bl',⟨#[],[]⟩,w',fun _ _=>none⟩:=rfl;obtain ⟨own',l1,l2⟩:=RpB.leave (nb:=nb) nb (hzero ▸ m1);have htake:(bx'.take nb).take nb=bx'.take nb:=by rw[List.take_take,Nat.min_self]
 rw[htake,hb0,List.take_of_length_le (l:=b1) (by omega)] at l1
 have hbl1:b1=bl'.take nb:=by rw[e1,List.take_append_of_le_length (by omega),List.take_of_length_le (by omega)]
 let S2:Nat->Prop:=fun y=>S' y\/y∈q1\/y∈blk'.b::oi
 have hup:∀y,S' y->S2 y:=fun y h=>.inl h;obtain ⟨v1,v2,a1,a2,rfl,rfl,r1,r2⟩:=RpA.append_iff.1 hra;have r3:=RpA.roC (S':=S2) hup (fun y hy=>.inr (.inr (by simp[hy]))) r1
 rw[hcells] at r3;have r4:RepSE S2 w' blk'.b blk'.o (els x):=RepSE.ofA hno r3 fun i u hi=>hwin.cell i u (by rw[List.getElem?_append_left (List.getElem?_eq_some_iff.1 hi).1];exact hi)
 have r5:=RepA.roC (S':=S2) hup (fun y hy=>.inr (.inl hy)) hc2;rw[hc] at r5;have hsub:∀y∈own',y∈oa:=fun y hy=>l2.subset hy;have hnd:=hn;simp only[List.nil_append,List.append_nil] at hnd hs ho;refine ⟨v,rfl,_,_,S2,bl'.take nb,[],own',⟨x,hW,rfl,rfl⟩,⟨ha,_,[u2],[],[],hfl,rfl,⟨?_,rfl⟩,u2,[],[],[],rfl,rfl,⟨r5.1,rfl⟩,rfl,rfl⟩,?_,?_,?_,fun y hy=>.inl (hSS y hy),?_,hk,fun y hy=>?_,?_⟩
 ·show RepS S2 w' (.sl (els x)) _
  simp only[RepS];exact ⟨_,cap,rfl,hcap,fun _=>⟨_,_,rfl,.inr (.inr List.mem_cons_self),r4⟩⟩
 ·rw[hbl1] at l1
  exact RpB.go (le_zero hup) (fun _ _=>rfl) (fun c cs' _ _=>xA0 cs') l1
 ·rw[List.nil_append]
  exact ((List.nodup_append.1 (List.nodup_append.1 hnd).2.1).1).sublist l2
 ·have hnd2:=List.nodup_append.1 hnd
  have hnd3:=List.nodup_append.1 hnd2.2.1;have hbox:∀y∈blk'.b::(a1++a2),y < w'.heap.size:=fun y hy=>by
   rcases List.mem_cons.1 hy with rfl | hy
   ·exact hwin.lt
   ·exact RpA.lt hra y hy
  rintro y (hy | hy | hy)
  ·exact ⟨(hs y hy).1,fun q=>(hs y hy).2 (by rw[List.nil_append] at q;simp[hsub y q])⟩
  ·exact ⟨RepA.lt hc2 y hy,fun q=>hnd2.2.2 y hy y (by rw[List.nil_append] at q;simp[hsub y q]) rfl⟩
  ·exact ⟨hbox y hy,fun q=>hnd3.2.2 y (hsub y (by rwa[List.nil_append] at q)) y (by simp only[List.mem_append];exact .inl (.inr hy)) rfl⟩
 ·rintro y (hy | hy | hy)
  ·exact hS' y hy
  ·exact (ho y (by simp[hy])).elim (fun q=>.inr (.inl q)) fun q=>.inr (.inr q)
  ·exact (ho y (by simp only[List.mem_append];exact .inr (.inr (.inl (.inr hy))))).elim (fun q=>.inr (.inl q)) fun q=>.inr (.inr q)
 ·rw[List.nil_append] at hy
  exact ho y (by simp[hsub y hy])
 ·rw[<-hbl1]
  have hbl0:=RpB.length h2;rw[e1] at hp;exact List.prefix_of_prefix_length_le hp (List.prefix_append _ _) (by omega)
end Go.Av
/- A box takes over what a slot owns, where its cell refers to it. -/
namespace Go.Av
variable {C:Ctx} {σ:AS} {a:Act} {w:World}
theorem VZ0 {l:List Value} {o:Nat} {u:Value} (h:l[o]?=some u):splice l o [u]=l:=by
 obtain ⟨hl,e⟩:=List.getElem?_eq_some_iff.1 h;simp only[splice,List.length_singleton];rw[List.append_assoc,List.singleton_append,<-e,<-List.drop_eq_getElem_cons hl,List.take_append_drop]
theorem UB0 {w:World} {g:Nat} {arr:Array Value} {ty:TypeId} {fz:Nat×Nat} (h:w.heap[g]?=some (.cells arr ty fz)):w.setRow g arr=w:=by
 have:(w.setRow g arr).heap=w.heap:=by
  apply Array.ext_getElem?;intro i
  by_cases e:i=g
  ·subst e
   rw[setRow_heap w i arr arr ty fz h,h]
  ·exact setRow_other _ _ _ _ e
 cases w;simp only[World.setRow] at this |-;rw[this]
end Go.Av
namespace Go.Gv
open Go.Av
variable {C:Ctx} {σ:AS} {a:Act} {w:World}
def zA1 (O:Ops) (t b off:Nat) (σ:AS):AS:=match σ.boxes[b]? with
 | some (some cs0)=>match cs0[off]? with
  | some (.sref (.slot t') 0 g lo n)=>if t'=t then match σ.ad? (.slot t) 0 g with
   | some (d,k,els)=>((σ.setCell (.slot t) 0 .dead).setBox b (splice cs0 off [.ow (σ.epoch,0) d k (O.seg lo n els)])).next
   | none=>σ
   else σ
  | _=>σ
 | _=>σ
theorem DZ0 {t b off:Nat} (h:Inv C [] σ a w):Inv C [] (zA1 .std t b off σ) a w:=by
 unfold zA1
 split
 ·rename_i cs0 hb
  split
  ·rename_i t' g lo n hc
   split
   ·rename_i ht
    subst ht
    split
    ·rename_i d k els had
     obtain ⟨S,L,bl,O1,O2,h⟩:=h;have h':=h.mono (X':=[0]) (by simp)
     have hf:Fresh σ (σ.epoch,0):=h.fresh (by simp)
     obtain ⟨blk,p,o,q,g1,g2,⟨o2,us,e1,hwin,hcs⟩,_⟩:=RpB.split b _ h.boxes hb;obtain ⟨u,p1,oo,q1,f1,f2,f3,_⟩:=RpA.split off _ hcs hc;have hoo:oo=[]:=f3.1;subst hoo;have hbm:=List.mem_of_getElem? hb;have hcm:=List.mem_of_getElem? hc;have took:=yE0 (fun r _=>match r with | .slot _=>true | _=>false) h' (i:=0) (by simp) hf (cs:=[.sref (.slot t') 0 g lo n]) (us:=[u]) ⟨u,[],[],[],rfl,rfl,f3,rfl,rfl⟩
      (fun x hx=>List.mem_singleton.1 hx ▸ h'.stB _ hbm _ hcm) (fun x hx=>List.mem_singleton.1 hx ▸ hf.2 _ hbm _ hcm) (by simp)
     simp only[tkC,had] at took;obtain ⟨O1',O2',o',t1,t2,t3,t4,t5,t6,t7,t8,t9,t10,t11,t12,t13,t14⟩:=took;have hlt:=(List.getElem?_eq_some_iff.1 hc).1;obtain ⟨blk',arr,ty,fz,O2'',k1,k2,k3,k5,k4⟩:=t1.boxput (i:=0) (off:=off) (b:=b) (cs0:=cs0) hb (by rw[t9];exact t8) t2 (by show off+1<=_;omega) (by rw[t9];exact t6) (by rw[t9];exact t5) (by rw[t9];exact t7) t3 t4
     rw[g1] at k1;simp only[Option.some.injEq] at k1;subst k1;obtain ⟨arr',ty',fz',w1,w2,w3,w4⟩:=hwin;rw[k2] at w1;simp only[Option.some.injEq,Obj.cells.injEq] at w1;obtain ⟨rfl,rfl,rfl⟩:=w1;have hu:=w4 off u f1;rw[VZ0 (by rw[Array.getElem?_toList];exact hu),Array.toArray_toList,UB0 k2] at k4
     exact Inv.next (X:=[0]) ⟨S,L,bl,O1',O2'',k4⟩
    ·exact h
   ·exact h
  ·exact h
 ·exact h
def DY0 (O:Ops):List (Nat×Nat×Nat)->AS->AS
 | [],σ=>σ
 | x::l,σ=>DY0 O l (zA1 O x.1 x.2.1 x.2.2 σ)
theorem VN0:∀(l:List (Nat×Nat×Nat)) {σ:AS},Inv C [] σ a w->Inv C [] (DY0 .std l σ) a w
 | [],_,h=>h
 | x::l,_,h=>VN0 l (DZ0 (t:=x.1) (b:=x.2.1) (off:=x.2.2) h)
structure Ado (id:Nat) (l:List (Nat×Nat×Nat)):Prop
theorem bRa {O:Ops} {ts:Nat->Option TI} {P:Program} {C:Ctx} {σ:AS} {Q:Exit->AS->Prop} {base id:Nat} {ops:Array Oper} {l:List (Nat×Nat×Nat)} (_:Bx base) (_:Ado id l) (h:∀K:AS->Prop,(∀σ',Q .normal σ'->K σ')->gOps O ts P base ops (List.range ops.size) [] [] (DY0 O l σ) K):At O ts P C (.region id ops false) σ Q:=⟨by
 intro hO ht a w hi;subst hO;exact (aR (C:=C) h).go rfl ht a w (VN0 _ hi)⟩
section
variable {G H:Prop}
theorem qAd (b c rid:Nat) (l:List (Nat×Nat×Nat)) (h:H) (t:Bx b->Bx c->Ado rid l->Wr H->G:=by
 intro hB hB2 hD hZ;(try intro K hK)
 first|(with_reducible refine Nx.mk ?_;first|(with_reducible refine atId ?_)|(with_reducible refine nxId ?_;(conv=>whnf);(first|(with_reducible refine atId ?_)|(with_reducible refine FinAt.mk ?_;cbv;try simp only[hseg])|(cbv;try simp only[hseg])))|(try cbv;try simp only[hseg]))|skip
 repeat1' (first
  |(with_reducible refine hK _ ?_;clear hK K);(conv=>whnf);(first|(with_reducible refine atId ?_)|(with_reducible refine FinAt.mk ?_;cbv;try simp only[hseg])|(cbv;try simp only[hseg]))
  |(with_reducible first|refine bRa hB hD ?_|refine bR hB ?_);intro K hK;cbv;try simp only[hseg]
  |(with_reducible refine FinAt.mk ?_);cbv;try simp only[hseg]
  |(with_reducible first|apply ndN|refine ndC True.intro ?_);try cbv
  |(with_reducible refine bE hB2 hM ?ndh ?_);(case ndh=>decide +kernel);intro K hK;cbv;try simp only[hseg]
  |(with_reducible refine ndC ?ndh ?_);(case ndh=>exact ntW)
  |(with_reducible refine nG ?_);(conv=>whnf)
  |(with_reducible first|apply dC0|apply dD0);(first|(with_reducible refine nxId ?_;(conv=>whnf);(first|(with_reducible refine atId ?_)|(with_reducible refine FinAt.mk ?_;cbv;try simp only[hseg])|(cbv;try simp only[hseg])))|(cbv;try simp only[hseg]))
  |(simp (disch:=omega) only [F.r1,F.r2,F.r3,F.r4,F.r5,F.r6,F.r7,F.r8,F.r9,F.r10,F.r11,F.r12,F.r13,F.r14,F.r15,F.r16,F.r17,F.r20,F.r21,F.r22,F.r18,F.r19,F.r23,F.r24,F.r25,F.r26,F.r27,F.r28,F.r29,Ex.tI hI,Sm.tI hI,Ru.tI hI,Fu.tI hI,JD0 hI,Vl.tI hI,Ik.tI hI,GN0 hI,qJ1 hI]);(try cbv)
  |(first|simp only[e1]|simp only[e2]|simp only[e3]|fail);(try cbv)
  |fail)
 (try revert hK K);exact hZ.go):G:=t ⟨⟩ ⟨⟩ ⟨⟩ ⟨h⟩
end
end Go.Gv
/- Of what a function hands over of its own some may be let go: slices in a deep slice that read as shared from here on. -/
namespace Go.Av
def gzC:List T->List T->Prop
 | [],[]=>True
 | c::cs,d::ds=>(d=c\/d=c.er)/\gzC cs ds
 | _,_=>False
def fzE:List (List T)->List (List T)->Prop
 | [],[]=>True
 | c::cs,d::ds=>gzC c d/\fzE cs ds
 | _,_=>False
def fzA:A->A->Prop
 | .ow g true k els,c'=>∃els',fzE els els'/\c'=.ow g true k els'
 | c,c'=>c'=c
def fzAs:List A->List A->Prop
 | [],[]=>True
 | c::cs,d::ds=>fzA c d/\fzAs cs ds
 | _,_=>False
theorem UN0:∀{c d:List T},gzC c d->d.length=c.length
 | [],[],_=>rfl
 | _::_,_::_,h=>by rw[List.length_cons,List.length_cons,UN0 h.2]
 | [],_::_,h=>h.elim
 | _::_,[],h=>h.elim
theorem bU0:∀{c d:List (List T)},fzE c d->d.length=c.length
 | [],[],_=>rfl
 | _::_,_::_,h=>by rw[List.length_cons,List.length_cons,bU0 h.2]
 | [],_::_,h=>h.elim
 | _::_,[],h=>h.elim
theorem GV0 {k:Nat}:∀{c d:List (List T)},fzE c d->(∀e∈c,e.length=k)->∀e∈d,e.length=k
 | [],[],_,_=>by simp
 | c::_,d::_,h,ha=>by
  intro e he;rcases List.mem_cons.1 he with rfl | he
  ·rw[UN0 h.1];exact ha c (by simp)
  ·exact GV0 h.2 (fun e he=>ha e (by simp[he])) e he
 | [],_::_,h,_=>h.elim
 | _::_,[],h,_=>h.elim
theorem er_L {S:Nat->Prop} {w:World} {c:T} {u:Value} (h:RepS S w c.er u):RepL S w c.er u []:=by
 cases c<;>simp only[T.er,RepS,RepL] at h |-
 ·exact ⟨h.1,h.2,trivial⟩
 ·exact ⟨h,trivial⟩
 ·exact ⟨h,trivial⟩
theorem RepLC.fz {S:Nat->Prop} {w:World} {b:Nat}:∀{o:Nat} {cs ds:List T} {own:List Nat},gzC cs ds->RepLC S w b o cs own->
  ∃o' m,own.Perm (o'++m)/\∀S':Nat->Prop,(∀b,S b->S' b)->(∀b∈m,S' b)->RepLC S' w b o ds o'
 | o,[],[],own,_,h=>by
  simp only[RepLC] at h;exact ⟨[],[],by rw[h];exact List.Perm.nil,fun S' _ _=>by simp only[RepLC]⟩
 | o,c::cs,d::ds,own,hf,h=>by
  simp only[RepLC] at h;obtain ⟨u,o1,o2,rfl,h1,h2,h3⟩:=h;obtain ⟨o',m,hp,hr⟩:=RepLC.fz hf.2 h3;rcases hf.1 with rfl | rfl
  ·refine ⟨o1++o',m,?_,fun S' hS hm=>?_⟩
   ·rw[List.append_assoc];exact List.Perm.append_left _ hp
   ·simp only[RepLC]
    exact ⟨u,o1,o',rfl,h1,RepL.mono hS (fun _ _=>rfl) _ _ _ (fun _ _=>rfl) h2,hr S' hS hm⟩
  ·refine ⟨o',o1++m,?_,fun S' hS hm=>?_⟩
   ·refine (List.Perm.append_left o1 hp).trans ?_
    rw[<-List.append_assoc,<-List.append_assoc];exact List.Perm.append_right _ List.perm_append_comm
   ·simp only[RepLC]
    exact ⟨u,[],o',rfl,h1,er_L (RepL.toS hS _ _ _ (fun b hb=>hm b (by simp[hb])) h2),hr S' hS fun b hb=>hm b (by simp[hb])⟩
 | _,[],_::_,_,h,_=>h.elim
 | _,_::_,[],_,h,_=>h.elim
theorem RepLE.fz {S:Nat->Prop} {w:World} {b:Nat}:∀{o:Nat} {cs ds:List (List T)} {own:List Nat},fzE cs ds->RepLE S w b o cs own->
  ∃o' m,own.Perm (o'++m)/\∀S':Nat->Prop,(∀b,S b->S' b)->(∀b∈m,S' b)->RepLE S' w b o ds o'
 | o,[],[],own,_,h=>by
  simp only[RepLE] at h;exact ⟨[],[],by rw[h];exact List.Perm.nil,fun S' _ _=>by simp only[RepLE]⟩
 | o,c::cs,d::ds,own,hf,h=>by
  simp only[RepLE] at h;obtain ⟨o1,o2,rfl,h2,h3⟩:=h;obtain ⟨p1,m1,q1,r1⟩:=RepLC.fz hf.1 h2;obtain ⟨p2,m2,q2,r2⟩:=RepLE.fz hf.2 h3;refine ⟨p1++p2,m1++m2,?_,fun S' hS hm=>?_⟩
  ·refine (List.Perm.append q1 q2).trans ?_
   rw[List.append_assoc,List.append_assoc];refine List.Perm.append_left _ ?_;rw[<-List.append_assoc,<-List.append_assoc];exact List.Perm.append_right _ List.perm_append_comm
  ·simp only[RepLE]
   exact ⟨p1,p2,rfl,r1 S' hS fun b hb=>hm b (by simp[hb]),by rw[UN0 hf.1];exact r2 S' hS fun b hb=>hm b (by simp[hb])⟩
 | _,[],_::_,_,h,_=>h.elim
 | _,_::_,[],_,h,_=>h.elim
theorem RepA.fz {S:Nat->Prop} {bl:List Bk} {w:World} {c d:A} {u:Value} {own:List Nat} (hf:fzA c d) (h:RepA (Env.zero S S bl w) c u own) :
  ∃o' m,own.Perm (o'++m)/\∀S':Nat->Prop,(∀b,S b->S' b)->(∀b∈m,S' b)->RepA (Env.zero S' S' bl w) d u o':=by
 have key:d=c->∃o' m,own.Perm (o'++m)/\∀S':Nat->Prop,(∀b,S b->S' b)->(∀b∈m,S' b)->RepA (Env.zero S' S' bl w) d u o':=fun e=>by
  subst e;exact ⟨own,[],by rw[List.append_nil],fun S' hS _=>RepA.go (le_zero hS) (fun _ _=>rfl) (xA0 [d] d List.mem_cons_self) h⟩
 cases c<;>try exact key hf
 rename_i g dd k els;cases dd
 ·exact key hf
 obtain ⟨els',he,rfl⟩:=hf;obtain ⟨ad,cap,h1,h2,h3,h4⟩:=h;rcases h4 with ⟨rfl,rfl,rfl⟩ | ⟨b,o,arr,ty,fz,n,g1,rfl,g3,g4,g5,g6⟩
 ·have e0:els'=[]:=by have:=bU0 he;simpa using this
  subst e0;exact ⟨[],[],List.Perm.nil,fun S' _ _=>⟨ad,0,h1,h2,h3,.inl ⟨rfl,rfl,rfl⟩⟩⟩
 ·obtain ⟨o',m,q1,q2⟩:=RepLE.fz he g6
  refine ⟨b::o',m,List.Perm.cons _ q1,fun S' hS hm=>⟨ad,cap,by rw[bU0 he];exact h1,by rw[bU0 he];exact h2,GV0 he h3,.inr ⟨b,o,arr,ty,fz,o',g1,rfl,g3,g4,g5,q2 S' hS hm⟩⟩⟩
theorem RpA.fz {S:Nat->Prop} {bl:List Bk} {w:World}:∀{cs ds:List A} {us:List Value} {own:List Nat},fzAs cs ds->RpA (Env.zero S S bl w) cs us own->
  ∃o' m,own.Perm (o'++m)/\∀S':Nat->Prop,(∀b,S b->S' b)->(∀b∈m,S' b)->RpA (Env.zero S' S' bl w) ds us o'
 | [],[],us,own,_,h=>by
  obtain ⟨rfl,rfl⟩:=h;exact ⟨[],[],List.Perm.nil,fun S' _ _=>⟨rfl,rfl⟩⟩
 | c::cs,d::ds,us,own,hf,h=>by
  obtain ⟨u,us',o1,o2,rfl,rfl,h2,h3⟩:=h;obtain ⟨p1,m1,q1,r1⟩:=RepA.fz hf.1 h2;obtain ⟨p2,m2,q2,r2⟩:=RpA.fz hf.2 h3;refine ⟨p1++p2,m1++m2,?_,fun S' hS hm=>⟨u,us',p1,p2,rfl,rfl,r1 S' hS fun b hb=>hm b (by simp[hb]),r2 S' hS fun b hb=>hm b (by simp[hb])⟩⟩
  refine (List.Perm.append q1 q2).trans ?_;rw[List.append_assoc,List.append_assoc];refine List.Perm.append_left _ ?_;rw[<-List.append_assoc,<-List.append_assoc];exact List.Perm.append_right _ List.perm_append_comm
 | [],_::_,_,_,h,_=>h.elim
 | _::_,[],_,_,h,_=>h.elim
theorem mX1 {P:Program} {f:FuncId} {args:List AV} {bx:List (Option (List A))} {cs ds:List A} {x:List (Option (List A))} (hf:fzAs cs ds)
  (h:ACl P f args bx (fun res bx=>res=⟨.agg,cs⟩/\bx=x)):ACl P f args bx (fun res bx=>res=⟨.agg,ds⟩/\bx=x):=by
 intro w vals S L bl O1 O2 h1 h2 h3 h4 h5 h6;refine (h w vals S L bl O1 O2 h1 h2 h3 h4 h5 h6).mono ?_;rintro e w' ⟨v,rfl,res,bx',S',bl',o1,o2,⟨rfl,rfl⟩,hv,hb,hn,hs,hSS,hS',hk,ho,hp⟩;have hlt:∀b∈o1,b < w'.heap.size:=RpA.lt hv.2;obtain ⟨o',m,hpm,hr⟩:=RpA.fz hf hv.2;have hup:∀b,S' b->(fun b=>S' b\/b∈m) b:=fun b h=>Or.inl h;have hn2:((o'++m)++o2).Nodup:=(List.Perm.append_right o2 hpm).nodup_iff.1 hn
 have hin:∀b,b∈o'\/b∈m->b∈o1:=fun b hb=>hpm.mem_iff.2 (List.mem_append.2 hb);refine ⟨v,rfl,⟨.agg,ds⟩,_,fun b=>S' b\/b∈m,bl',o',o2,⟨rfl,rfl⟩,⟨hv.1,hr _ hup fun b hb=>Or.inr hb⟩,RpB.go (le_zero hup) (fun _ _=>rfl) (fun c cs' _ _=>xA0 cs') hb,?_,?_,fun b hb=>Or.inl (hSS b hb),?_,hk,?_,hp⟩
 ·rw[List.append_assoc] at hn2
  have a:=List.nodup_append.1 hn2;have b:=List.nodup_append.1 a.2.1;exact List.nodup_append.2 ⟨a.1,b.2.1,fun x hx y hy=>a.2.2 x hx y (by simp[hy])⟩
 ·rintro b (hb | hb)
  ·refine ⟨(hs b hb).1,fun hb2=>(hs b hb).2 ?_⟩
   rcases List.mem_append.1 hb2 with hb2 | hb2
   ·exact List.mem_append_left _ (hin b (.inl hb2))
   ·exact List.mem_append_right _ hb2
  ·refine ⟨hlt b (hin b (.inr hb)),fun hb2=>?_⟩
   rw[List.append_assoc] at hn2;have a:=List.nodup_append.1 hn2;have c:=List.nodup_append.1 a.2.1;rcases List.mem_append.1 hb2 with hb2 | hb2
   ·exact a.2.2 b hb2 b (by simp[hb]) rfl
   ·exact c.2.2 b hb b hb2 rfl
 ·rintro b (hb | hb)
  ·exact hS' b hb
  ·rcases ho b (List.mem_append_left _ (hin b (.inr hb))) with h | h
   ·exact Or.inr (Or.inl h)
   ·exact Or.inr (Or.inr h)
 ·intro b hb
  rcases List.mem_append.1 hb with hb | hb
  ·exact ho b (List.mem_append_left _ (hin b (.inl hb)))
  ·exact ho b (List.mem_append_right _ hb)
end Go.Av
/- A loop over a slice of one's own: its head keeps one slot that refers to a slice in a box's cell. -/
namespace Go.Av
theorem kU0 {nb:Nat} {kk:Nat->Option Nat}:∀{cs ds:List A} {j c:Nat} {x:A},vG0 nb kk j cs=some ds->cs[c]?=some x->∃y,vY0 nb (kk (j+c)) x=some y/\ds[c]?=some y
 | [],_,_,c,x,_,h=>by simp at h
 | d::cs,ds,j,0,x,hx,h=>by
  simp only[vG0,Option.bind_eq_some_iff,Option.map_eq_some_iff] at hx;obtain ⟨y,hy,q,hq,rfl⟩:=hx;simp at h;subst h;exact ⟨y,hy,rfl⟩
 | d::cs,ds,j,c+1,x,hx,h=>by
  simp only[vG0,Option.bind_eq_some_iff,Option.map_eq_some_iff] at hx;obtain ⟨y,hy,q,hq,rfl⟩:=hx;obtain ⟨z,h1,h2⟩:=kU0 hq (by simpa using h)
  exact ⟨z,by rw[show j+(c+1)=j+1+c by omega];exact h1,by simpa using h2⟩
theorem rR0 {nb:Nat} {kk:Root->Nat->Option Nat}:∀{bs bs':List (Option (List A))} {b m:Nat} {cs:List A} {y:Option (List A)},wU0 nb kk b bs=some bs'->bs[m]?=some (some cs)->bs'[m]?=some y->∃ds,y=some ds/\vG0 nb (kk (.box (b+m))) 0 cs=some ds/\b+m < nb
 | [],_,_,m,_,_,_,h,_=>by simp at h
 | x::bs,bs',b,m,cs,y,hx,h,hy=>by
  by_cases hlt:b < nb
  ·cases x with
   | none=>
    simp only[wU0,if_pos hlt,Option.map_eq_some_iff] at hx;obtain ⟨q,hq,rfl⟩:=hx;cases m with
    | zero=>simp at h
    | succ m=>
     obtain ⟨ds,h1,h2,h3⟩:=rR0 hq (by simpa using h) (by simpa using hy)
     exact ⟨ds,h1,by rw[show b+(m+1)=b+1+m by omega];exact h2,by omega⟩
   | some ds0=>
    simp only[wU0,if_pos hlt,Option.bind_eq_some_iff,Option.map_eq_some_iff] at hx;obtain ⟨d,hd,q,hq,rfl⟩:=hx;cases m with
    | zero=>
     simp at h hy;subst h;subst hy;exact ⟨d,rfl,hd,by omega⟩
    | succ m=>
     obtain ⟨ds,h1,h2,h3⟩:=rR0 hq (by simpa using h) (by simpa using hy)
     exact ⟨ds,h1,by rw[show b+(m+1)=b+1+m by omega];exact h2,by omega⟩
  ·have hbx:bs'=[]:=by cases x<;>simp[wU0,hlt] at hx<;>exact hx
   subst hbx;simp at hy
section
variable {P:Program} {C:Ctx} {X:List Nat} {σ:AS} {a:Act} {w:World}
def wkS (nb:Nat) (keep:Nat->Bool) (kk:Root->Nat->Option Nat) (t:Nat) (σ:AS):Option AS:=match σ.slots[t]? with
 | some ⟨.one,[.sref (.box b) c g lo len]⟩=>match σ.cell (.box b) c with
  | some (.ow g' _ _ _)=>if g'=g then match wk nb keep kk σ with
    | some σ'=>match σ'.cell (.box b) c with
     | some _=>some (σ'.put t ⟨.one,[.sref (.box b) c (0,0) lo len]⟩).next
     | none=>none
    | none=>none
   else none
  | _=>none
 | _=>none
theorem vE1 {nb t:Nat} {keep:Nat->Bool} {kk:Root->Nat->Option Nat} {σ':AS} (hx:wkS nb keep kk t σ=some σ') (hC:C.bl0.length<=nb) (h:Inv C X σ a w):Inv C [] σ' a w:=by
 obtain ⟨S,L,bl,O1,O2,h⟩:=h;unfold wkS at hx
 split at hx
 case h_2=>cases hx
 rename_i b c g lo len hs
 split at hx
 case h_2=>cases hx
 rename_i g' d k els hc
 split at hx
 case isFalse=>cases hx
 rename_i hg;subst hg
 split at hx
 case h_2=>cases hx
 rename_i σ1 hw
 split at hx
 case h_2=>cases hx
 rename_i y hy;simp only[Option.some.injEq] at hx;subst hx;obtain ⟨v,p,o,q,g1,g2,g3,-⟩:=RpS.split t _ h.slots hs;obtain ⟨hone,u,us,o1,o2,f1,f2,f3,f4⟩:=g3;have f4:us=[]:=f4.1;subst f4;have hvu:v=u:=by
  obtain ⟨ha,hb⟩:=hone;cases v<;>simp[flat,isTuple,yV0] at f1 ha hb |-<;>exact f1
 subst hvu;obtain ⟨-,hone',hfa⟩:=f3;obtain ⟨hlo,ad,cap,x,hcv,hu,hsub⟩:=hfa d k els hc;have hw':=hw;simp only[wk,Option.bind_eq_some_iff,Option.map_eq_some_iff] at hw;obtain ⟨sl,hsl,bx,hbx,rfl⟩:=hw;obtain ⟨q1,s1,s2,s3⟩:=nA0 (ca':=(⟨sl,bx,1⟩:AS).cell) hsl h.slots;obtain ⟨q2,t1,t2,t3⟩:=tV0 (ca':=(⟨sl,bx,1⟩:AS).cell) (Nat.zero_le _) hbx h.boxes;have hsubl:=List.Sublist.append s2 t2;have hst:∀cs,Plain cs->∀c∈cs,stampIn [] 1 c:=fun cs hcs c hc g hg=>by
  rw[(hcs c hc).2 g hg];exact .inl (by simp)
 have hI:InvAt C [] ⟨sl,bx,1⟩ a w S L (bl.take nb) q1 q2:=by
  refine ⟨h.defers,s1,by simpa using t1,h.nodup.sublist hsubl,h.sl,fun b hb=>⟨(h.stable b hb).1,fun hm=>(h.stable b hb).2 (hsubl.subset hm)⟩,h.s0,h.keeps,fun b hb=>h.own b (hsubl.subset hb),?_,fun av hav=>hst _ (s3 av hav),fun cs hcs=>hst _ (t3 cs hcs)⟩
  obtain ⟨r,hr⟩:=h.pre;rw[<-hr,List.take_append,List.take_of_length_le hC];exact List.prefix_append _ _
 obtain ⟨cs,hb1,hb2⟩:∃cs,σ.boxes[b]?=some (some cs)/\cs[c]?=some (.ow g' d k els):=by
  simp only[AS.cell] at hc;cases hbb:σ.boxes[b]? with
  | none=>simp[hbb] at hc
  | some z=>cases z with
   | none=>simp[hbb] at hc
   | some cs=>exact ⟨cs,rfl,by simpa [hbb] using hc⟩
 obtain ⟨ds,hd1,hd2⟩:∃ds,bx[b]?=some (some ds)/\ds[c]?=some y:=by
  simp only[AS.cell] at hy;cases hbb:bx[b]? with
  | none=>simp[hbb] at hy
  | some z=>cases z with
   | none=>simp[hbb] at hy
   | some cs=>exact ⟨cs,rfl,by simpa [hbb] using hy⟩
 obtain ⟨ds',hd3,hd4,hbn⟩:=rR0 hbx hb1 hd1;simp only[Option.some.injEq] at hd3;subst hd3;obtain ⟨y',hy1,hy2⟩:=kU0 hd4 hb2;have hyy:y=y':=by rw[hd2] at hy2;exact Option.some.inj hy2
 subst hyy;simp only[vY0,Option.some.injEq] at hy1;have hcv':Env.cv ⟨S,L,bl.take nb,a,w,(⟨sl,bx,1⟩:AS).cell⟩ (.box b) c=some (.slice ad els.length cap):=by
  simp only[Env.cv] at hcv |-;rw[List.getElem?_take,if_pos (by omega)]
  exact hcv
 have hcell:(⟨sl,bx,1⟩:AS).cell (.box b) c=some (.ow (0,0) (xV0 (kk (.box (0+b)) (0+c)) d) k els):=by
  rw[hy,<-hy1]
 have hv:RepV ⟨S,L,bl.take nb,a,w,(⟨sl,bx,1⟩:AS).cell⟩ ⟨.one,[.sref (.box b) c (0,0) lo len]⟩ v []:=by
  refine ⟨hone,v,[],[],[],by rw[f1],rfl,⟨rfl,hone',fun d' k' els' he=>?_⟩,rfl,rfl⟩
  rw[show (Env.mk S L (bl.take nb) a w (⟨sl,bx,1⟩:AS).cell).ca (.box b) c=_ from hcell] at he
  simp only[Option.some.injEq,A.ow.injEq,true_and] at he;obtain ⟨-,rfl,rfl⟩:=he;exact ⟨hlo,ad,cap,x,hcv',hu,hsub⟩
 have h':=hI.mono (X':=[0]) (fun x hx=>by simp at hx)
 have hput:=h'.put (d:=t) (i:=0) (av:=⟨.one,[.sref (.box b) c (0,0) lo len]⟩) (v:=v) (o':=[]) (hI.fresh (by simp)) hv
  (by intro c0 hc0;simp only[List.mem_singleton] at hc0;subst hc0;exact Or.inr (by simp[A.rstamp]))
  (by intro c0 hc0;simp only[List.mem_singleton] at hc0;subst hc0;intro g0 hg0;simp only[A.stamp,Option.some.injEq] at hg0;subst hg0;exact .inl (by simp))
  (by intro g0 d0 k0 e0 hm;simp at hm) (by simp) (by simp)
 obtain ⟨q1',hput⟩:=hput;have hav:a.put (some t) v=a:=by
  unfold Act.put;have:a.tmps.setIfInBounds t v=a.tmps:=by
   apply Array.ext';rw[Array.toList_setIfInBounds];exact yG1 g1
  simp only[this]
 rw[hav] at hput;exact Inv.next ⟨S,L,bl.take nb,q1',q2,hput⟩
def uF0 (nb:Nat) (keep:Nat->Bool) (kk:Root->Nat->Option Nat) (t:Nat) (σ:AS) (K:AS->Prop):Prop:=match wkS nb keep kk t σ with
 | some σ'=>K σ'
 | none=>False
theorem AWp.loopS {nb t:Nat} {keep:Nat->Bool} {kk:Root->Nat->Option Nat} {c:Code} {Q:Exit->AS->Prop} (I:Nat->AS->Prop) (hC:C.bl0.length<=nb) (h0:uF0 nb keep kk t σ fun σ'=>∃n,I n σ')
  (round:∀n σ,I n σ->AWp P C c σ (tD0 (fun σ'=>uF0 nb keep kk t σ' fun σ''=>∃m,m < n/\I m σ'') Q)):AWp P C (.loop c) σ Q:=by
 unfold uF0 at h0
 split at h0
 ·rename_i σ' hx
  obtain ⟨n,hn⟩:=h0;intro a w hi;refine (AWp.loop I hn fun n σ hI=>?_) a w (vE1 hx hC hi);intro a w hi;refine wp_mono (round n σ hI a w hi) ?_;rintro e a' w' ⟨σ1,h1,h2⟩;cases e<;>first
   | exact ⟨σ1,h1,h2⟩
   | (simp only[tD0,uF0] at h1;split at h1;(rename_i σ2 hx2;exact ⟨σ2,h1,vE1 hx2 hC h2⟩);(exact h1.elim))
 ·exact h0.elim
end
end Go.Av
namespace Go.Gv
open Go.Av
theorem qLs {α:Type} {O:Ops} {ts:Nat->Option TI} {P:Program} {C:Ctx} {σ:AS} {Q:Exit->AS->Prop} {c:Code} (nb:Nat) (ks:List Nat) (kk:Root->Nat->Option Nat) (t:Nat) (S:α->AS) (V:α->Prop) (μ:α->Nat) (h0:uF0 nb (fun t=>ks.contains t) kk t σ fun σ'=>∃a,σ'=S a/\V a)
  (round:∀a,V a->Nx (nxt O ts P C c (S a) (tD0 (fun σ'=>uF0 nb (fun t=>ks.contains t) kk t σ' fun σ''=>∃a',σ''=S a'/\V a'/\μ a' < μ a) Q))) (hC':C.bl0.length<=nb:=by first|(simp at hC;simp[hC];done)|(simp[hC];done)|omega|(simp at hC;omega)|fail):At O ts P C (.loop c) σ Q:=by
 refine ⟨fun hO ht=>AWp.loopS (nb:=nb) (t:=t) (keep:=fun t=>ks.contains t) (kk:=kk) (fun n σ=>∃a,σ=S a/\V a/\n=μ a) hC' ?_ fun n σ=>?_⟩
 ·unfold uF0 at h0 |-
  split at h0
  ·rename_i x hx
   obtain ⟨a,h1,h2⟩:=h0;exact ⟨_,a,h1,h2,rfl⟩
  ·exact h0.elim
 ·rintro ⟨a,rfl,h1,rfl⟩
  have h:=(round a h1).go;have e:(tD0 (fun σ'=>uF0 nb (fun t=>ks.contains t) kk t σ' fun σ''=>∃a',σ''=S a'/\V a'/\μ a' < μ a) Q)=(tD0 (fun σ'=>uF0 nb (fun t=>ks.contains t) kk t σ' fun σ''=>∃m,m < μ a/\∃a,σ''=S a/\V a/\m=μ a) Q):=by
   congr 1
   funext σ'
   congr 1
   funext σ''
   exact propext ⟨fun ⟨a',h1,h2,h3⟩=>⟨_,h3,a',h1,h2,rfl⟩,fun ⟨m,h3,a',h1,h2,h4⟩=>⟨a',h1,h2,h4 ▸ h3⟩⟩
  rw[e] at h;exact rL0 h hO ht
end Go.Gv
/- A law over one value of several cells, plain data that is read. -/
namespace Go.Gv
open Go.Av
theorem UK0 {w w':World} (h:Av.Keeps [] w w'):RowKit.Below w.heap.size w w':=⟨h.os,h.tape,h.output,h.size,fun b hb=>h.block b hb (by simp)⟩
end Go.Gv
