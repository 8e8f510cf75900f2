/- Part R1 of the proof: Regular expressions as trees: which are right, their texts, and how a text is read what is right is read back of its text. / Reading regular expressions, told backwards: what the parts of the model reader came to, step by step, and what a loop of parts keeps. / Texts in order, each once what a program names. / What is told of terms and statements, one after the other generic in what is told. / What is told of terms and statements, and what they name: the same. / Texts that are sorted and of whic -/
import Derived.Test.YtjeejieaalnbeaaGreatK1
import Derived.Lib.SlicesCompact
import Derived.Test.YtjeejieaalnbeaaGreatK2
import Derived.Sort.Grow
import Derived.Sort.EncStr
set_option linter.all false
/- Regular expressions as trees: which are right, their texts, and how a text is read; what is right is read back of its text. -/
namespace Go.Gv
open Go.Av
inductive Rx where
 | mk (k:Int) (s:ByteArray) (l:List Rx)
 deriving Inhabited
def Rx.k:Rx->Int | .mk k _ _=>k
mutual
def Rx.t:Rx->List T
 | .mk k s l=>[.lit (.int .i64 k),.lit (.string s),.sl (Rx.ts l)]
def Rx.ts:List Rx->List (List T)
 | []=>[]
 | e::l=>Rx.t e::Rx.ts l
end
theorem Rx.ts_map:∀l,Rx.ts l=l.map Rx.t
 | []=>rfl
 | e::l=>by rw[Rx.ts,Rx.ts_map l,List.map_cons]
theorem Rx.t_mk (k:Int) (s:ByteArray) (l:List Rx):(Rx.mk k s l).t=[.lit (.int .i64 k),.lit (.string s),.sl (l.map Rx.t)]:=by rw[Rx.t,Rx.ts_map]
theorem Rx.t_len (e:Rx):e.t.length=3:=by cases e;rw[Rx.t];rfl
inductive Rx.Wf:Rx->Prop where
 | mk {k:Int} {s:ByteArray} {l:List Rx} (hs:s.size<=4611686018427387904) (hl:l.length<=4611686018427387904) (h:∀x∈l,Rx.Wf x):Rx.Wf (.mk k s l)
theorem Rx.Wf.inv {k:Int} {s:ByteArray} {l:List Rx} (h:(Rx.mk k s l).Wf):s.size<=4611686018427387904/\l.length<=4611686018427387904/\∀x∈l,Rx.Wf x:=by
 cases h with | mk h1 h2 h3=>exact ⟨h1,h2,h3⟩
abbrev Bs:=List UInt8
def ofL (l:Bs):ByteArray:=⟨l.toArray⟩
def toL (b:ByteArray):Bs:=b.data.toList
@[simp] theorem toL_ofL (l:Bs):toL (ofL l)=l:=by simp[toL,ofL]
@[simp] theorem ofL_toL (b:ByteArray):ofL (toL b)=b:=by simp[toL,ofL]
theorem ofL_app (a b:Bs):ofL a++ofL b=ofL (a++b):=by
 apply ByteArray.ext;simp[ofL]
theorem toL_len (a:ByteArray):(toL a).length=a.size:=Array.length_toList
theorem ofL_len (a:Bs):(ofL a).size=a.length:=by rw[<-toL_len,toL_ofL]
def selfB (c:UInt8):Bool:=(97<=c && c<=122) || (65<=c && c<=90) || (48<=c && c<=57) || c == 32 || c == 95 || c == 45 || c == 44 || c == 58
def rises:Bs->Bool
 | a::b::l=>a < b && rises (b::l)
 | _=>true
def setB (l:Bs):Bool:=l.all selfB && rises l && decide (1<=l.length) && decide (l.length<=10)
def loopK (k:Int):Bool:=k == 6 || k == 7 || k == 8
def Rx.here (k:Int) (s:ByteArray) (l:List Rx):Prop:=
 (k=1/\(∃c,toL s=[c]/\selfB c=true)/\l=[])\/(k=3/\setB (toL s)=true/\l=[])\/((k=2\/k=9\/k=10\/k=11)/\s=ofL []/\l=[])\/
 ((k=4\/k=5)/\s=ofL []/\2<=l.length/\l.length<=8/\∀x∈l,x.k≠k)\/((k=6\/k=7\/k=8)/\s=ofL []/\∃x,l=[x]/\loopK x.k=false)
inductive Rx.ok:Rx->Prop where
 | mk {k:Int} {s:ByteArray} {l:List Rx} (h:Rx.here k s l) (hl:∀x∈l,Rx.ok x):Rx.ok (.mk k s l)
mutual
def Rx.parts:Rx->Nat
 | .mk _ _ l=>1+Rx.partss l
def Rx.partss:List Rx->Nat
 | []=>0
 | e::l=>Rx.parts e+Rx.partss l
end
mutual
def Rx.depth:Rx->Nat
 | .mk _ _ l=>1+Rx.depths l
def Rx.depths:List Rx->Nat
 | []=>0
 | e::l=>max (Rx.depth e) (Rx.depths l)
end
def Rx.good (r:Rx):Prop:=r.ok/\r.parts<=60/\r.depth<=6
mutual
def Rx.txt:Rx->Bs
 | .mk k s l=>if k=1 then toL s else if k=2 then [46] else if k=3 then 91::(toL s++[93]) else if k=4 then Rx.cats l else if k=5 then Rx.alts l
  else if k=6 then Rx.one l++[42] else if k=7 then Rx.one l++[43] else if k=8 then Rx.one l++[63] else if k=10 then [94] else if k=11 then [36] else [40,41]
def Rx.cats:List Rx->Bs
 | []=>[]
 | .mk k s l::r=>(if k=5 then 40::(Rx.txt (.mk k s l)++[41]) else Rx.txt (.mk k s l))++Rx.cats r
def Rx.alts:List Rx->Bs
 | []=>[]
 | [x]=>Rx.txt x
 | x::y::r=>Rx.txt x++124::Rx.alts (y::r)
def Rx.one:List Rx->Bs
 | .mk k s l::_=>if k=4\/k=5 then 40::(Rx.txt (.mk k s l)++[41]) else Rx.txt (.mk k s l)
 | []=>[]
end
def e0:ByteArray:=ofL []
def upTo:Bs->Option (Bs×Bs)
 | []=>none
 | c::r=>if c=93 then some ([],r) else match upTo r with
  | some (a,b)=>some (c::a,b)
  | none=>none
mutual
def mAtom:Nat->Nat->Bs->Option (Rx×Bs)
 | 0,_,_=>none
 | _+1,_,[]=>none
 | n+1,d,c::r=>
  if selfB c=true then some (.mk 1 (ofL [c]) [],r)
  else if c=46 then some (.mk 2 e0 [],r)
  else if c=94 then some (.mk 10 e0 [],r)
  else if c=36 then some (.mk 11 e0 [],r)
  else if c=91 then match upTo r with
   | some (a,b)=>some (.mk 3 (ofL a) [],b)
   | none=>none
  else if c=40 then match r with
   | []=>none
   | c'::r'=>if c'=41 then some (.mk 9 e0 [],r') else match d with
    | 0=>none
    | d+1=>match mAlt n d (c'::r') with
     | some (x,c''::r'')=>if c''=41 then some (x,r'') else none
     | _=>none
  else none
def mItem:Nat->Nat->Bs->Option (Rx×Bs)
 | 0,_,_=>none
 | n+1,d,l=>match mAtom n d l with
  | none=>none
  | some (x,[])=>some (x,[])
  | some (x,c::r)=>if c=42 then some (.mk 6 e0 [x],r) else if c=43 then some (.mk 7 e0 [x],r) else if c=63 then some (.mk 8 e0 [x],r) else some (x,c::r)
def mItems:Nat->Nat->Bs->Option (List Rx×Bs)
 | 0,_,_=>none
 | _+1,_,[]=>some ([],[])
 | n+1,d,c::r=>if c=124\/c=41 then some ([],c::r) else match mItem n d (c::r) with
  | none=>none
  | some (x,r1)=>match mItems n d r1 with
   | none=>none
   | some (xs,r2)=>some (x::xs,r2)
def mCat:Nat->Nat->Bs->Option (Rx×Bs)
 | 0,_,_=>none
 | n+1,d,l=>match mItems n d l with
  | none=>none
  | some ([],_)=>none
  | some ([x],r)=>some (x,r)
  | some (x::y::xs,r)=>some (.mk 4 e0 (x::y::xs),r)
def mAlts:Nat->Nat->Bs->Option (List Rx×Bs)
 | 0,_,_=>none
 | _+1,_,[]=>some ([],[])
 | n+1,d,c::r=>if c=124 then match mCat n d r with
   | none=>none
   | some (x,r1)=>match mAlts n d r1 with
    | none=>none
    | some (xs,r2)=>some (x::xs,r2)
  else some ([],c::r)
def mAlt:Nat->Nat->Bs->Option (Rx×Bs)
 | 0,_,_=>none
 | n+1,d,l=>match mCat n d l with
  | none=>none
  | some (x,r)=>match mAlts n d r with
   | none=>none
   | some ([],r')=>some (x,r')
   | some (y::xs,r')=>some (.mk 5 e0 (x::y::xs),r')
end
def noHead (c:UInt8):Prop:=c≠41/\c≠42/\c≠43/\c≠63/\c≠124
theorem selfB_no {c:UInt8} (h:selfB c=true):noHead c/\c≠46/\c≠94/\c≠36/\c≠91/\c≠40/\c≠93:=by
 refine ⟨⟨?_,?_,?_,?_,?_⟩,?_,?_,?_,?_,?_,?_⟩<;>(rintro rfl;exact absurd h (by decide))
theorem Rx.ok_inv {k:Int} {s:ByteArray} {l:List Rx} (h:(Rx.mk k s l).ok):Rx.here k s l/\∀x∈l,Rx.ok x:=by
 cases h with | mk h hl=>exact ⟨h,hl⟩
theorem Rx.parts_pos (r:Rx):1<=r.parts:=by cases r;rw[Rx.parts];omega
theorem Rx.parts_mem:∀{l:List Rx} {x:Rx},x∈l->x.parts<=Rx.partss l
 | [],x,h=>by simp at h
 | y::l,x,h=>by
  rw[Rx.partss];rcases List.mem_cons.1 h with rfl | h
  ·omega
  ·have:=Rx.parts_mem h;omega
theorem Rx.depth_mem:∀{l:List Rx} {x:Rx},x∈l->x.depth<=Rx.depths l
 | [],x,h=>by simp at h
 | y::l,x,h=>by
  rw[Rx.depths];rcases List.mem_cons.1 h with rfl | h
  ·omega
  ·have:=Rx.depth_mem h;omega
def Rx.unit (x:Rx):Bs:=if x.k=5 then 40::(x.txt++[41]) else x.txt
theorem Rx.cats_cons (x:Rx) (l:List Rx):Rx.cats (x::l)=x.unit++Rx.cats l:=by
 obtain ⟨k,s,l'⟩:=x;rw[Rx.cats];rfl
theorem Rx.one_cons (x:Rx) (l:List Rx):Rx.one (x::l)=if x.k=4\/x.k=5 then 40::(x.txt++[41]) else x.txt:=by
 obtain ⟨k,s,l'⟩:=x;rw[Rx.one];rfl
theorem Rx.head_ok:∀(m:Nat) (y:Rx),y.parts<=m->y.ok->∃c r,y.txt=c::r/\noHead c
 | 0,y,h,_=>by have:=y.parts_pos;omega
 | m+1,.mk k s l,h,hy=>by
  obtain ⟨hh,hl⟩:=Rx.ok_inv hy;rw[Rx.parts] at h;have ih:∀x∈l,∃c r,x.txt=c::r/\noHead c:=fun x hx=>Rx.head_ok m x (by have:=Rx.parts_mem hx;omega) (hl x hx)
  rcases hh with ⟨rfl,⟨c,hc,hb⟩,rfl⟩ | ⟨rfl,_,rfl⟩ | ⟨hk,rfl,rfl⟩ | ⟨hk,rfl,h2,h8,hne⟩ | ⟨hk,rfl,x,rfl,hx⟩
  ·exact ⟨c,[],by rw[Rx.txt,if_pos rfl,hc],(selfB_no hb).1⟩
  ·exact ⟨91,_,by rw[Rx.txt];rfl,by unfold noHead;decide⟩
  ·rcases hk with rfl | rfl | rfl | rfl<;>exact ⟨_,_,by rw[Rx.txt];rfl,by unfold noHead;decide⟩
  ·match l,h2,ih with
   | x::y::r,_,ih=>
    obtain ⟨c,r',hc,hn⟩:=ih x List.mem_cons_self;rcases hk with rfl | rfl
    ·rw[Rx.txt]
     simp only[Rx.cats_cons,Rx.unit,show ¬(4:Int)=1 by decide,show ¬(4:Int)=2 by decide,show ¬(4:Int)=3 by decide,if_true,if_false]
     split
     ·exact ⟨40,_,rfl,by unfold noHead;decide⟩
     ·exact ⟨c,_,by rw[hc];rfl,hn⟩
    ·rw[Rx.txt]
     simp only[Rx.alts,show ¬(5:Int)=1 by decide,show ¬(5:Int)=2 by decide,show ¬(5:Int)=3 by decide,show ¬(5:Int)=4 by decide,if_true,if_false]
     exact ⟨c,_,by rw[hc];rfl,hn⟩
  ·obtain ⟨c,r',hc,hn⟩:=ih x List.mem_cons_self
   have:∃d,(Rx.mk k (ofL []) [x]).txt=Rx.one [x]++[d]:=by
    rcases hk with rfl | rfl | rfl<;>exact ⟨_,by rw[Rx.txt];rfl⟩
   obtain ⟨d,hd⟩:=this;rw[hd,Rx.one_cons]
   split
   ·exact ⟨40,_,rfl,by unfold noHead;decide⟩
   ·exact ⟨c,_,by rw[hc];rfl,hn⟩
theorem upTo_app:∀(a b:Bs),(∀c∈a,c≠93)->upTo (a++93::b)=some (a,b)
 | [],b,_=>by simp[upTo]
 | c::a,b,h=>by
  rw[List.cons_append,upTo,if_neg (h c List.mem_cons_self),upTo_app a b fun x hx=>h x (List.mem_cons_of_mem _ hx)]
def endA (p:Bs):Prop:=p=[]\/∃r,p=41::r
def endC (p:Bs):Prop:=p=[]\/(∃r,p=41::r)\/∃r,p=124::r
def endI (p:Bs):Prop:=p=[]\/∃c r,p=c::r/\c≠42/\c≠43/\c≠63
theorem selfB40:selfB 40=false:=by decide
theorem selfB91:selfB 91=false:=by decide
theorem atom_leaf {k:Int} {s:ByteArray} (hh:Rx.here k s []) (n d:Nat) (p:Bs):mAtom (n+1) d ((Rx.mk k s []).txt++p)=some (.mk k s [],p):=by
 rcases hh with ⟨rfl,⟨c,hc,hb⟩,_⟩ | ⟨rfl,hs,_⟩ | ⟨hk,rfl,_⟩ | ⟨_,_,h2,_⟩ | ⟨_,_,x,hx,_⟩
 ·rw[Rx.txt,if_pos rfl,hc,List.singleton_append,mAtom.eq_def]
  simp only[if_pos hb,<-hc,ofL_toL]
 ·have hn:∀c∈toL s,c≠93:=by
   intro c hc;simp only[setB,Bool.and_eq_true,List.all_eq_true] at hs;exact (selfB_no (hs.1.1.1 c hc)).2.2.2.2.2.2
  have e:(Rx.mk 3 s []).txt++p=91::(toL s++93::p):=by rw[Rx.txt];simp
  rw[e,mAtom.eq_def];simp[selfB91,upTo_app _ _ hn]
 ·rcases hk with rfl | rfl | rfl | rfl
  ·have e:(Rx.mk 2 (ofL []) []).txt++p=46::p:=by rw[Rx.txt];rfl
   rw[e,mAtom.eq_def];rfl
  ·have e:(Rx.mk 9 (ofL []) []).txt++p=40::41::p:=by rw[Rx.txt];rfl
   rw[e,mAtom.eq_def];rfl
  ·have e:(Rx.mk 10 (ofL []) []).txt++p=94::p:=by rw[Rx.txt];rfl
   rw[e,mAtom.eq_def];rfl
  ·have e:(Rx.mk 11 (ofL []) []).txt++p=36::p:=by rw[Rx.txt];rfl
   rw[e,mAtom.eq_def];rfl
 ·simp at h2
 ·simp at hx
theorem atom_group {y:Rx} {n d:Nat} {p:Bs} (hh:∃c r,y.txt=c::r/\noHead c) (h:mAlt n d (y.txt++41::p)=some (y,41::p)):mAtom (n+1) (d+1) (40::(y.txt++[41])++p)=some (y,p):=by
 obtain ⟨c,r,hc,hn⟩:=hh;have e:40::(y.txt++[41])++p=40::c::(r++41::p):=by rw[hc];simp
 have e2:y.txt++41::p=c::(r++41::p):=by rw[hc];rfl
 rw[e2] at h;rw[e,mAtom,selfB40];simp only[Bool.false_eq_true,if_false,show ¬(40:UInt8)=46 by decide,show ¬(40:UInt8)=94 by decide,show ¬(40:UInt8)=36 by decide,show ¬(40:UInt8)=91 by decide,if_true,if_neg hn.1,h]
theorem item_done {x:Rx} {n d:Nat} {l p:Bs} (h:mAtom n d l=some (x,p)) (hp:endI p):mItem (n+1) d l=some (x,p):=by
 rw[mItem,h];rcases hp with rfl | ⟨c,r,rfl,h1,h2,h3⟩
 ·rfl
 ·simp only[if_neg h1,if_neg h2,if_neg h3]
theorem items_end {n d:Nat} {p:Bs} (hp:endC p):mItems (n+1) d p=some ([],p):=by
 rcases hp with rfl | ⟨r,rfl⟩ | ⟨r,rfl⟩<;>rw[mItems.eq_def]<;>simp
theorem items_step {n d:Nat} {l r1 r2:Bs} {x:Rx} {xs:List Rx} (hl:∃c r,l=c::r/\c≠124/\c≠41) (h1:mItem n d l=some (x,r1)) (h2:mItems n d r1=some (xs,r2)):mItems (n+1) d l=some (x::xs,r2):=by
 obtain ⟨c,r,rfl,h3,h4⟩:=hl;rw[mItems.eq_def];simp only[h3,h4,or_self,if_false,h1,h2]
theorem alts_end {n d:Nat} {p:Bs} (hp:endA p):mAlts (n+1) d p=some ([],p):=by
 rcases hp with rfl | ⟨r,rfl⟩<;>rw[mAlts.eq_def]<;>simp
theorem alts_step {n d:Nat} {l r1 r2:Bs} {x:Rx} {xs:List Rx} (h1:mCat n d l=some (x,r1)) (h2:mAlts n d r1=some (xs,r2)):mAlts (n+1) d (124::l)=some (x::xs,r2):=by
 rw[mAlts.eq_def];simp only[if_true,h1,h2]
def CompA (y:Rx):Prop:=∀n d p,endA p->y.depth<=d+1->7 * y.txt.length+3<=n->mAlt n d (y.txt++p)=some (y,p)
def CompB (y:Rx):Prop:=y.k≠5->∀n d p,endC p->y.depth<=d+1->7 * y.txt.length+2<=n->mCat n d (y.txt++p)=some (y,p)
def CompC (y:Rx):Prop:=y.k≠4->y.k≠5->∀n d p,endI p->y.depth<=d+1->7 * y.txt.length<=n->mItem n d (y.txt++p)=some (y,p)
theorem Rx.ok_head {y:Rx} (h:y.ok):∃c r,y.txt=c::r/\noHead c:=Rx.head_ok _ y (Nat.le_refl _) h
theorem Rx.txt_pos {y:Rx} (h:y.ok):1<=y.txt.length:=by
 obtain ⟨c,r,hc,_⟩:=Rx.ok_head h;rw[hc];simp
theorem Rx.unit_head {y:Rx} (h:y.ok):∃c r,y.unit=c::r/\noHead c:=by
 unfold Rx.unit
 split
 ·exact ⟨40,_,rfl,by unfold noHead;decide⟩
 ·exact Rx.ok_head h
theorem Rx.depth_pos (y:Rx):1<=y.depth:=by cases y;rw[Rx.depth];omega
theorem group_done {x:Rx} (hx:x.ok) (hA:CompA x) {n d:Nat} {p:Bs} (hd:x.depth<=d) (hn:7 * x.txt.length+4<=n):mAtom n d (40::(x.txt++[41])++p)=some (x,p):=by
 have:=x.depth_pos;obtain ⟨d,rfl⟩:∃e,d=e+1:=⟨d - 1,by omega⟩
 obtain ⟨n,rfl⟩:∃m,n=m+1:=⟨n - 1,by omega⟩
 exact atom_group (Rx.ok_head hx) (hA n d (41::p) (.inr ⟨p,rfl⟩) hd (by omega))
theorem unit_done {x:Rx} (hx:x.ok) (hk:x.k≠4) (hA:CompA x) (hC:CompC x) {n d:Nat} {p:Bs} (hp:endI p) (hd:x.depth<=d) (hn:7 * x.unit.length<=n):mItem n d (x.unit++p)=some (x,p):=by
 by_cases h5:x.k=5
 ·simp only[Rx.unit,if_pos h5,List.length_cons,List.length_append,List.length_nil] at hn |-
  obtain ⟨n,rfl⟩:∃m,n=m+1:=⟨n - 1,by omega⟩
  exact item_done (group_done hx hA hd (by omega)) hp
 ·simp only[Rx.unit,if_neg h5] at hn |-
  exact hC hk h5 n d p hp (by omega) hn
theorem endC_of {p:Bs} (h:endA p):endC p:=by
 rcases h with rfl | ⟨r,rfl⟩
 ·exact .inl rfl
 ·exact .inr (.inl ⟨_,rfl⟩)
theorem endI_of {p:Bs} (h:endC p):endI p:=by
 rcases h with rfl | ⟨r,rfl⟩ | ⟨r,rfl⟩
 ·exact .inl rfl
 ·exact .inr ⟨41,r,rfl,by decide,by decide,by decide⟩
 ·exact .inr ⟨124,r,rfl,by decide,by decide,by decide⟩
theorem endI_app {c:UInt8} {r p:Bs} (h:noHead c):endI (c::r++p):=.inr ⟨c,r++p,rfl,h.2.1,h.2.2.1,h.2.2.2.1⟩
theorem items_done:∀(xs:List Rx) {n d:Nat} {p:Bs},(∀x∈xs,x.ok/\x.k≠4/\CompA x/\CompC x/\x.depth<=d)->endC p->7 * (Rx.cats xs).length+1<=n->mItems n d (Rx.cats xs++p)=some (xs,p)
 | [],n,d,p,_,hp,hn=>by
  obtain ⟨n,rfl⟩:∃m,n=m+1:=⟨n - 1,by omega⟩
  exact items_end hp
 | x::xs,n,d,p,h,hp,hn=>by
  obtain ⟨n,rfl⟩:∃m,n=m+1:=⟨n - 1,by omega⟩
  obtain ⟨h1,h2,h3,h4,h5⟩:=h x List.mem_cons_self;obtain ⟨c,r,hc,hno⟩:=Rx.unit_head h1;have hlen:1<=x.unit.length:=by rw[hc];simp
  rw[Rx.cats_cons,List.append_assoc];rw[Rx.cats_cons,List.length_append] at hn;refine items_step ⟨c,r++(Rx.cats xs++p),by rw[hc];rfl,hno.2.2.2.2,hno.1⟩ (unit_done h1 h2 h3 h4 ?_ h5 (by omega)) (items_done xs (fun y hy=>h y (List.mem_cons_of_mem _ hy)) hp (by omega))
  cases xs with
  | nil=>simp only[Rx.cats,List.nil_append];exact endI_of hp
  | cons y ys=>
   obtain ⟨c',r',hc',hno'⟩:=Rx.unit_head (h y (List.mem_cons_of_mem _ List.mem_cons_self)).1;rw[Rx.cats_cons,hc',List.append_assoc];exact endI_app hno'
theorem alts_done:∀(xs:List Rx) {n d:Nat} {p:Bs},xs≠[]->(∀x∈xs,x.ok/\x.k≠5/\CompB x/\x.depth<=d)->endA p->7 * (Rx.alts xs).length+8<=n->mAlts n d (124::(Rx.alts xs++p))=some (xs,p)
 | [],n,d,p,h0,_,_,_=>absurd rfl h0
 | [x],n,d,p,_,h,hp,hn=>by
  obtain ⟨n,rfl⟩:∃m,n=m+2:=⟨n - 2,by omega⟩
  obtain ⟨h1,h2,h3,h4⟩:=h x List.mem_cons_self;rw[Rx.alts] at hn |-;exact alts_step (h3 h2 (n+1) d p (endC_of hp) (by omega) (by omega)) (alts_end hp)
 | x::y::xs,n,d,p,_,h,hp,hn=>by
  obtain ⟨n,rfl⟩:∃m,n=m+1:=⟨n - 1,by omega⟩
  obtain ⟨h1,h2,h3,h4⟩:=h x List.mem_cons_self;rw[Rx.alts,List.length_append,List.length_cons] at hn;have:=Rx.txt_pos h1;rw[Rx.alts,List.append_assoc,List.cons_append];exact alts_step (h3 h2 n d _ (.inr (.inr ⟨_,rfl⟩)) (by omega) (by omega)) (alts_done (y::xs) (by simp) (fun z hz=>h z (List.mem_cons_of_mem _ hz)) hp (by omega))
theorem Rx.comp:∀(m:Nat) (y:Rx),y.parts<=m->y.ok->CompA y/\CompB y/\CompC y
 | 0,y,h,_=>by have:=y.parts_pos;omega
 | m+1,.mk k s l,h,hy=>by
  obtain ⟨hh,hl⟩:=Rx.ok_inv hy;rw[Rx.parts] at h;have ih:∀x∈l,CompA x/\CompB x/\CompC x:=fun x hx=>Rx.comp m x (by have:=Rx.parts_mem hx;omega) (hl x hx)
  have hdep:∀x∈l,x.depth+1<=(Rx.mk k s l).depth:=fun x hx=>by have:=Rx.depth_mem hx;rw[Rx.depth];omega
  have hC:CompC (.mk k s l):=by
   intro hk4 hk5 n d p hp hd hn;simp only[Rx.k] at hk4 hk5;have hpos:=Rx.txt_pos hy;obtain ⟨n,rfl⟩:∃m,n=m+2:=⟨n - 2,by omega⟩
   rcases hh with h1 | h1 | h1 | ⟨hk,_⟩ | ⟨hk,rfl,x,rfl,hx⟩
   ·have e:l=[]:=h1.2.2
    subst e;exact item_done (atom_leaf (.inl h1) n d p) hp
   ·have e:l=[]:=h1.2.2
    subst e;exact item_done (atom_leaf (.inr (.inl h1)) n d p) hp
   ·have e:l=[]:=h1.2.2
    subst e;exact item_done (atom_leaf (.inr (.inr (.inl h1))) n d p) hp
   ·rcases hk with rfl | rfl
    ·exact absurd rfl hk4
    ·exact absurd rfl hk5
   ·have hxo:=hl x List.mem_cons_self
    have hxd:=hdep x List.mem_cons_self;obtain ⟨ihA,_,ihC⟩:=ih x List.mem_cons_self;have key:∃c,(Rx.mk k (ofL []) [x]).txt=Rx.one [x]++[c]/\((k=6/\c=42)\/(k=7/\c=43)\/(k=8/\c=63)):=by
     rcases hk with rfl | rfl | rfl
     ·exact ⟨42,by rw[Rx.txt];rfl,by decide⟩
     ·exact ⟨43,by rw[Rx.txt];rfl,by decide⟩
     ·exact ⟨63,by rw[Rx.txt];rfl,by decide⟩
    obtain ⟨c,hc,hkc⟩:=key;rw[hc,List.length_append,List.length_singleton] at hn;rw[hc,List.append_assoc,List.singleton_append];have hat:mAtom (n+1) d (Rx.one [x]++c::p)=some (x,c::p):=by
     rw[Rx.one_cons] at hn |-
     by_cases hx45:x.k=4\/x.k=5
     ·rw[if_pos hx45] at hn |-
      simp only[List.length_cons,List.length_append,List.length_nil] at hn;exact group_done hxo ihA (by omega) (by omega)
     ·rw[if_neg hx45] at hn |-
      obtain ⟨xk,xs,xl⟩:=x;obtain ⟨hxh,_⟩:=Rx.ok_inv hxo;simp only[Rx.k] at hx hx45;rcases hxh with h1 | h1 | h1 | ⟨h1,_⟩ | ⟨h1,_⟩
      ·have e:xl=[]:=h1.2.2
       subst e;exact atom_leaf (.inl h1) n d _
      ·have e:xl=[]:=h1.2.2
       subst e;exact atom_leaf (.inr (.inl h1)) n d _
      ·have e:xl=[]:=h1.2.2
       subst e;exact atom_leaf (.inr (.inr (.inl h1))) n d _
      ·exact absurd h1 hx45
      ·rcases h1 with rfl | rfl | rfl<;>exact absurd hx (by decide)
    rw[mItem,hat];rcases hkc with ⟨rfl,rfl⟩ | ⟨rfl,rfl⟩ | ⟨rfl,rfl⟩<;>rfl
  have hB:CompB (.mk k s l):=by
   intro hk5 n d p hp hd hn;simp only[Rx.k] at hk5;have hpos:=Rx.txt_pos hy;obtain ⟨n,rfl⟩:∃m,n=m+3:=⟨n - 3,by omega⟩
   by_cases hk4:k=4
   ·subst hk4
    rcases hh with ⟨h1,_⟩ | ⟨h1,_⟩ | ⟨h1,_⟩ | ⟨_,rfl,h2,h8,hne⟩ | ⟨h1,_⟩<;>try exact absurd h1 (by decide)
    have e:(Rx.mk 4 (ofL []) l).txt=Rx.cats l:=by rw[Rx.txt];rfl
    rw[e] at hn |-;have:=items_done l (n:=n+2) (d:=d) (p:=p) (fun x hx=>⟨hl x hx,hne x hx,(ih x hx).1,(ih x hx).2.2,by have:=hdep x hx;omega⟩) hp (by omega)
    rw[mCat,this]
    match l,h2 with
    | x::y::r,_=>rfl
   ·obtain ⟨c,r,hc,hno⟩:=Rx.ok_head hy
    have h1:=hC hk4 hk5 (n+1) d p (endI_of hp) hd (by omega)
    have h2:=items_step ⟨c,r++p,by rw[hc];rfl,hno.2.2.2.2,hno.1⟩ h1 (items_end hp)
    rw[mCat,h2]
  refine ⟨?_,hB,hC⟩;intro n d p hp hd hn;have hpC:endC p:=endC_of hp;obtain ⟨n,rfl⟩:∃m,n=m+2:=⟨n - 2,by omega⟩
  by_cases hk5:k=5
  ·subst hk5
   rcases hh with ⟨h1,_⟩ | ⟨h1,_⟩ | ⟨h1,_⟩ | ⟨_,rfl,h2,h8,hne⟩ | ⟨h1,_⟩<;>try exact absurd h1 (by decide)
   have e:(Rx.mk 5 (ofL []) l).txt=Rx.alts l:=by rw[Rx.txt];rfl
   rw[e] at hn |-
   match l,h2,hl,ih,hdep,hne with
   | x::y::r,_,hl,ih,hdep,hne=>
    rw[Rx.alts,List.length_append,List.length_cons] at hn;rw[Rx.alts,List.append_assoc,List.cons_append];have hx:=Rx.txt_pos (hl x List.mem_cons_self);have h1:=(ih x List.mem_cons_self).2.1 (hne x List.mem_cons_self) (n+1) d (124::(Rx.alts (y::r)++p)) (.inr (.inr ⟨_,rfl⟩)) (by have:=hdep x List.mem_cons_self;omega) (by omega)
    have h2:=alts_done (y::r) (n:=n+1) (d:=d) (p:=p) (by simp) (fun z hz=>⟨hl z (List.mem_cons_of_mem _ hz),hne z (List.mem_cons_of_mem _ hz),(ih z (List.mem_cons_of_mem _ hz)).2.1,by have:=hdep z (List.mem_cons_of_mem _ hz);omega⟩) hp (by omega)
    rw[mAlt,h1];simp only[h2]
    rfl
  ·have h1:=hB hk5 (n+1) d p hpC hd (by omega)
   rw[mAlt,h1];simp only[alts_end hp]
end Go.Gv
/- Reading regular expressions, told backwards: what the parts of the model reader came to, step by step, and what a loop of parts keeps. -/
namespace Go.Gv
open Go.Av
def mGroup (n d:Nat) (l:Bs):Option (Rx×Bs):=match l with
 | []=>none
 | c::r=>if c=41 then some (.mk 9 e0 [],r) else match d with
  | 0=>none
  | d+1=>match mAlt n d (c::r) with
   | some (x,c'::r')=>if c'=41 then some (x,r') else none
   | _=>none
theorem mGroup_inv {n D:Nat} {l:Bs} {y:Rx} {rest:Bs} (h:mGroup n D l=some (y,rest)) :
  (l=41::rest/\y=.mk 9 e0 [])\/∃D',D=D' + 1/\(∀r,l≠41::r)/\l≠[]/\mAlt n D' l=some (y,41::rest):=by
 cases l with
 | nil=>simp[mGroup] at h
 | cons c r=>
  rw[mGroup.eq_def] at h;simp only at h
  split at h
  ·rename_i hc;simp only[Option.some.injEq,Prod.mk.injEq] at h;exact .inl ⟨by rw[hc,h.2],h.1.symm⟩
  rename_i hc;cases D with
  | zero=>simp at h
  | succ D=>
   refine .inr ⟨D,rfl,fun r' he=>hc (by simpa using (List.cons.inj he).1),by simp,?_⟩
   simp only at h
   split at h
   ·rename_i x c' r' hm
    split at h
    ·rename_i hc';simp only[Option.some.injEq,Prod.mk.injEq] at h;rw[hm,h.1,hc',h.2]
    ·simp at h
   ·simp at h
def AtomP (D:Nat) (l:Bs) (x:Rx) (bad:Bool) (out:Bs):Prop:=∀n y rest,mAtom n D l=some (y,rest)->x=y/\bad=false/\rest=out
def GroupP (D:Nat) (l:Bs) (x:Rx) (bad:Bool) (out:Bs):Prop:=∀n y rest,mGroup n D l=some (y,rest)->x=y/\bad=false/\rest=out
theorem atom_nil {D:Nat} {x:Rx} {bad:Bool} {out:Bs}:AtomP D [] x bad out:=by
 intro n y rest h;cases n<;>rw[mAtom.eq_def] at h<;>simp at h
theorem atom_self {D:Nat} {c:UInt8} {r:Bs} (hc:selfB c=true):AtomP D (c::r) (.mk 1 (ofL [c]) []) false r:=by
 intro n y rest h;cases n with
 | zero=>rw[mAtom.eq_def] at h;simp at h
 | succ n=>
  rw[mAtom.eq_def] at h;simp only[if_pos hc,Option.some.injEq,Prod.mk.injEq] at h;exact ⟨h.1,rfl,h.2.symm⟩
theorem self46:selfB 46=false:=by decide
theorem self94:selfB 94=false:=by decide
theorem self36:selfB 36=false:=by decide
theorem atom_dot {D:Nat} {r:Bs}:AtomP D (46::r) (.mk 2 e0 []) false r:=by
 intro n y rest h;cases n with
 | zero=>rw[mAtom.eq_def] at h;simp at h
 | succ n=>
  rw[mAtom.eq_def] at h;simp[self46] at h;exact ⟨h.1,rfl,h.2.symm⟩
theorem atom_begin {D:Nat} {r:Bs}:AtomP D (94::r) (.mk 10 e0 []) false r:=by
 intro n y rest h;cases n with
 | zero=>rw[mAtom.eq_def] at h;simp at h
 | succ n=>
  rw[mAtom.eq_def] at h;simp[self94] at h;exact ⟨h.1,rfl,h.2.symm⟩
theorem atom_end {D:Nat} {r:Bs}:AtomP D (36::r) (.mk 11 e0 []) false r:=by
 intro n y rest h;cases n with
 | zero=>rw[mAtom.eq_def] at h;simp at h
 | succ n=>
  rw[mAtom.eq_def] at h;simp[self36] at h;exact ⟨h.1,rfl,h.2.symm⟩
theorem atom_open {D:Nat} {r:Bs} {x:Rx} {bad:Bool} {out:Bs} (h0:GroupP D r x bad out):AtomP D (40::r) x bad out:=by
 intro n y rest h;cases n with
 | zero=>rw[mAtom.eq_def] at h;simp at h
 | succ n=>
  rw[mAtom.eq_def] at h;simp[selfB40] at h;refine h0 n y rest ?_;unfold mGroup;exact h
theorem atom_set {D:Nat} {r a b:Bs} (hu:upTo r=some (a,b)):AtomP D (91::r) (.mk 3 (ofL a) []) false b:=by
 intro n y rest h;cases n with
 | zero=>rw[mAtom.eq_def] at h;simp at h
 | succ n=>
  rw[mAtom.eq_def] at h;simp[selfB91,hu] at h;exact ⟨h.1,rfl,h.2.symm⟩
theorem atom_noset {D:Nat} {r:Bs} {x:Rx} {bad:Bool} {out:Bs} (hu:upTo r=none):AtomP D (91::r) x bad out:=by
 intro n y rest h;cases n with
 | zero=>rw[mAtom.eq_def] at h;simp at h
 | succ n=>
  rw[mAtom.eq_def] at h;simp[selfB91,hu] at h
theorem atom_none {D:Nat} {c:UInt8} {r:Bs} {x:Rx} {bad:Bool} {out:Bs} (h1:c≠46) (h2:c≠94) (h3:c≠36) (h4:c≠40) (h5:¬selfB c=true) (h6:c≠91):AtomP D (c::r) x bad out:=by
 intro n y rest h;cases n with
 | zero=>rw[mAtom.eq_def] at h;simp at h
 | succ n=>
  rw[mAtom.eq_def] at h;simp[h1,h2,h3,h4,h5,h6] at h
theorem upTo_some {t:Bs}:∀(k f:Nat),(∀q,f<=q->q < f+k->t[q]?≠some 93)->t[f+k]?=some 93->upTo (t.drop f)=some ((t.drop f).take k,t.drop (f+k+1))
 | 0,f,_,h=>by
  have hlt:f < t.length:=(List.getElem?_eq_some_iff.1 h).1;have he:t[f]=93:=(List.getElem?_eq_some_iff.1 h).2;rw[List.drop_eq_getElem_cons hlt,upTo,if_pos he];rfl
 | k+1,f,h1,h2=>by
  have hlt0:f+(k+1) < t.length:=(List.getElem?_eq_some_iff.1 h2).1;have hlt:f < t.length:=by omega
  have hne:t[f]≠93:=fun he=>h1 f (Nat.le_refl _) (by omega) (by rw[List.getElem?_eq_getElem hlt,he])
  have ih:=upTo_some k (f+1) (fun q a b=>h1 q (by omega) (by omega)) (by rw[show f+1+k=f+(k+1) by omega];exact h2)
  rw[List.drop_eq_getElem_cons hlt,upTo,if_neg hne,ih,List.take_succ_cons,show f+1+k+1=f+(k+1)+1 by omega]
theorem upTo_none:∀{l:Bs},(∀c∈l,c≠93)->upTo l=none
 | [],_=>rfl
 | c::l,h=>by rw[upTo,if_neg (h c List.mem_cons_self),upTo_none fun x hx=>h x (List.mem_cons_of_mem _ hx)]
theorem upTo_none_at {t:Bs} {f:Nat} (h:∀q,f<=q->q < t.length->t[q]?≠some 93):upTo (t.drop f)=none:=by
 refine upTo_none fun c hc he=>?_;obtain ⟨q,hq,hg⟩:=List.getElem_of_mem hc;rw[List.length_drop] at hq;rw[List.getElem_drop] at hg;exact h (f+q) (by omega) (by omega) (by rw[List.getElem?_eq_getElem (by omega),hg,he])
theorem drop_cons {t:Bs} {j:Nat} {c:UInt8} (h:t[j]?=some c):t.drop j=c::t.drop (j+1):=by
 have hlt:j < t.length:=(List.getElem?_eq_some_iff.1 h).1;rw[List.drop_eq_getElem_cons hlt,(List.getElem?_eq_some_iff.1 h).2]
def wrapOf (k:Int):List Rx->Rx
 | [x]=>x
 | xs=>.mk k e0 xs
theorem wrapOf_one (k:Int) (x:Rx):wrapOf k [x]=x:=rfl
theorem wrapOf_more {k:Int} {xs:List Rx} (h:xs.length≠1):wrapOf k xs=.mk k e0 xs:=by
 match xs,h with
 | [],_=>rfl
 | [x],h=>exact absurd rfl h
 | x::y::r,_=>rfl
theorem mCat_inv {n d:Nat} {l:Bs} {y:Rx} {rest:Bs} (h:mCat n d l=some (y,rest)):∃m xs,mItems m d l=some (xs,rest)/\xs≠[]/\y=wrapOf 4 xs:=by
 cases n with
 | zero=>rw[mCat.eq_def] at h;simp at h
 | succ n=>
  rw[mCat] at h
  split at h
  ·simp at h
  ·simp at h
  ·rename_i x r hm;simp only[Option.some.injEq,Prod.mk.injEq] at h;exact ⟨n,[x],by rw[hm,h.2],by simp,h.1.symm⟩
  ·rename_i x z xs r hm;simp only[Option.some.injEq,Prod.mk.injEq] at h;exact ⟨n,x::z::xs,by rw[hm,h.2],by simp,h.1.symm⟩
theorem mAlt_inv {n d:Nat} {l:Bs} {y:Rx} {rest:Bs} (h:mAlt n d l=some (y,rest)):∃m x r xs,mCat m d l=some (x,r)/\mAlts m d r=some (xs,rest)/\y=wrapOf 5 (x::xs):=by
 cases n with
 | zero=>rw[mAlt.eq_def] at h;simp at h
 | succ n=>
  rw[mAlt] at h
  split at h
  ·simp at h
  rename_i x r hm
  split at h
  ·simp at h
  ·rename_i r' hn;simp only[Option.some.injEq,Prod.mk.injEq] at h;exact ⟨n,x,r,[],hm,by rw[hn,h.2],h.1.symm⟩
  ·rename_i z xs r' hn;simp only[Option.some.injEq,Prod.mk.injEq] at h;exact ⟨n,x,r,z::xs,hm,by rw[hn,h.2],h.1.symm⟩
theorem mItems_inv {n d:Nat} {l:Bs} {ys:List Rx} {rest:Bs} (h:mItems n d l=some (ys,rest)) :
  (ys=[]/\rest=l/\(l=[]\/∃c r,l=c::r/\(c=124\/c=41)))\/
  ∃m c r x xs r1,l=c::r/\c≠124/\c≠41/\mItem m d l=some (x,r1)/\mItems m d r1=some (xs,rest)/\ys=x::xs:=by
 cases n with
 | zero=>rw[mItems.eq_def] at h;simp at h
 | succ n=>
  cases l with
  | nil=>rw[mItems] at h;simp only[Option.some.injEq,Prod.mk.injEq] at h;exact .inl ⟨h.1.symm,h.2.symm,.inl rfl⟩
  | cons c r=>
   rw[mItems] at h
   split at h
   ·rename_i hc;simp only[Option.some.injEq,Prod.mk.injEq] at h;exact .inl ⟨h.1.symm,h.2.symm,.inr ⟨c,r,rfl,hc⟩⟩
   rename_i hc
   split at h
   ·simp at h
   rename_i x r1 hm
   split at h
   ·simp at h
   rename_i xs r2 hn;simp only[Option.some.injEq,Prod.mk.injEq] at h;exact .inr ⟨n,c,r,x,xs,r1,rfl,fun e=>hc (.inl e),fun e=>hc (.inr e),hm,by rw[hn,h.2],h.1.symm⟩
theorem mAlts_inv {n d:Nat} {l:Bs} {ys:List Rx} {rest:Bs} (h:mAlts n d l=some (ys,rest)) :
  (ys=[]/\rest=l/\∀r,l≠124::r)\/∃m r x xs r1,l=124::r/\mCat m d r=some (x,r1)/\mAlts m d r1=some (xs,rest)/\ys=x::xs:=by
 cases n with
 | zero=>rw[mAlts.eq_def] at h;simp at h
 | succ n=>
  cases l with
  | nil=>rw[mAlts] at h;simp only[Option.some.injEq,Prod.mk.injEq] at h;exact .inl ⟨h.1.symm,h.2.symm,by simp⟩
  | cons c r=>
   rw[mAlts] at h
   split at h
   ·rename_i hc
    split at h
    ·simp at h
    rename_i x r1 hm
    split at h
    ·simp at h
    rename_i xs r2 hn;simp only[Option.some.injEq,Prod.mk.injEq] at h;exact .inr ⟨n,r,x,xs,r1,by rw[hc],hm,by rw[hn,h.2],h.1.symm⟩
   ·rename_i hc;simp only[Option.some.injEq,Prod.mk.injEq] at h
    exact .inl ⟨h.1.symm,h.2.symm,fun r' he=>hc (by simpa using (List.cons.inj he).1)⟩
def ItemP (D:Nat) (l:Bs) (x:Rx) (bad:Bool) (out:Bs):Prop:=∀n y rest,mItem n D l=some (y,rest)->x=y/\bad=false/\rest=out
def CatP (D:Nat) (l:Bs) (x:Rx) (bad:Bool) (out:Bs):Prop:=∀n y rest,mCat n D l=some (y,rest)->x=y/\bad=false/\rest=out
def AltP (D:Nat) (l:Bs) (x:Rx) (bad:Bool) (out:Bs):Prop:=∀n y rest,mAlt n D l=some (y,rest)->x=y/\bad=false/\rest=out
def CatI (D:Nat) (l:Bs) (xs:List Rx) (bad:Bool) (out:Bs):Prop:=∀n ys rest,mItems n D l=some (ys,rest)->ys≠[]->
 bad=false/\∃m zs,ys=xs++zs/\mItems m D out=some (zs,rest)
theorem catI_none {D:Nat} {l:Bs}:CatI D l [] false l:=fun n ys rest h _=>⟨rfl,n,ys,rfl,h⟩
theorem catI_one {D:Nat} {l out:Bs} {x:Rx} {bad:Bool} (h:ItemP D l x bad out):CatI D l [x] bad out:=by
 intro n ys rest hm hne;rcases mItems_inv hm with ⟨rfl,_⟩ | ⟨m,c,r,x',xs,r1,hl,hc1,hc2,h1,h2,rfl⟩
 ·exact absurd rfl hne
 ·obtain ⟨rfl,hb,rfl⟩:=h _ _ _ h1
  exact ⟨hb,m,xs,rfl,h2⟩
theorem catI_step {D:Nat} {l mid out:Bs} {xs:List Rx} {x:Rx} {bad:Bool} {c:UInt8} {r:Bs} (h:CatI D l xs false mid) (hm:mid=c::r) (hc1:c≠124) (hc2:c≠41) (hx:ItemP D mid x bad out):CatI D l (xs++[x]) bad out:=by
 intro n ys rest h1 hne;obtain ⟨_,m,zs,rfl,h2⟩:=h n ys rest h1 hne;rcases mItems_inv h2 with ⟨_,_,h3⟩ | ⟨m,c,r,x',xs,r1,hl,hc1,hc2,h3,h4,rfl⟩
 ·rcases h3 with h3 | ⟨c',r',h3,h4⟩
  ·rw[hm] at h3;simp at h3
  ·rw[hm] at h3
   obtain ⟨rfl,rfl⟩:=List.cons.inj h3;rcases h4 with h4 | h4
   ·exact absurd h4 hc1
   ·exact absurd h4 hc2
 ·obtain ⟨rfl,hb,rfl⟩:=hx _ _ _ h3
  exact ⟨hb,m,xs,by simp,h4⟩
theorem atom_zero {n d:Nat} {r:Bs}:mAtom n d (0::r)=none:=by
 cases h:mAtom n d (0::r) with
 | none=>rfl
 | some p=>
  have h1:=atom_none (D:=d) (c:=0) (r:=r) (x:=.mk 0 e0 []) (bad:=true) (out:=[]) (by decide) (by decide) (by decide) (by decide) (by decide) (by decide) n p.1 p.2 h
  exact absurd h1.2.1 (by simp)
theorem catI_end {D:Nat} {l out:Bs} {xs:List Rx} {bad:Bool} (h:CatI D l xs bad out) (he:bad=true\/out=[]\/∃c r,out=c::r/\(c=124\/c=41\/c=0)):CatP D l (wrapOf 4 xs) bad out:=by
 intro n y rest h1;obtain ⟨m,ys,h2,h3,rfl⟩:=mCat_inv h1;obtain ⟨hb,k,zs,rfl,h4⟩:=h m ys rest h2 h3;have key:zs=[]/\rest=out:=by
  rcases mItems_inv h4 with ⟨rfl,rfl,_⟩ | ⟨m,c,r,x',xs,r1,rfl,hc1,hc2,h5,h6,_⟩
  ·exact ⟨rfl,rfl⟩
  ·rcases he with he | he | ⟨c',r',he,h7⟩
   ·rw[hb] at he;simp at he
   ·simp at he
   ·obtain ⟨rfl,rfl⟩:=List.cons.inj he
    rcases h7 with h7 | h7 | h7
    ·exact absurd h7 hc1
    ·exact absurd h7 hc2
    ·subst h7
     cases m with
     | zero=>rw[mItem.eq_def] at h5;simp at h5
     | succ m=>rw[mItem,atom_zero] at h5;simp at h5
 obtain ⟨rfl,rfl⟩:=key;rw[List.append_nil] at *;exact ⟨rfl,hb,rfl⟩
theorem catI_bad {D:Nat} {l out:Bs} {x:Rx} {b b':Bool} {o:Bs} (h:CatI D l [] b out) (he:b=true\/out=[]\/∃c r,out=c::r/\(c=124\/c=41\/c=0)):CatP D l x b' o:=by
 intro n y rest h1;obtain ⟨m,ys,h2,h3,rfl⟩:=mCat_inv h1;obtain ⟨hb,k,zs,rfl,h4⟩:=h m ys rest h2 h3;rcases mItems_inv h4 with ⟨rfl,rfl,_⟩ | ⟨m,c,r,x',xs,r1,rfl,hc1,hc2,h5,h6,_⟩
 ·exact absurd rfl h3
 ·rcases he with he | he | ⟨c',r',he,h7⟩
  ·rw[hb] at he;simp at he
  ·simp at he
  ·obtain ⟨rfl,rfl⟩:=List.cons.inj he
   rcases h7 with h7 | h7 | h7
   ·exact absurd h7 hc1
   ·exact absurd h7 hc2
   ·subst h7
    cases m with
    | zero=>rw[mItem.eq_def] at h5;simp at h5
    | succ m=>rw[mItem,atom_zero] at h5;simp at h5
def AltI (D:Nat) (l:Bs) (xs:List Rx) (bad:Bool) (out:Bs):Prop:=∀n m x r ys rest,mCat n D l=some (x,r)->mAlts m D r=some (ys,rest)->
 bad=false/\∃k zs,x::ys=xs++zs/\mAlts k D out=some (zs,rest)
theorem altI_one {D:Nat} {l out:Bs} {x:Rx} {bad:Bool} (h:CatP D l x bad out):AltI D l [x] bad out:=by
 intro n m x' r ys rest h1 h2;obtain ⟨rfl,hb,rfl⟩:=h _ _ _ h1;exact ⟨hb,m,ys,rfl,h2⟩
theorem altI_step {D:Nat} {l mid out:Bs} {xs:List Rx} {x:Rx} {b bad:Bool} {r:Bs} (h:AltI D l xs b mid) (hm:mid=124::r) (hx:CatP D r x bad out):AltI D l (xs++[x]) bad out:=by
 intro n m x' r' ys rest h1 h2;obtain ⟨_,k,zs,e,h3⟩:=h n m x' r' ys rest h1 h2;rcases mAlts_inv h3 with ⟨_,_,h4⟩ | ⟨m',r1,x1,xs1,r2,h4,h5,h6,rfl⟩
 ·exact absurd hm (h4 r)
 ·rw[hm] at h4
  obtain ⟨_,rfl⟩:=List.cons.inj h4;obtain ⟨rfl,hb,rfl⟩:=hx _ _ _ h5;exact ⟨hb,m',xs1,by rw[e];simp,h6⟩
theorem altI_end {D:Nat} {l out:Bs} {xs:List Rx} {bad:Bool} (h:AltI D l xs bad out) (he:bad=true\/∀r,out≠124::r):AltP D l (wrapOf 5 xs) bad out:=by
 intro n y rest h1;obtain ⟨m,x,r,ys,h2,h3,rfl⟩:=mAlt_inv h1;obtain ⟨hb,k,zs,e,h4⟩:=h _ _ _ _ _ _ h2 h3;rcases mAlts_inv h4 with ⟨rfl,rfl,_⟩ | ⟨m',r1,x1,xs1,r2,h5,_⟩
 ·rw[List.append_nil] at e
  exact ⟨by rw[e],hb,rfl⟩
 ·rcases he with he | he
  ·rw[hb] at he;simp at he
  ·exact absurd h5 (he r1)
theorem wrap_wf {k:Int} {xs:List Rx} (hl:xs.length<=4611686018427387904) (h:∀x∈xs,x.Wf):(wrapOf k xs).Wf:=by
 match xs,h,hl with
 | [],h,hl=>exact .mk (by decide) hl h
 | [x],h,_=>exact h x List.mem_cons_self
 | x::y::r,h,hl=>exact .mk (by decide) hl h
end Go.Gv
/- Texts in order, each once; what a program names. -/
namespace Go.Gv
open Go.Av
def ltB (a b:ByteArray):Prop:=Op.bytesLess a.toList b.toList=true
theorem less_irrefl:∀l:List UInt8,Op.bytesLess l l=false
 | []=>by simp[Op.bytesLess]
 | a::l=>by simp[Op.bytesLess,less_irrefl l]
theorem less_trans:∀{a b c:List UInt8},Op.bytesLess a b=true->Op.bytesLess b c=true->Op.bytesLess a c=true
 | [],[],_,h,_=>by simp[Op.bytesLess] at h
 | [],_::_,[],_,h=>by simp[Op.bytesLess] at h
 | [],_::_,_::_,_,_=>by simp[Op.bytesLess]
 | _::_,[],_,h,_=>by simp[Op.bytesLess] at h
 | _::_,_::_,[],_,h=>by simp[Op.bytesLess] at h
 | x::a,y::b,z::c,h,h'=>by
  simp only[Op.bytesLess] at h h' |-;have ih:=@less_trans a b c;have hi:x.toNat=y.toNat->x=y:=UInt8.toNat_inj.1;have hj:y.toNat=z.toNat->y=z:=UInt8.toNat_inj.1;simp only[UInt8.lt_iff_toNat_lt] at *
  grind
theorem less_total:∀{a b:List UInt8},Op.bytesLess a b=false->a≠b->Op.bytesLess b a=true
 | [],[],_,h=>absurd rfl h
 | [],_::_,h,_=>by simp[Op.bytesLess] at h
 | _::_,[],_,_=>by simp[Op.bytesLess]
 | x::a,y::b,h,h'=>by
  simp only[Op.bytesLess] at h |-;have ih:=@less_total a b;have hi:x.toNat=y.toNat->x=y:=UInt8.toNat_inj.1;simp only[UInt8.lt_iff_toNat_lt] at *
  grind
theorem ltB.irrefl (a:ByteArray):¬ltB a a:=by simp[ltB,less_irrefl]
theorem ltB.trans {a b c:ByteArray} (h:ltB a b) (h':ltB b c):ltB a c:=less_trans h h'
theorem ba_inj {a b:ByteArray} (h:a.toList=b.toList):a=b:=by
 have:=ba_eq (a:=a) (b:=b);rw[h] at this;simpa using this.symm
theorem ltB.total {a b:ByteArray} (h:¬ltB a b) (hn:a≠b):ltB b a:=less_total (by simpa [ltB] using h) (fun h=>hn (ba_inj h))
theorem gtr_iff {a b:ByteArray}:stdScmp .gtr a b=true↔ltB b a:=by
 simp only[stdScmp,ba_eq,Bool.not_eq_true',Bool.or_eq_false_iff,decide_eq_false_iff_not]
 constructor
 ·rintro ⟨h1,h2⟩;exact ltB.total (by simp[ltB,h1]) h2
 ·intro h
  refine ⟨?_,fun e=>ltB.irrefl b (e ▸ h)⟩;cases h1:Op.bytesLess a.toList b.toList with
  | false=>rfl
  | true=>exact absurd (ltB.trans h h1) (ltB.irrefl b)
def Asc:List ByteArray->Prop
 | []=>True
 | a::l=>(∀b∈l,ltB a b)/\Asc l
theorem Asc.app:∀{a b:List ByteArray},Asc (a++b)↔Asc a/\Asc b/\∀x∈a,∀y∈b,ltB x y
 | [],b=>by simp[Asc]
 | x::a,b=>by
  rw[List.cons_append,Asc,Asc,Asc.app];simp only[List.mem_append,List.mem_cons]
  constructor
  ·rintro ⟨h1,h2,h3,h4⟩
   refine ⟨⟨fun y hy=>h1 y (.inl hy),h2⟩,h3,fun z hz y hy=>?_⟩;rcases hz with rfl | hz
   ·exact h1 y (.inr hy)
   ·exact h4 z hz y hy
  ·rintro ⟨⟨h1,h2⟩,h3,h4⟩
   refine ⟨fun y hy=>?_,h2,h3,fun z hz y hy=>h4 z (.inr hz) y hy⟩;rcases hy with hy | hy
   ·exact h1 y hy
   ·exact h4 x (.inl rfl) y hy
theorem Asc.unique:∀{a b:List ByteArray},Asc a->Asc b->(∀s,s∈a↔s∈b)->a=b
 | [],[],_,_,_=>rfl
 | [],y::b,_,_,h=>by have:=(h y).2 (by simp);simp at this
 | x::a,[],_,_,h=>by have:=(h x).1 (by simp);simp at this
 | x::a,y::b,ha,hb,h=>by
  have hxy:x=y:=by
   have h1:=(h x).1 (by simp)
   have h2:=(h y).2 (by simp)
   rcases List.mem_cons.1 h1 with h1 | h1
   ·exact h1
   rcases List.mem_cons.1 h2 with h2 | h2
   ·exact h2.symm
   ·exact absurd (ltB.trans (ha.1 y h2) (hb.1 x h1)) (ltB.irrefl x)
  subst hxy;rw[Asc.unique ha.2 hb.2 fun s=>?_];have:=h s;simp only[List.mem_cons] at this
  constructor
  ·intro hs
   rcases this.1 (.inr hs) with e | e
   ·subst e;exact absurd (ha.1 s hs) (ltB.irrefl s)
   ·exact e
  ·intro hs
   rcases this.2 (.inr hs) with e | e
   ·subst e;exact absurd (hb.1 s hs) (ltB.irrefl s)
   ·exact e
theorem Asc.put {l:List ByteArray} {s:ByteArray} {k:Nat} (hl:Asc l) (hs:s∉l) (h1:∀j x,k<=j->l[j]?=some x->ltB s x) (h2:∀x,0 < k->l[k - 1]?=some x->¬ltB s x) (hk:k<=l.length):Asc (l.take k++s::l.drop k):=by
 have hsp:l=l.take k++l.drop k:=(List.take_append_drop k l).symm;have hasc:=hl;rw[hsp] at hasc;obtain ⟨a1,a2,a3⟩:=Asc.app.1 hasc;have hlow:∀x∈l.take k,ltB x s:=by
  intro x hx;have hk0:0 < k:=by
   rcases Nat.eq_zero_or_pos k with h | h
   ·subst h;simp at hx
   ·exact h
  obtain ⟨y,hy⟩:∃y,l[k - 1]?=some y:=⟨_,List.getElem?_eq_getElem (by omega)⟩
  have hys:ltB y s:=ltB.total (h2 y hk0 hy) (fun e=>hs (e ▸ List.mem_of_getElem? hy));have htk:l.take k=l.take (k - 1)++[y]:=by
   have:=List.take_succ_eq_append_getElem (i:=k - 1) (l:=l) (by omega)
   rw[show k - 1+1=k by omega] at this
   rw[this]
   congr 2
   rw[List.getElem?_eq_getElem (by omega)] at hy
   exact Option.some.inj hy
  rw[htk] at hx a1;rcases List.mem_append.1 hx with hx | hx
  ·exact ltB.trans ((Asc.app.1 a1).2.2 x hx y (by simp)) hys
  ·obtain rfl:=List.mem_singleton.1 hx;exact hys
 have hhigh:∀x∈l.drop k,ltB s x:=by
  intro x hx;obtain ⟨j,hj⟩:=List.mem_iff_getElem?.1 hx;rw[List.getElem?_drop] at hj;exact h1 _ x (by omega) hj
 refine Asc.app.2 ⟨a1,⟨hhigh,a2⟩,fun x hx y hy=>?_⟩;rcases List.mem_cons.1 hy with rfl | hy
 ·exact hlow x hx
 ·exact a3 x hx y hy
theorem put_mem {l:List ByteArray} {s t:ByteArray} {k:Nat}:t∈l.take k++s::l.drop k↔t=s\/t∈l:=by
 have:t∈l↔t∈l.take k\/t∈l.drop k:=by rw[<-List.mem_append,List.take_append_drop]
 rw[this,List.mem_append,List.mem_cons]
 constructor
 ·rintro (h | h | h)
  ·exact .inr (.inl h)
  ·exact .inl h
  ·exact .inr (.inr h)
 ·rintro (h | h | h)
  ·exact .inr (.inl h)
  ·exact .inl h
  ·exact .inr (.inr h)
mutual
def Ex.vs:Ex->List ByteArray
 | .mk k _ s l=>(if k=3 then [s] else [])++Ex.vss l
def Ex.vss:List Ex->List ByteArray
 | []=>[]
 | e::l=>Ex.vs e++Ex.vss l
end
mutual
def Ex.tb:Ex->List ByteArray
 | .mk k _ s l=>(if k=4\/k=9 then [s] else [])++Ex.tbs l
def Ex.tbs:List Ex->List ByteArray
 | []=>[]
 | e::l=>Ex.tb e++Ex.tbs l
end
mutual
def Ex.cl:Ex->List Ex
 | .mk k n s l=>(if k=11 then [.mk k n s l] else [])++Ex.cls l
def Ex.cls:List Ex->List Ex
 | []=>[]
 | e::l=>Ex.cl e++Ex.cls l
end
mutual
def Sm.vs:Sm->List ByteArray
 | .mk k s _ x a b=>(if k=2\/k=7 then [s] else [])++Ex.vss x++Sm.vss a++Sm.vss b
def Sm.vss:List Sm->List ByteArray
 | []=>[]
 | e::l=>Sm.vs e++Sm.vss l
end
mutual
def Sm.tb:Sm->List ByteArray
 | .mk k s t x a b=>(if k=3\/k=11 then [s] else [])++(if k=7 then [t] else [])++Ex.tbs x++Sm.tbs a++Sm.tbs b
def Sm.tbs:List Sm->List ByteArray
 | []=>[]
 | e::l=>Sm.tb e++Sm.tbs l
end
mutual
def Sm.cl:Sm->List Ex
 | .mk _ _ _ x a b=>Ex.cls x++Sm.cls a++Sm.cls b
def Sm.cls:List Sm->List Ex
 | []=>[]
 | e::l=>Sm.cl e++Sm.cls l
end
mutual
def Sm.ks:Sm->List Int
 | .mk k _ _ _ a b=>k::(Sm.kss a++Sm.kss b)
def Sm.kss:List Sm->List Int
 | []=>[]
 | e::l=>Sm.ks e++Sm.kss l
end
end Go.Gv
/- What is told of terms and statements, one after the other; generic in what is told. -/
namespace Go.Gv
open Go.Av
structure Tl (α V:Type) where
 G:V->Nat->Prop
 P:List α->Nat->V->V->Prop
 nil:∀{v:V},G v 0->P [] 0 v v
 trans:∀{x y:List α} {n m:Nat} {a b c:V},P x n a b->P y m b c->P (x++y) (n+m) a c
 go:∀{x:List α} {n m:Nat} {a b:V},G a (n+m)->P x n a b->G b m
 mono:∀{n m:Nat} {a:V},m<=n->G a n->G a m
theorem strs_inj:∀{a b:List ByteArray},strs a=strs b->a=b
 | [],[],_=>rfl
 | [],_::_,h=>by simp[strs] at h
 | _::_,[],h=>by simp[strs] at h
 | x::a,y::b,h=>by
  simp only[strs,List.map_cons,List.cons.injEq,T.lit.injEq,Value.string.injEq,and_true] at h;rw[h.1,strs_inj (a:=a) (b:=b) h.2]
def TlO (ps:List ByteArray):Tl ByteArray (List (List T)) where
 G v n:=∃y,v=strs y/\y.length+n<=1073741824
 P x n v v':=∃y y',v=strs y/\v'=strs y'/\(∀s,s∈y'↔s∈y\/(s∈x/\s∉ps))/\y'.length<=y.length+n
 nil:=by
  rintro v ⟨y,rfl,h⟩;exact ⟨y,y,rfl,rfl,by simp,by omega⟩
 trans:=by
  rintro x z n m a b c ⟨y1,y2,rfl,h2,h3,h4⟩ ⟨y3,y4,g1,rfl,g3,g4⟩;rw[h2] at g1;have:=strs_inj g1;subst this;refine ⟨y1,y4,rfl,rfl,fun s=>?_,by omega⟩
  rw[g3,h3,List.mem_append]
  constructor
  ·rintro ((h | ⟨h,g⟩) | ⟨h,g⟩)
   ·exact .inl h
   ·exact .inr ⟨.inl h,g⟩
   ·exact .inr ⟨.inr h,g⟩
  ·rintro (h | ⟨h | h,g⟩)
   ·exact .inl (.inl h)
   ·exact .inl (.inr ⟨h,g⟩)
   ·exact .inr ⟨h,g⟩
 go:=by
  rintro x n m a b ⟨y,rfl,h⟩ ⟨y1,y2,h1,h2,h3,h4⟩;have:=strs_inj h1;subst this;exact ⟨y2,h2,by omega⟩
 mono:=by
  rintro n m a hm ⟨y,rfl,h⟩;exact ⟨y,rfl,by omega⟩
def TlB {α:Type} (Q:α->Prop):Tl α Bool where
 G _ _:=True
 P x _ v v':=v'=true↔v=true/\∀e∈x,Q e
 nil:=by intro v _;simp
 trans:=by
  intro x z n m a b c h h';rw[h',h]
  constructor
  ·rintro ⟨⟨h1,h2⟩,h3⟩
   exact ⟨h1,fun e he=>(List.mem_append.1 he).elim (h2 e) (h3 e)⟩
  ·rintro ⟨h1,h2⟩
   exact ⟨⟨h1,fun e he=>h2 e (List.mem_append_left _ he)⟩,fun e he=>h2 e (List.mem_append_right _ he)⟩
 go:=fun _ _=>trivial
 mono:=fun _ _=>trivial
def Sm.x:Sm->List Ex | .mk _ _ _ x _ _=>x
section
variable {α:Type}
mutual
def Ex.z1 (z:Ex->List α):Ex->List α
 | .mk k n s l=>z (.mk k n s l)++Ex.zl z l
def Ex.zl (z:Ex->List α):List Ex->List α
 | []=>[]
 | e::l=>Ex.z1 z e++Ex.zl z l
end
mutual
def Sm.z1 (z:Sm->List α):Sm->List α
 | .mk k s t x a b=>z (.mk k s t x a b)++(Sm.zl z a++Sm.zl z b)
def Sm.zl (z:Sm->List α):List Sm->List α
 | []=>[]
 | e::l=>Sm.z1 z e++Sm.zl z l
end
mutual
def Sm.w1 (w:Sm->Nat):Sm->Nat
 | .mk k s t x a b=>w (.mk k s t x a b)+(Sm.wl w a+Sm.wl w b)
def Sm.wl (w:Sm->Nat):List Sm->Nat
 | []=>0
 | e::l=>Sm.w1 w e+Sm.wl w l
end
theorem Ex.zl_app (z:Ex->List α):∀a b,Ex.zl z (a++b)=Ex.zl z a++Ex.zl z b
 | [],b=>by simp[Ex.zl]
 | e::a,b=>by rw[List.cons_append,Ex.zl,Ex.zl,Ex.zl_app z a b,List.append_assoc]
theorem Sm.zl_app (z:Sm->List α):∀a b,Sm.zl z (a++b)=Sm.zl z a++Sm.zl z b
 | [],b=>by simp[Sm.zl]
 | e::a,b=>by rw[List.cons_append,Sm.zl,Sm.zl,Sm.zl_app z a b,List.append_assoc]
theorem Sm.wl_app (z:Sm->Nat):∀a b,Sm.wl z (a++b)=Sm.wl z a+Sm.wl z b
 | [],b=>by simp[Sm.wl]
 | e::a,b=>by rw[List.cons_append,Sm.wl,Sm.wl,Sm.wl_app z a b,Nat.add_assoc]
theorem Ex.zl_one (z:Ex->List α) (e:Ex):Ex.zl z [e]=Ex.z1 z e:=by simp[Ex.zl]
theorem Sm.zl_one (z:Sm->List α) (e:Sm):Sm.zl z [e]=Sm.z1 z e:=by simp[Sm.zl]
theorem Sm.wl_one (z:Sm->Nat) (e:Sm):Sm.wl z [e]=Sm.w1 z e:=by simp[Sm.wl]
end
end Go.Gv
/- What is told of terms and statements, and what they name: the same. -/
namespace Go.Gv
open Go.Av
def zv:Ex->List ByteArray | .mk k _ s _=>if k=3 then [s] else []
def zvS:Sm->List ByteArray | .mk k s _ _ _ _=>if k=2\/k=7 then [s] else []
def zt:Ex->List ByteArray | .mk k _ s _=>if k=4\/k=9 then [s] else []
def ztS:Sm->List ByteArray | .mk k s t _ _ _=>(if k=3\/k=11 then [s] else [])++(if k=7 then [t] else [])
def zc:Ex->List Ex | .mk k n s l=>if k=11 then [.mk k n s l] else []
def PlOk (ru:Int):Sm->Prop | .mk k _ _ _ _ _=>(k=8->ru=3\/ru=4)/\(k=10->ru=0)
theorem Sm.x_mk (k:Int) (s t:ByteArray) (x:List Ex) (a b:List Sm):(Sm.mk k s t x a b).x=x:=rfl
mutual
theorem Ex.z1_vs:∀e:Ex,Ex.z1 zv e=e.vs
 | .mk k n s l=>by rw[Ex.z1,Ex.vs,Ex.zl_vs l,zv]
theorem Ex.zl_vs:∀l:List Ex,Ex.zl zv l=Ex.vss l
 | []=>by rw[Ex.zl,Ex.vss]
 | e::l=>by rw[Ex.zl,Ex.vss,Ex.z1_vs e,Ex.zl_vs l]
end
mutual
theorem Ex.z1_tb:∀e:Ex,Ex.z1 zt e=e.tb
 | .mk k n s l=>by rw[Ex.z1,Ex.tb,Ex.zl_tb l,zt]
theorem Ex.zl_tb:∀l:List Ex,Ex.zl zt l=Ex.tbs l
 | []=>by rw[Ex.zl,Ex.tbs]
 | e::l=>by rw[Ex.zl,Ex.tbs,Ex.z1_tb e,Ex.zl_tb l]
end
mutual
theorem Ex.z1_cl:∀e:Ex,Ex.z1 zc e=e.cl
 | .mk k n s l=>by rw[Ex.z1,Ex.cl,Ex.zl_cl l,zc]
theorem Ex.zl_cl:∀l:List Ex,Ex.zl zc l=Ex.cls l
 | []=>by rw[Ex.zl,Ex.cls]
 | e::l=>by rw[Ex.zl,Ex.cls,Ex.z1_cl e,Ex.zl_cl l]
end
mutual
theorem Sm.m1_vs (c:ByteArray):∀y:Sm,(c∈Sm.z1 zvS y\/c∈Sm.z1 (fun y=>Ex.zl zv y.x) y)↔c∈y.vs
 | .mk k s t x a b=>by
  have h1:=Sm.ml_vs c a;have h2:=Sm.ml_vs c b;simp only[Sm.z1,Sm.vs,List.mem_append,<-h1,<-h2,Sm.x,Ex.zl_vs,zvS];simp only[or_assoc,or_left_comm,or_comm]
theorem Sm.ml_vs (c:ByteArray):∀l:List Sm,(c∈Sm.zl zvS l\/c∈Sm.zl (fun y=>Ex.zl zv y.x) l)↔c∈Sm.vss l
 | []=>by simp[Sm.zl,Sm.vss]
 | y::l=>by
  have h1:=Sm.m1_vs c y;have h2:=Sm.ml_vs c l;simp only[Sm.zl,Sm.vss,List.mem_append,<-h1,<-h2];simp only[or_assoc,or_left_comm,or_comm]
end
mutual
theorem Sm.m1_tb (c:ByteArray):∀y:Sm,(c∈Sm.z1 ztS y\/c∈Sm.z1 (fun y=>Ex.zl zt y.x) y)↔c∈y.tb
 | .mk k s t x a b=>by
  have h1:=Sm.ml_tb c a;have h2:=Sm.ml_tb c b;simp only[Sm.z1,Sm.tb,List.mem_append,<-h1,<-h2,Sm.x,Ex.zl_tb,ztS];simp only[or_assoc,or_left_comm,or_comm]
theorem Sm.ml_tb (c:ByteArray):∀l:List Sm,(c∈Sm.zl ztS l\/c∈Sm.zl (fun y=>Ex.zl zt y.x) l)↔c∈Sm.tbs l
 | []=>by simp[Sm.zl,Sm.tbs]
 | y::l=>by
  have h1:=Sm.m1_tb c y;have h2:=Sm.ml_tb c l;simp only[Sm.zl,Sm.tbs,List.mem_append,<-h1,<-h2];simp only[or_assoc,or_left_comm,or_comm]
end
mutual
theorem Sm.m1_cl (c:Ex):∀y:Sm,c∈Sm.z1 (fun y=>Ex.zl zc y.x) y↔c∈y.cl
 | .mk k s t x a b=>by
  have h1:=Sm.ml_cl c a;have h2:=Sm.ml_cl c b;rw[Sm.z1,Sm.cl,List.mem_append,List.mem_append,List.mem_append,List.mem_append,h1,h2,or_assoc];simp only[Sm.x_mk,Ex.zl_cl]
theorem Sm.ml_cl (c:Ex):∀l:List Sm,c∈Sm.zl (fun y=>Ex.zl zc y.x) l↔c∈Sm.cls l
 | []=>by simp[Sm.zl,Sm.cls]
 | y::l=>by
  have h1:=Sm.m1_cl c y;have h2:=Sm.ml_cl c l;rw[Sm.zl,Sm.cls,List.mem_append,List.mem_append,h1,h2]
end
def KsOk (ru:Int) (ks:List Int):Prop:=((8:Int)∈ks->ru=3\/ru=4)/\((10:Int)∈ks->ru=0)
theorem KsOk.app {ru:Int} {a b:List Int}:KsOk ru (a++b)↔KsOk ru a/\KsOk ru b:=by
 unfold KsOk;simp only[List.mem_append]
 constructor
 ·rintro ⟨h1,h2⟩
  exact ⟨⟨fun h=>h1 (.inl h),fun h=>h2 (.inl h)⟩,⟨fun h=>h1 (.inr h),fun h=>h2 (.inr h)⟩⟩
 ·rintro ⟨⟨h1,h2⟩,⟨h3,h4⟩⟩
  exact ⟨fun h=>h.elim h1 h3,fun h=>h.elim h2 h4⟩
theorem KsOk.one {ru k:Int}:KsOk ru [k]↔(k=8->ru=3\/ru=4)/\(k=10->ru=0):=by
 unfold KsOk;simp only[List.mem_singleton]
 constructor
 ·rintro ⟨h1,h2⟩
  exact ⟨fun h=>h1 h.symm,fun h=>h2 h.symm⟩
 ·rintro ⟨h1,h2⟩
  exact ⟨fun h=>h1 h.symm,fun h=>h2 h.symm⟩
mutual
theorem Sm.m1_ks (ru:Int):∀y:Sm,(∀c∈Sm.z1 (fun y=>[y]) y,PlOk ru c)↔KsOk ru y.ks
 | .mk k s t x a b=>by
  have h1:=Sm.ml_ks ru a;have h2:=Sm.ml_ks ru b;rw[Sm.z1,Sm.ks,show k::(Sm.kss a++Sm.kss b)=[k]++(Sm.kss a++Sm.kss b) from rfl,KsOk.app,KsOk.app,<-h1,<-h2,KsOk.one]
  simp only[List.mem_append,List.mem_singleton,or_imp,forall_and,forall_eq,PlOk]
theorem Sm.ml_ks (ru:Int):∀l:List Sm,(∀c∈Sm.zl (fun y=>[y]) l,PlOk ru c)↔KsOk ru (Sm.kss l)
 | []=>by simp[Sm.zl,Sm.kss,KsOk]
 | y::l=>by
  have h1:=Sm.m1_ks ru y;have h2:=Sm.ml_ks ru l;rw[Sm.zl,Sm.kss,KsOk.app,<-h1,<-h2];simp only[List.mem_append,or_imp,forall_and]
end
mutual
theorem Sm.w1_le:∀y:Sm,Sm.w1 (fun _=>1) y<=1+y.sz
 | .mk k s t x a b=>by
  have h1:=Sm.wl_le a;have h2:=Sm.wl_le b;rw[Sm.w1,Sm.sz];omega
theorem Sm.wl_le:∀l:List Sm,Sm.wl (fun _=>1) l<=l.length+Sm.szs l
 | []=>by simp[Sm.wl]
 | y::l=>by
  have h1:=Sm.w1_le y;have h2:=Sm.wl_le l;rw[Sm.wl,Sm.szs,List.length_cons];omega
end
mutual
theorem Sm.w1_parts:∀y:Sm,Sm.w1 (fun y=>Ex.partss y.x) y=y.parts
 | .mk k s t x a b=>by
  have h1:=Sm.wl_parts a;have h2:=Sm.wl_parts b;rw[Sm.w1,Sm.parts,h1,h2,Sm.x];omega
theorem Sm.wl_parts:∀l:List Sm,Sm.wl (fun y=>Ex.partss y.x) l=Sm.partss l
 | []=>by rw[Sm.wl,Sm.partss]
 | y::l=>by rw[Sm.wl,Sm.partss,Sm.w1_parts y,Sm.wl_parts l]
end
structure Pa where
 params:List ByteArray
 when_:List Ex
 l:List Sm
 rule:Int
def Pa.t (x:Pa):List T:=[.sl (strs x.params),.sl (x.when_.map Ex.t),.sl (x.l.map Sm.t),.lit (.int .i64 x.rule)]
theorem Pa.t_len (x:Pa):x.t.length=4:=rfl
def Pa.fu (f:Fu):Pa:=⟨f.params,[],f.a,0⟩
def Pa.ru (r:Ru):Pa:=⟨[],if r.k=4 then [r.p] else [],r.a,r.k⟩
def Pa.of (p:Pg):List Pa:=p.fns.map Pa.fu++p.rules.map Pa.ru
end Go.Gv
/- Texts that are sorted and of which each is left once: they stand in order, and are the same texts. -/
namespace Go.Gv
open Go.Av
theorem less_lt:∀x y:List UInt8,Op.bytesLess x y=true↔x < y
 | [],[]=>by simp[Op.bytesLess]
 | _::_,[]=>by simp[Op.bytesLess]
 | [],_::_=>by simp[Op.bytesLess]
 | a::x,b::y=>by
  rw[List.cons_lt_cons_iff,<-less_lt x y];simp[Op.bytesLess]
def AscL:List (List UInt8)->Prop
 | []=>True
 | a::l=>(∀b∈l,a < b)/\AscL l
theorem AscL.snoc:∀{l:List (List UInt8)} {x:List UInt8},AscL l->(∀y∈l,y < x)->AscL (l++[x])
 | [],x,_,_=>by simp[AscL]
 | a::l,x,h,g=>by
  rw[List.cons_append,AscL];refine ⟨fun b hb=>?_,AscL.snoc h.2 fun y hy=>g y (List.mem_cons_of_mem _ hy)⟩;rcases List.mem_append.1 hb with hb | hb
  ·exact h.1 b hb
  ·obtain rfl:=List.mem_singleton.1 hb
   exact g a List.mem_cons_self
theorem lt_of_le_ne {a b:List UInt8} (h:a<=b) (hn:a≠b):a < b:=Classical.byContradiction fun hc=>hn (List.le_antisymm h hc)
theorem lt_of_le_lt {a b c:List UInt8} (h:a<=b) (h':b < c):a < c:=List.lt_of_le_of_lt h h'
theorem comp_law (d:Array (List UInt8)) (hs:∀i j,i < j->j < d.size->d[i]!<=d[j]!):∀m,m<=d.size->AscL (Lib.compactUpTo d m)/\∀x,x∈Lib.compactUpTo d m↔∃j,j < m/\d[j]! = x
 | 0,_=>by simp[Lib.compactUpTo,AscL]
 | m+1,hm=>by
  obtain ⟨h1,h2⟩:=comp_law d hs m (by omega)
  rw[Lib.compactUpTo_succ];have hle:∀j,j < m->d[j]!<=d[m]!:=fun j hj=>hs j m hj (by omega)
  by_cases hk:Lib.keeps d m=true
  ·rw[if_pos hk]
   refine ⟨AscL.snoc h1 fun y hy=>?_,fun x=>?_⟩
   ·obtain ⟨j,hj,rfl⟩:=(h2 y).1 hy
    have hne:d[m]!≠d[m - 1]!:=by
     simp only[Lib.keeps,decide_eq_true_eq] at hk;rcases hk with h | h
     ·omega
     ·exact h
    have h3:d[m - 1]! < d[m]!:=lt_of_le_ne (hle (m - 1) (by omega)) fun e=>hne e.symm
    by_cases hjm:j=m - 1
    ·rw[hjm];exact h3
    ·exact lt_of_le_lt (hs j (m - 1) (by omega) (by omega)) h3
   ·rw[List.mem_append,h2,List.mem_singleton]
    constructor
    ·rintro (⟨j,hj,rfl⟩ | rfl)
     ·exact ⟨j,by omega,rfl⟩
     ·exact ⟨m,by omega,rfl⟩
    ·rintro ⟨j,hj,rfl⟩
     by_cases hjm:j=m
     ·rw[hjm];exact .inr rfl
     ·exact .inl ⟨j,by omega,rfl⟩
  ·rw[if_neg hk,List.append_nil]
   refine ⟨h1,fun x=>?_⟩;simp only[Lib.keeps,decide_eq_true_eq,not_or,ne_eq,Classical.not_not] at hk;rw[h2]
   constructor
   ·rintro ⟨j,hj,rfl⟩
    exact ⟨j,by omega,rfl⟩
   ·rintro ⟨j,hj,rfl⟩
    by_cases hjm:j=m
    ·exact ⟨m - 1,by omega,by rw[hjm,hk.2]⟩
    ·exact ⟨j,by omega,rfl⟩
def srt (l:List (List UInt8)):List (List UInt8):=l.mergeSort fun x y=>decide (x<=y)
theorem srt_law (l:List (List UInt8)):AscL (Lib.compact (srt l))/\∀x,x∈Lib.compact (srt l)↔x∈l:=by
 have hp:(srt l).Pairwise fun a b=>decide (a<=b)=true:=by
  refine List.pairwise_mergeSort ?_ ?_ _
  ·intro a b c h1 h2
   simp only[decide_eq_true_eq] at *;exact List.le_trans h1 h2
  ·intro a b
   simp only[Bool.or_eq_true,decide_eq_true_eq];exact List.le_total a b
 have hs:∀i j,i < j->j < (srt l).toArray.size->(srt l).toArray[i]!<=(srt l).toArray[j]!:=by
  intro i j hij hj;have hj':j < (srt l).length:=by simpa using hj
  have:=List.pairwise_iff_getElem.1 hp i j (by omega) hj' hij
  simp only[decide_eq_true_eq] at this;rw[getElem!_pos _ i (by simp;omega),getElem!_pos _ j hj]
  simpa using this
 obtain ⟨h1,h2⟩:=comp_law (srt l).toArray hs (srt l).length (by simp)
 refine ⟨h1,fun x=>?_⟩;rw[Lib.compact,h2];have hm:x∈srt l↔x∈l:=(List.mergeSort_perm l _).mem_iff;rw[<-hm]
 constructor
 ·rintro ⟨j,hj,rfl⟩
  rw[getElem!_pos _ j (by simpa using hj)]
  simp
 ·intro hx
  obtain ⟨j,hj,rfl⟩:=List.mem_iff_getElem.1 hx;exact ⟨j,hj,by rw[getElem!_pos _ j (by simpa using hj)];simp⟩
def toBA (x:List UInt8):ByteArray:=⟨x.toArray⟩
theorem toBA_list (x:ByteArray):toBA x.data.toList=x:=by cases x;rfl
theorem toBA_toList (x:List UInt8):(toBA x).toList=x:=by rw[ByteArray.toList_eq];rfl
theorem AscL.asc:∀{l:List (List UInt8)},AscL l->Asc (l.map toBA)
 | [],_=>trivial
 | a::l,h=>by
  refine ⟨fun b hb=>?_,AscL.asc h.2⟩;obtain ⟨c,hc,rfl⟩:=List.mem_map.1 hb;have:=h.1 c hc;rw[ltB,toBA_toList,toBA_toList];exact (less_lt a c).2 this
def srtB (l:List ByteArray):List ByteArray:=(Lib.compact (srt (l.map (·.data.toList)))).map toBA
theorem srtB_asc (l:List ByteArray):Asc (srtB l):=(srt_law _).1.asc
theorem srtB_mem (l:List ByteArray) (s:ByteArray):s∈srtB l↔s∈l:=by
 unfold srtB;rw[List.mem_map]
 constructor
 ·rintro ⟨x,hx,rfl⟩
  rw[(srt_law _).2] at hx;obtain ⟨y,hy,rfl⟩:=List.mem_map.1 hx;rw[toBA_list];exact hy
 ·intro hs
  exact ⟨s.data.toList,((srt_law _).2 _).2 (List.mem_map.2 ⟨s,hs,rfl⟩),toBA_list s⟩
end Go.Gv
/- A function that sorts texts in place and leaves each once: from what the library's contracts say of it to what it comes to. -/
namespace Go.Gv
open Go.Av Go.Proofs Go.Sort
theorem strs_cell {S:Nat->Prop} {w:World} {b:Nat}:∀{l:List ByteArray} {o:Nat},RepSE S w b o (strs l)->∀j x,l[j]?=some x->w.cell? ⟨b,o+j,none⟩=some (.string x)
 | [],o,_,j,x,hj=>by simp at hj
 | y::l,o,h,j,x,hj=>by
  simp only[strs,List.map_cons,RepSE,RepSC,List.length_singleton] at h;obtain ⟨⟨⟨u,h1,h2⟩,_⟩,h3⟩:=h;cases j with
  | zero=>
   simp at hj;subst hj;simp only[RepS] at h2;rw[Nat.add_zero,h1,h2.1]
  | succ j=>
   simp at hj;have:=strs_cell h3 j x hj;rwa[show o+1+j=o+(j+1) by omega] at this
theorem strs_rep {S:Nat->Prop} {w:World} {b:Nat}:∀{l:List ByteArray} {o:Nat},(∀j x,l[j]?=some x->w.cell? ⟨b,o+j,none⟩=some (.string x))->RepSE S w b o (strs l)
 | [],o,_=>by simp[strs,RepSE]
 | y::l,o,h=>by
  simp only[strs,List.map_cons,RepSE,RepSC,List.length_singleton,and_true];refine ⟨⟨_,h 0 y rfl,by simp[RepS,isLit]⟩,strs_rep fun j x hj=>?_⟩
  have:=h (j+1) x (by simpa using hj)
  rwa[show o+(j+1)=o+1+j by omega] at this
def ascW (w:World) (b o n q:Nat) (os:Array Obj) (l:List (List UInt8)):World:=
 putRow encStr (Sort.ahead (grow (putRow encStr (Sort.ahead w n) b o (srt l).toArray) os) q) b o (Lib.compact (srt l)++List.replicate (l.length - (Lib.compact (srt l)).length) []).toArray
theorem srt_len (l:List (List UInt8)):(srt l).length=l.length:=List.length_mergeSort l
theorem compact_le (l:List (List UInt8)):(Lib.compact (srt l)).length<=l.length:=by
 have h:∀(d:Array (List UInt8)) m,(Lib.compactUpTo d m).length<=m:=by
  intro d m;unfold Lib.compactUpTo;rw[List.length_map];exact Nat.le_trans (List.length_filter_le _ _) (by simp)
 have:=h (srt l).toArray (srt l).length;rw[srt_len] at this;unfold Lib.compact;rw[srt_len];exact this
theorem ascW_heap {w:World} {b o n q:Nat} {os:Array Obj} {l:List (List UInt8)} {arr:Array Value} {ty:TypeId} {fz:Nat×Nat} (hb:w.heap[b]?=some (.cells arr ty fz)) :
  ∃arr',arr'.size=arr.size/\(ascW w b o n q os l).heap[b]?=some (.cells arr' ty fz):=by
 have hg:b < w.heap.size:=(Array.getElem?_eq_some_iff.1 hb).1;have h:∃arr',(ascW w b o n q os l).heap[b]?=some (.cells arr' ty fz)/\arr'.size=arr.size:=by
  unfold ascW;simp only[putRow,mapBlock,Sort.ahead,Array.getElem?_modify,if_true,grow,Array.getElem?_append,Array.size_modify,hg,hb,Option.map_some,onCells];exact ⟨_,rfl,by simp[putCells]⟩
 obtain ⟨arr',h1,h2⟩:=h;exact ⟨arr',h2,h1⟩
theorem ascW_other {w:World} {b o n q:Nat} {os:Array Obj} {l:List (List UInt8)} {k:Nat} (hk:k < w.heap.size) (hn:k≠b):(ascW w b o n q os l).heap[k]?=w.heap[k]?:=by
 have:b≠k:=fun e=>hn e.symm;unfold ascW;simp only[putRow,mapBlock,Sort.ahead,Array.getElem?_modify,this,if_false,grow,Array.getElem?_append,Array.size_modify,hk,if_true]
theorem ascW_size (w:World) (b o n q:Nat) (os:Array Obj) (l:List (List UInt8)):w.heap.size<=(ascW w b o n q os l).heap.size:=by
 unfold ascW;simp[putRow,mapBlock,Sort.ahead,grow]
theorem ascW_cell {w:World} {b o n q:Nat} {os:Array Obj} {l:List (List UInt8)} (hg:b < w.heap.size) (hH:Holds encStr w b o l.toArray) {j:Nat} {x:List UInt8} (hj:(Lib.compact (srt l))[j]?=some x) :
  (ascW w b o n q os l).cell? ⟨b,o+j,none⟩=some (.string (toBA x)):=by
 have hle:=compact_le l;have hjl:j < (Lib.compact (srt l)).length:=(List.getElem?_eq_some_iff.1 hj).1;have h1:Holds encStr (putRow encStr (Sort.ahead w n) b o (srt l).toArray) b o (srt l).toArray:=holds_putRow encStr _ b o l.toArray _ (holds_ahead encStr w n b o _ hH) (by simp[srt_len])
 have h2:=holds_grow encStr _ os b o _ (by simpa using hg) h1
 have h3:=cell?_putRow encStr (Sort.ahead (grow (putRow encStr (Sort.ahead w n) b o (srt l).toArray) os) q) b o (srt l).toArray (Lib.compact (srt l)++List.replicate (l.length - (Lib.compact (srt l)).length) []).toArray (holds_ahead encStr _ q b o _ h2) (by simp[srt_len];omega) j (by simp;omega)
 unfold ascW;rw[h3];have h4:(Lib.compact (srt l)++List.replicate (l.length - (Lib.compact (srt l)).length) []).toArray[j]! = x:=by
  rw[getElem!_pos _ j (by simp;omega)]
  simp only[List.getElem_toArray];rw[List.getElem_append_left hjl];exact (List.getElem?_eq_some_iff.1 hj).2
 rw[h4]
 rfl
theorem acalls_asc {P:Program} {f:FuncId} (hA:∀ad w,Calls P f #[.slice ad 0 0] w fun e w'=>e=.returned (.slice ad 0 0)/\w'=w)
  (hB:∀b o cap zs w,Holds encStr w b o zs.toArray->b < w.heap.size->zs.length<=1073741824->zs.length<=cap->Calls P f #[.slice (some ⟨b,o,none⟩) zs.length cap] w fun e w'=>e=.returned (.slice (some ⟨b,o,none⟩) (Lib.compact (srt zs)).length cap)/\∃n os q,w'=ascW w b o n q os zs)
  (y:List ByteArray) (els:List (List T)) (he:els=strs y) (hy:y.length<=1073741824) :
  ACl P f [⟨.one,[.ow (0,0) 1 els]⟩] [] (fun res bx=>∃els',els'=strs (srtB y)/\res=⟨.one,[.ow (0,0) 1 els']⟩/\bx=[]):=by
 intro w vals S L bl O1 O2 h1 h2 hn hsl hst;obtain ⟨v1,us1,o1,o2,e1,rfl,⟨g1,g2⟩,h1⟩:=h1;obtain ⟨rfl,rfl⟩:=h1;obtain ⟨rfl,rfl⟩:=h2;rw[flat_one g1] at g2;obtain ⟨u,us,p1,p2,k1,rfl,hr,⟨_,rfl⟩⟩:=g2;simp at k1;obtain ⟨rfl,_⟩:=k1;have hv:vals=#[v1]:=by
  apply Array.ext';simpa using e1
 subst hv;obtain ⟨ad,cap,rfl,hcap,hk,hr⟩:=hr;simp only[List.append_nil] at *;rcases hr with ⟨rfl,h0,rfl⟩ | ⟨b,o,arr,ty,fz,rfl,rfl,hb,ho,hfz,hrep⟩
 ·have hy0:y=[]:=by
   cases y with
   | nil=>rfl
   | cons a r=>rw[he] at h0;simp[strs] at h0
  subst hy0;subst h0;refine Calls.mono (hA ad w) ?_;rintro e w' ⟨rfl,rfl⟩;have hs:strs (srtB [])=[]:=by
   have:srtB []=[]:=by
    cases h:srtB [] with
    | nil=>rfl
    | cons a r=>have:=(srtB_mem [] a).1 (by rw[h];simp);simp at this
   rw[this];rfl
  refine ⟨_,rfl,⟨.one,[.ow (0,0) 1 []]⟩,[],S,[],[],[],⟨_,hs.symm,rfl,rfl⟩,⟨⟨rfl,rfl⟩,_,[],[],[],rfl,rfl,⟨ad,0,rfl,Nat.le_refl _,by simp,.inl ⟨rfl,rfl,rfl⟩⟩,rfl,rfl⟩,⟨rfl,rfl⟩,by simp,?_,fun _ h=>h,fun _ h=>.inl h,.refl _ _,by simp,List.prefix_rfl⟩
  intro b hb;have:=hst b (hsl b hb);exact ⟨this.1,by simp⟩
 ·subst he
  rw[strs_len] at hcap |-;obtain ⟨zs,hzs⟩:∃zs,zs=y.map (·.data.toList):=⟨_,rfl⟩
  have hzl:zs.length=y.length:=by rw[hzs];simp
  have hbs:b < w.heap.size:=(Array.getElem?_eq_some_iff.1 hb).1;have hcl:=strs_cell hrep;have hH:Holds encStr w b o zs.toArray:=by
   intro j hj;have hj':j < y.length:=by simp at hj;omega
   refine ⟨?_,?_⟩
   ·have h3:=hcl j y[j] (List.getElem?_eq_getElem hj')
    simp only[Env.zero] at h3;rw[h3,getElem!_pos _ j hj];subst hzs;simp[encStr]
   ·have h4:=hfz (o+j) (by omega) (by omega)
    simp only[Env.zero] at hb;simp only[World.frozen?,hb];simp only[Bool.and_eq_false_iff,decide_eq_false_iff_not];omega
  have hmain:=hB b o cap zs w hH hbs (by omega) (by omega)
  rw[hzl] at hmain;refine Calls.mono hmain ?_;rintro e w' ⟨rfl,n,os,q,rfl⟩;obtain ⟨arr',hs',hb'⟩:=ascW_heap (o:=o) (n:=n) (q:=q) (os:=os) (l:=zs) hb;have hsz:=ascW_size w b o n q os zs;have hoth:∀k,k < w.heap.size->k≠b->(ascW w b o n q os zs).heap[k]?=w.heap[k]?:=fun k=>ascW_other;have hle:=compact_le zs;have hlen:(strs (srtB y)).length=(Lib.compact (srt zs)).length:=by rw[strs_len,srtB,List.length_map,hzs]
  have hSb:∀k,S k->k < w.heap.size/\k≠b:=fun k hk=>by
   have:=hst k (hsl k hk);exact ⟨this.1,by simpa using this.2⟩
  refine ⟨_,rfl,⟨.one,[.ow (0,0) 1 (strs (srtB y))]⟩,[],S,[],[b],[],⟨_,rfl,rfl,rfl⟩,⟨⟨rfl,rfl⟩,_,[],[b],[],rfl,rfl,⟨some ⟨b,o,none⟩,cap,by rw[hlen],by rw[hlen];omega,strs_all _,.inr ⟨b,o,arr',ty,fz,rfl,rfl,hb',by rw[hs'];exact ho,hfz,?_⟩⟩,rfl,rfl⟩,⟨rfl,rfl⟩,List.nodup_cons.2 ⟨by simp,List.nodup_nil⟩,?_,fun _ h=>h,fun _ h=>.inl h,⟨rfl,rfl,rfl,hsz,fun k hk hkn=>hoth k hk (by simpa using hkn)⟩,fun k hk=>.inl hk,List.prefix_rfl⟩
  ·refine strs_rep fun j x hj=>?_
   rw[srtB,List.getElem?_map,Option.map_eq_some_iff] at hj;obtain ⟨z,hz,rfl⟩:=hj;rw[<-hzs] at hz;exact ascW_cell hbs hH hz
  ·intro k hk
   have:=hSb k hk;exact ⟨by omega,by simpa using this.2⟩
end Go.Gv
