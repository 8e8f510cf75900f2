/- Part K1 of the proof: What a rows reading tells of plain data: a tree, and its shape. / Trees of a language of lines: terms, statements, rules, functions, programs as data that is read, and what is counted in them. / Short names and small lemmas for texts over a programs table of types. / What is made of trees: each slice ones own and what the helpers of an exact law say. / The machines parts as data that is read, and what is counted in them. / Which places a machine holds, and how often one of them is there. / The w -/
import Derived.Test.YtjeejieaalnbeaaGreatG1
import Derived.DataReads
import Derived.ChangeOld
import Derived.Test.YtjeejieaalnbeaaGreatD4
import Derived.IntWalk
import Derived.WalkKit
import Derived.ProofKit
import Derived.OpenShut
import Derived.ShutString
import Derived.Below
set_option linter.all false
/- What a row's reading tells of plain data: a tree, and its shape. -/
namespace Go.Gv
open Go.Av
inductive Shape (P:Program):TypeId->List T->Prop where
 | bool {t:TypeId} (h:P.underlying t=some .bool) (b:Bool):Shape P t [.lit (.bool b)]
 | int {t:TypeId} {k:IntKind} (h:P.underlying t=some (.int k)) (n:Int) (hn:(Lit.int k n).wf=true):Shape P t [.lit (.int k n)]
 | str {t:TypeId} (h:P.underlying t=some .string) (s:ByteArray) (hs:s.size<=maxLen):Shape P t [.lit (.string s)]
 | slice {t e:TypeId} (h:P.underlying t=some (.slice e)) (els:List (List T)) (hl:els.length<=maxLen) (hk:∀x∈els,x.length=P.cellsOf e) (hs:∀x∈els,Shape P e x):Shape P t [.sl els]
 | struct {t:TypeId} {fs:Array Field} (h:P.underlying t=some (.struct fs)) (ts:List T) (hl:ts.length=P.cellsOf t) (hs:∀f∈fs.toList,Shape P f.type ((ts.drop f.offset).take (P.cellsOf f.type))):Shape P t ts
def tiles (P:Program) (n:Nat):List Field->Nat->Bool
 | [],k=>k == n
 | f::fs,k=>f.offset == k && tiles P n fs (k+P.cellsOf f.type)
def plainSet (P:Program) (L:List TypeId):Bool:=L.all fun t=>match P.underlying t with
 | some .bool | some (.int _) | some .string=>true
 | some (.slice e)=>L.contains e && decide (0 < P.cellsOf e)
 | some (.struct fs)=>fs.toList.all (fun f=>L.contains f.type) && tiles P (P.cellsOf t) fs.toList 0
 | _=>false
variable {H:Type} {enc:TypeId×Value->H} {P:Program} {w:World} {spare:Nat->Bool} {held:Bool} {L:List TypeId}
theorem mapM_some {α β:Type} {f:α->Option β}:∀{l:List α} {r:List β},l.mapM f=some r->r.length=l.length/\∀(i:Nat) (x:α),l[i]?=some x->∃y,r[i]?=some y/\f x=some y
 | [],r,h=>by simp at h;subst h;exact ⟨rfl,by simp⟩
 | a::l,r,h=>by
  simp only[List.mapM_cons,Option.bind_eq_bind,Option.bind_eq_some_iff] at h;obtain ⟨y,h1,ys,h2,h3⟩:=h;simp at h3;subst h3;obtain ⟨k1,k2⟩:=mapM_some h2;refine ⟨by simp[k1],fun i x hx=>?_⟩
  cases i with
  | zero=>simp at hx;subst hx;exact ⟨y,rfl,h1⟩
  | succ i=>simp at hx;simpa using k2 i x hx
theorem RepTs.of_append {S:Nat->Prop} {w:World}:∀{a b:List T} {x y:List Value},RepTs S w a x->RepTs S w b y->RepTs S w (a++b) (x++y)
 | [],b,x,y,h,h'=>by subst h;exact h'
 | t::a,b,x,y,h,h'=>by obtain ⟨u,us,rfl,h2,h3⟩:=h;exact ⟨u,us++y,rfl,h2,RepTs.of_append h3 h'⟩
theorem fields_shape {n:Nat} {fuel:Nat} (ih:∀(t:TypeId) (cs:List Value) (d:DataW H) (ps:List MemPlace),t∈L->DataW.trod enc P w 0 spare held fuel t cs=some (d,ps)->∃ts,RepTs (fun b=>b < w.heap.size) w ts cs/\Shape P t ts)
  {cs:List Value} (hcs:cs.length=n):∀(fs:List Field) (k:Nat) (xs:List (DataW H×List MemPlace)),(∀f∈fs,f.type∈L)->tiles P n fs k=true->
   fs.mapM (fun f=>DataW.trod enc P w 0 spare held fuel f.type ((cs.drop f.offset).take (P.cellsOf f.type)))=some xs->k<=n->
   ∃ts,RepTs (fun b=>b < w.heap.size) w ts (cs.drop k)/\∀f∈fs,k<=f.offset/\Shape P f.type ((ts.drop (f.offset - k)).take (P.cellsOf f.type))
 | [],k,xs,_,ht,_,hk=>by
  simp only[tiles,beq_iff_eq] at ht;refine ⟨[],?_,by simp⟩
  rw[List.drop_of_length_le (by omega)]
  rfl
 | f::fs,k,xs,hL,ht,hx,hk=>by
  simp only[tiles,Bool.and_eq_true,beq_iff_eq] at ht;obtain ⟨h1,h2⟩:=ht;simp only[List.mapM_cons,Option.bind_eq_bind,Option.bind_eq_some_iff] at hx;obtain ⟨y,hy,ys,hys,_⟩:=hx;have hkn:k+P.cellsOf f.type<=n:=by
   clear hys hy;have:∀(fs:List Field) (j:Nat),tiles P n fs j=true->j<=n:=by
    intro fs
    induction fs with
    | nil=>intro j hj;simp only[tiles,beq_iff_eq] at hj;omega
    | cons g gs ihg=>
     intro j hj;simp only[tiles,Bool.and_eq_true,beq_iff_eq] at hj;have:=ihg _ hj.2;omega
   exact this fs _ h2
  obtain ⟨ts1,r1,s1⟩:=ih f.type _ y.1 y.2 (hL f List.mem_cons_self) hy;obtain ⟨ts2,r2,s2⟩:=fields_shape ih hcs fs (k+P.cellsOf f.type) ys (fun g hg=>hL g (List.mem_cons_of_mem _ hg)) h2 hys hkn;have hl1:ts1.length=P.cellsOf f.type:=by
   have:=RepTs.length r1;rw[<-this,List.length_take,List.length_drop];omega
  refine ⟨ts1++ts2,?_,fun g hg=>?_⟩
  ·have e:cs.drop k=(cs.drop f.offset).take (P.cellsOf f.type)++cs.drop (k+P.cellsOf f.type):=by
    rw[h1,<-List.drop_drop,List.take_append_drop]
   rw[e];exact RepTs.of_append r1 r2
  ·rcases List.mem_cons.1 hg with rfl | hg
   ·refine ⟨by omega,?_⟩
    rw[h1,Nat.sub_self,List.drop_zero,List.take_append_of_le_length (by omega),List.take_of_length_le (by omega)]
    exact s1
   ·obtain ⟨g1,g2⟩:=s2 g hg
    refine ⟨by omega,?_⟩
    rw[List.drop_append,List.drop_of_length_le (by omega),List.nil_append,show g.offset - k - ts1.length=g.offset - (k+P.cellsOf f.type) by omega]
    exact g2
theorem cells_some {base:Nat} {a:Addr} {n:Nat} {cs:List Value} (h:w.cells? base a n=some cs):cs.length=n/\∀i,i < n->w.cell? (a.add i)=cs[i]?:=by
 unfold World.cells? at h
 split at h
 ·obtain ⟨h1,h2⟩:=mapM_some h
  rw[List.length_range] at h1;refine ⟨h1,fun i hi=>?_⟩;obtain ⟨y,h3,h4⟩:=h2 i i (by rw[List.getElem?_range hi])
  rw[h4,h3]
 ·simp at h
theorem trod_shape (hL:plainSet P L=true):∀(fuel:Nat) (t:TypeId) (cs:List Value) (d:DataW H) (ps:List MemPlace),t∈L->DataW.trod enc P w 0 spare held fuel t cs=some (d,ps)->∃ts,RepTs (fun b=>b < w.heap.size) w ts cs/\Shape P t ts
 | 0,t,cs,d,ps,_,h=>by simp[DataW.trod] at h
 | fuel+1,t,cs,d,ps,ht,h=>by
  have ih:=fun t cs d ps=>trod_shape hL fuel t cs d ps;have hp:=hL;unfold plainSet at hp;rw[List.all_eq_true] at hp;have hp:=hp t ht;have lit:∀(v:Value),isLit v=true->RepTs (fun b=>b < w.heap.size) w [.lit v] [v]:=fun v hv=>⟨v,[],rfl,by simp only[RepS];exact ⟨trivial,hv⟩,rfl⟩
  unfold DataW.trod at h;cases hu:P.underlying t with
  | none=>simp only[hu] at hp;simp at hp
  | some desc=>
   simp only[hu] at hp h;cases desc with
   | bool=>
    split at h<;>simp_all
    rename_i b;exact ⟨_,lit (.bool b) rfl,.bool hu b⟩
   | int k=>
    split at h<;>simp_all
    rename_i n hq;obtain ⟨rfl,hn⟩:=hq;obtain ⟨rfl,hw⟩:=h.1;exact ⟨_,lit (.int _ _) rfl,.int hu _ hw⟩
   | string=>
    split at h<;>simp_all
    rename_i s;exact ⟨_,lit (.string s) rfl,.str hu s h.1⟩
   | slice e=>
    simp only[Bool.and_eq_true,List.contains_eq_mem,decide_eq_true_eq] at hp;obtain ⟨heL,hpos⟩:=hp
    split at h
    all_goals try (rename_i hq;cases hq;done)
    all_goals try (rename_i hq _;cases hq;done)
    all_goals try (rename_i hq _ _;cases hq;done)
    ·rename_i hq
     simp only[Option.some.injEq,TypeDesc.slice.injEq] at hq;exact ⟨[.sl []],⟨_,[],rfl,by simp only[RepS];exact ⟨none,0,rfl,by simp,by simp⟩,rfl⟩,.slice hu [] (Nat.zero_le _) (by simp) (by simp)⟩
    ·rename_i e' a len cap hq
     simp only[Option.some.injEq,TypeDesc.slice.injEq] at hq;subst hq
     split at h<;>try (simp at h;done)
     rename_i hc;simp only[Option.bind_eq_some_iff] at h;obtain ⟨elems,hel,_⟩:=h;obtain ⟨hlen,hget⟩:=mapM_some hel;rw[List.length_range] at hlen;have each:∀i:Nat,i < len->∃ts,(∃cs,cs.length=P.cellsOf e/\(∀j,j < P.cellsOf e->w.cell? ((a.add (i * P.cellsOf e)).add j)=cs[j]?)/\RepTs (fun b=>b < w.heap.size) w ts cs)/\Shape P e ts:=by
      intro i hi;obtain ⟨y,_,hy⟩:=hget i i (by rw[List.getElem?_range hi])
      simp only[Option.bind_eq_some_iff] at hy;obtain ⟨cs,hcs,hy⟩:=hy;obtain ⟨k1,k2⟩:=cells_some hcs;obtain ⟨ts,r1,r2⟩:=ih e cs y.1 y.2 heL hy;exact ⟨ts,⟨cs,k1,k2,r1⟩,r2⟩
     have hall:∀n,n<=len->∃els:List (List T),els.length=n/\∀i x,els[i]?=some x->(∃cs,cs.length=P.cellsOf e/\(∀j,j < P.cellsOf e->w.cell? ((a.add (i * P.cellsOf e)).add j)=cs[j]?)/\RepTs (fun b=>b < w.heap.size) w x cs)/\Shape P e x:=by
      intro n
      induction n with
      | zero=>intro _;exact ⟨[],rfl,by simp⟩
      | succ n ihn=>
       intro hn;obtain ⟨els,h1,h2⟩:=ihn (by omega)
       obtain ⟨ts,h3⟩:=each n (by omega)
       refine ⟨els++[ts],by simp[h1],fun i x hx=>?_⟩
       by_cases hin:i < els.length
       ·rw[List.getElem?_append_left hin] at hx
        exact h2 i x hx
       ·rw[List.getElem?_append_right (by omega)] at hx
        have:i - els.length=0:=by
         by_cases h0:i - els.length=0
         ·exact h0
         ·rw[List.getElem?_eq_none (by simp;omega)] at hx;simp at hx
        rw[this] at hx;simp at hx;subst hx;have:i=n:=by omega
        subst this;exact h3
     obtain ⟨els,he1,he2⟩:=hall len (Nat.le_refl _);have hk:∀x∈els,x.length=P.cellsOf e:=fun x hx=>by
      obtain ⟨i,hi⟩:=List.mem_iff_getElem?.1 hx;obtain ⟨⟨cs,c1,_,c3⟩,_⟩:=he2 i x hi;rw[<-RepTs.length c3,c1]
     refine ⟨[.sl els],⟨_,[],rfl,?_,rfl⟩,.slice hu els (by omega) hk fun x hx=>?_⟩
     ·simp only[RepS]
      refine ⟨some a,cap,by rw[he1],by omega,fun hne=>?_⟩
      have h0:0 < len:=by
       cases els with
       | nil=>exact absurd rfl hne
       | cons x r=>simp at he1;omega
      obtain ⟨x0,hx0⟩:∃x0,els[0]?=some x0:=⟨els[0],List.getElem?_eq_getElem (by omega)⟩
      obtain ⟨⟨cs0,d1,d2,d3⟩,_⟩:=he2 0 x0 hx0;have hc0:=d2 0 hpos;rw[List.getElem?_eq_getElem (by omega)] at hc0
      rw[Nat.zero_mul] at hc0;have hsp:=World.cell?_spot hc0;obtain ⟨b,o,sp⟩:=a;have hsp':sp=none:=by simpa [Addr.add] using hsp
      subst hsp';rw[add_none,add_none] at hc0;have hb:b < w.heap.size:=by
       unfold World.cell? at hc0
       split at hc0
       ·rename_i hbb
        exact (Array.getElem?_eq_some_iff.1 hbb).1
       ·simp at hc0
      refine ⟨b,o,rfl,hb,RepSE.of_get hk fun i x hx=>?_⟩;obtain ⟨⟨cs,c1,c2,c3⟩,_⟩:=he2 i x hx;refine RepSC.of_get fun j t hj=>?_;obtain ⟨u,u1,u2⟩:=RepTs.get c3 j t hj;have hjl:j < P.cellsOf e:=by
       rw[<-hk x (List.mem_of_getElem? hx)];exact (List.getElem?_eq_some_iff.1 hj).1
      have:=c2 j hjl;rw[add_none,add_none,u1] at this;exact ⟨u,this,u2⟩
     ·obtain ⟨i,hi⟩:=List.mem_iff_getElem?.1 hx
      exact (he2 i x hi).2
    ·simp at h
   | struct fs=>
    simp only[Bool.and_eq_true,List.all_eq_true,List.contains_eq_mem,decide_eq_true_eq] at hp;obtain ⟨hfL,htile⟩:=hp
    split at h
    all_goals try (rename_i hq;cases hq;done)
    all_goals try (rename_i hq _;cases hq;done)
    all_goals try (rename_i hq _ _;cases hq;done)
    ·rename_i fs' hq
     simp only[Option.some.injEq,TypeDesc.struct.injEq] at hq;subst hq
     split at h<;>try (simp at h;done)
     rename_i hlen;simp only[Option.map_eq_some_iff] at h;obtain ⟨xs,hxs,_⟩:=h;obtain ⟨ts,r1,r2⟩:=fields_shape ih hlen fs.toList 0 xs hfL htile hxs (Nat.zero_le _);rw[List.drop_zero] at r1;refine ⟨ts,r1,.struct hu ts (by rw[<-RepTs.length r1,hlen]) fun f hf=>?_⟩
     have:=(r2 f hf).2;rwa[Nat.sub_zero] at this
    ·exfalso
     rename_i x19 _ _ _ _ _ _ _ _ _ _ _ _ _ _ _ _ _ _ _;exact x19 fs rfl
   | _=>simp at hp
end Go.Gv
/- Trees of a language of lines: terms, statements, rules, functions, programs; as data that is read, and what is counted in them. -/
namespace Go.Gv
open Go.Av
section
variable {P:Program} {t:TypeId} {ts:List T}
theorem Shape.bool_inv (h:Shape P t ts) (hu:P.underlying t=some .bool):∃b,ts=[.lit (.bool b)]:=by
 cases h<;>simp_all
theorem Shape.int_inv {k:IntKind} (h:Shape P t ts) (hu:P.underlying t=some (.int k)):∃n,ts=[.lit (.int k n)]/\(Lit.int k n).wf=true:=by
 cases h<;>simp_all
theorem Shape.str_inv (h:Shape P t ts) (hu:P.underlying t=some .string):∃s,ts=[.lit (.string s)]/\s.size<=maxLen:=by
 cases h<;>simp_all
theorem Shape.slice_inv {e:TypeId} (h:Shape P t ts) (hu:P.underlying t=some (.slice e)):∃els,ts=[.sl els]/\els.length<=maxLen/\∀x∈els,Shape P e x:=by
 cases h<;>simp_all
theorem Shape.struct_inv {fs:Array Field} (h:Shape P t ts) (hu:P.underlying t=some (.struct fs)):ts.length=P.cellsOf t/\∀f∈fs.toList,Shape P f.type ((ts.drop f.offset).take (P.cellsOf f.type)):=by
 cases h<;>simp_all
end
theorem list_of {α:Type} {f:α->List T} {W:α->Prop}:∀{els:List (List T)},(∀x∈els,∃a,x=f a/\W a)->∃l:List α,els=l.map f/\∀a∈l,W a
 | [],_=>⟨[],rfl,by simp⟩
 | x::els,h=>by
  obtain ⟨a,rfl,ha⟩:=h x List.mem_cons_self;obtain ⟨l,rfl,hl⟩:=list_of (els:=els) fun y hy=>h y (List.mem_cons_of_mem _ hy);exact ⟨a::l,rfl,by simpa using ⟨ha,hl⟩⟩
theorem mpA {O:Ops} (hO:O=Ops.std) {α:Type} {f:α->List T} {els:List (List T)} {l:List α} (he:els=l.map f) {i:Nat} (hi:i < l.length) :
  ∃x,x∈l/\l[i]?=some x/\l.take (i+1)=l.take i++[x]/\O.get els (O.nat (Int.ofNat i))=f x:=by
 subst hO;subst he;refine ⟨l[i],List.getElem_mem hi,List.getElem?_eq_getElem hi,List.take_succ_eq_append_getElem hi,?_⟩
 show (l.map f).getD i []=f l[i]
 simp[hi]
def i64r (n:Int):Prop:=-9223372036854775808<=n/\n<=9223372036854775807
theorem i64r_of {n:Int} (h:(Lit.int .i64 n).wf=true):i64r n:=by
 simp only[Lit.wf,Bool.and_eq_true,decide_eq_true_eq] at h;exact h
inductive Ex where
 | mk (k n:Int) (s:ByteArray) (l:List Ex)
 deriving Inhabited
mutual
def Ex.t:Ex->List T
 | .mk k n s l=>[.lit (.int .i64 k),.lit (.int .i64 n),.lit (.string s),.sl (Ex.ts l)]
def Ex.ts:List Ex->List (List T)
 | []=>[]
 | e::l=>Ex.t e::Ex.ts l
end
theorem Ex.ts_map:∀l,Ex.ts l=l.map Ex.t
 | []=>rfl
 | e::l=>by rw[Ex.ts,Ex.ts_map l,List.map_cons]
theorem Ex.t_mk (k n:Int) (s:ByteArray) (l:List Ex):(Ex.mk k n s l).t=[.lit (.int .i64 k),.lit (.int .i64 n),.lit (.string s),.sl (l.map Ex.t)]:=by rw[Ex.t,Ex.ts_map]
theorem Ex.t_len (e:Ex):e.t.length=4:=by cases e;rw[Ex.t];rfl
mutual
def Ex.sz:Ex->Nat
 | .mk _ _ s l=>s.size+l.length+Ex.szs l
def Ex.szs:List Ex->Nat
 | []=>0
 | e::l=>Ex.sz e+Ex.szs l
end
theorem Ex.szs_app:∀a b,Ex.szs (a++b)=Ex.szs a+Ex.szs b
 | [],b=>by simp[Ex.szs]
 | e::a,b=>by rw[List.cons_append,Ex.szs,Ex.szs,Ex.szs_app a b];omega
theorem Ex.szs_one (e:Ex):Ex.szs [e]=e.sz:=by simp[Ex.szs]
mutual
def Ex.parts:Ex->Nat
 | .mk _ _ _ l=>1+Ex.partss l
def Ex.partss:List Ex->Nat
 | []=>0
 | e::l=>Ex.parts e+Ex.partss l
end
theorem Ex.partss_app:∀a b,Ex.partss (a++b)=Ex.partss a+Ex.partss b
 | [],b=>by simp[Ex.partss]
 | e::a,b=>by rw[List.cons_append,Ex.partss,Ex.partss,Ex.partss_app a b];omega
theorem Ex.partss_one (e:Ex):Ex.partss [e]=e.parts:=by simp[Ex.partss]
mutual
theorem Ex.parts_le:∀e:Ex,e.parts<=1+e.sz
 | .mk k n s l=>by have:=Ex.partss_le l;rw[Ex.parts,Ex.sz];omega
theorem Ex.partss_le:∀l:List Ex,Ex.partss l<=l.length+Ex.szs l
 | []=>by simp[Ex.partss]
 | e::l=>by have:=Ex.parts_le e;have:=Ex.partss_le l;rw[Ex.partss,Ex.szs,List.length_cons];omega
end
inductive Ex.Wf:Ex->Prop where
 | mk {k n:Int} {s:ByteArray} {l:List Ex} (hk:i64r k) (hn:i64r n) (hs:s.size<=maxLen) (hl:l.length<=maxLen) (h:∀e∈l,Ex.Wf e):Ex.Wf (.mk k n s l)
inductive Sm where
 | mk (k:Int) (s t:ByteArray) (x:List Ex) (a b:List Sm)
 deriving Inhabited
mutual
def Sm.t:Sm->List T
 | .mk k s t x a b=>[.lit (.int .i64 k),.lit (.string s),.lit (.string t),.sl (x.map Ex.t),.sl (Sm.ts a),.sl (Sm.ts b)]
def Sm.ts:List Sm->List (List T)
 | []=>[]
 | e::l=>Sm.t e::Sm.ts l
end
theorem Sm.ts_map:∀l,Sm.ts l=l.map Sm.t
 | []=>rfl
 | e::l=>by rw[Sm.ts,Sm.ts_map l,List.map_cons]
theorem Sm.t_mk (k:Int) (s t:ByteArray) (x:List Ex) (a b:List Sm):(Sm.mk k s t x a b).t=[.lit (.int .i64 k),.lit (.string s),.lit (.string t),.sl (x.map Ex.t),.sl (a.map Sm.t),.sl (b.map Sm.t)]:=by
 rw[Sm.t,Sm.ts_map,Sm.ts_map]
theorem Sm.t_len (e:Sm):e.t.length=6:=by cases e;rw[Sm.t];rfl
mutual
def Sm.sz:Sm->Nat
 | .mk _ s t x a b=>s.size+t.size+(x.length+Ex.szs x)+(a.length+Sm.szs a)+(b.length+Sm.szs b)
def Sm.szs:List Sm->Nat
 | []=>0
 | e::l=>Sm.sz e+Sm.szs l
end
theorem Sm.szs_app:∀a b,Sm.szs (a++b)=Sm.szs a+Sm.szs b
 | [],b=>by simp[Sm.szs]
 | e::a,b=>by rw[List.cons_append,Sm.szs,Sm.szs,Sm.szs_app a b];omega
theorem Sm.szs_one (e:Sm):Sm.szs [e]=e.sz:=by simp[Sm.szs]
mutual
def Sm.parts:Sm->Nat
 | .mk _ _ _ x a b=>Ex.partss x+Sm.partss a+Sm.partss b
def Sm.partss:List Sm->Nat
 | []=>0
 | e::l=>Sm.parts e+Sm.partss l
end
mutual
theorem Sm.parts_le:∀e:Sm,e.parts<=e.sz
 | .mk k s t x a b=>by have:=Ex.partss_le x;have:=Sm.partss_le a;have:=Sm.partss_le b;rw[Sm.parts,Sm.sz];omega
theorem Sm.partss_le:∀l:List Sm,Sm.partss l<=Sm.szs l
 | []=>by simp[Sm.partss]
 | e::l=>by have:=Sm.parts_le e;have:=Sm.partss_le l;rw[Sm.partss,Sm.szs];omega
end
inductive Sm.Wf:Sm->Prop where
 | mk {k:Int} {s t:ByteArray} {x:List Ex} {a b:List Sm} (hk:i64r k) (hs:s.size<=maxLen) (ht:t.size<=maxLen) (hx:x.length<=maxLen) (hx':∀e∈x,Ex.Wf e)
   (ha:a.length<=maxLen) (ha':∀e∈a,Sm.Wf e) (hb:b.length<=maxLen) (hb':∀e∈b,Sm.Wf e):Sm.Wf (.mk k s t x a b)
structure Ru where
 k:Int
 p:Ex
 a:List Sm
 deriving Inhabited
structure Fu where
 name:ByteArray
 params:List ByteArray
 a:List Sm
 deriving Inhabited
structure Pg where
 rules:List Ru
 fns:List Fu
 deriving Inhabited
def strT (s:ByteArray):List T:=[.lit (.string s)]
def Ru.t (r:Ru):List T:=.lit (.int .i64 r.k)::(r.p.t++[.sl (r.a.map Sm.t)])
def Fu.t (f:Fu):List T:=[.lit (.string f.name),.sl (f.params.map strT),.sl (f.a.map Sm.t)]
def Pg.t (p:Pg):List T:=[.sl (p.rules.map Ru.t),.sl (p.fns.map Fu.t)]
theorem Ru.t_len (r:Ru):r.t.length=6:=by simp[Ru.t,Ex.t_len]
theorem Fu.t_len (f:Fu):f.t.length=3:=rfl
def strsz (l:List ByteArray):Nat:=(l.map ByteArray.size).sum
def Ru.sz (r:Ru):Nat:=r.p.sz+(r.a.length+Sm.szs r.a)
def Fu.sz (f:Fu):Nat:=f.name.size+(f.params.length+strsz f.params)+(f.a.length+Sm.szs f.a)
def Ru.szs (l:List Ru):Nat:=(l.map Ru.sz).sum
def Fu.szs (l:List Fu):Nat:=(l.map Fu.sz).sum
def Pg.sz (p:Pg):Nat:=(p.rules.length+Ru.szs p.rules)+(p.fns.length+Fu.szs p.fns)
theorem strsz_app (a b:List ByteArray):strsz (a++b)=strsz a+strsz b:=by simp[strsz]
theorem strsz_one (a:ByteArray):strsz [a]=a.size:=by simp[strsz]
theorem Ru.szs_app (a b:List Ru):Ru.szs (a++b)=Ru.szs a+Ru.szs b:=by simp[Ru.szs]
theorem Ru.szs_one (a:Ru):Ru.szs [a]=a.sz:=by simp[Ru.szs]
theorem Fu.szs_app (a b:List Fu):Fu.szs (a++b)=Fu.szs a+Fu.szs b:=by simp[Fu.szs]
theorem Fu.szs_one (a:Fu):Fu.szs [a]=a.sz:=by simp[Fu.szs]
structure Ru.Wf (r:Ru):Prop where
 k:i64r r.k
 p:r.p.Wf
 a:r.a.length<=maxLen
 a':∀e∈r.a,Sm.Wf e
structure Fu.Wf (f:Fu):Prop where
 name:f.name.size<=maxLen
 params:f.params.length<=maxLen
 params':∀e∈f.params,e.size<=maxLen
 a:f.a.length<=maxLen
 a':∀e∈f.a,Sm.Wf e
structure Pg.Wf (p:Pg):Prop where
 rules:p.rules.length<=maxLen
 rules':∀e∈p.rules,Ru.Wf e
 fns:p.fns.length<=maxLen
 fns':∀e∈p.fns,Fu.Wf e
end Go.Gv
/- Short names and small lemmas for texts over a program's table of types. -/
namespace Go.Gv
open Go.Av
def litI (x:Int):AV:=⟨.one,[.lit (.int .i64 x)]⟩
def litB (b:Bool):AV:=⟨.one,[.lit (.bool b)]⟩
def litS (s:ByteArray):AV:=⟨.one,[.lit (.string s)]⟩
def strs (l:List ByteArray):List (List T):=l.map fun s=>[T.lit (.string s)]
@[simp] theorem strs_len (l:List ByteArray):(strs l).length=l.length:=by simp[strs]
@[simp] theorem strs_all (l:List ByteArray):∀x∈strs l,x.length=1:=by simp[strs]
@[simp] theorem strs_lits (l:List ByteArray):∀x∈strs l,∀t∈x,isL t=true:=by simp[strs,isL]
theorem i64_id {x:Int} (h:-9223372036854775808<=x/\x<=9223372036854775807):IntKind.i64.wrap x=x:=IntWalk.i64_in x h
theorem ba_eq {a b:ByteArray}:(a.toList == b.toList)=decide (a=b):=by
 rw[ByteArray.toList_eq,ByteArray.toList_eq]
 by_cases h:a=b
 ·subst h;simp
 ·have:a.data.toList≠b.data.toList:=fun e=>h (by cases a;cases b;simp at e;rw[e])
  rw[decide_eq_false h];simpa using fun e=>this (by rw[e])
theorem sqL (a b:ByteArray):stdScmp .eql a b=decide (a=b):=ba_eq
theorem scmp_neq (a b:ByteArray):stdScmp .neq a b=!decide (a=b):=by simp only[stdScmp,ba_eq]
theorem iSc {O:Ops} (hO:O=Ops.std) {i:Nat} (h:i < 9223372036854775807):O.bin .add .i64 (Int.ofNat i) 1=Int.ofNat (i+1):=by
 subst hO;exact i64_id (x:=(i:Int)+1) (by omega)
theorem nn_ok {O:Ops} (hO:O=Ops.std) {n:Int} (h:0<=n):O.nn n:=by subst hO;exact h
theorem mOk_of {O:Ops} (hO:O=Ops.std) {b:Nat} {l c:Int} (h:0<=l/\l<=c/\(b:Int) * c<=281474976710656/\c<=9223372036854775807):O.mOk b l c:=by subst hO;exact h
theorem aOk_of {O:Ops} (hO:O=Ops.std) {n:Nat} {a b:List (List T)} (h1:(a.length+b.length) * n<=140737488355328) (h2:a.length+b.length<=9223372036854775807):O.aOk n a b:=by subst hO;exact ⟨h1,h2⟩
theorem idx_of {O:Ops} (hO:O=Ops.std) {i:Int} {n:Nat} (h:0<=i/\i < Int.ofNat n):O.idx i n:=by subst hO;exact h
theorem ixN {O:Ops} (hO:O=Ops.std) {i n:Nat} (h:i < n):O.idx (Int.ofNat i) n:=idx_of hO ⟨Int.natCast_nonneg _,Int.ofNat_lt.2 h⟩
theorem one_of {O:Ops} (hO:O=Ops.std) {outs:List (List T)} {i n K:Nat} (hi:i < outs.length) (hn:n=i) (hk:∀e∈outs,e.length=K):O.one outs n K:=by
 subst hO;subst hn;refine ⟨hi,?_⟩;rw[List.getD_eq_getElem?_getD,List.getElem?_eq_getElem hi];exact hk _ (List.getElem_mem hi)
theorem alO {O:Ops} (hO:O=Ops.std) {els:List (List T)} {K:Nat} (hk:∀e∈els,e.length=K):O.all els K:=by subst hO;exact hk
theorem lnO {O:Ops} (hO:O=Ops.std) {els:List (List T)} {N:Nat} (h:els.length=N):O.len els=N:=by subst hO;exact h
end Go.Gv
/- What is made of trees: each slice one's own; and what the helpers of an exact law say. -/
namespace Go.Gv
open Go.Av
def Ex.ow:Ex->List A
 | .mk k n s l=>[.lit (.int .i64 k),.lit (.int .i64 n),.lit (.string s),.ow (0,0) 4 (l.map Ex.t)]
def Sm.ow:Sm->List A
 | .mk k s t x a b=>[.lit (.int .i64 k),.lit (.string s),.lit (.string t),.ow (0,0) 4 (x.map Ex.t),.ow (0,0) 6 (a.map Sm.t),.ow (0,0) 6 (b.map Sm.t)]
theorem Ex.ow_mk (k n:Int) (s:ByteArray) (l:List Ex):(Ex.mk k n s l).ow=[.lit (.int .i64 k),.lit (.int .i64 n),.lit (.string s),.ow (0,0) 4 (l.map Ex.t)]:=rfl
theorem Sm.ow_mk (k:Int) (s t:ByteArray) (x:List Ex) (a b:List Sm):(Sm.mk k s t x a b).ow=[.lit (.int .i64 k),.lit (.string s),.lit (.string t),.ow (0,0) 4 (x.map Ex.t),.ow (0,0) 6 (a.map Sm.t),.ow (0,0) 6 (b.map Sm.t)]:=rfl
def Ru.ow (r:Ru):List A:=.lit (.int .i64 r.k)::(r.p.ow++[.ow (0,0) 6 (r.a.map Sm.t)])
def Fu.ow (f:Fu):List A:=[.lit (.string f.name),.ow (0,0) 1 (f.params.map strT),.ow (0,0) 6 (f.a.map Sm.t)]
def Pg.ow (p:Pg):List A:=[.ow (0,0) 6 (p.rules.map Ru.t),.ow (0,0) 3 (p.fns.map Fu.t)]
theorem strT_len (s:ByteArray):(strT s).length=1:=rfl
def szR (s:Nat) (left r:Int):Prop:=(Int.ofNat s<=left/\r=left - Int.ofNat s)\/(left < Int.ofNat s/\r=-1)
def lefts (left:Int):Prop:=0<=left/\left<=1048576
theorem sub_id {O:Ops} (hO:O=Ops.std) {a:Int} {b:Nat} (ha:lefts a) (hb:b<=maxLen):O.bin .sub .i64 a (Int.ofNat b)=a - Int.ofNat b:=by
 subst hO;have:maxLen<=9223372036854775807:=by decide
 simp only[lefts,Int.ofNat_eq_natCast] at *;refine i64_id (x:=a - (b:Int)) ?_;omega
theorem sub_le {a:Int} {b:Nat} (ha:lefts a) (h:¬a - Int.ofNat b < 0):lefts (a - Int.ofNat b):=by
 simp only[lefts,Int.ofNat_eq_natCast] at *;omega
theorem szR_le {s:Nat} {a r:Int} (ha:lefts a) (h:szR s a r) (hr:¬r < 0):lefts r:=by
 simp only[lefts,szR,Int.ofNat_eq_natCast] at *;omega
theorem set_step {els outs:List (List T)} {i:Nat} {x:List T} (hi:i < els.length) (hl:outs.length=els.length) (ht:outs.take i=els.take i) (hx:els[i]?=some x) :
  (outs.set i x).length=els.length/\(outs.set i x).take (i+1)=els.take (i+1):=by
 refine ⟨by simpa using hl,?_⟩
 have hj:els[i]=x:=by rw[List.getElem?_eq_getElem hi] at hx;exact Option.some.inj hx
 rw[List.take_succ_eq_append_getElem (by simp;omega),List.take_succ_eq_append_getElem hi,List.take_set_of_le (Nat.le_refl i),ht,hj]
 simp
def invSz (nt:Nat) (els:List (List T)) (N:Nat) (acc:Nat->Nat) (left:Int) (n:Nat) (σ:AS):Prop:=
 ∃(i:Nat) (m:Int),σ=⟨vag nt [(0,⟨.one,[.ro true els]⟩),(1,litI m),(5,litI (Int.ofNat i))],[],1⟩/\i<=N/\m=left - Int.ofNat N - Int.ofNat (acc i)/\lefts m/\n=N - i
def invTo (nt:Nat) (els:List (List T)) (K:Nat) (n:Nat) (σ:AS):Prop:=
 ∃(i:Nat) (outs:List (List T)),σ=⟨vag nt [(0,⟨.one,[.ro true els]⟩),(3,⟨.one,[.ow (0,0) K outs]⟩),(4,litI (Int.ofNat i))],[],1⟩/\
  i<=els.length/\outs.length=els.length/\(∀e∈outs,e.length=K)/\outs.take i=els.take i/\n=els.length - i
def invEq (nt:Nat) (els:List (List T)) (n:Nat) (σ:AS):Prop:=
 ∃i:Nat,σ=⟨vag nt [(0,⟨.one,[.ro true els]⟩),(1,⟨.one,[.ro true els]⟩),(5,litI (Int.ofNat i))],[],1⟩/\i<=els.length/\n=els.length - i
end Go.Gv
/- The machine's parts as data that is read, and what is counted in them. -/
namespace Go.Gv
open Go.Av
theorem sum_mem {α:Type} {f:α->Nat} {l:List α} {e:α} (h:e∈l):f e<=(l.map f).sum:=by
 induction l with
 | nil=>simp at h
 | cons a l ih=>
  rw[List.map_cons,List.sum_cons];rcases List.mem_cons.1 h with rfl | h
  ·omega
  ·have:=ih h;omega
theorem add_nat {O:Ops} (hO:O=Ops.std) {a b:Nat} (h:a+b<=9223372036854775807):O.bin .add .i64 (Int.ofNat a) (Int.ofNat b)=Int.ofNat (a+b):=by
 subst hO;exact i64_id (x:=(a:Int)+(b:Int)) (by omega)
abbrev roT (els:List (List T)):AV:=⟨.one,[.ro true els]⟩
abbrev agT (ts:List T):AV:=⟨.agg,ts.map (tA true)⟩
def intT (n:Int):List T:=[.lit (.int .i64 n)]
def byteT (n:Int):List T:=[.lit (.int .u8 n)]
theorem intT_len (n:Int):(intT n).length=1:=rfl
theorem byteT_len (n:Int):(byteT n).length=1:=rfl
structure Vl where
 k:Int
 n:Int
 s:ByteArray
 deriving Inhabited
def Vl.t (x:Vl):List T:=[.lit (.int .i64 x.k)]++([.lit (.int .i64 x.n)]++([.lit (.string x.s)]))
def Vl.ow (x:Vl):List A:=[.lit (.int .i64 x.k)]++([.lit (.int .i64 x.n)]++([.lit (.string x.s)]))
theorem Vl.t_len (x:Vl):x.t.length=3:=by simp[Vl.t]
def Vl.sz (x:Vl):Nat:=x.s.size
structure Vl.Wf (x:Vl):Prop where
 k:i64r x.k
 n:i64r x.n
 s:x.s.size<=maxLen
structure Rc where
 line:ByteArray
 fields:List ByteArray
 deriving Inhabited
def Rc.t (x:Rc):List T:=[.lit (.string x.line)]++([.sl (x.fields.map strT)])
def Rc.ow (x:Rc):List A:=[.lit (.string x.line)]++([.ow (0,0) 1 (x.fields.map strT)])
theorem Rc.t_len (x:Rc):x.t.length=2:=by simp[Rc.t]
def Rc.sz (x:Rc):Nat:=x.line.size+(x.fields.length+strsz x.fields)
structure Rc.Wf (x:Rc):Prop where
 line:x.line.size<=maxLen
 fields:x.fields.length<=maxLen
 fields':∀e∈x.fields,e.size<=maxLen
structure Ce where
 refs:Int
 v:Vl
 deriving Inhabited
def Ce.t (x:Ce):List T:=[.lit (.int .i64 x.refs)]++(x.v.t)
def Ce.ow (x:Ce):List A:=[.lit (.int .i64 x.refs)]++(x.v.ow)
theorem Ce.t_len (x:Ce):x.t.length=4:=by simp[Ce.t,Vl.t_len]
def Ce.sz (x:Ce):Nat:=x.v.sz
def Ce.szs (l:List Ce):Nat:=(l.map Ce.sz).sum
theorem Ce.szs_app (a b:List Ce):Ce.szs (a++b)=Ce.szs a+Ce.szs b:=by simp[Ce.szs]
theorem Ce.szs_one (a:Ce):Ce.szs [a]=a.sz:=by simp[Ce.szs]
structure Ce.Wf (x:Ce):Prop where
 refs:i64r x.refs
 v:x.v.Wf
structure He where
 cells:List Ce
 deriving Inhabited
def He.t (x:He):List T:=[.sl (x.cells.map Ce.t)]
def He.ow (x:He):List A:=[.ow (0,0) 4 (x.cells.map Ce.t)]
theorem He.t_len (x:He):x.t.length=1:=by simp[He.t]
def He.sz (x:He):Nat:=(x.cells.length+Ce.szs x.cells)
structure He.Wf (x:He):Prop where
 cells:x.cells.length<=maxLen
 cells':∀e∈x.cells,Ce.Wf e
structure Me where
 key:ByteArray
 ref:Int
 deriving Inhabited
def Me.t (x:Me):List T:=[.lit (.string x.key)]++([.lit (.int .i64 x.ref)])
def Me.ow (x:Me):List A:=[.lit (.string x.key)]++([.lit (.int .i64 x.ref)])
theorem Me.t_len (x:Me):x.t.length=2:=by simp[Me.t]
def Me.sz (x:Me):Nat:=x.key.size
def Me.szs (l:List Me):Nat:=(l.map Me.sz).sum
theorem Me.szs_app (a b:List Me):Me.szs (a++b)=Me.szs a+Me.szs b:=by simp[Me.szs]
theorem Me.szs_one (a:Me):Me.szs [a]=a.sz:=by simp[Me.szs]
structure Me.Wf (x:Me):Prop where
 key:x.key.size<=maxLen
 ref:i64r x.ref
structure Mt where
 l:List Me
 deriving Inhabited
def Mt.t (x:Mt):List T:=[.sl (x.l.map Me.t)]
def Mt.ow (x:Mt):List A:=[.ow (0,0) 2 (x.l.map Me.t)]
theorem Mt.t_len (x:Mt):x.t.length=1:=by simp[Mt.t]
def Mt.sz (x:Mt):Nat:=(x.l.length+Me.szs x.l)
def Mt.szs (l:List Mt):Nat:=(l.map Mt.sz).sum
theorem Mt.szs_app (a b:List Mt):Mt.szs (a++b)=Mt.szs a+Mt.szs b:=by simp[Mt.szs]
theorem Mt.szs_one (a:Mt):Mt.szs [a]=a.sz:=by simp[Mt.szs]
structure Mt.Wf (x:Mt):Prop where
 l:x.l.length<=maxLen
 l':∀e∈x.l,Me.Wf e
structure Sl where
 num:Bool
 n:Int
 deriving Inhabited
def Sl.t (x:Sl):List T:=[.lit (.bool x.num)]++([.lit (.int .i64 x.n)])
def Sl.ow (x:Sl):List A:=[.lit (.bool x.num)]++([.lit (.int .i64 x.n)])
theorem Sl.t_len (x:Sl):x.t.length=2:=by simp[Sl.t]
structure Sl.Wf (x:Sl):Prop where
 n:i64r x.n
structure La where
 loop:Bool
 pc:Int
 height:Int
 iters:Int
 res:Int
 deriving Inhabited
def La.t (x:La):List T:=[.lit (.bool x.loop)]++([.lit (.int .i64 x.pc)]++([.lit (.int .i64 x.height)]++([.lit (.int .i64 x.iters)]++([.lit (.int .i64 x.res)]))))
def La.ow (x:La):List A:=[.lit (.bool x.loop)]++([.lit (.int .i64 x.pc)]++([.lit (.int .i64 x.height)]++([.lit (.int .i64 x.iters)]++([.lit (.int .i64 x.res)]))))
theorem La.t_len (x:La):x.t.length=5:=by simp[La.t]
structure La.Wf (x:La):Prop where
 pc:i64r x.pc
 height:i64r x.height
 iters:i64r x.iters
 res:i64r x.res
structure It where
 keys:List Int
 at_:Int
 deriving Inhabited
def It.t (x:It):List T:=[.sl (x.keys.map intT)]++([.lit (.int .i64 x.at_)])
def It.ow (x:It):List A:=[.ow (0,0) 1 (x.keys.map intT)]++([.lit (.int .i64 x.at_)])
theorem It.t_len (x:It):x.t.length=2:=by simp[It.t]
def It.sz (x:It):Nat:=x.keys.length
def It.szs (l:List It):Nat:=(l.map It.sz).sum
theorem It.szs_app (a b:List It):It.szs (a++b)=It.szs a+It.szs b:=by simp[It.szs]
theorem It.szs_one (a:It):It.szs [a]=a.sz:=by simp[It.szs]
structure It.Wf (x:It):Prop where
 keys:x.keys.length<=maxLen
 at_:i64r x.at_
structure Fr where
 fn:Int
 pc:Int
 locals:List Int
 stack:List Sl
 labels:List La
 iters:List It
 deriving Inhabited
def Fr.t (x:Fr):List T:=[.lit (.int .i64 x.fn)]++([.lit (.int .i64 x.pc)]++([.sl (x.locals.map intT)]++([.sl (x.stack.map Sl.t)]++([.sl (x.labels.map La.t)]++([.sl (x.iters.map It.t)])))))
def Fr.ow (x:Fr):List A:=[.lit (.int .i64 x.fn)]++([.lit (.int .i64 x.pc)]++([.ow (0,0) 1 (x.locals.map intT)]++([.ow (0,0) 2 (x.stack.map Sl.t)]++([.ow (0,0) 5 (x.labels.map La.t)]++([.ow (0,0) 2 (x.iters.map It.t)])))))
theorem Fr.t_len (x:Fr):x.t.length=6:=by simp[Fr.t]
def Fr.sz (x:Fr):Nat:=x.locals.length+x.stack.length+x.labels.length+(x.iters.length+It.szs x.iters)
def Fr.szs (l:List Fr):Nat:=(l.map Fr.sz).sum
theorem Fr.szs_app (a b:List Fr):Fr.szs (a++b)=Fr.szs a+Fr.szs b:=by simp[Fr.szs]
theorem Fr.szs_one (a:Fr):Fr.szs [a]=a.sz:=by simp[Fr.szs]
structure Fr.Wf (x:Fr):Prop where
 fn:i64r x.fn
 pc:i64r x.pc
 locals:x.locals.length<=maxLen
 stack:x.stack.length<=maxLen
 stack':∀e∈x.stack,Sl.Wf e
 labels:x.labels.length<=maxLen
 labels':∀e∈x.labels,La.Wf e
 iters:x.iters.length<=maxLen
 iters':∀e∈x.iters,It.Wf e
structure Mc where
 h:He
 vars:List Int
 tables:List Mt
 frames:List Fr
 r:Rc
 nr:Int
 out:List Int
 fuel:Int
 stop:Int
 fault:Int
 exit:Int
 trap:Bool
 deriving Inhabited
def Mc.t (x:Mc):List T:=x.h.t++([.sl (x.vars.map intT)]++([.sl (x.tables.map Mt.t)]++([.sl (x.frames.map Fr.t)]++(x.r.t++([.lit (.int .i64 x.nr)]++([.sl (x.out.map byteT)]++([.lit (.int .i64 x.fuel)]++([.lit (.int .i64 x.stop)]++([.lit (.int .i64 x.fault)]++([.lit (.int .i64 x.exit)]++([.lit (.bool x.trap)])))))))))))
def Mc.ow (x:Mc):List A:=x.h.ow++([.ow (0,0) 1 (x.vars.map intT)]++([.ow (0,0) 1 (x.tables.map Mt.t)]++([.ow (0,0) 6 (x.frames.map Fr.t)]++(x.r.ow++([.lit (.int .i64 x.nr)]++([.ow (0,0) 1 (x.out.map byteT)]++([.lit (.int .i64 x.fuel)]++([.lit (.int .i64 x.stop)]++([.lit (.int .i64 x.fault)]++([.lit (.int .i64 x.exit)]++([.lit (.bool x.trap)])))))))))))
theorem Mc.t_len (x:Mc):x.t.length=13:=by simp[Mc.t,He.t_len,Rc.t_len]
def Mc.sz (x:Mc):Nat:=x.h.sz+x.vars.length+(x.tables.length+Mt.szs x.tables)+(x.frames.length+Fr.szs x.frames)+x.r.sz+x.out.length
structure Mc.Wf (x:Mc):Prop where
 h:x.h.Wf
 vars:x.vars.length<=maxLen
 tables:x.tables.length<=maxLen
 tables':∀e∈x.tables,Mt.Wf e
 frames:x.frames.length<=maxLen
 frames':∀e∈x.frames,Fr.Wf e
 r:x.r.Wf
 nr:i64r x.nr
 out:x.out.length<=maxLen
 fuel:i64r x.fuel
 stop:i64r x.stop
 fault:i64r x.fault
 exit:i64r x.exit
end Go.Gv
/- Which places a machine holds, and how often one of them is there. -/
namespace Go.Gv
open Go.Av
end Go.Gv
/- The words' state as data that is read. -/
namespace Go.Gv
open Go.Av
structure Nm where
 name:ByteArray
 v:Vl
 deriving Inhabited
def Nm.t (x:Nm):List T:=[.lit (.string x.name)]++(x.v.t)
def Nm.ow (x:Nm):List A:=[.lit (.string x.name)]++(x.v.ow)
theorem Nm.t_len (x:Nm):x.t.length=4:=by simp[Nm.t,Vl.t_len]
def Nm.sz (x:Nm):Nat:=x.name.size+x.v.sz
def Nm.szs (l:List Nm):Nat:=(l.map Nm.sz).sum
theorem Nm.szs_app (a b:List Nm):Nm.szs (a++b)=Nm.szs a+Nm.szs b:=by simp[Nm.szs]
theorem Nm.szs_one (a:Nm):Nm.szs [a]=a.sz:=by simp[Nm.szs]
structure Nm.Wf (x:Nm):Prop where
 name:x.name.size<=maxLen
 v:x.v.Wf
structure En where
 key:ByteArray
 v:Vl
 deriving Inhabited
def En.t (x:En):List T:=[.lit (.string x.key)]++(x.v.t)
def En.ow (x:En):List A:=[.lit (.string x.key)]++(x.v.ow)
theorem En.t_len (x:En):x.t.length=4:=by simp[En.t,Vl.t_len]
def En.sz (x:En):Nat:=x.key.size+x.v.sz
def En.szs (l:List En):Nat:=(l.map En.sz).sum
theorem En.szs_app (a b:List En):En.szs (a++b)=En.szs a+En.szs b:=by simp[En.szs]
theorem En.szs_one (a:En):En.szs [a]=a.sz:=by simp[En.szs]
structure En.Wf (x:En):Prop where
 key:x.key.size<=maxLen
 v:x.v.Wf
structure Tb where
 name:ByteArray
 l:List En
 deriving Inhabited
def Tb.t (x:Tb):List T:=[.lit (.string x.name)]++([.sl (x.l.map En.t)])
def Tb.ow (x:Tb):List A:=[.lit (.string x.name)]++([.ow (0,0) 4 (x.l.map En.t)])
theorem Tb.t_len (x:Tb):x.t.length=2:=by simp[Tb.t]
def Tb.sz (x:Tb):Nat:=x.name.size+(x.l.length+En.szs x.l)
def Tb.szs (l:List Tb):Nat:=(l.map Tb.sz).sum
theorem Tb.szs_app (a b:List Tb):Tb.szs (a++b)=Tb.szs a+Tb.szs b:=by simp[Tb.szs]
theorem Tb.szs_one (a:Tb):Tb.szs [a]=a.sz:=by simp[Tb.szs]
structure Tb.Wf (x:Tb):Prop where
 name:x.name.size<=maxLen
 l:x.l.length<=maxLen
 l':∀e∈x.l,En.Wf e
structure Ev where
 vars:List Nm
 tables:List Tb
 deriving Inhabited
def Ev.t (x:Ev):List T:=[.sl (x.vars.map Nm.t)]++([.sl (x.tables.map Tb.t)])
def Ev.ow (x:Ev):List A:=[.ow (0,0) 4 (x.vars.map Nm.t)]++([.ow (0,0) 2 (x.tables.map Tb.t)])
theorem Ev.t_len (x:Ev):x.t.length=2:=by simp[Ev.t]
def Ev.sz (x:Ev):Nat:=(x.vars.length+Nm.szs x.vars)+(x.tables.length+Tb.szs x.tables)
structure Ev.Wf (x:Ev):Prop where
 vars:x.vars.length<=maxLen
 vars':∀e∈x.vars,Nm.Wf e
 tables:x.tables.length<=maxLen
 tables':∀e∈x.tables,Tb.Wf e
structure Sx where
 e:Ev
 r:Rc
 nr:Int
 out:List Int
 fuel:Int
 calls:Int
 stop:Int
 fault:Int
 exit:Int
 deriving Inhabited
def Sx.t (x:Sx):List T:=x.e.t++(x.r.t++([.lit (.int .i64 x.nr)]++([.sl (x.out.map byteT)]++([.lit (.int .i64 x.fuel)]++([.lit (.int .i64 x.calls)]++([.lit (.int .i64 x.stop)]++([.lit (.int .i64 x.fault)]++([.lit (.int .i64 x.exit)]))))))))
def Sx.ow (x:Sx):List A:=x.e.ow++(x.r.ow++([.lit (.int .i64 x.nr)]++([.ow (0,0) 1 (x.out.map byteT)]++([.lit (.int .i64 x.fuel)]++([.lit (.int .i64 x.calls)]++([.lit (.int .i64 x.stop)]++([.lit (.int .i64 x.fault)]++([.lit (.int .i64 x.exit)]))))))))
theorem Sx.t_len (x:Sx):x.t.length=11:=by simp[Sx.t,Ev.t_len,Rc.t_len]
def Sx.sz (x:Sx):Nat:=x.e.sz+x.r.sz+x.out.length
structure Sx.Wf (x:Sx):Prop where
 e:x.e.Wf
 r:x.r.Wf
 nr:i64r x.nr
 out:x.out.length<=maxLen
 fuel:i64r x.fuel
 calls:i64r x.calls
 stop:i64r x.stop
 fault:i64r x.fault
 exit:i64r x.exit
end Go.Gv
/- A law over one value of several cells, plain data that is read. -/
namespace Go.Gv
open Go.Av
theorem repAs_of_repTs {E:Env} (hw:E.LS true=E.S):∀{ts:List T} {us:List Value},RepTs E.S E.w ts us->RpA E (ts.map (tA true)) us []
 | [],us,h=>by subst h;exact ⟨rfl,rfl⟩
 | t::ts,us,h=>by
  obtain ⟨u,us',rfl,h1,h2⟩:=h;refine ⟨u,us',[],[],rfl,rfl,?_,repAs_of_repTs hw h2⟩;cases t with
  | lit v=>simp only[RepS] at h1;exact ⟨h1.1,h1.2,rfl⟩
  | sl els=>exact ⟨by rw[hw];exact h1,rfl⟩
theorem keeps_below {w w':World} (h:Av.Keeps [] w w'):RowKit.Below w.heap.size w w':=⟨h.os,h.tape,h.output,h.size,fun b hb=>h.block b hb (by simp)⟩
theorem agg_of_cells {v:Value} (h:2<=v.cells.size):∃cs,v=.agg cs:=by
 cases v<;>first | exact ⟨_,rfl⟩|(simp[Value.cells] at h)
theorem law_of_slots {P:Program} {f:FuncId} {args:List AV} (h:ACl P f args [] (fun res bx=>res=litB true/\bx=[]))
  {vals:Array Value} {w:World} (hr:RpS (Env.zero (fun b=>b < w.heap.size) (fun b=>b < w.heap.size) [] w) args vals.toList []) :
  Calls P f vals w fun e w'=>e=.returned (.bool true)/\RowKit.Below w.heap.size w w':=by
 refine (h w vals (fun b=>b < w.heap.size) (fun b=>b < w.heap.size) [] [] [] hr ⟨rfl,rfl⟩ (by simp) (fun _ h=>h) (fun b hb=>⟨hb,by simp⟩)).mono ?_
 rintro e w' ⟨v,rfl,res,bx',S',bl',o1,o2,⟨rfl,rfl⟩,hv,h3,h4,h5,h6,h7,h8,h9,h10⟩;refine ⟨?_,keeps_below h8⟩;obtain ⟨g1,g2⟩:=hv;rw[flat_one g1] at g2;obtain ⟨u,us,p1,p2,e1,e2,⟨rfl,_,_⟩,_⟩:=g2;simp at e1;rw[e1.1]
theorem slots_agg {w:World} {ts:List T} {v:Value} {avs:List AV} {vs:List Value} (hl:2<=ts.length) (hr:RepTs (fun b=>b < w.heap.size) w ts v.cells.toList)
  (h:RpS (Env.zero (fun b=>b < w.heap.size) (fun b=>b < w.heap.size) [] w) avs vs []) :
  RpS (Env.zero (fun b=>b < w.heap.size) (fun b=>b < w.heap.size) [] w) (⟨.agg,ts.map (tA true)⟩::avs) (v::vs) []:=by
 have hs:v.cells.size=ts.length:=by rw[<-Array.length_toList,RepTs.length hr]
 obtain ⟨cs,rfl⟩:=agg_of_cells (v:=v) (by omega)
 exact ⟨_,vs,[],[],rfl,rfl,⟨rfl,repAs_of_repTs rfl hr⟩,h⟩
theorem slots_nil {E:Env}:RpS E [] [] []:=⟨rfl,rfl⟩
end Go.Gv
