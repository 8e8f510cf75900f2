/- Part PD5 of the proof: What a rows reading tells of plain data: a tree, and its shape. / Trees of a language of lines: terms, statements, rules, functions, programs as data that is read, and what is counted in them. / Short names and small lemmas for texts over a programs table of types. / What is made of trees: each slice ones own and what the helpers of an exact law say. / The machines parts as data that is read, and what is counted in them. / The walk, made short: what stands next is computed. / What a function han -/
import Derived.Test.YtnmkmfancgcaeaaGreatDoorPC2
import Derived.DataReads
import Derived.ChangeOld
import Derived.Test.YtnmkmfancgcaeaaGreatDoorPD4
import Derived.IntWalk
import Derived.Test.YtnmkmfancgcaeaaGreatDoorProg
import Derived.KernelRfl
set_option linter.all false
/- What a row's reading tells of plain data: a tree, and its shape. -/
namespace Go.Gv
open Go.Av
inductive Shape (P:Program):TypeId->List T->Prop where
 | bool {t:TypeId} (h:P.underlying t=some .bool) (b:Bool):Shape P t [.lit (.bool b)]
 | int {t:TypeId} {k:IntKind} (h:P.underlying t=some (.int k)) (n:Int) (hn:(Lit.int k n).wf=true):Shape P t [.lit (.int k n)]
 | str {t:TypeId} (h:P.underlying t=some .string) (s:ByteArray) (hs:s.size<=maxLen):Shape P t [.lit (.string s)]
 | slice {t e:TypeId} (h:P.underlying t=some (.slice e)) (els:List (List T)) (hl:els.length<=maxLen) (hk:∀x∈els,x.length=P.cellsOf e) (hs:∀x∈els,Shape P e x):Shape P t [.sl els]
 | struct {t:TypeId} {fs:Array Field} (h:P.underlying t=some (.struct fs)) (ts:List T) (hl:ts.length=P.cellsOf t) (hs:∀f∈fs.toList,Shape P f.type ((ts.drop f.offset).take (P.cellsOf f.type))):Shape P t ts
def bD0 (P:Program) (n:Nat):List Field->Nat->Bool
 | [],k=>k == n
 | f::fs,k=>f.offset == k && bD0 P n fs (k+P.cellsOf f.type)
def plainSet (P:Program) (L:List TypeId):Bool:=L.all fun t=>match P.underlying t with
 | some .bool | some (.int _) | some .string=>true
 | some (.slice e)=>L.contains e && decide (0 < P.cellsOf e)
 | some (.struct fs)=>fs.toList.all (fun f=>L.contains f.type) && bD0 P (P.cellsOf t) fs.toList 0
 | _=>false
variable {H:Type} {enc:TypeId×Value->H} {P:Program} {w:World} {spare:Nat->Bool} {held:Bool} {L:List TypeId}
theorem mapM_some {α β:Type} {f:α->Option β}:∀{l:List α} {r:List β},l.mapM f=some r->r.length=l.length/\∀(i:Nat) (x:α),l[i]?=some x->∃y,r[i]?=some y/\f x=some y
 | [],r,h=>by simp at h;subst h;exact ⟨rfl,by simp⟩
 | a::l,r,h=>by
  simp only[List.mapM_cons,Option.bind_eq_bind,Option.bind_eq_some_iff] at h;obtain ⟨y,h1,ys,h2,h3⟩:=h;simp at h3;subst h3;obtain ⟨k1,k2⟩:=mapM_some h2;refine ⟨by simp[k1],fun i x hx=>?_⟩
  cases i with
  | zero=>simp at hx;subst hx;exact ⟨y,rfl,h1⟩
  | succ i=>simp at hx;simpa using k2 i x hx
theorem RepTs.of_append {S:Nat->Prop} {w:World}:∀{a b:List T} {x y:List Value},RepTs S w a x->RepTs S w b y->RepTs S w (a++b) (x++y)
 | [],b,x,y,h,h'=>by subst h;exact h'
 | t::a,b,x,y,h,h'=>by obtain ⟨u,us,rfl,h2,h3⟩:=h;exact ⟨u,us++y,rfl,h2,RepTs.of_append h3 h'⟩
theorem pT0 {n:Nat} {fuel:Nat} (ih:∀(t:TypeId) (cs:List Value) (d:DataW H) (ps:List MemPlace),t∈L->DataW.trod enc P w 0 spare held fuel t cs=some (d,ps)->∃ts,RepTs (fun b=>b < w.heap.size) w ts cs/\Shape P t ts)
  {cs:List Value} (hcs:cs.length=n):∀(fs:List Field) (k:Nat) (xs:List (DataW H×List MemPlace)),(∀f∈fs,f.type∈L)->bD0 P n fs k=true->
   fs.mapM (fun f=>DataW.trod enc P w 0 spare held fuel f.type ((cs.drop f.offset).take (P.cellsOf f.type)))=some xs->k<=n->
   ∃ts,RepTs (fun b=>b < w.heap.size) w ts (cs.drop k)/\∀f∈fs,k<=f.offset/\Shape P f.type ((ts.drop (f.offset - k)).take (P.cellsOf f.type))
 | [],k,xs,_,ht,_,hk=>by
  simp only[bD0,beq_iff_eq] at ht;refine ⟨[],?_,by simp⟩
  rw[List.drop_of_length_le (by omega)]
  rfl
 | f::fs,k,xs,hL,ht,hx,hk=>by
  simp only[bD0,Bool.and_eq_true,beq_iff_eq] at ht;obtain ⟨h1,h2⟩:=ht;simp only[List.mapM_cons,Option.bind_eq_bind,Option.bind_eq_some_iff] at hx;obtain ⟨y,hy,ys,hys,_⟩:=hx;have hkn:k+P.cellsOf f.type<=n:=by
   clear hys hy;have:∀(fs:List Field) (j:Nat),bD0 P n fs j=true->j<=n:=by
    intro fs
    induction fs with
    | nil=>intro j hj;simp only[bD0,beq_iff_eq] at hj;omega
    | cons g gs ihg=>
     intro j hj;simp only[bD0,Bool.and_eq_true,beq_iff_eq] at hj;have:=ihg _ hj.2;omega
   exact this fs _ h2
  obtain ⟨ts1,r1,s1⟩:=ih f.type _ y.1 y.2 (hL f List.mem_cons_self) hy;obtain ⟨ts2,r2,s2⟩:=pT0 ih hcs fs (k+P.cellsOf f.type) ys (fun g hg=>hL g (List.mem_cons_of_mem _ hg)) h2 hys hkn;have hl1:ts1.length=P.cellsOf f.type:=by
   have:=RepTs.length r1;rw[<-this,List.length_take,List.length_drop];omega
  refine ⟨ts1++ts2,?_,fun g hg=>?_⟩
  ·have e:cs.drop k=(cs.drop f.offset).take (P.cellsOf f.type)++cs.drop (k+P.cellsOf f.type):=by
    rw[h1,<-List.drop_drop,List.take_append_drop]
   rw[e];exact RepTs.of_append r1 r2
  ·rcases List.mem_cons.1 hg with rfl | hg
   ·refine ⟨by omega,?_⟩
    rw[h1,Nat.sub_self,List.drop_zero,List.take_append_of_le_length (by omega),List.take_of_length_le (by omega)]
    exact s1
   ·obtain ⟨g1,g2⟩:=s2 g hg
    refine ⟨by omega,?_⟩
    rw[List.drop_append,List.drop_of_length_le (by omega),List.nil_append,show g.offset - k - ts1.length=g.offset - (k+P.cellsOf f.type) by omega]
    exact g2
theorem QK0 {base:Nat} {a:Addr} {n:Nat} {cs:List Value} (h:w.cells? base a n=some cs):cs.length=n/\∀i,i < n->w.cell? (a.add i)=cs[i]?:=by
 unfold World.cells? at h
 split at h
 ·obtain ⟨h1,h2⟩:=mapM_some h
  rw[List.length_range] at h1;refine ⟨h1,fun i hi=>?_⟩;obtain ⟨y,h3,h4⟩:=h2 i i (by rw[List.getElem?_range hi])
  rw[h4,h3]
 ·simp at h
theorem trod_shape (hL:plainSet P L=true):∀(fuel:Nat) (t:TypeId) (cs:List Value) (d:DataW H) (ps:List MemPlace),t∈L->DataW.trod enc P w 0 spare held fuel t cs=some (d,ps)->∃ts,RepTs (fun b=>b < w.heap.size) w ts cs/\Shape P t ts
 | 0,t,cs,d,ps,_,h=>by simp[DataW.trod] at h
 | fuel+1,t,cs,d,ps,ht,h=>by
  have ih:=fun t cs d ps=>trod_shape hL fuel t cs d ps;have hp:=hL;unfold plainSet at hp;rw[List.all_eq_true] at hp;have hp:=hp t ht;have lit:∀(v:Value),isLit v=true->RepTs (fun b=>b < w.heap.size) w [.lit v] [v]:=fun v hv=>⟨v,[],rfl,by simp only[RepS];exact ⟨trivial,hv⟩,rfl⟩
  unfold DataW.trod at h;cases hu:P.underlying t with
  | none=>simp only[hu] at hp;simp at hp
  | some desc=>
   simp only[hu] at hp h;cases desc with
   | bool=>
    split at h<;>simp_all
    rename_i b;exact ⟨_,lit (.bool b) rfl,.bool hu b⟩
   | int k=>
    split at h<;>simp_all
    rename_i n hq;obtain ⟨rfl,hn⟩:=hq;obtain ⟨rfl,hw⟩:=h.1;exact ⟨_,lit (.int _ _) rfl,.int hu _ hw⟩
   | string=>
    split at h<;>simp_all
    rename_i s;exact ⟨_,lit (.string s) rfl,.str hu s h.1⟩
   | slice e=>
    simp only[Bool.and_eq_true,List.contains_eq_mem,decide_eq_true_eq] at hp;obtain ⟨heL,hpos⟩:=hp
    split at h
    all_goals try (rename_i hq;cases hq;done)
    all_goals try (rename_i hq _;cases hq;done)
    all_goals try (rename_i hq _ _;cases hq;done)
    ·rename_i hq
     simp only[Option.some.injEq,TypeDesc.slice.injEq] at hq;exact ⟨[.sl []],⟨_,[],rfl,by simp only[RepS];exact ⟨none,0,rfl,by simp,by simp⟩,rfl⟩,.slice hu [] (Nat.zero_le _) (by simp) (by simp)⟩
    ·rename_i e' a len cap hq
     simp only[Option.some.injEq,TypeDesc.slice.injEq] at hq;subst hq
     split at h<;>try (simp at h;done)
     rename_i hc;simp only[Option.bind_eq_some_iff] at h;obtain ⟨elems,hel,_⟩:=h;obtain ⟨hlen,hget⟩:=mapM_some hel;rw[List.length_range] at hlen;have each:∀i:Nat,i < len->∃ts,(∃cs,cs.length=P.cellsOf e/\(∀j,j < P.cellsOf e->w.cell? ((a.add (i * P.cellsOf e)).add j)=cs[j]?)/\RepTs (fun b=>b < w.heap.size) w ts cs)/\Shape P e ts:=by
      intro i hi;obtain ⟨y,_,hy⟩:=hget i i (by rw[List.getElem?_range hi])
      simp only[Option.bind_eq_some_iff] at hy;obtain ⟨cs,hcs,hy⟩:=hy;obtain ⟨k1,k2⟩:=QK0 hcs;obtain ⟨ts,r1,r2⟩:=ih e cs y.1 y.2 heL hy;exact ⟨ts,⟨cs,k1,k2,r1⟩,r2⟩
     have hall:∀n,n<=len->∃els:List (List T),els.length=n/\∀i x,els[i]?=some x->(∃cs,cs.length=P.cellsOf e/\(∀j,j < P.cellsOf e->w.cell? ((a.add (i * P.cellsOf e)).add j)=cs[j]?)/\RepTs (fun b=>b < w.heap.size) w x cs)/\Shape P e x:=by
      intro n
      induction n with
      | zero=>intro _;exact ⟨[],rfl,by simp⟩
      | succ n ihn=>
       intro hn;obtain ⟨els,h1,h2⟩:=ihn (by omega)
       obtain ⟨ts,h3⟩:=each n (by omega)
       refine ⟨els++[ts],by simp[h1],fun i x hx=>?_⟩
       by_cases hin:i < els.length
       ·rw[List.getElem?_append_left hin] at hx
        exact h2 i x hx
       ·rw[List.getElem?_append_right (by omega)] at hx
        have:i - els.length=0:=by
         by_cases h0:i - els.length=0
         ·exact h0
         ·rw[List.getElem?_eq_none (by simp;omega)] at hx;simp at hx
        rw[this] at hx;simp at hx;subst hx;have:i=n:=by omega
        subst this;exact h3
     obtain ⟨els,he1,he2⟩:=hall len (Nat.le_refl _);have hk:∀x∈els,x.length=P.cellsOf e:=fun x hx=>by
      obtain ⟨i,hi⟩:=List.mem_iff_getElem?.1 hx;obtain ⟨⟨cs,c1,_,c3⟩,_⟩:=he2 i x hi;rw[<-RepTs.length c3,c1]
     refine ⟨[.sl els],⟨_,[],rfl,?_,rfl⟩,.slice hu els (by omega) hk fun x hx=>?_⟩
     ·simp only[RepS]
      refine ⟨some a,cap,by rw[he1],by omega,fun hne=>?_⟩
      have h0:0 < len:=by
       cases els with
       | nil=>exact absurd rfl hne
       | cons x r=>simp at he1;omega
      obtain ⟨x0,hx0⟩:∃x0,els[0]?=some x0:=⟨els[0],List.getElem?_eq_getElem (by omega)⟩
      obtain ⟨⟨cs0,d1,d2,d3⟩,_⟩:=he2 0 x0 hx0;have hc0:=d2 0 hpos;rw[List.getElem?_eq_getElem (by omega)] at hc0
      rw[Nat.zero_mul] at hc0;have hsp:=World.cell?_spot hc0;obtain ⟨b,o,sp⟩:=a;have hsp':sp=none:=by simpa [Addr.add] using hsp
      subst hsp';rw[yE0,yE0] at hc0;have hb:b < w.heap.size:=by
       unfold World.cell? at hc0
       split at hc0
       ·rename_i hbb
        exact (Array.getElem?_eq_some_iff.1 hbb).1
       ·simp at hc0
      refine ⟨b,o,rfl,hb,RepSE.of_get hk fun i x hx=>?_⟩;obtain ⟨⟨cs,c1,c2,c3⟩,_⟩:=he2 i x hx;refine RepSC.of_get fun j t hj=>?_;obtain ⟨u,u1,u2⟩:=RepTs.get c3 j t hj;have hjl:j < P.cellsOf e:=by
       rw[<-hk x (List.mem_of_getElem? hx)];exact (List.getElem?_eq_some_iff.1 hj).1
      have:=c2 j hjl;rw[yE0,yE0,u1] at this;exact ⟨u,this,u2⟩
     ·obtain ⟨i,hi⟩:=List.mem_iff_getElem?.1 hx
      exact (he2 i x hi).2
    ·simp at h
   | struct fs=>
    simp only[Bool.and_eq_true,List.all_eq_true,List.contains_eq_mem,decide_eq_true_eq] at hp;obtain ⟨hfL,htile⟩:=hp
    split at h
    all_goals try (rename_i hq;cases hq;done)
    all_goals try (rename_i hq _;cases hq;done)
    all_goals try (rename_i hq _ _;cases hq;done)
    ·rename_i fs' hq
     simp only[Option.some.injEq,TypeDesc.struct.injEq] at hq;subst hq
     split at h<;>try (simp at h;done)
     rename_i hlen;simp only[Option.map_eq_some_iff] at h;obtain ⟨xs,hxs,_⟩:=h;obtain ⟨ts,r1,r2⟩:=pT0 ih hlen fs.toList 0 xs hfL htile hxs (Nat.zero_le _);rw[List.drop_zero] at r1;refine ⟨ts,r1,.struct hu ts (by rw[<-RepTs.length r1,hlen]) fun f hf=>?_⟩
     have:=(r2 f hf).2;rwa[Nat.sub_zero] at this
    ·exfalso
     rename_i x19 _ _ _ _ _ _ _ _ _ _ _ _ _ _ _ _ _ _ _;exact x19 fs rfl
   | _=>simp at hp
end Go.Gv
/- Trees of a language of lines: terms, statements, rules, functions, programs; as data that is read, and what is counted in them. -/
namespace Go.Gv
open Go.Av
section
variable {P:Program} {t:TypeId} {ts:List T}
theorem Shape.int_inv {k:IntKind} (h:Shape P t ts) (hu:P.underlying t=some (.int k)):∃n,ts=[.lit (.int k n)]/\(Lit.int k n).wf=true:=by
 cases h<;>simp_all
theorem Shape.str_inv (h:Shape P t ts) (hu:P.underlying t=some .string):∃s,ts=[.lit (.string s)]/\s.size<=maxLen:=by
 cases h<;>simp_all
theorem Shape.slice_inv {e:TypeId} (h:Shape P t ts) (hu:P.underlying t=some (.slice e)):∃els,ts=[.sl els]/\els.length<=maxLen/\∀x∈els,Shape P e x:=by
 cases h<;>simp_all
theorem Shape.struct_inv {fs:Array Field} (h:Shape P t ts) (hu:P.underlying t=some (.struct fs)):ts.length=P.cellsOf t/\∀f∈fs.toList,Shape P f.type ((ts.drop f.offset).take (P.cellsOf f.type)):=by
 cases h<;>simp_all
end
theorem vW0 {α:Type} {f:α->List T} {W:α->Prop}:∀{els:List (List T)},(∀x∈els,∃a,x=f a/\W a)->∃l:List α,els=l.map f/\∀a∈l,W a
 | [],_=>⟨[],rfl,by simp⟩
 | x::els,h=>by
  obtain ⟨a,rfl,ha⟩:=h x List.mem_cons_self;obtain ⟨l,rfl,hl⟩:=vW0 (els:=els) fun y hy=>h y (List.mem_cons_of_mem _ hy);exact ⟨a::l,rfl,by simpa using ⟨ha,hl⟩⟩
theorem mpA {O:Ops} (hO:O=Ops.std) {α:Type} {f:α->List T} {els:List (List T)} {l:List α} (he:els=l.map f) {i:Nat} (hi:i < l.length) :
  ∃x,x∈l/\l[i]?=some x/\l.take (i+1)=l.take i++[x]/\O.get els (O.nat (Int.ofNat i))=f x:=by
 subst hO;subst he;refine ⟨l[i],List.getElem_mem hi,List.getElem?_eq_getElem hi,List.take_succ_eq_append_getElem hi,?_⟩
 show (l.map f).getD i []=f l[i]
 simp[hi]
def i64r (n:Int):Prop:=-9223372036854775808<=n/\n<=9223372036854775807
theorem fT0 {n:Int} (h:(Lit.int .i64 n).wf=true):i64r n:=by
 simp only[Lit.wf,Bool.and_eq_true,decide_eq_true_eq] at h;exact h
inductive Ex where
 | mk (k n:Int) (s:ByteArray) (l:List Ex)
 deriving Inhabited
mutual
def Ex.t:Ex->List T
 | .mk k n s l=>[.lit (.int .i64 k),.lit (.int .i64 n),.lit (.string s),.sl (Ex.ts l)]
def Ex.ts:List Ex->List (List T)
 | []=>[]
 | e::l=>Ex.t e::Ex.ts l
end
theorem Ex.ts_map:∀l,Ex.ts l=l.map Ex.t
 | []=>rfl
 | e::l=>by rw[Ex.ts,Ex.ts_map l,List.map_cons]
theorem Ex.t_mk (k n:Int) (s:ByteArray) (l:List Ex):(Ex.mk k n s l).t=[.lit (.int .i64 k),.lit (.int .i64 n),.lit (.string s),.sl (l.map Ex.t)]:=by rw[Ex.t,Ex.ts_map]
theorem Ex.t_len (e:Ex):e.t.length=4:=by cases e;rw[Ex.t];rfl
mutual
def Ex.sz:Ex->Nat
 | .mk _ _ s l=>s.size+l.length+Ex.szs l
def Ex.szs:List Ex->Nat
 | []=>0
 | e::l=>Ex.sz e+Ex.szs l
end
theorem Ex.szs_app:∀a b,Ex.szs (a++b)=Ex.szs a+Ex.szs b
 | [],b=>by simp[Ex.szs]
 | e::a,b=>by rw[List.cons_append,Ex.szs,Ex.szs,Ex.szs_app a b];omega
theorem Ex.szs_one (e:Ex):Ex.szs [e]=e.sz:=by simp[Ex.szs]
mutual
def Ex.parts:Ex->Nat
 | .mk _ _ _ l=>1+Ex.partss l
def Ex.partss:List Ex->Nat
 | []=>0
 | e::l=>Ex.parts e+Ex.partss l
end
theorem Ex.partss_app:∀a b,Ex.partss (a++b)=Ex.partss a+Ex.partss b
 | [],b=>by simp[Ex.partss]
 | e::a,b=>by rw[List.cons_append,Ex.partss,Ex.partss,Ex.partss_app a b];omega
theorem Ex.partss_one (e:Ex):Ex.partss [e]=e.parts:=by simp[Ex.partss]
inductive Ex.Wf:Ex->Prop where
 | mk {k n:Int} {s:ByteArray} {l:List Ex} (hk:i64r k) (hn:i64r n) (hs:s.size<=maxLen) (hl:l.length<=maxLen) (h:∀e∈l,Ex.Wf e):Ex.Wf (.mk k n s l)
inductive Sm where
 | mk (k:Int) (s t:ByteArray) (x:List Ex) (a b:List Sm)
 deriving Inhabited
mutual
def Sm.t:Sm->List T
 | .mk k s t x a b=>[.lit (.int .i64 k),.lit (.string s),.lit (.string t),.sl (x.map Ex.t),.sl (Sm.ts a),.sl (Sm.ts b)]
def Sm.ts:List Sm->List (List T)
 | []=>[]
 | e::l=>Sm.t e::Sm.ts l
end
theorem Sm.ts_map:∀l,Sm.ts l=l.map Sm.t
 | []=>rfl
 | e::l=>by rw[Sm.ts,Sm.ts_map l,List.map_cons]
theorem Sm.t_mk (k:Int) (s t:ByteArray) (x:List Ex) (a b:List Sm):(Sm.mk k s t x a b).t=[.lit (.int .i64 k),.lit (.string s),.lit (.string t),.sl (x.map Ex.t),.sl (a.map Sm.t),.sl (b.map Sm.t)]:=by
 rw[Sm.t,Sm.ts_map,Sm.ts_map]
theorem Sm.t_len (e:Sm):e.t.length=6:=by cases e;rw[Sm.t];rfl
mutual
def Sm.sz:Sm->Nat
 | .mk _ s t x a b=>s.size+t.size+(x.length+Ex.szs x)+(a.length+Sm.szs a)+(b.length+Sm.szs b)
def Sm.szs:List Sm->Nat
 | []=>0
 | e::l=>Sm.sz e+Sm.szs l
end
theorem Sm.szs_app:∀a b,Sm.szs (a++b)=Sm.szs a+Sm.szs b
 | [],b=>by simp[Sm.szs]
 | e::a,b=>by rw[List.cons_append,Sm.szs,Sm.szs,Sm.szs_app a b];omega
theorem Sm.szs_one (e:Sm):Sm.szs [e]=e.sz:=by simp[Sm.szs]
mutual
def Sm.parts:Sm->Nat
 | .mk _ _ _ x a b=>Ex.partss x+Sm.partss a+Sm.partss b
def Sm.partss:List Sm->Nat
 | []=>0
 | e::l=>Sm.parts e+Sm.partss l
end
inductive Sm.Wf:Sm->Prop where
 | mk {k:Int} {s t:ByteArray} {x:List Ex} {a b:List Sm} (hk:i64r k) (hs:s.size<=maxLen) (ht:t.size<=maxLen) (hx:x.length<=maxLen) (hx':∀e∈x,Ex.Wf e)
   (ha:a.length<=maxLen) (ha':∀e∈a,Sm.Wf e) (hb:b.length<=maxLen) (hb':∀e∈b,Sm.Wf e):Sm.Wf (.mk k s t x a b)
structure Ru where
 k:Int
 p:Ex
 a:List Sm
 deriving Inhabited
structure Fu where
 name:ByteArray
 params:List ByteArray
 a:List Sm
 deriving Inhabited
structure Pg where
 rules:List Ru
 fns:List Fu
 deriving Inhabited
def strT (s:ByteArray):List T:=[.lit (.string s)]
def Ru.t (r:Ru):List T:=.lit (.int .i64 r.k)::(r.p.t++[.sl (r.a.map Sm.t)])
def Fu.t (f:Fu):List T:=[.lit (.string f.name),.sl (f.params.map strT),.sl (f.a.map Sm.t)]
def Pg.t (p:Pg):List T:=[.sl (p.rules.map Ru.t),.sl (p.fns.map Fu.t)]
theorem Ru.t_len (r:Ru):r.t.length=6:=by simp[Ru.t,Ex.t_len]
theorem Fu.t_len (f:Fu):f.t.length=3:=rfl
def xF0 (l:List ByteArray):Nat:=(l.map ByteArray.size).sum
def Ru.sz (r:Ru):Nat:=r.p.sz+(r.a.length+Sm.szs r.a)
def Fu.sz (f:Fu):Nat:=f.name.size+(f.params.length+xF0 f.params)+(f.a.length+Sm.szs f.a)
def Ru.szs (l:List Ru):Nat:=(l.map Ru.sz).sum
def Fu.szs (l:List Fu):Nat:=(l.map Fu.sz).sum
def Pg.sz (p:Pg):Nat:=(p.rules.length+Ru.szs p.rules)+(p.fns.length+Fu.szs p.fns)
theorem bF0 (a b:List ByteArray):xF0 (a++b)=xF0 a+xF0 b:=by simp[xF0]
theorem PW0 (a:ByteArray):xF0 [a]=a.size:=by simp[xF0]
theorem Ru.szs_app (a b:List Ru):Ru.szs (a++b)=Ru.szs a+Ru.szs b:=by simp[Ru.szs]
theorem Ru.szs_one (a:Ru):Ru.szs [a]=a.sz:=by simp[Ru.szs]
theorem Fu.szs_app (a b:List Fu):Fu.szs (a++b)=Fu.szs a+Fu.szs b:=by simp[Fu.szs]
theorem Fu.szs_one (a:Fu):Fu.szs [a]=a.sz:=by simp[Fu.szs]
structure Ru.Wf (r:Ru):Prop where
 k:i64r r.k
 p:r.p.Wf
 a:r.a.length<=maxLen
 a':∀e∈r.a,Sm.Wf e
structure Fu.Wf (f:Fu):Prop where
 name:f.name.size<=maxLen
 params:f.params.length<=maxLen
 params':∀e∈f.params,e.size<=maxLen
 a:f.a.length<=maxLen
 a':∀e∈f.a,Sm.Wf e
structure Pg.Wf (p:Pg):Prop where
 rules:p.rules.length<=maxLen
 rules':∀e∈p.rules,Ru.Wf e
 fns:p.fns.length<=maxLen
 fns':∀e∈p.fns,Fu.Wf e
def Ru.parts (r:Ru):Nat:=(if r.k=4 then r.p.parts else 0)+Sm.partss r.a
def Ru.partss (l:List Ru):Nat:=(l.map Ru.parts).sum
def Fu.partss (l:List Fu):Nat:=(l.map fun f=>Sm.partss f.a).sum
def Pg.parts (p:Pg):Nat:=Ru.partss p.rules+Fu.partss p.fns
end Go.Gv
/- Short names and small lemmas for texts over a program's table of types. -/
namespace Go.Gv
open Go.Av
abbrev litI (x:Int):AV:=⟨.one,[.lit (.int .i64 x)]⟩
abbrev litB (b:Bool):AV:=⟨.one,[.lit (.bool b)]⟩
abbrev litS (s:ByteArray):AV:=⟨.one,[.lit (.string s)]⟩
def strs (l:List ByteArray):List (List T):=l.map fun s=>[T.lit (.string s)]
@[simp] theorem UB0 (l:List ByteArray):(strs l).length=l.length:=by simp[strs]
@[simp] theorem nP0 (l:List ByteArray):∀x∈strs l,x.length=1:=by simp[strs]
@[simp] theorem wK1 (l:List ByteArray):∀x∈strs l,∀t∈x,isL t=true:=by simp[strs,isL]
theorem yV0 {x:Int} (h:-9223372036854775808<=x/\x<=9223372036854775807):IntKind.i64.wrap x=x:=IntWalk.i64_in x h
theorem ba_eq {a b:ByteArray}:(a.toList == b.toList)=decide (a=b):=by
 rw[ByteArray.toList_eq,ByteArray.toList_eq]
 by_cases h:a=b
 ·subst h;simp
 ·have:a.data.toList≠b.data.toList:=fun e=>h (by cases a;cases b;simp at e;rw[e])
  rw[decide_eq_false h];simpa using fun e=>this (by rw[e])
theorem sqL (a b:ByteArray):fC0 .eql a b=decide (a=b):=ba_eq
theorem yZ0 (a b:ByteArray):fC0 .neq a b=!decide (a=b):=by simp only[fC0,ba_eq]
theorem iSc {O:Ops} (hO:O=Ops.std) {i:Nat} (h:i < 9223372036854775807):O.bin .add .i64 (Int.ofNat i) 1=Int.ofNat (i+1):=by
 subst hO;exact yV0 (x:=(i:Int)+1) (by omega)
theorem GG0 {O:Ops} (hO:O=Ops.std) {n:Int} (h:0<=n):O.nn n:=by subst hO;exact h
theorem nz_ok {O:Ops} (hO:O=Ops.std) {n:Int} (h:n≠0):O.nz n:=by subst hO;exact h
theorem bX0 {O:Ops} (hO:O=Ops.std) {b:Nat} {l c:Int} (h:0<=l/\l<=c/\(b:Int) * c<=281474976710656/\c<=9223372036854775807):O.mOk b l c:=by subst hO;exact h
theorem gW0 {O:Ops} (hO:O=Ops.std) {n:Nat} {a b:List (List T)} (h1:(a.length+b.length) * n<=140737488355328) (h2:a.length+b.length<=9223372036854775807):O.aOk n a b:=by subst hO;exact ⟨h1,h2⟩
theorem vN1 {O:Ops} (hO:O=Ops.std) {i:Int} {n:Nat} (h:0<=i/\i < Int.ofNat n):O.idx i n:=by subst hO;exact h
theorem ixN {O:Ops} (hO:O=Ops.std) {i n:Nat} (h:i < n):O.idx (Int.ofNat i) n:=vN1 hO ⟨Int.natCast_nonneg _,Int.ofNat_lt.2 h⟩
theorem alO {O:Ops} (hO:O=Ops.std) {els:List (List T)} {K:Nat} (hk:∀e∈els,e.length=K):O.all els K:=by subst hO;exact hk
theorem lnO {O:Ops} (hO:O=Ops.std) {els:List (List T)} {N:Nat} (h:els.length=N):O.len els=N:=by subst hO;exact h
end Go.Gv
/- What is made of trees: each slice one's own; and what the helpers of an exact law say. -/
namespace Go.Gv
open Go.Av
def rZ0 (left:Int):Prop:=0<=left/\left<=1048576
theorem wJ1 {O:Ops} (hO:O=Ops.std) {a:Int} {b:Nat} (ha:rZ0 a) (hb:b<=maxLen):O.bin .sub .i64 a (Int.ofNat b)=a - Int.ofNat b:=by
 subst hO;have:maxLen<=9223372036854775807:=by decide
 simp only[rZ0,Int.ofNat_eq_natCast] at *;refine yV0 (x:=a - (b:Int)) ?_;omega
theorem rM0 {els outs:List (List T)} {i:Nat} {x:List T} (hi:i < els.length) (hl:outs.length=els.length) (ht:outs.take i=els.take i) (hx:els[i]?=some x) :
  (outs.set i x).length=els.length/\(outs.set i x).take (i+1)=els.take (i+1):=by
 refine ⟨by simpa using hl,?_⟩
 have hj:els[i]=x:=by rw[List.getElem?_eq_getElem hi] at hx;exact Option.some.inj hx
 rw[List.take_succ_eq_append_getElem (by simp;omega),List.take_succ_eq_append_getElem hi,List.take_set_of_le (Nat.le_refl i),ht,hj]
 simp
end Go.Gv
/- The machine's parts as data that is read, and what is counted in them. -/
namespace Go.Gv
open Go.Av
theorem rF0 {O:Ops} (hO:O=Ops.std) {a b:Nat} (h:a+b<=9223372036854775807):O.bin .add .i64 (Int.ofNat a) (Int.ofNat b)=Int.ofNat (a+b):=by
 subst hO;exact yV0 (x:=(a:Int)+(b:Int)) (by omega)
abbrev roT (els:List (List T)):AV:=⟨.one,[.ro true els]⟩
abbrev agT (ts:List T):AV:=⟨.agg,ts.map (tA true)⟩
def intT (n:Int):List T:=[.lit (.int .i64 n)]
structure Vl where
 k:Int
 n:Int
 s:ByteArray
 deriving Inhabited
def Vl.t (x:Vl):List T:=[.lit (.int .i64 x.k)]++([.lit (.int .i64 x.n)]++([.lit (.string x.s)]))
theorem Vl.t_len (x:Vl):x.t.length=3:=by simp[Vl.t]
def Vl.sz (x:Vl):Nat:=x.s.size
def Vl.szs (l:List Vl):Nat:=(l.map Vl.sz).sum
end Go.Gv
/- The walk, made short: what stands next is computed. -/
namespace Go.Gv
open Go.Av
structure At (O:Ops) (ts:Nat->Option TI) (P:Program) (C:Ctx) (c:Code) (σ:AS) (Q:Exit->AS->Prop):Prop where
 go:GWp O ts P C c σ Q
def nxt (O:Ops) (ts:Nat->Option TI) (P:Program) (C:Ctx):Code->AS->(Exit->AS->Prop)->Prop
 | .seq x y,σ,Q=>nxt O ts P C x σ (uL0 (fun σ'=>nxt O ts P C y σ' Q) Q)
 | .block id c,σ,Q=>nxt O ts P C c σ (nT0 id Q)
 | .skip,σ,Q=>Q .normal σ
 | .ret,σ,Q=>Q .ret σ
 | .exit id,σ,Q=>Q (.exit id) σ
 | c,σ,Q=>At O ts P C c σ Q
variable {O:Ops} {ts:Nat->Option TI} {P:Program} {C:Ctx} {σ:AS} {Q:Exit->AS->Prop}
theorem tU0:∀{c:Code} {σ:AS} {Q:Exit->AS->Prop},nxt O ts P C c σ Q->GWp O ts P C c σ Q
 | .seq x y,σ,Q,h=>GWp.seq ((tU0 (c:=x) h).mono fun e σ' hq=>by
   cases e<;>first | exact tU0 (c:=y) hq | exact hq)
 | .block id c,σ,Q,h=>GWp.block (tU0 (c:=c) h)
 | .skip,σ,Q,h=>GWp.skip h
 | .ret,σ,Q,h=>GWp.ret h
 | .exit id,σ,Q,h=>GWp.exit h
 | .region ..,σ,Q,h=>h.go
 | .cond ..,σ,Q,h=>h.go
 | .loop ..,σ,Q,h=>h.go
 | .goto ..,σ,Q,h=>h.go
 | .label ..,σ,Q,h=>h.go
 | .rangeFunc ..,σ,Q,h=>h.go
 | .scope ..,σ,Q,h=>h.go
 | .refuse ..,σ,Q,h=>h.go
theorem aR {base id:Nat} {ops:Array Oper} (h:∀K:AS->Prop,(∀σ',Q .normal σ'->K σ')->gOps O ts P base ops (List.range ops.size) [] [] σ K):At O ts P C (.region id ops false) σ Q:=⟨GWp.region h⟩
theorem nC {c:Operand} {x y:Code} {b:Bool} (hc:σ.ev c=some ⟨.one,[.lit (.bool b)]⟩) (h1:b=true->nxt O ts P C x σ Q) (h2:b=false->nxt O ts P C y σ Q):At O ts P C (.cond c x y) σ Q:=
 ⟨GWp.cond hc (fun h=>tU0 (h1 h)) fun h=>tU0 (h2 h)⟩
theorem nT {c:Operand} {x y:Code} (hc:σ.ev c=some ⟨.one,[.lit (.bool true)]⟩) (h:nxt O ts P C x σ Q):At O ts P C (.cond c x y) σ Q:=⟨GWp.cond_t hc (tU0 h)⟩
theorem nF {c:Operand} {x y:Code} (hc:σ.ev c=some ⟨.one,[.lit (.bool false)]⟩) (h:nxt O ts P C y σ Q):At O ts P C (.cond c x y) σ Q:=⟨GWp.cond_f hc (tU0 h)⟩
theorem nL {nb:Nat} {keep:Nat->Bool} {kk:Root->Nat->Option Nat} {c:Code} (I:Nat->AS->Prop) (hC:C.bl0.length<=nb) (h0:xR0 nb keep kk σ fun σ'=>∃n,I n σ')
  (round:∀n σ,I n σ->nxt O ts P C c σ (uL0 (fun σ'=>xR0 nb keep kk σ' fun σ''=>∃m,m < n/\I m σ'') Q)):At O ts P C (.loop c) σ Q:=
 ⟨GWp.loop I hC h0 fun n σ h=>tU0 (round n σ h)⟩
theorem atId {c:Code} (h:At O ts P C c σ Q):At O ts P C c σ Q:=h
theorem nxId {c:Code} (h:nxt O ts P C c σ Q):nxt O ts P C c σ Q:=h
theorem nW {nb:Nat} {keep:Nat->Bool} {kk:Root->Nat->Option Nat} {c:Code} (hC:C.bl0.length<=nb) (h:xR0 nb keep kk σ fun σ'=>At O ts P C c σ' Q):At O ts P C c σ Q:=by
 refine ⟨fun hO ht a w hi=>?_⟩;simp only[xR0] at h
 split at h
 ·rename_i σ2 hx2
  exact h.go hO ht a w (zE1 hx2 hC hi)
 ·exact h.elim
theorem nWr {id:Nat} {nb:Nat} {keep:Nat->Bool} {kk:Root->Nat->Option Nat} {ops:Array Oper} {d:Bool} (hC:C.bl0.length<=nb) (h:xR0 nb keep kk σ fun σ'=>At O ts P C (.region id ops d) σ' Q):At O ts P C (.region id ops d) σ Q:=nW hC h
theorem KM0 {α:Type} {S:α->AS} {H:α->Prop} {G:Prop} {c:Code} {Q:Exit->AS->Prop} (h1:(∀b,H b->At O ts P C c (S b) Q)->G) (h2:∀b,H b->At O ts P C c (S b) Q):G:=h1 h2
def vX1 (v:Option AV) (x y:Unit->Prop):Prop:=match v with
 | some ⟨.one,[.lit (.bool b)]⟩=>GFork b x y
 | _=>False
theorem nG {c:Operand} {x y:Code} (h:vX1 (σ.ev c) (fun _=>nxt O ts P C x σ Q) (fun _=>nxt O ts P C y σ Q)):At O ts P C (.cond c x y) σ Q:=by
 unfold vX1 at h
 split at h
 ·rename_i b hb
  exact nC hb (fun hx=>h.yes hx) fun hx=>h.no hx
 ·exact h.elim
end Go.Gv
/- What a function hands over may be shared at once: its slices read as such that are read alone. -/
namespace Go.Av
def A.roC:A->A
 | .nil=>.ro true []
 | .ow _ d _ els=>.ro true (erD d els)
 | c=>c
def AV.roC (av:AV):AV:=⟨av.sh,av.cs.map A.roC⟩
theorem le_zero {S S':Nat->Prop} {bl:List Nat} {w:World} (h:∀b,S b->S' b):Env.Le none (Env.zero S S bl w) (Env.zero S' S' bl w):=
 ⟨h,h,fun _ _=>rfl,fun _ _ hb=>hb,fun r c g d k els' _ he=>by simp[Env.zero] at he⟩
theorem yR0 (cs:List A):zE0 none cs:=by
 intro c hc
 by_cases h:c.rstamp=none
 ·exact Or.inl h
 ·exact Or.inr h
theorem RepA.roC {S S':Nat->Prop} {bl:List Nat} {w:World} (h:∀b,S b->S' b) {c:A} {u:Value} {own:List Nat} (ho:∀b∈own,S' b) (hr:RepA (Env.zero S S bl w) c u own) :
  RepA (Env.zero S' S' bl w) c.roC u []:=by
 have key:own=[]->RepA (Env.zero S' S' bl w) c u []:=fun e=>by
  subst e;exact RepA.go (le_zero h) (fun _ _=>rfl) (yR0 [c] c List.mem_cons_self) hr
 cases c<;>simp only[A.roC]<;>try (exact key (by first | exact hr.2.2 | exact hr.2 | exact hr.1))
 ·obtain ⟨⟨ad,rfl⟩,rfl⟩:=hr
  exact ⟨by simp only[RepS];exact ⟨ad,0,rfl,Nat.le_refl _,fun hne=>absurd rfl hne⟩,rfl⟩
 ·rename_i g d k els
  exact ⟨RepO.toR (S':=S') h ho (show RepO S w d k els u own from hr),rfl⟩
theorem RpA.roC {S S':Nat->Prop} {bl:List Nat} {w:World} (h:∀b,S b->S' b):∀{cs:List A} {us:List Value} {own:List Nat},(∀b∈own,S' b)->RpA (Env.zero S S bl w) cs us own->
  RpA (Env.zero S' S' bl w) (cs.map A.roC) us []
 | [],us,own,_,hr=>⟨hr.1,rfl⟩
 | c::cs,us,own,ho,hr=>by
  obtain ⟨u,us',o1,o2,rfl,rfl,h3,h4⟩:=hr;exact ⟨u,us',[],[],rfl,rfl,RepA.roC h (fun b hb=>ho b (by simp[hb])) h3,RpA.roC h (fun b hb=>ho b (by simp[hb])) h4⟩
theorem RepA.lt {E:Env} {c:A} {u:Value} {own:List Nat} (h:RepA E c u own):∀b∈own,b < E.w.heap.size:=by
 cases c<;>try (first|(rw[show own=[] from h.2.2];simp;done)|(rw[show own=[] from h.2];simp;done)|(rw[show own=[] from h.1];simp;done))
 exact RepO.lt h
theorem RpA.lt {E:Env}:∀{cs:List A} {us:List Value} {own:List Nat},RpA E cs us own->∀b∈own,b < E.w.heap.size
 | [],us,own,h=>by rw[h.2];simp
 | c::cs,us,own,h=>by
  obtain ⟨u,us',o1,o2,rfl,rfl,h3,h4⟩:=h;intro b hb;rcases List.mem_append.1 hb with hb | hb
  ·exact RepA.lt h3 b hb
  ·exact RpA.lt h4 b hb
theorem ACl.ro {P:Program} {f:FuncId} {args:List AV} {bx:List (Option (List A))} {R:AV->List (Option (List A))->Prop} (h:ACl P f args bx R) :
  ACl P f args bx (fun res bx=>∃r0,R r0 bx/\res=r0.roC):=by
 intro w vals S L bl O1 O2 h1 h2 h3 h4 h5 h6;refine (h w vals S L bl O1 O2 h1 h2 h3 h4 h5 h6).mono ?_;rintro e w' ⟨v,rfl,res,bx',S',bl',o1,o2,hR,hv,hb,hn,hs,hSS,hS',hk,ho,hp⟩;have hlt:∀b∈o1,b < w'.heap.size:=by
  obtain ⟨sh,cs⟩:=res;cases sh with
  | any=>rw[hv.2];simp
  | one=>exact RpA.lt hv.2
  | agg=>exact RpA.lt hv.2
  | tup ns=>exact RpA.lt hv.2
 have hup:∀b,S' b->(fun b=>S' b\/b∈o1) b:=fun b h=>Or.inl h;refine ⟨v,rfl,res.roC,bx',fun b=>S' b\/b∈o1,bl',[],o2,⟨res,hR,rfl⟩,?_,?_,(List.nodup_append.1 hn).2.1,?_,fun b hb=>Or.inl (hSS b hb),?_,hk,fun b hb=>ho b (by simp at hb;simp[hb]),hp⟩
 ·obtain ⟨sh,cs⟩:=res
  cases sh with
  | any=>
   have hc:cs=[]:=hv.1;subst hc;exact ⟨rfl,rfl⟩
  | one=>exact ⟨hv.1,RpA.roC hup (fun b hb=>Or.inr hb) hv.2⟩
  | agg=>exact ⟨hv.1,RpA.roC hup (fun b hb=>Or.inr hb) hv.2⟩
  | tup ns=>exact ⟨hv.1,RpA.roC hup (fun b hb=>Or.inr hb) hv.2⟩
 ·exact RpB.go (le_zero hup) (fun _ _=>rfl) (fun c cs' _ _=>yR0 cs') hb
 ·rintro b (hb | hb)
  ·exact ⟨(hs b hb).1,by have:=(hs b hb).2;simp at this |-;exact this.2⟩
  ·refine ⟨hlt b hb,?_⟩
   simp only[List.nil_append];exact fun hb2=>(List.nodup_append.1 hn).2.2 b hb b hb2 rfl
 ·rintro b (hb | hb)
  ·exact hS' b hb
  ·rcases ho b (by simp[hb]) with h | h
   ·exact Or.inr (Or.inl h)
   ·exact Or.inr (Or.inr h)
theorem acI {P:Program} {f:FuncId} {args:List AV} {bx:List (Option (List A))} {R R':AV->List (Option (List A))->Prop} (h:ACl P f args bx R) (hi:∀res bx,R res bx->R' res bx):ACl P f args bx R':=by
 intro w vals S L bl O1 O2 h1 h2 h3 h4 h5 h6;refine (h w vals S L bl O1 O2 h1 h2 h3 h4 h5 h6).mono ?_;rintro e w' ⟨v,rfl,res,bx',S',bl',o1,o2,hR,hr⟩;exact ⟨v,rfl,res,bx',S',bl',o1,o2,hi _ _ hR,hr⟩
end Go.Av
/- Which places a machine holds, and how often one of them is there. -/
namespace Go.Gv
open Go.Av
end Go.Gv
/- Regular expressions as trees: which are right, their texts, and how a text is read; what is right is read back of its text. -/
namespace Go.Gv
open Go.Av
inductive Rx where
 | mk (k:Int) (s:ByteArray) (l:List Rx)
 deriving Inhabited
def Rx.k:Rx->Int | .mk k _ _=>k
mutual
def Rx.t:Rx->List T
 | .mk k s l=>[.lit (.int .i64 k),.lit (.string s),.sl (Rx.ts l)]
def Rx.ts:List Rx->List (List T)
 | []=>[]
 | e::l=>Rx.t e::Rx.ts l
end
theorem Rx.ts_map:∀l,Rx.ts l=l.map Rx.t
 | []=>rfl
 | e::l=>by rw[Rx.ts,Rx.ts_map l,List.map_cons]
theorem Rx.t_mk (k:Int) (s:ByteArray) (l:List Rx):(Rx.mk k s l).t=[.lit (.int .i64 k),.lit (.string s),.sl (l.map Rx.t)]:=by rw[Rx.t,Rx.ts_map]
theorem Rx.t_len (e:Rx):e.t.length=3:=by cases e;rw[Rx.t];rfl
inductive Rx.Wf:Rx->Prop where
 | mk {k:Int} {s:ByteArray} {l:List Rx} (hs:s.size<=4611686018427387904) (hl:l.length<=4611686018427387904) (h:∀x∈l,Rx.Wf x):Rx.Wf (.mk k s l)
theorem Rx.Wf.inv {k:Int} {s:ByteArray} {l:List Rx} (h:(Rx.mk k s l).Wf):s.size<=4611686018427387904/\l.length<=4611686018427387904/\∀x∈l,Rx.Wf x:=by
 cases h with | mk h1 h2 h3=>exact ⟨h1,h2,h3⟩
abbrev Bs:=List UInt8
def ofL (l:Bs):ByteArray:=⟨l.toArray⟩
def toL (b:ByteArray):Bs:=b.data.toList
@[simp] theorem vQ0 (l:Bs):toL (ofL l)=l:=by simp[toL,ofL]
@[simp] theorem uU0 (b:ByteArray):ofL (toL b)=b:=by simp[toL,ofL]
theorem fL0 (a b:Bs):ofL a++ofL b=ofL (a++b):=by
 apply ByteArray.ext;simp[ofL]
theorem zG0 (a:ByteArray):(toL a).length=a.size:=Array.length_toList
theorem zM0 (a:Bs):(ofL a).size=a.length:=by rw[<-zG0,vQ0]
def xQ0 (c:UInt8):Bool:=(97<=c && c<=122) || (65<=c && c<=90) || (48<=c && c<=57) || c == 32 || c == 95 || c == 45 || c == 44 || c == 58
def RW0:Bs->Bool
 | a::b::l=>a < b && RW0 (b::l)
 | _=>true
def setB (l:Bs):Bool:=l.all xQ0 && RW0 l && decide (1<=l.length) && decide (l.length<=10)
def uW0 (k:Int):Bool:=k == 6 || k == 7 || k == 8
def Rx.here (k:Int) (s:ByteArray) (l:List Rx):Prop:=
 (k=1/\(∃c,toL s=[c]/\xQ0 c=true)/\l=[])\/(k=3/\setB (toL s)=true/\l=[])\/((k=2\/k=9\/k=10\/k=11)/\s=ofL []/\l=[])\/
 ((k=4\/k=5)/\s=ofL []/\2<=l.length/\l.length<=8/\∀x∈l,x.k≠k)\/((k=6\/k=7\/k=8)/\s=ofL []/\∃x,l=[x]/\uW0 x.k=false)
inductive Rx.ok:Rx->Prop where
 | mk {k:Int} {s:ByteArray} {l:List Rx} (h:Rx.here k s l) (hl:∀x∈l,Rx.ok x):Rx.ok (.mk k s l)
mutual
def Rx.parts:Rx->Nat
 | .mk _ _ l=>1+Rx.partss l
def Rx.partss:List Rx->Nat
 | []=>0
 | e::l=>Rx.parts e+Rx.partss l
end
mutual
def Rx.depth:Rx->Nat
 | .mk _ _ l=>1+Rx.depths l
def Rx.depths:List Rx->Nat
 | []=>0
 | e::l=>max (Rx.depth e) (Rx.depths l)
end
def Rx.good (r:Rx):Prop:=r.ok/\r.parts<=60/\r.depth<=6
mutual
def Rx.txt:Rx->Bs
 | .mk k s l=>if k=1 then toL s else if k=2 then [46] else if k=3 then 91::(toL s++[93]) else if k=4 then Rx.cats l else if k=5 then Rx.alts l
  else if k=6 then Rx.one l++[42] else if k=7 then Rx.one l++[43] else if k=8 then Rx.one l++[63] else if k=10 then [94] else if k=11 then [36] else [40,41]
def Rx.cats:List Rx->Bs
 | []=>[]
 | .mk k s l::r=>(if k=5 then 40::(Rx.txt (.mk k s l)++[41]) else Rx.txt (.mk k s l))++Rx.cats r
def Rx.alts:List Rx->Bs
 | []=>[]
 | [x]=>Rx.txt x
 | x::y::r=>Rx.txt x++124::Rx.alts (y::r)
def Rx.one:List Rx->Bs
 | .mk k s l::_=>if k=4\/k=5 then 40::(Rx.txt (.mk k s l)++[41]) else Rx.txt (.mk k s l)
 | []=>[]
end
def e0:ByteArray:=ofL []
def upTo:Bs->Option (Bs×Bs)
 | []=>none
 | c::r=>if c=93 then some ([],r) else match upTo r with
  | some (a,b)=>some (c::a,b)
  | none=>none
mutual
def mAtom:Nat->Nat->Bs->Option (Rx×Bs)
 | 0,_,_=>none
 | _+1,_,[]=>none
 | n+1,d,c::r=>
  if xQ0 c=true then some (.mk 1 (ofL [c]) [],r)
  else if c=46 then some (.mk 2 e0 [],r)
  else if c=94 then some (.mk 10 e0 [],r)
  else if c=36 then some (.mk 11 e0 [],r)
  else if c=91 then match upTo r with
   | some (a,b)=>some (.mk 3 (ofL a) [],b)
   | none=>none
  else if c=40 then match r with
   | []=>none
   | c'::r'=>if c'=41 then some (.mk 9 e0 [],r') else match d with
    | 0=>none
    | d+1=>match mAlt n d (c'::r') with
     | some (x,c''::r'')=>if c''=41 then some (x,r'') else none
     | _=>none
  else none
def mItem:Nat->Nat->Bs->Option (Rx×Bs)
 | 0,_,_=>none
 | n+1,d,l=>match mAtom n d l with
  | none=>none
  | some (x,[])=>some (x,[])
  | some (x,c::r)=>if c=42 then some (.mk 6 e0 [x],r) else if c=43 then some (.mk 7 e0 [x],r) else if c=63 then some (.mk 8 e0 [x],r) else some (x,c::r)
def mItems:Nat->Nat->Bs->Option (List Rx×Bs)
 | 0,_,_=>none
 | _+1,_,[]=>some ([],[])
 | n+1,d,c::r=>if c=124\/c=41 then some ([],c::r) else match mItem n d (c::r) with
  | none=>none
  | some (x,r1)=>match mItems n d r1 with
   | none=>none
   | some (xs,r2)=>some (x::xs,r2)
def mCat:Nat->Nat->Bs->Option (Rx×Bs)
 | 0,_,_=>none
 | n+1,d,l=>match mItems n d l with
  | none=>none
  | some ([],_)=>none
  | some ([x],r)=>some (x,r)
  | some (x::y::xs,r)=>some (.mk 4 e0 (x::y::xs),r)
def mAlts:Nat->Nat->Bs->Option (List Rx×Bs)
 | 0,_,_=>none
 | _+1,_,[]=>some ([],[])
 | n+1,d,c::r=>if c=124 then match mCat n d r with
   | none=>none
   | some (x,r1)=>match mAlts n d r1 with
    | none=>none
    | some (xs,r2)=>some (x::xs,r2)
  else some ([],c::r)
def mAlt:Nat->Nat->Bs->Option (Rx×Bs)
 | 0,_,_=>none
 | n+1,d,l=>match mCat n d l with
  | none=>none
  | some (x,r)=>match mAlts n d r with
   | none=>none
   | some ([],r')=>some (x,r')
   | some (y::xs,r')=>some (.mk 5 e0 (x::y::xs),r')
end
def uJ0 (c:UInt8):Prop:=c≠41/\c≠42/\c≠43/\c≠63/\c≠124
theorem UG0 {c:UInt8} (h:xQ0 c=true):uJ0 c/\c≠46/\c≠94/\c≠36/\c≠91/\c≠40/\c≠93:=by
 refine ⟨⟨?_,?_,?_,?_,?_⟩,?_,?_,?_,?_,?_,?_⟩<;>(rintro rfl;exact absurd h (by decide))
theorem Rx.ok_inv {k:Int} {s:ByteArray} {l:List Rx} (h:(Rx.mk k s l).ok):Rx.here k s l/\∀x∈l,Rx.ok x:=by
 cases h with | mk h hl=>exact ⟨h,hl⟩
theorem Rx.parts_pos (r:Rx):1<=r.parts:=by cases r;rw[Rx.parts];omega
theorem Rx.parts_mem:∀{l:List Rx} {x:Rx},x∈l->x.parts<=Rx.partss l
 | [],x,h=>by simp at h
 | y::l,x,h=>by
  rw[Rx.partss];rcases List.mem_cons.1 h with rfl | h
  ·omega
  ·have:=Rx.parts_mem h;omega
theorem Rx.depth_mem:∀{l:List Rx} {x:Rx},x∈l->x.depth<=Rx.depths l
 | [],x,h=>by simp at h
 | y::l,x,h=>by
  rw[Rx.depths];rcases List.mem_cons.1 h with rfl | h
  ·omega
  ·have:=Rx.depth_mem h;omega
def Rx.unit (x:Rx):Bs:=if x.k=5 then 40::(x.txt++[41]) else x.txt
theorem Rx.cats_cons (x:Rx) (l:List Rx):Rx.cats (x::l)=x.unit++Rx.cats l:=by
 obtain ⟨k,s,l'⟩:=x;rw[Rx.cats];rfl
theorem Rx.one_cons (x:Rx) (l:List Rx):Rx.one (x::l)=if x.k=4\/x.k=5 then 40::(x.txt++[41]) else x.txt:=by
 obtain ⟨k,s,l'⟩:=x;rw[Rx.one];rfl
theorem Rx.head_ok:∀(m:Nat) (y:Rx),y.parts<=m->y.ok->∃c r,y.txt=c::r/\uJ0 c
 | 0,y,h,_=>by have:=y.parts_pos;omega
 | m+1,.mk k s l,h,hy=>by
  obtain ⟨hh,hl⟩:=Rx.ok_inv hy;rw[Rx.parts] at h;have ih:∀x∈l,∃c r,x.txt=c::r/\uJ0 c:=fun x hx=>Rx.head_ok m x (by have:=Rx.parts_mem hx;omega) (hl x hx)
  rcases hh with ⟨rfl,⟨c,hc,hb⟩,rfl⟩ | ⟨rfl,_,rfl⟩ | ⟨hk,rfl,rfl⟩ | ⟨hk,rfl,h2,h8,hne⟩ | ⟨hk,rfl,x,rfl,hx⟩
  ·exact ⟨c,[],by rw[Rx.txt,if_pos rfl,hc],(UG0 hb).1⟩
  ·exact ⟨91,_,by rw[Rx.txt];rfl,by unfold uJ0;decide⟩
  ·rcases hk with rfl | rfl | rfl | rfl<;>exact ⟨_,_,by rw[Rx.txt];rfl,by unfold uJ0;decide⟩
  ·match l,h2,ih with
   | x::y::r,_,ih=>
    obtain ⟨c,r',hc,hn⟩:=ih x List.mem_cons_self;rcases hk with rfl | rfl
    ·rw[Rx.txt]
     simp only[Rx.cats_cons,Rx.unit,show ¬(4:Int)=1 by decide,show ¬(4:Int)=2 by decide,show ¬(4:Int)=3 by decide,if_true,if_false]
     split
     ·exact ⟨40,_,rfl,by unfold uJ0;decide⟩
     ·exact ⟨c,_,by rw[hc];rfl,hn⟩
    ·rw[Rx.txt]
     simp only[Rx.alts,show ¬(5:Int)=1 by decide,show ¬(5:Int)=2 by decide,show ¬(5:Int)=3 by decide,show ¬(5:Int)=4 by decide,if_true,if_false]
     exact ⟨c,_,by rw[hc];rfl,hn⟩
  ·obtain ⟨c,r',hc,hn⟩:=ih x List.mem_cons_self
   have:∃d,(Rx.mk k (ofL []) [x]).txt=Rx.one [x]++[d]:=by
    rcases hk with rfl | rfl | rfl<;>exact ⟨_,by rw[Rx.txt];rfl⟩
   obtain ⟨d,hd⟩:=this;rw[hd,Rx.one_cons]
   split
   ·exact ⟨40,_,rfl,by unfold uJ0;decide⟩
   ·exact ⟨c,_,by rw[hc];rfl,hn⟩
theorem VZ0:∀(a b:Bs),(∀c∈a,c≠93)->upTo (a++93::b)=some (a,b)
 | [],b,_=>by simp[upTo]
 | c::a,b,h=>by
  rw[List.cons_append,upTo,if_neg (h c List.mem_cons_self),VZ0 a b fun x hx=>h x (List.mem_cons_of_mem _ hx)]
def endA (p:Bs):Prop:=p=[]\/∃r,p=41::r
def endC (p:Bs):Prop:=p=[]\/(∃r,p=41::r)\/∃r,p=124::r
def endI (p:Bs):Prop:=p=[]\/∃c r,p=c::r/\c≠42/\c≠43/\c≠63
theorem NF0:xQ0 40=false:=by decide
theorem XV0:xQ0 91=false:=by decide
theorem vJ0 {k:Int} {s:ByteArray} (hh:Rx.here k s []) (n d:Nat) (p:Bs):mAtom (n+1) d ((Rx.mk k s []).txt++p)=some (.mk k s [],p):=by
 rcases hh with ⟨rfl,⟨c,hc,hb⟩,_⟩ | ⟨rfl,hs,_⟩ | ⟨hk,rfl,_⟩ | ⟨_,_,h2,_⟩ | ⟨_,_,x,hx,_⟩
 ·rw[Rx.txt,if_pos rfl,hc,List.singleton_append,mAtom.eq_def]
  simp only[if_pos hb,<-hc,uU0]
 ·have hn:∀c∈toL s,c≠93:=by
   intro c hc;simp only[setB,Bool.and_eq_true,List.all_eq_true] at hs;exact (UG0 (hs.1.1.1 c hc)).2.2.2.2.2.2
  have e:(Rx.mk 3 s []).txt++p=91::(toL s++93::p):=by rw[Rx.txt];simp
  rw[e,mAtom.eq_def];simp[XV0,VZ0 _ _ hn]
 ·rcases hk with rfl | rfl | rfl | rfl
  ·have e:(Rx.mk 2 (ofL []) []).txt++p=46::p:=by rw[Rx.txt];rfl
   rw[e,mAtom.eq_def];rfl
  ·have e:(Rx.mk 9 (ofL []) []).txt++p=40::41::p:=by rw[Rx.txt];rfl
   rw[e,mAtom.eq_def];rfl
  ·have e:(Rx.mk 10 (ofL []) []).txt++p=94::p:=by rw[Rx.txt];rfl
   rw[e,mAtom.eq_def];rfl
  ·have e:(Rx.mk 11 (ofL []) []).txt++p=36::p:=by rw[Rx.txt];rfl
   rw[e,mAtom.eq_def];rfl
 ·simp at h2
 ·simp at hx
theorem PD0 {y:Rx} {n d:Nat} {p:Bs} (hh:∃c r,y.txt=c::r/\uJ0 c) (h:mAlt n d (y.txt++41::p)=some (y,41::p)):mAtom (n+1) (d+1) (40::(y.txt++[41])++p)=some (y,p):=by
 obtain ⟨c,r,hc,hn⟩:=hh;have e:40::(y.txt++[41])++p=40::c::(r++41::p):=by rw[hc];simp
 have e2:y.txt++41::p=c::(r++41::p):=by rw[hc];rfl
 rw[e2] at h;rw[e,mAtom,NF0];simp only[Bool.false_eq_true,if_false,show ¬(40:UInt8)=46 by decide,show ¬(40:UInt8)=94 by decide,show ¬(40:UInt8)=36 by decide,show ¬(40:UInt8)=91 by decide,if_true,if_neg hn.1,h]
theorem qA0 {x:Rx} {n d:Nat} {l p:Bs} (h:mAtom n d l=some (x,p)) (hp:endI p):mItem (n+1) d l=some (x,p):=by
 rw[mItem,h];rcases hp with rfl | ⟨c,r,rfl,h1,h2,h3⟩
 ·rfl
 ·simp only[if_neg h1,if_neg h2,if_neg h3]
theorem ZF0 {n d:Nat} {p:Bs} (hp:endC p):mItems (n+1) d p=some ([],p):=by
 rcases hp with rfl | ⟨r,rfl⟩ | ⟨r,rfl⟩<;>rw[mItems.eq_def]<;>simp
theorem gF0 {n d:Nat} {l r1 r2:Bs} {x:Rx} {xs:List Rx} (hl:∃c r,l=c::r/\c≠124/\c≠41) (h1:mItem n d l=some (x,r1)) (h2:mItems n d r1=some (xs,r2)):mItems (n+1) d l=some (x::xs,r2):=by
 obtain ⟨c,r,rfl,h3,h4⟩:=hl;rw[mItems.eq_def];simp only[h3,h4,or_self,if_false,h1,h2]
theorem TX0 {n d:Nat} {p:Bs} (hp:endA p):mAlts (n+1) d p=some ([],p):=by
 rcases hp with rfl | ⟨r,rfl⟩<;>rw[mAlts.eq_def]<;>simp
theorem XJ0 {n d:Nat} {l r1 r2:Bs} {x:Rx} {xs:List Rx} (h1:mCat n d l=some (x,r1)) (h2:mAlts n d r1=some (xs,r2)):mAlts (n+1) d (124::l)=some (x::xs,r2):=by
 rw[mAlts.eq_def];simp only[if_true,h1,h2]
def HJ0 (y:Rx):Prop:=∀n d p,endA p->y.depth<=d+1->7 * y.txt.length+3<=n->mAlt n d (y.txt++p)=some (y,p)
def DD0 (y:Rx):Prop:=y.k≠5->∀n d p,endC p->y.depth<=d+1->7 * y.txt.length+2<=n->mCat n d (y.txt++p)=some (y,p)
def HH0 (y:Rx):Prop:=y.k≠4->y.k≠5->∀n d p,endI p->y.depth<=d+1->7 * y.txt.length<=n->mItem n d (y.txt++p)=some (y,p)
theorem Rx.ok_head {y:Rx} (h:y.ok):∃c r,y.txt=c::r/\uJ0 c:=Rx.head_ok _ y (Nat.le_refl _) h
theorem Rx.txt_pos {y:Rx} (h:y.ok):1<=y.txt.length:=by
 obtain ⟨c,r,hc,_⟩:=Rx.ok_head h;rw[hc];simp
theorem Rx.unit_head {y:Rx} (h:y.ok):∃c r,y.unit=c::r/\uJ0 c:=by
 unfold Rx.unit
 split
 ·exact ⟨40,_,rfl,by unfold uJ0;decide⟩
 ·exact Rx.ok_head h
theorem Rx.depth_pos (y:Rx):1<=y.depth:=by cases y;rw[Rx.depth];omega
theorem gH0 {x:Rx} (hx:x.ok) (hA:HJ0 x) {n d:Nat} {p:Bs} (hd:x.depth<=d) (hn:7 * x.txt.length+4<=n):mAtom n d (40::(x.txt++[41])++p)=some (x,p):=by
 have:=x.depth_pos;obtain ⟨d,rfl⟩:∃e,d=e+1:=⟨d - 1,by omega⟩
 obtain ⟨n,rfl⟩:∃m,n=m+1:=⟨n - 1,by omega⟩
 exact PD0 (Rx.ok_head hx) (hA n d (41::p) (.inr ⟨p,rfl⟩) hd (by omega))
theorem PM0 {x:Rx} (hx:x.ok) (hk:x.k≠4) (hA:HJ0 x) (hC:HH0 x) {n d:Nat} {p:Bs} (hp:endI p) (hd:x.depth<=d) (hn:7 * x.unit.length<=n):mItem n d (x.unit++p)=some (x,p):=by
 by_cases h5:x.k=5
 ·simp only[Rx.unit,if_pos h5,List.length_cons,List.length_append,List.length_nil] at hn |-
  obtain ⟨n,rfl⟩:∃m,n=m+1:=⟨n - 1,by omega⟩
  exact qA0 (gH0 hx hA hd (by omega)) hp
 ·simp only[Rx.unit,if_neg h5] at hn |-
  exact hC hk h5 n d p hp (by omega) hn
theorem KH0 {p:Bs} (h:endA p):endC p:=by
 rcases h with rfl | ⟨r,rfl⟩
 ·exact .inl rfl
 ·exact .inr (.inl ⟨_,rfl⟩)
theorem KG0 {p:Bs} (h:endC p):endI p:=by
 rcases h with rfl | ⟨r,rfl⟩ | ⟨r,rfl⟩
 ·exact .inl rfl
 ·exact .inr ⟨41,r,rfl,by decide,by decide,by decide⟩
 ·exact .inr ⟨124,r,rfl,by decide,by decide,by decide⟩
theorem GX0 {c:UInt8} {r p:Bs} (h:uJ0 c):endI (c::r++p):=.inr ⟨c,r++p,rfl,h.2.1,h.2.2.1,h.2.2.2.1⟩
theorem gG0:∀(xs:List Rx) {n d:Nat} {p:Bs},(∀x∈xs,x.ok/\x.k≠4/\HJ0 x/\HH0 x/\x.depth<=d)->endC p->7 * (Rx.cats xs).length+1<=n->mItems n d (Rx.cats xs++p)=some (xs,p)
 | [],n,d,p,_,hp,hn=>by
  obtain ⟨n,rfl⟩:∃m,n=m+1:=⟨n - 1,by omega⟩
  exact ZF0 hp
 | x::xs,n,d,p,h,hp,hn=>by
  obtain ⟨n,rfl⟩:∃m,n=m+1:=⟨n - 1,by omega⟩
  obtain ⟨h1,h2,h3,h4,h5⟩:=h x List.mem_cons_self;obtain ⟨c,r,hc,hno⟩:=Rx.unit_head h1;have hlen:1<=x.unit.length:=by rw[hc];simp
  rw[Rx.cats_cons,List.append_assoc];rw[Rx.cats_cons,List.length_append] at hn;refine gF0 ⟨c,r++(Rx.cats xs++p),by rw[hc];rfl,hno.2.2.2.2,hno.1⟩ (PM0 h1 h2 h3 h4 ?_ h5 (by omega)) (gG0 xs (fun y hy=>h y (List.mem_cons_of_mem _ hy)) hp (by omega))
  cases xs with
  | nil=>simp only[Rx.cats,List.nil_append];exact KG0 hp
  | cons y ys=>
   obtain ⟨c',r',hc',hno'⟩:=Rx.unit_head (h y (List.mem_cons_of_mem _ List.mem_cons_self)).1;rw[Rx.cats_cons,hc',List.append_assoc];exact GX0 hno'
theorem XK0:∀(xs:List Rx) {n d:Nat} {p:Bs},xs≠[]->(∀x∈xs,x.ok/\x.k≠5/\DD0 x/\x.depth<=d)->endA p->7 * (Rx.alts xs).length+8<=n->mAlts n d (124::(Rx.alts xs++p))=some (xs,p)
 | [],n,d,p,h0,_,_,_=>absurd rfl h0
 | [x],n,d,p,_,h,hp,hn=>by
  obtain ⟨n,rfl⟩:∃m,n=m+2:=⟨n - 2,by omega⟩
  obtain ⟨h1,h2,h3,h4⟩:=h x List.mem_cons_self;rw[Rx.alts] at hn |-;exact XJ0 (h3 h2 (n+1) d p (KH0 hp) (by omega) (by omega)) (TX0 hp)
 | x::y::xs,n,d,p,_,h,hp,hn=>by
  obtain ⟨n,rfl⟩:∃m,n=m+1:=⟨n - 1,by omega⟩
  obtain ⟨h1,h2,h3,h4⟩:=h x List.mem_cons_self;rw[Rx.alts,List.length_append,List.length_cons] at hn;have:=Rx.txt_pos h1;rw[Rx.alts,List.append_assoc,List.cons_append];exact XJ0 (h3 h2 n d _ (.inr (.inr ⟨_,rfl⟩)) (by omega) (by omega)) (XK0 (y::xs) (by simp) (fun z hz=>h z (List.mem_cons_of_mem _ hz)) hp (by omega))
theorem Rx.comp:∀(m:Nat) (y:Rx),y.parts<=m->y.ok->HJ0 y/\DD0 y/\HH0 y
 | 0,y,h,_=>by have:=y.parts_pos;omega
 | m+1,.mk k s l,h,hy=>by
  obtain ⟨hh,hl⟩:=Rx.ok_inv hy;rw[Rx.parts] at h;have ih:∀x∈l,HJ0 x/\DD0 x/\HH0 x:=fun x hx=>Rx.comp m x (by have:=Rx.parts_mem hx;omega) (hl x hx)
  have hdep:∀x∈l,x.depth+1<=(Rx.mk k s l).depth:=fun x hx=>by have:=Rx.depth_mem hx;rw[Rx.depth];omega
  have hC:HH0 (.mk k s l):=by
   intro hk4 hk5 n d p hp hd hn;simp only[Rx.k] at hk4 hk5;have hpos:=Rx.txt_pos hy;obtain ⟨n,rfl⟩:∃m,n=m+2:=⟨n - 2,by omega⟩
   rcases hh with h1 | h1 | h1 | ⟨hk,_⟩ | ⟨hk,rfl,x,rfl,hx⟩
   ·have e:l=[]:=h1.2.2
    subst e;exact qA0 (vJ0 (.inl h1) n d p) hp
   ·have e:l=[]:=h1.2.2
    subst e;exact qA0 (vJ0 (.inr (.inl h1)) n d p) hp
   ·have e:l=[]:=h1.2.2
    subst e;exact qA0 (vJ0 (.inr (.inr (.inl h1))) n d p) hp
   ·rcases hk with rfl | rfl
    ·exact absurd rfl hk4
    ·exact absurd rfl hk5
   ·have hxo:=hl x List.mem_cons_self
    have hxd:=hdep x List.mem_cons_self;obtain ⟨ihA,_,ihC⟩:=ih x List.mem_cons_self;have key:∃c,(Rx.mk k (ofL []) [x]).txt=Rx.one [x]++[c]/\((k=6/\c=42)\/(k=7/\c=43)\/(k=8/\c=63)):=by
     rcases hk with rfl | rfl | rfl
     ·exact ⟨42,by rw[Rx.txt];rfl,by decide⟩
     ·exact ⟨43,by rw[Rx.txt];rfl,by decide⟩
     ·exact ⟨63,by rw[Rx.txt];rfl,by decide⟩
    obtain ⟨c,hc,hkc⟩:=key;rw[hc,List.length_append,List.length_singleton] at hn;rw[hc,List.append_assoc,List.singleton_append];have hat:mAtom (n+1) d (Rx.one [x]++c::p)=some (x,c::p):=by
     rw[Rx.one_cons] at hn |-
     by_cases hx45:x.k=4\/x.k=5
     ·rw[if_pos hx45] at hn |-
      simp only[List.length_cons,List.length_append,List.length_nil] at hn;exact gH0 hxo ihA (by omega) (by omega)
     ·rw[if_neg hx45] at hn |-
      obtain ⟨xk,xs,xl⟩:=x;obtain ⟨hxh,_⟩:=Rx.ok_inv hxo;simp only[Rx.k] at hx hx45;rcases hxh with h1 | h1 | h1 | ⟨h1,_⟩ | ⟨h1,_⟩
      ·have e:xl=[]:=h1.2.2
       subst e;exact vJ0 (.inl h1) n d _
      ·have e:xl=[]:=h1.2.2
       subst e;exact vJ0 (.inr (.inl h1)) n d _
      ·have e:xl=[]:=h1.2.2
       subst e;exact vJ0 (.inr (.inr (.inl h1))) n d _
      ·exact absurd h1 hx45
      ·rcases h1 with rfl | rfl | rfl<;>exact absurd hx (by decide)
    rw[mItem,hat];rcases hkc with ⟨rfl,rfl⟩ | ⟨rfl,rfl⟩ | ⟨rfl,rfl⟩<;>rfl
  have hB:DD0 (.mk k s l):=by
   intro hk5 n d p hp hd hn;simp only[Rx.k] at hk5;have hpos:=Rx.txt_pos hy;obtain ⟨n,rfl⟩:∃m,n=m+3:=⟨n - 3,by omega⟩
   by_cases hk4:k=4
   ·subst hk4
    rcases hh with ⟨h1,_⟩ | ⟨h1,_⟩ | ⟨h1,_⟩ | ⟨_,rfl,h2,h8,hne⟩ | ⟨h1,_⟩<;>try exact absurd h1 (by decide)
    have e:(Rx.mk 4 (ofL []) l).txt=Rx.cats l:=by rw[Rx.txt];rfl
    rw[e] at hn |-;have:=gG0 l (n:=n+2) (d:=d) (p:=p) (fun x hx=>⟨hl x hx,hne x hx,(ih x hx).1,(ih x hx).2.2,by have:=hdep x hx;omega⟩) hp (by omega)
    rw[mCat,this]
    match l,h2 with
    | x::y::r,_=>rfl
   ·obtain ⟨c,r,hc,hno⟩:=Rx.ok_head hy
    have h1:=hC hk4 hk5 (n+1) d p (KG0 hp) hd (by omega)
    have h2:=gF0 ⟨c,r++p,by rw[hc];rfl,hno.2.2.2.2,hno.1⟩ h1 (ZF0 hp)
    rw[mCat,h2]
  refine ⟨?_,hB,hC⟩;intro n d p hp hd hn;have hpC:endC p:=KH0 hp;obtain ⟨n,rfl⟩:∃m,n=m+2:=⟨n - 2,by omega⟩
  by_cases hk5:k=5
  ·subst hk5
   rcases hh with ⟨h1,_⟩ | ⟨h1,_⟩ | ⟨h1,_⟩ | ⟨_,rfl,h2,h8,hne⟩ | ⟨h1,_⟩<;>try exact absurd h1 (by decide)
   have e:(Rx.mk 5 (ofL []) l).txt=Rx.alts l:=by rw[Rx.txt];rfl
   rw[e] at hn |-
   match l,h2,hl,ih,hdep,hne with
   | x::y::r,_,hl,ih,hdep,hne=>
    rw[Rx.alts,List.length_append,List.length_cons] at hn;rw[Rx.alts,List.append_assoc,List.cons_append];have hx:=Rx.txt_pos (hl x List.mem_cons_self);have h1:=(ih x List.mem_cons_self).2.1 (hne x List.mem_cons_self) (n+1) d (124::(Rx.alts (y::r)++p)) (.inr (.inr ⟨_,rfl⟩)) (by have:=hdep x List.mem_cons_self;omega) (by omega)
    have h2:=XK0 (y::r) (n:=n+1) (d:=d) (p:=p) (by simp) (fun z hz=>⟨hl z (List.mem_cons_of_mem _ hz),hne z (List.mem_cons_of_mem _ hz),(ih z (List.mem_cons_of_mem _ hz)).2.1,by have:=hdep z (List.mem_cons_of_mem _ hz);omega⟩) hp (by omega)
    rw[mAlt,h1];simp only[h2]
    rfl
  ·have h1:=hB hk5 (n+1) d p hpC hd (by omega)
   rw[mAlt,h1];simp only[TX0 hp]
end Go.Gv
/- Reading regular expressions, told backwards: what the parts of the model reader came to, step by step, and what a loop of parts keeps. -/
namespace Go.Gv
open Go.Av
def mGroup (n d:Nat) (l:Bs):Option (Rx×Bs):=match l with
 | []=>none
 | c::r=>if c=41 then some (.mk 9 e0 [],r) else match d with
  | 0=>none
  | d+1=>match mAlt n d (c::r) with
   | some (x,c'::r')=>if c'=41 then some (x,r') else none
   | _=>none
theorem wR0 {n D:Nat} {l:Bs} {y:Rx} {rest:Bs} (h:mGroup n D l=some (y,rest)) :
  (l=41::rest/\y=.mk 9 e0 [])\/∃D',D=D' + 1/\(∀r,l≠41::r)/\l≠[]/\mAlt n D' l=some (y,41::rest):=by
 cases l with
 | nil=>simp[mGroup] at h
 | cons c r=>
  rw[mGroup.eq_def] at h;simp only at h
  split at h
  ·rename_i hc;simp only[Option.some.injEq,Prod.mk.injEq] at h;exact .inl ⟨by rw[hc,h.2],h.1.symm⟩
  rename_i hc;cases D with
  | zero=>simp at h
  | succ D=>
   refine .inr ⟨D,rfl,fun r' he=>hc (by simpa using (List.cons.inj he).1),by simp,?_⟩
   simp only at h
   split at h
   ·rename_i x c' r' hm
    split at h
    ·rename_i hc';simp only[Option.some.injEq,Prod.mk.injEq] at h;rw[hm,h.1,hc',h.2]
    ·simp at h
   ·simp at h
def jV0 (D:Nat) (l:Bs) (x:Rx) (bad:Bool) (out:Bs):Prop:=∀n y rest,mAtom n D l=some (y,rest)->x=y/\bad=false/\rest=out
def uU1 (D:Nat) (l:Bs) (x:Rx) (bad:Bool) (out:Bs):Prop:=∀n y rest,mGroup n D l=some (y,rest)->x=y/\bad=false/\rest=out
theorem TU0 {D:Nat} {x:Rx} {bad:Bool} {out:Bs}:jV0 D [] x bad out:=by
 intro n y rest h;cases n<;>rw[mAtom.eq_def] at h<;>simp at h
theorem XG0 {D:Nat} {c:UInt8} {r:Bs} (hc:xQ0 c=true):jV0 D (c::r) (.mk 1 (ofL [c]) []) false r:=by
 intro n y rest h;cases n with
 | zero=>rw[mAtom.eq_def] at h;simp at h
 | succ n=>
  rw[mAtom.eq_def] at h;simp only[if_pos hc,Option.some.injEq,Prod.mk.injEq] at h;exact ⟨h.1,rfl,h.2.symm⟩
theorem wQ1:xQ0 46=false:=by decide
theorem wP1:xQ0 94=false:=by decide
theorem wR1:xQ0 36=false:=by decide
theorem TW0 {D:Nat} {r:Bs}:jV0 D (46::r) (.mk 2 e0 []) false r:=by
 intro n y rest h;cases n with
 | zero=>rw[mAtom.eq_def] at h;simp at h
 | succ n=>
  rw[mAtom.eq_def] at h;simp[wQ1] at h;exact ⟨h.1,rfl,h.2.symm⟩
theorem gU0 {D:Nat} {r:Bs}:jV0 D (94::r) (.mk 10 e0 []) false r:=by
 intro n y rest h;cases n with
 | zero=>rw[mAtom.eq_def] at h;simp at h
 | succ n=>
  rw[mAtom.eq_def] at h;simp[wP1] at h;exact ⟨h.1,rfl,h.2.symm⟩
theorem TV0 {D:Nat} {r:Bs}:jV0 D (36::r) (.mk 11 e0 []) false r:=by
 intro n y rest h;cases n with
 | zero=>rw[mAtom.eq_def] at h;simp at h
 | succ n=>
  rw[mAtom.eq_def] at h;simp[wR1] at h;exact ⟨h.1,rfl,h.2.symm⟩
theorem qL0 {D:Nat} {r:Bs} {x:Rx} {bad:Bool} {out:Bs} (h0:uU1 D r x bad out):jV0 D (40::r) x bad out:=by
 intro n y rest h;cases n with
 | zero=>rw[mAtom.eq_def] at h;simp at h
 | succ n=>
  rw[mAtom.eq_def] at h;simp[NF0] at h;refine h0 n y rest ?_;unfold mGroup;exact h
theorem TT0 {D:Nat} {r a b:Bs} (hu:upTo r=some (a,b)):jV0 D (91::r) (.mk 3 (ofL a) []) false b:=by
 intro n y rest h;cases n with
 | zero=>rw[mAtom.eq_def] at h;simp at h
 | succ n=>
  rw[mAtom.eq_def] at h;simp[XV0,hu] at h;exact ⟨h.1,rfl,h.2.symm⟩
theorem gT0 {D:Nat} {r:Bs} {x:Rx} {bad:Bool} {out:Bs} (hu:upTo r=none):jV0 D (91::r) x bad out:=by
 intro n y rest h;cases n with
 | zero=>rw[mAtom.eq_def] at h;simp at h
 | succ n=>
  rw[mAtom.eq_def] at h;simp[XV0,hu] at h
theorem qM0 {D:Nat} {c:UInt8} {r:Bs} {x:Rx} {bad:Bool} {out:Bs} (h1:c≠46) (h2:c≠94) (h3:c≠36) (h4:c≠40) (h5:¬xQ0 c=true) (h6:c≠91):jV0 D (c::r) x bad out:=by
 intro n y rest h;cases n with
 | zero=>rw[mAtom.eq_def] at h;simp at h
 | succ n=>
  rw[mAtom.eq_def] at h;simp[h1,h2,h3,h4,h5,h6] at h
theorem mE0 {t:Bs}:∀(k f:Nat),(∀q,f<=q->q < f+k->t[q]?≠some 93)->t[f+k]?=some 93->upTo (t.drop f)=some ((t.drop f).take k,t.drop (f+k+1))
 | 0,f,_,h=>by
  have hlt:f < t.length:=(List.getElem?_eq_some_iff.1 h).1;have he:t[f]=93:=(List.getElem?_eq_some_iff.1 h).2;rw[List.drop_eq_getElem_cons hlt,upTo,if_pos he];rfl
 | k+1,f,h1,h2=>by
  have hlt0:f+(k+1) < t.length:=(List.getElem?_eq_some_iff.1 h2).1;have hlt:f < t.length:=by omega
  have hne:t[f]≠93:=fun he=>h1 f (Nat.le_refl _) (by omega) (by rw[List.getElem?_eq_getElem hlt,he])
  have ih:=mE0 k (f+1) (fun q a b=>h1 q (by omega) (by omega)) (by rw[show f+1+k=f+(k+1) by omega];exact h2)
  rw[List.drop_eq_getElem_cons hlt,upTo,if_neg hne,ih,List.take_succ_cons,show f+1+k+1=f+(k+1)+1 by omega]
theorem mF0:∀{l:Bs},(∀c∈l,c≠93)->upTo l=none
 | [],_=>rfl
 | c::l,h=>by rw[upTo,if_neg (h c List.mem_cons_self),mF0 fun x hx=>h x (List.mem_cons_of_mem _ hx)]
theorem bB0 {t:Bs} {f:Nat} (h:∀q,f<=q->q < t.length->t[q]?≠some 93):upTo (t.drop f)=none:=by
 refine mF0 fun c hc he=>?_;obtain ⟨q,hq,hg⟩:=List.getElem_of_mem hc;rw[List.length_drop] at hq;rw[List.getElem_drop] at hg;exact h (f+q) (by omega) (by omega) (by rw[List.getElem?_eq_getElem (by omega),hg,he])
theorem drop_cons {t:Bs} {j:Nat} {c:UInt8} (h:t[j]?=some c):t.drop j=c::t.drop (j+1):=by
 have hlt:j < t.length:=(List.getElem?_eq_some_iff.1 h).1;rw[List.drop_eq_getElem_cons hlt,(List.getElem?_eq_some_iff.1 h).2]
def nZ0 (k:Int):List Rx->Rx
 | [x]=>x
 | xs=>.mk k e0 xs
theorem yA0 (k:Int) (x:Rx):nZ0 k [x]=x:=rfl
theorem zR0 {k:Int} {xs:List Rx} (h:xs.length≠1):nZ0 k xs=.mk k e0 xs:=by
 match xs,h with
 | [],_=>rfl
 | [x],h=>exact absurd rfl h
 | x::y::r,_=>rfl
theorem UV0 {n d:Nat} {l:Bs} {y:Rx} {rest:Bs} (h:mCat n d l=some (y,rest)):∃m xs,mItems m d l=some (xs,rest)/\xs≠[]/\y=nZ0 4 xs:=by
 cases n with
 | zero=>rw[mCat.eq_def] at h;simp at h
 | succ n=>
  rw[mCat] at h
  split at h
  ·simp at h
  ·simp at h
  ·rename_i x r hm;simp only[Option.some.injEq,Prod.mk.injEq] at h;exact ⟨n,[x],by rw[hm,h.2],by simp,h.1.symm⟩
  ·rename_i x z xs r hm;simp only[Option.some.injEq,Prod.mk.injEq] at h;exact ⟨n,x::z::xs,by rw[hm,h.2],by simp,h.1.symm⟩
theorem GL0 {n d:Nat} {l:Bs} {y:Rx} {rest:Bs} (h:mAlt n d l=some (y,rest)):∃m x r xs,mCat m d l=some (x,r)/\mAlts m d r=some (xs,rest)/\y=nZ0 5 (x::xs):=by
 cases n with
 | zero=>rw[mAlt.eq_def] at h;simp at h
 | succ n=>
  rw[mAlt] at h
  split at h
  ·simp at h
  rename_i x r hm
  split at h
  ·simp at h
  ·rename_i r' hn;simp only[Option.some.injEq,Prod.mk.injEq] at h;exact ⟨n,x,r,[],hm,by rw[hn,h.2],h.1.symm⟩
  ·rename_i z xs r' hn;simp only[Option.some.injEq,Prod.mk.injEq] at h;exact ⟨n,x,r,z::xs,hm,by rw[hn,h.2],h.1.symm⟩
theorem tH0 {n d:Nat} {l:Bs} {ys:List Rx} {rest:Bs} (h:mItems n d l=some (ys,rest)) :
  (ys=[]/\rest=l/\(l=[]\/∃c r,l=c::r/\(c=124\/c=41)))\/
  ∃m c r x xs r1,l=c::r/\c≠124/\c≠41/\mItem m d l=some (x,r1)/\mItems m d r1=some (xs,rest)/\ys=x::xs:=by
 cases n with
 | zero=>rw[mItems.eq_def] at h;simp at h
 | succ n=>
  cases l with
  | nil=>rw[mItems] at h;simp only[Option.some.injEq,Prod.mk.injEq] at h;exact .inl ⟨h.1.symm,h.2.symm,.inl rfl⟩
  | cons c r=>
   rw[mItems] at h
   split at h
   ·rename_i hc;simp only[Option.some.injEq,Prod.mk.injEq] at h;exact .inl ⟨h.1.symm,h.2.symm,.inr ⟨c,r,rfl,hc⟩⟩
   rename_i hc
   split at h
   ·simp at h
   rename_i x r1 hm
   split at h
   ·simp at h
   rename_i xs r2 hn;simp only[Option.some.injEq,Prod.mk.injEq] at h;exact .inr ⟨n,c,r,x,xs,r1,rfl,fun e=>hc (.inl e),fun e=>hc (.inr e),hm,by rw[hn,h.2],h.1.symm⟩
theorem bZ0 {n d:Nat} {l:Bs} {ys:List Rx} {rest:Bs} (h:mAlts n d l=some (ys,rest)) :
  (ys=[]/\rest=l/\∀r,l≠124::r)\/∃m r x xs r1,l=124::r/\mCat m d r=some (x,r1)/\mAlts m d r1=some (xs,rest)/\ys=x::xs:=by
 cases n with
 | zero=>rw[mAlts.eq_def] at h;simp at h
 | succ n=>
  cases l with
  | nil=>rw[mAlts] at h;simp only[Option.some.injEq,Prod.mk.injEq] at h;exact .inl ⟨h.1.symm,h.2.symm,by simp⟩
  | cons c r=>
   rw[mAlts] at h
   split at h
   ·rename_i hc
    split at h
    ·simp at h
    rename_i x r1 hm
    split at h
    ·simp at h
    rename_i xs r2 hn;simp only[Option.some.injEq,Prod.mk.injEq] at h;exact .inr ⟨n,r,x,xs,r1,by rw[hc],hm,by rw[hn,h.2],h.1.symm⟩
   ·rename_i hc;simp only[Option.some.injEq,Prod.mk.injEq] at h
    exact .inl ⟨h.1.symm,h.2.symm,fun r' he=>hc (by simpa using (List.cons.inj he).1)⟩
def uP1 (D:Nat) (l:Bs) (x:Rx) (bad:Bool) (out:Bs):Prop:=∀n y rest,mItem n D l=some (y,rest)->x=y/\bad=false/\rest=out
def CatP (D:Nat) (l:Bs) (x:Rx) (bad:Bool) (out:Bs):Prop:=∀n y rest,mCat n D l=some (y,rest)->x=y/\bad=false/\rest=out
def AltP (D:Nat) (l:Bs) (x:Rx) (bad:Bool) (out:Bs):Prop:=∀n y rest,mAlt n D l=some (y,rest)->x=y/\bad=false/\rest=out
def CatI (D:Nat) (l:Bs) (xs:List Rx) (bad:Bool) (out:Bs):Prop:=∀n ys rest,mItems n D l=some (ys,rest)->ys≠[]->
 bad=false/\∃m zs,ys=xs++zs/\mItems m D out=some (zs,rest)
theorem KQ0 {D:Nat} {l:Bs}:CatI D l [] false l:=fun n ys rest h _=>⟨rfl,n,ys,rfl,h⟩
theorem FA0 {D:Nat} {l out:Bs} {x:Rx} {bad:Bool} (h:uP1 D l x bad out):CatI D l [x] bad out:=by
 intro n ys rest hm hne;rcases tH0 hm with ⟨rfl,_⟩ | ⟨m,c,r,x',xs,r1,hl,hc1,hc2,h1,h2,rfl⟩
 ·exact absurd rfl hne
 ·obtain ⟨rfl,hb,rfl⟩:=h _ _ _ h1
  exact ⟨hb,m,xs,rfl,h2⟩
theorem ZX0 {D:Nat} {l mid out:Bs} {xs:List Rx} {x:Rx} {bad:Bool} {c:UInt8} {r:Bs} (h:CatI D l xs false mid) (hm:mid=c::r) (hc1:c≠124) (hc2:c≠41) (hx:uP1 D mid x bad out):CatI D l (xs++[x]) bad out:=by
 intro n ys rest h1 hne;obtain ⟨_,m,zs,rfl,h2⟩:=h n ys rest h1 hne;rcases tH0 h2 with ⟨_,_,h3⟩ | ⟨m,c,r,x',xs,r1,hl,hc1,hc2,h3,h4,rfl⟩
 ·rcases h3 with h3 | ⟨c',r',h3,h4⟩
  ·rw[hm] at h3;simp at h3
  ·rw[hm] at h3
   obtain ⟨rfl,rfl⟩:=List.cons.inj h3;rcases h4 with h4 | h4
   ·exact absurd h4 hc1
   ·exact absurd h4 hc2
 ·obtain ⟨rfl,hb,rfl⟩:=hx _ _ _ h3
  exact ⟨hb,m,xs,by simp,h4⟩
theorem XF0 {n d:Nat} {r:Bs}:mAtom n d (0::r)=none:=by
 cases h:mAtom n d (0::r) with
 | none=>rfl
 | some p=>
  have h1:=qM0 (D:=d) (c:=0) (r:=r) (x:=.mk 0 e0 []) (bad:=true) (out:=[]) (by decide) (by decide) (by decide) (by decide) (by decide) (by decide) n p.1 p.2 h
  exact absurd h1.2.1 (by simp)
theorem wY0 {D:Nat} {l out:Bs} {xs:List Rx} {bad:Bool} (h:CatI D l xs bad out) (he:bad=true\/out=[]\/∃c r,out=c::r/\(c=124\/c=41\/c=0)):CatP D l (nZ0 4 xs) bad out:=by
 intro n y rest h1;obtain ⟨m,ys,h2,h3,rfl⟩:=UV0 h1;obtain ⟨hb,k,zs,rfl,h4⟩:=h m ys rest h2 h3;have key:zs=[]/\rest=out:=by
  rcases tH0 h4 with ⟨rfl,rfl,_⟩ | ⟨m,c,r,x',xs,r1,rfl,hc1,hc2,h5,h6,_⟩
  ·exact ⟨rfl,rfl⟩
  ·rcases he with he | he | ⟨c',r',he,h7⟩
   ·rw[hb] at he;simp at he
   ·simp at he
   ·obtain ⟨rfl,rfl⟩:=List.cons.inj he
    rcases h7 with h7 | h7 | h7
    ·exact absurd h7 hc1
    ·exact absurd h7 hc2
    ·subst h7
     cases m with
     | zero=>rw[mItem.eq_def] at h5;simp at h5
     | succ m=>rw[mItem,XF0] at h5;simp at h5
 obtain ⟨rfl,rfl⟩:=key;rw[List.append_nil] at *;exact ⟨rfl,hb,rfl⟩
theorem nV0 {D:Nat} {l out:Bs} {x:Rx} {b b':Bool} {o:Bs} (h:CatI D l [] b out) (he:b=true\/out=[]\/∃c r,out=c::r/\(c=124\/c=41\/c=0)):CatP D l x b' o:=by
 intro n y rest h1;obtain ⟨m,ys,h2,h3,rfl⟩:=UV0 h1;obtain ⟨hb,k,zs,rfl,h4⟩:=h m ys rest h2 h3;rcases tH0 h4 with ⟨rfl,rfl,_⟩ | ⟨m,c,r,x',xs,r1,rfl,hc1,hc2,h5,h6,_⟩
 ·exact absurd rfl h3
 ·rcases he with he | he | ⟨c',r',he,h7⟩
  ·rw[hb] at he;simp at he
  ·simp at he
  ·obtain ⟨rfl,rfl⟩:=List.cons.inj he
   rcases h7 with h7 | h7 | h7
   ·exact absurd h7 hc1
   ·exact absurd h7 hc2
   ·subst h7
    cases m with
    | zero=>rw[mItem.eq_def] at h5;simp at h5
    | succ m=>rw[mItem,XF0] at h5;simp at h5
def AltI (D:Nat) (l:Bs) (xs:List Rx) (bad:Bool) (out:Bs):Prop:=∀n m x r ys rest,mCat n D l=some (x,r)->mAlts m D r=some (ys,rest)->
 bad=false/\∃k zs,x::ys=xs++zs/\mAlts k D out=some (zs,rest)
theorem dV0 {D:Nat} {l out:Bs} {x:Rx} {bad:Bool} (h:CatP D l x bad out):AltI D l [x] bad out:=by
 intro n m x' r ys rest h1 h2;obtain ⟨rfl,hb,rfl⟩:=h _ _ _ h1;exact ⟨hb,m,ys,rfl,h2⟩
theorem jL0 {D:Nat} {l mid out:Bs} {xs:List Rx} {x:Rx} {b bad:Bool} {r:Bs} (h:AltI D l xs b mid) (hm:mid=124::r) (hx:CatP D r x bad out):AltI D l (xs++[x]) bad out:=by
 intro n m x' r' ys rest h1 h2;obtain ⟨_,k,zs,e,h3⟩:=h n m x' r' ys rest h1 h2;rcases bZ0 h3 with ⟨_,_,h4⟩ | ⟨m',r1,x1,xs1,r2,h4,h5,h6,rfl⟩
 ·exact absurd hm (h4 r)
 ·rw[hm] at h4
  obtain ⟨_,rfl⟩:=List.cons.inj h4;obtain ⟨rfl,hb,rfl⟩:=hx _ _ _ h5;exact ⟨hb,m',xs1,by rw[e];simp,h6⟩
theorem qP0 {D:Nat} {l out:Bs} {xs:List Rx} {bad:Bool} (h:AltI D l xs bad out) (he:bad=true\/∀r,out≠124::r):AltP D l (nZ0 5 xs) bad out:=by
 intro n y rest h1;obtain ⟨m,x,r,ys,h2,h3,rfl⟩:=GL0 h1;obtain ⟨hb,k,zs,e,h4⟩:=h _ _ _ _ _ _ h2 h3;rcases bZ0 h4 with ⟨rfl,rfl,_⟩ | ⟨m',r1,x1,xs1,r2,h5,_⟩
 ·rw[List.append_nil] at e
  exact ⟨by rw[e],hb,rfl⟩
 ·rcases he with he | he
  ·rw[hb] at he;simp at he
  ·exact absurd h5 (he r1)
theorem xT0 {k:Int} {xs:List Rx} (hl:xs.length<=4611686018427387904) (h:∀x∈xs,x.Wf):(nZ0 k xs).Wf:=by
 match xs,h,hl with
 | [],h,hl=>exact .mk (by decide) hl h
 | [x],h,_=>exact h x List.mem_cons_self
 | x::y::r,h,hl=>exact .mk (by decide) hl h
end Go.Gv
/- The words' state as data that is read. -/
namespace Go.Gv
open Go.Av
end Go.Gv
/- The end of a function, not looked into till it is reached. -/
namespace Go.Gv
open Go.Av
variable {O:Ops} {ts:Nat->Option TI} {P:Program} {C:Ctx} {σ:AS}
structure FinAt (O:Ops) (ts:Nat->Option TI) (base:Nat) (rs:List ResultVar) (R:AV->List (Option (List A))->Prop) (e:Exit) (σ:AS):Prop where
 go:yG1 O ts base rs R e σ
theorem NY0 {base:Nat} {rs:List ResultVar} {R:AV->List (Option (List A))->Prop} {c:Code} (h:nxt O ts P C c σ (FinAt O ts base rs R)):GWp O ts P C c σ (yG1 O ts base rs R):=
 (tU0 h).mono fun _ _ hq=>hq.go
open Go.Av Go.Proofs
def tys:Nat->Option TI:=look [(1,⟨.other,1,8,[.nilFunc],true⟩),
 (3,⟨.int .i64,1,8,[.int .i64 0],true⟩),
 (4,⟨.bool,1,1,[.bool false],true⟩),
 (5,⟨.int .u8,1,1,[.int .u8 0],true⟩),
 (9,⟨.str,1,16,[.string ⟨#[]⟩],true⟩),
 (21,⟨.int .i32,1,4,[.int .i32 0],true⟩),
 (22,⟨.slice 24,1,24,[.slice none 0 0],true⟩),
 (23,⟨.struct [(0,3),(1,3),(2,9),(3,22)],4,56,[.int .i64 0,.int .i64 0,.string ⟨#[]⟩,.slice none 0 0],true⟩),
 (24,⟨.struct [(0,3),(1,3),(2,9),(3,22)],4,56,[.int .i64 0,.int .i64 0,.string ⟨#[]⟩,.slice none 0 0],true⟩),
 (25,⟨.other,1,8,[.nilFunc],true⟩),
 (26,⟨.slice 28,1,24,[.slice none 0 0],true⟩),
 (27,⟨.struct [(0,3),(1,3),(2,9),(3,26)],4,56,[.int .i64 0,.int .i64 0,.string ⟨#[]⟩,.slice none 0 0],true⟩),
 (28,⟨.struct [(0,3),(1,3),(2,9),(3,26)],4,56,[.int .i64 0,.int .i64 0,.string ⟨#[]⟩,.slice none 0 0],true⟩),
 (29,⟨.other,1,8,[.nilFunc],true⟩),
 (30,⟨.other,1,8,[.nilFunc],true⟩),
 (31,⟨.other,1,8,[.nilFunc],true⟩),
 (32,⟨.other,1,8,[.nilFunc],true⟩),
 (33,⟨.other,1,8,[.nilFunc],true⟩),
 (34,⟨.slice 82,1,24,[.slice none 0 0],true⟩),
 (35,⟨.slice 85,1,24,[.slice none 0 0],true⟩),
 (36,⟨.struct [(0,34),(1,35)],2,48,[.slice none 0 0,.slice none 0 0],true⟩),
 (37,⟨.struct [(0,34),(1,35)],2,48,[.slice none 0 0,.slice none 0 0],true⟩),
 (38,⟨.other,1,8,[.nilFunc],true⟩),
 (39,⟨.slice 58,1,24,[.slice none 0 0],true⟩),
 (40,⟨.slice 62,1,24,[.slice none 0 0],true⟩),
 (41,⟨.struct [(0,39),(1,40)],2,48,[.slice none 0 0,.slice none 0 0],true⟩),
 (42,⟨.struct [(0,39),(1,40)],2,48,[.slice none 0 0,.slice none 0 0],true⟩),
 (43,⟨.other,1,8,[.nilFunc],true⟩),
 (44,⟨.other,1,8,[.nilFunc],true⟩),
 (45,⟨.other,1,8,[.nilFunc],true⟩),
 (46,⟨.other,1,8,[.nilFunc],true⟩),
 (47,⟨.other,1,8,[.nilFunc],true⟩),
 (48,⟨.other,1,8,[.nilFunc],true⟩),
 (49,⟨.other,1,8,[.nilFunc],true⟩),
 (50,⟨.other,1,8,[.nilFunc],true⟩),
 (51,⟨.other,1,8,[.nilFunc],true⟩),
 (52,⟨.other,1,8,[.nilFunc],true⟩),
 (53,⟨.other,1,8,[.nilFunc],true⟩),
 (54,⟨.other,1,8,[.nilFunc],true⟩),
 (55,⟨.other,1,8,[.nilFunc],true⟩),
 (56,⟨.slice 92,1,24,[.slice none 0 0],true⟩),
 (57,⟨.struct [(0,3),(1,28),(5,56)],6,88,[.int .i64 0,.int .i64 0,.int .i64 0,.string ⟨#[]⟩,.slice none 0 0,.slice none 0 0],true⟩),
 (58,⟨.struct [(0,3),(1,28),(5,56)],6,88,[.int .i64 0,.int .i64 0,.int .i64 0,.string ⟨#[]⟩,.slice none 0 0,.slice none 0 0],true⟩),
 (59,⟨.other,1,8,[.nilFunc],true⟩),
 (60,⟨.slice 9,1,24,[.slice none 0 0],true⟩),
 (61,⟨.struct [(0,9),(1,60),(2,56)],3,64,[.string ⟨#[]⟩,.slice none 0 0,.slice none 0 0],true⟩),
 (62,⟨.struct [(0,9),(1,60),(2,56)],3,64,[.string ⟨#[]⟩,.slice none 0 0,.slice none 0 0],true⟩),
 (63,⟨.other,1,8,[.nilFunc],true⟩),
 (64,⟨.other,1,8,[.nilFunc],true⟩),
 (65,⟨.other,1,8,[.nilFunc],true⟩),
 (66,⟨.other,1,8,[.nilFunc],true⟩),
 (67,⟨.other,1,8,[.nilFunc],true⟩),
 (68,⟨.other,1,8,[.nilFunc],true⟩),
 (69,⟨.other,1,8,[.nilFunc],true⟩),
 (70,⟨.struct [(0,3),(1,3),(2,9)],3,32,[.int .i64 0,.int .i64 0,.string ⟨#[]⟩],true⟩),
 (71,⟨.struct [(0,3),(1,3),(2,9)],3,32,[.int .i64 0,.int .i64 0,.string ⟨#[]⟩],true⟩),
 (72,⟨.other,1,8,[.nilFunc],true⟩),
 (74,⟨.other,1,8,[.nilFunc],true⟩),
 (75,⟨.other,1,8,[.nilFunc],true⟩),
 (76,⟨.other,1,8,[.nilFunc],true⟩),
 (77,⟨.other,1,8,[.nilFunc],true⟩),
 (78,⟨.other,1,8,[.nilFunc],true⟩),
 (79,⟨.other,1,8,[.nilFunc],true⟩),
 (80,⟨.slice 127,1,24,[.slice none 0 0],true⟩),
 (81,⟨.struct [(0,3),(1,24),(5,80)],6,88,[.int .i64 0,.int .i64 0,.int .i64 0,.string ⟨#[]⟩,.slice none 0 0,.slice none 0 0],true⟩),
 (82,⟨.struct [(0,3),(1,24),(5,80)],6,88,[.int .i64 0,.int .i64 0,.int .i64 0,.string ⟨#[]⟩,.slice none 0 0,.slice none 0 0],true⟩),
 (83,⟨.other,1,8,[.nilFunc],true⟩),
 (84,⟨.struct [(0,9),(1,60),(2,80)],3,64,[.string ⟨#[]⟩,.slice none 0 0,.slice none 0 0],true⟩),
 (85,⟨.struct [(0,9),(1,60),(2,80)],3,64,[.string ⟨#[]⟩,.slice none 0 0,.slice none 0 0],true⟩),
 (86,⟨.other,1,8,[.nilFunc],true⟩),
 (87,⟨.other,1,8,[.nilFunc],true⟩),
 (88,⟨.other,1,8,[.nilFunc],true⟩),
 (89,⟨.other,1,8,[.nilFunc],true⟩),
 (90,⟨.other,1,8,[.nilFunc],true⟩),
 (91,⟨.struct [(0,3),(1,9),(2,9),(3,26),(4,56),(5,56)],6,112,[.int .i64 0,.string ⟨#[]⟩,.string ⟨#[]⟩,.slice none 0 0,.slice none 0 0,.slice none 0 0],true⟩),
 (92,⟨.struct [(0,3),(1,9),(2,9),(3,26),(4,56),(5,56)],6,112,[.int .i64 0,.string ⟨#[]⟩,.string ⟨#[]⟩,.slice none 0 0,.slice none 0 0,.slice none 0 0],true⟩),
 (93,⟨.other,1,8,[.nilFunc],true⟩),
 (94,⟨.other,1,8,[.nilFunc],true⟩),
 (95,⟨.other,1,8,[.nilFunc],true⟩),
 (96,⟨.other,1,8,[.nilFunc],true⟩),
 (97,⟨.other,1,8,[.nilFunc],true⟩),
 (98,⟨.other,1,8,[.nilFunc],true⟩),
 (99,⟨.other,1,8,[.nilFunc],true⟩),
 (100,⟨.other,1,8,[.nilFunc],true⟩),
 (101,⟨.other,1,8,[.nilFunc],true⟩),
 (102,⟨.other,1,8,[.nilFunc],true⟩),
 (104,⟨.other,1,8,[.nilFunc],true⟩),
 (105,⟨.other,1,8,[.nilFunc],true⟩),
 (106,⟨.other,1,8,[.nilFunc],true⟩),
 (107,⟨.slice 5,1,24,[.slice none 0 0],true⟩),
 (108,⟨.other,1,8,[.nilFunc],true⟩),
 (109,⟨.other,1,8,[.nilFunc],true⟩),
 (110,⟨.other,1,8,[.nilFunc],true⟩),
 (111,⟨.other,1,8,[.nilFunc],true⟩),
 (112,⟨.other,1,8,[.nilFunc],true⟩),
 (113,⟨.other,1,8,[.nilFunc],true⟩),
 (114,⟨.other,1,8,[.nilFunc],true⟩),
 (115,⟨.other,1,8,[.nilFunc],true⟩),
 (116,⟨.other,1,8,[.nilFunc],true⟩),
 (117,⟨.other,1,8,[.nilFunc],true⟩),
 (118,⟨.other,1,8,[.nilFunc],true⟩),
 (119,⟨.other,1,8,[.nilFunc],true⟩),
 (120,⟨.other,1,8,[.nilFunc],true⟩),
 (121,⟨.other,1,8,[.nilFunc],true⟩),
 (122,⟨.other,1,8,[.nilFunc],true⟩),
 (123,⟨.other,1,8,[.nilFunc],true⟩),
 (124,⟨.other,1,8,[.nilFunc],true⟩),
 (125,⟨.other,1,8,[.nilFunc],true⟩),
 (126,⟨.struct [(0,3),(1,9),(2,9),(3,22),(4,80),(5,80)],6,112,[.int .i64 0,.string ⟨#[]⟩,.string ⟨#[]⟩,.slice none 0 0,.slice none 0 0,.slice none 0 0],true⟩),
 (127,⟨.struct [(0,3),(1,9),(2,9),(3,22),(4,80),(5,80)],6,112,[.int .i64 0,.string ⟨#[]⟩,.string ⟨#[]⟩,.slice none 0 0,.slice none 0 0,.slice none 0 0],true⟩),
 (128,⟨.other,1,8,[.nilFunc],true⟩),
 (129,⟨.other,1,8,[.nilFunc],true⟩),
 (130,⟨.other,1,8,[.nilFunc],true⟩),
 (131,⟨.other,1,8,[.nilFunc],true⟩),
 (132,⟨.other,1,8,[.nilFunc],true⟩),
 (133,⟨.other,1,8,[.nilFunc],true⟩),
 (134,⟨.other,1,8,[.nilFunc],true⟩),
 (135,⟨.slice 137,1,24,[.slice none 0 0],true⟩),
 (136,⟨.struct [(0,3),(1,9),(2,135)],3,48,[.int .i64 0,.string ⟨#[]⟩,.slice none 0 0],true⟩),
 (137,⟨.struct [(0,3),(1,9),(2,135)],3,48,[.int .i64 0,.string ⟨#[]⟩,.slice none 0 0],true⟩),
 (139,⟨.other,1,8,[.nilFunc],true⟩),
 (140,⟨.other,1,8,[.nilFunc],true⟩),
 (141,⟨.other,1,8,[.nilFunc],true⟩),
 (142,⟨.ptr 144,1,8,[.pointer none],true⟩),
 (143,⟨.struct [(0,9),(1,3),(2,4),(3,3)],4,40,[.string ⟨#[]⟩,.int .i64 0,.bool false,.int .i64 0],true⟩),
 (144,⟨.struct [(0,9),(1,3),(2,4),(3,3)],4,40,[.string ⟨#[]⟩,.int .i64 0,.bool false,.int .i64 0],true⟩),
 (145,⟨.other,1,8,[.nilFunc],true⟩),
 (146,⟨.other,1,8,[.nilFunc],true⟩),
 (147,⟨.ptr 149,1,8,[.pointer none],true⟩),
 (148,⟨.struct [(0,9),(1,3),(2,3),(3,4)],4,40,[.string ⟨#[]⟩,.int .i64 0,.int .i64 0,.bool false],true⟩),
 (149,⟨.struct [(0,9),(1,3),(2,3),(3,4)],4,40,[.string ⟨#[]⟩,.int .i64 0,.int .i64 0,.bool false],true⟩),
 (150,⟨.other,1,8,[.nilFunc],true⟩),
 (151,⟨.other,1,8,[.nilFunc],true⟩),
 (153,⟨.other,1,8,[.nilFunc],true⟩),
 (154,⟨.slice 56,1,24,[.slice none 0 0],true⟩),
 (155,⟨.other,1,8,[.nilFunc],true⟩),
 (156,⟨.other,1,8,[.nilFunc],true⟩),
 (157,⟨.other,1,8,[.nilFunc],true⟩),
 (158,⟨.other,1,8,[.nilFunc],true⟩),
 (159,⟨.array 24 5,24,24,[.int .u8 0,.int .u8 0,.int .u8 0,.int .u8 0,.int .u8 0,.int .u8 0,.int .u8 0,.int .u8 0,.int .u8 0,.int .u8 0,.int .u8 0,.int .u8 0,.int .u8 0,.int .u8 0,.int .u8 0,.int .u8 0,.int .u8 0,.int .u8 0,.int .u8 0,.int .u8 0,.int .u8 0,.int .u8 0,.int .u8 0,.int .u8 0],true⟩),
 (165,⟨.other,1,8,[.nilFunc],true⟩),
 (166,⟨.other,1,8,[.nilFunc],true⟩),
 (167,⟨.slice 3,1,24,[.slice none 0 0],true⟩),
 (168,⟨.other,1,8,[.nilFunc],true⟩),
 (169,⟨.other,1,8,[.nilFunc],true⟩),
 (170,⟨.other,1,8,[.nilFunc],true⟩),
 (172,⟨.int .u32,1,4,[.int .u32 0],true⟩),
 (173,⟨.array 65 5,65,65,[.int .u8 0,.int .u8 0,.int .u8 0,.int .u8 0,.int .u8 0,.int .u8 0,.int .u8 0,.int .u8 0,.int .u8 0,.int .u8 0,.int .u8 0,.int .u8 0,.int .u8 0,.int .u8 0,.int .u8 0,.int .u8 0,.int .u8 0,.int .u8 0,.int .u8 0,.int .u8 0,.int .u8 0,.int .u8 0,.int .u8 0,.int .u8 0,.int .u8 0,.int .u8 0,.int .u8 0,.int .u8 0,.int .u8 0,.int .u8 0,.int .u8 0,.int .u8 0,.int .u8 0,.int .u8 0,.int .u8 0,.int .u8 0,.int .u8 0,.int .u8 0,.int .u8 0,.int .u8 0,.int .u8 0,.int .u8 0,.int .u8 0,.int .u8 0,.int .u8 0,.int .u8 0,.int .u8 0,.int .u8 0,.int .u8 0,.int .u8 0,.int .u8 0,.int .u8 0,.int .u8 0,.int .u8 0,.int .u8 0,.int .u8 0,.int .u8 0,.int .u8 0,.int .u8 0,.int .u8 0,.int .u8 0,.int .u8 0,.int .u8 0,.int .u8 0,.int .u8 0],true⟩),
 (174,⟨.int .u64,1,8,[.int .u64 0],true⟩),
 (175,⟨.other,1,8,[.nilFunc],true⟩),
 (176,⟨.other,1,8,[.nilFunc],true⟩),
 (177,⟨.other,1,8,[.nilFunc],true⟩),
 (178,⟨.ptr 180,1,8,[.pointer none],true⟩),
 (179,⟨.struct [(0,178),(1,107)],2,32,[.pointer none,.slice none 0 0],true⟩),
 (180,⟨.struct [(0,178),(1,107)],2,32,[.pointer none,.slice none 0 0],true⟩),
 (181,⟨.other,1,8,[.nilFunc],true⟩),
 (185,⟨.other,1,8,[.nilFunc],true⟩),
 (186,⟨.other,1,8,[.nilFunc],true⟩),
 (187,⟨.other,1,8,[.nilFunc],true⟩),
 (188,⟨.other,1,8,[.nilFunc],true⟩),
 (189,⟨.ptr 5,1,8,[.pointer none],true⟩),
 (190,⟨.array 32 5,32,32,[.int .u8 0,.int .u8 0,.int .u8 0,.int .u8 0,.int .u8 0,.int .u8 0,.int .u8 0,.int .u8 0,.int .u8 0,.int .u8 0,.int .u8 0,.int .u8 0,.int .u8 0,.int .u8 0,.int .u8 0,.int .u8 0,.int .u8 0,.int .u8 0,.int .u8 0,.int .u8 0,.int .u8 0,.int .u8 0,.int .u8 0,.int .u8 0,.int .u8 0,.int .u8 0,.int .u8 0,.int .u8 0,.int .u8 0,.int .u8 0,.int .u8 0,.int .u8 0],true⟩),
 (191,⟨.array 64 5,64,64,[.int .u8 0,.int .u8 0,.int .u8 0,.int .u8 0,.int .u8 0,.int .u8 0,.int .u8 0,.int .u8 0,.int .u8 0,.int .u8 0,.int .u8 0,.int .u8 0,.int .u8 0,.int .u8 0,.int .u8 0,.int .u8 0,.int .u8 0,.int .u8 0,.int .u8 0,.int .u8 0,.int .u8 0,.int .u8 0,.int .u8 0,.int .u8 0,.int .u8 0,.int .u8 0,.int .u8 0,.int .u8 0,.int .u8 0,.int .u8 0,.int .u8 0,.int .u8 0,.int .u8 0,.int .u8 0,.int .u8 0,.int .u8 0,.int .u8 0,.int .u8 0,.int .u8 0,.int .u8 0,.int .u8 0,.int .u8 0,.int .u8 0,.int .u8 0,.int .u8 0,.int .u8 0,.int .u8 0,.int .u8 0,.int .u8 0,.int .u8 0,.int .u8 0,.int .u8 0,.int .u8 0,.int .u8 0,.int .u8 0,.int .u8 0,.int .u8 0,.int .u8 0,.int .u8 0,.int .u8 0,.int .u8 0,.int .u8 0,.int .u8 0,.int .u8 0],true⟩),
 (194,⟨.other,1,8,[.nilFunc],true⟩),
 (200,⟨.other,1,8,[.nilFunc],true⟩)]
theorem MG0 {P:Program} {k:Nat} {v:TI} {l:List (Nat×TI)} (h:tyOf P k=some v) (hl:∀n ti,look l n=some ti->tyOf P n=some ti):∀n ti,look ((k,v)::l) n=some ti->tyOf P n=some ti:=by
 intro n ti hx;simp only[look] at hx
 split at hx
 ·rename_i hk;subst hk;simp at hx;subst hx;exact h
 ·exact hl n ti hx
theorem look_nil {P:Program}:∀n ti,look [] n=some ti->tyOf P n=some ti:=by intro n ti hx;simp[look] at hx
set_option maxRecDepth 100000 in
theorem tyK:∀n ti,tys n=some ti->tyOf Tryz.prog n=some ti:=by
 unfold tys
 repeat' first | exact look_nil | refine MG0 (by kernel_rfl) ?_
abbrev EqOk (f:FuncId) (a:AV):Prop:=ACl Tryz.prog f [a,a] [] (fun res bx=>res=litB true/\bx=[])
end Go.Gv
/- A fork whose bit is known is none. -/
namespace Go.Gv
open Go.Av
theorem MY0 {b:Bool} {x y:Unit->Prop} (hb:b=true) (h:x ()):GFork b x y:=⟨fun _=>h,fun h'=>absurd (hb.symm.trans h') (by decide)⟩
theorem MZ0 {b:Bool} {x y:Unit->Prop} (hb:b=false) (h:y ()):GFork b x y:=⟨fun h'=>absurd (hb.symm.trans h') (by decide),fun _=>h⟩
end Go.Gv
