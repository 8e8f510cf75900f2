/- Part T7 of the proof: contracts of functions of the program, each walked once. -/
import Derived.Test.YtfobhlmjcnkpiaaGreatDoorT6
import Derived.Test.YtfobhlmjcnkpiaaGreatDoorD9
set_option linter.all false
namespace Go.Gv
open Go.Av Go.Proofs
set_option maxRecDepth 10000
set_option maxHeartbeats 8000000
variable {I:∀{α:Type},α->α}
theorem pg_sz {r r':Ru} {rest:List Ru} {fns:List Fu} (h1:rest.length<=2) (h2:Ru.szs (r::rest)<=825000) (h3:r'.sz<=r.sz+100000) (h4:fns.length<=3) (h5:Fu.szs fns<=91000):(Pg.mk (r'::rest) fns).sz<=1040000:=by
 simp only[Pg.sz,Ru.szs,List.map_cons,List.sum_cons,List.length_cons] at h2 |-;omega
theorem dB0 (l m:List Fu):Fu.szs (l++m)=Fu.szs l+Fu.szs m:=by simp[Fu.szs]
theorem rG1 (l:List Fu) (n:Nat):Fu.szs (l.take n)<=Fu.szs l:=by
 have h:=dB0 (l.take n) (l.drop n);rw[List.take_append_drop] at h;omega
theorem JP0 {l:List Ru} (h:∀r∈l,r.a≠[]) (n:Nat) (g:yA0):((jJ0 l).map (unP [0] 2 g)).all (goes n)=true:=by
 induction l with
 | nil=>rfl
 | cons r l ih=>
  rw[nE0 (h r List.mem_cons_self),List.map_append,List.all_append,ih fun r hr=>h r (List.mem_cons_of_mem _ hr),Bool.and_true]
  rfl
theorem yK1 {l:List Ru} (h:∀r∈l,r.a≠[]) (g:yA0):(((jJ0 l).map (unP [0] 2 g)).map A.reset).map A.roC=(l.map Ru.t).flatten.map (tA true):=by
 rw[<-RR0 h];clear h;generalize hX:jJ0 l=X;have hp:∀a∈X,(A.reset (unP [0] 2 g a)).roC=a.roC:=by
  subst hX;intro a ha;obtain ⟨t,_,rfl⟩:=List.mem_map.1 ha;cases t<;>rfl
 simp only[List.map_map];exact List.map_congr_left hp
theorem tZ0 {cs L:List A} {r:Ru} {rest:List Ru} (h1:cs.map A.roC=r.t.map (tA true)) (h2:L.map A.roC=(rest.map Ru.t).flatten.map (tA true)):(cs++L).map A.roC=((r::rest).map Ru.t).flatten.map (tA true):=by
 rw[List.map_append,h1,h2,List.map_cons,List.flatten_cons,List.map_append]
theorem PK0 (hI:II @I):Dr @I 23 [] (fun p:Pg=>p.sz<=1040000) (fun p=>pA @I p):=by
 intro b u hb hu;refine wV1 (els:=fun x:Pg×Cu=>I (x.1.rules.map Ru.t)) (els2:=fun x=>I (x.1.fns.map Fu.t)) (b:=fun x=>[cuB @I b x.2]) 1 rfl ?_;have c1:=MP0 hI;refine qN hI tyK Tryz.func23 81 [.cell 2 32] ?_;unhygienic intros
 refine qB 1 ?_
 repeat' first|refine qA 1 ?_|refine qJe (nN [0]) fun x hx=>?_|refine qp ?_ ?_|refine qk (fun h=>?_) fun h=>?_<;>try(exfalso;omega)|fail
 obtain ⟨⟨r,rest⟩,fns,cu⟩:=x;obtain ⟨⟨hr1,hr2,hr3⟩,⟨hf1,hf2⟩,hcu⟩:=hx;simp only at hr1 hr2 hr3 hf1 hf2 hcu |-;clear c1;have c2:=yL0 hI;have c3:=rT1 hI;have c4:=tT0 hI;have c5:=TB0 hI
 dsimp only [Dr] at c2 c3 c4 c5
 have hrz:Ru.szs (r::rest)=r.p.sz+(r.a.length+Sm.szs r.a)+Ru.szs rest:=by simp only[Ru.szs,List.map_cons,List.sum_cons,Ru.sz]
 have hal:r.a.length<=825000:=by omega
 have q1:idx 0 (I (rest.length+1)):=F.n8 0 _ ⟨by decide,by omega⟩
 have e1:∀(y:Sm) (z:List T),seg 0 (len (app (I (r.a.map Sm.t)) [z])) (I ((r.a++[y]).map Sm.t))=I ((r.a++[y]).map Sm.t):=by
  intro y z;simp only[hI.e];cases hO;simp only[Ops.std,List.length_append,List.length_map,List.length_singleton,List.map_append,List.map_singleton,List.drop_zero];exact List.take_of_length_le (by simp)
 have qb:∀x:Int,0<=x->x < 2->bnd (I x) (I fns.length):=by intro x h1 h2;simp only[hI.e];cases hO;exact ⟨h1,by omega⟩
 have ql:∀n,le 0 n:=by intro n;cases hO;exact Nat.zero_le _
 have hfin:∀{r':Ru} {fns':List Fu} {x:Cu} {c:A} {cells:List A} {bx:List (Option (List A))},r'.sz<=r.sz+100000->fns'.length<=3->Fu.szs fns'<=91000->x.i<=b.length->bx[2]?=some (some cells)->cells.map A.roC=((r'::rest).map Ru.t).flatten.map (tA true)->c.roC=.ro true (I (fns'.map Fu.t))->(bx.take 1).map (wM0 1)=[cuB @I b x]->R ⟨.agg,[.bsl 2 6 (I (rest.length+1)),c]⟩ bx:=
  fun {r' fns' x c cells bx} h1 h2 h3 h4 h5 h6 h7 h8=>hR _ _ ⟨(⟨r'::rest,fns'⟩,x),⟨pg_sz hr1 hr2 h1 h2 h3,h4⟩,yF1 hI (hI.e _) (by decide) h5 h6 h7 h8⟩
 have a1:=fun n g=>JP0 (fun r hr=>hr3 r (List.mem_cons_of_mem _ hr)) n g;have a2:=fun g=>yK1 (fun r hr=>hr3 r (List.mem_cons_of_mem _ hr)) g;rw[<-hI.e (jJ0 rest)] at a1 a2;generalize I (jJ0 rest)=X at *;refine qJe (nN [0]) fun x hx=>?_;refine qAd 1 1001 16 [] ?_;refine qk (fun h=>?_) fun h=>?_
 ·as_aux_lemma=>
   repeat' first|refine qAd 1 1001 16 [(29,2,5),(43,2,5),(62,3,1)] ?_|refine qJe (nN [0]) fun x hx=>?_|refine qp ?_ ?_|(intro K hK;refine ndC (qb x.1 hx.1.1 (hx.1.2 (by decide))) (ndC (ql _) ?_);revert hK K;refine qAd 1 1001 16 [] ?_)|fail
   all_goals (cases X<;>exact hfin (r':=⟨x.1,r.p,r.a⟩) (fns':=fns) (by simp only[Ru.sz];omega) (by omega) (by omega) hx.2 (congrArg some (if_pos (a1 4 (2,1)))) (by exact tZ0 (cs:=[_,_,_,_,_,_]) (by simp only[hI.e,Ru.tI (I:=@id) rfl,List.map,A.reset,A.roC,tA,erD,Sm.er_map,id]<;>rfl) (a2 (2,1))) rfl rfl)
 refine qAd 1 1001 16 [] ?_;refine qk (fun h=>?_) fun h=>?_
 ·as_aux_lemma=>
   repeat' first|refine qAd 1 1001 16 [(29,2,5),(43,2,5),(62,3,1)] ?_|refine qJe (nN [0]) fun x hx=>?_|refine qp ?_ ?_|(intro K hK;refine ndC (qb x.1 hx.1.1 (hx.1.2 (by decide))) (ndC (ql _) ?_);revert hK K;refine qAd 1 1001 16 [] ?_)|fail
   all_goals (cases X<;>exact hfin (r':=⟨r.k,r.p,r.a++[x.1]⟩) (fns':=fns) (by simp only[Ru.sz,List.length_append,List.length_singleton];rw[qN0];simp only[Sm.szs];have:=hx.1;omega) (by omega) (by omega) hx.2 (congrArg some (if_pos (a1 5 (2,1)))) (by exact tZ0 (cs:=[_,_,_,_,_,_]) (by simp only[hI.e,Ru.tI (I:=@id) rfl,List.map,A.reset,A.roC,tA,erD,Sm.er_map,id]<;>rfl) (a2 (2,1))) rfl rfl)
 refine qAd 1 1001 16 [] ?_;refine qk (fun h=>?_) fun h=>?_
 ·as_aux_lemma=>
   repeat' first|refine qAd 1 1001 16 [(29,2,5),(43,2,5),(62,3,1)] ?_|refine qJe (nN [0]) fun x hx=>?_|refine qp ?_ ?_|(intro K hK;refine ndC (qb x.1 hx.1.1 (hx.1.2 (by decide))) (ndC (ql _) ?_);revert hK K;refine qAd 1 1001 16 [] ?_)|fail
   all_goals (rename_i s1 hs1 s2 hs2;cases X<;>exact hfin (r':=r) (fns':=fns++[⟨s1.1,[s2.1,x.1],[]⟩]) (by omega) (by simp only[List.length_append,List.length_singleton];omega) (by rw[dB0];simp only[Fu.szs,List.map,List.sum_cons,List.sum_nil,Fu.sz,mV0,List.length_cons,List.length_nil,Sm.szs];have:=hs1.1;have:=hs2.1;have:=hx.1;simp only[Fu.szs] at hf2;omega) hx.2 (congrArg some (if_pos (a1 4 (2,1)))) (by exact tZ0 (cs:=[_,_,_,_,_,_]) (by simp only[hI.e,Ru.tI (I:=@id) rfl,List.map,A.reset,A.roC,tA,erD,Sm.er_map,id]<;>rfl) (a2 (2,1))) (by simp only[A.roC,erD,hI.e,List.map_append];cases hO;rfl) rfl)
 refine qAd 1 1001 16 [] ?_;refine qk (fun h=>?_) fun h=>?_
 ·as_aux_lemma=>
   repeat' first|refine qAd 1 1001 16 [(29,2,5),(43,2,5),(62,3,1)] ?_|refine qJe (nN [0]) fun x hx=>?_|refine qp ?_ ?_|(intro K hK;refine ndC (qb x.1 hx.1.1 (hx.1.2 (by decide))) (ndC (ql _) ?_);revert hK K;refine qAd 1 1001 16 [] ?_)|fail
   all_goals (cases X<;>exact hfin (r':=⟨r.k,x.1,r.a⟩) (fns':=fns) (by simp only[Ru.sz];have:=hx.1;omega) (by omega) (by omega) hx.2 (congrArg some (if_pos (a1 4 (2,1)))) (by exact tZ0 (cs:=[_,_,_,_,_,_]) (by simp only[hI.e,Ru.tI (I:=@id) rfl,List.map,A.reset,A.roC,tA,erD,Sm.er_map,id]<;>rfl) (a2 (2,1))) rfl rfl)
 refine qAd 1 1001 16 [] ?_;refine qk (fun h=>?_) fun h=>?_
 ·as_aux_lemma=>
   repeat' first|refine qAd 1 1001 16 [(29,2,5),(43,2,5),(62,3,1)] ?_|refine qJe (nN [0]) fun x hx=>?_|refine qp ?_ ?_|(intro K hK;refine ndC (qb x.1 hx.1.1 (hx.1.2 (by decide))) (ndC (ql _) ?_);revert hK K;refine qAd 1 1001 16 [] ?_)|fail
   all_goals (cases X<;>exact hfin (r':=r) (fns':=fns.take x.1.toNat) (by omega) (by rw[List.length_take];omega) (by have:=rG1 fns x.1.toNat;omega) hx.2 (congrArg some (if_pos (a1 4 (2,1)))) (by exact tZ0 (cs:=[_,_,_,_,_,_]) (by simp only[hI.e,Ru.tI (I:=@id) rfl,List.map,A.reset,A.roC,tA,erD,Sm.er_map,id]<;>rfl) (a2 (2,1))) (by simp only[A.roC,erD,hI.e];cases hO;simp[Ops.std,List.map_take]) rfl)
 repeat' first|refine qAd 1 1001 16 [(29,2,5),(43,2,5),(62,3,1)] ?_|refine qJe (nN [0]) fun x hx=>?_|refine qp ?_ ?_|(intro K hK;refine ndC (qb x.1 hx.1.1 (hx.1.2 (by decide))) (ndC (ql _) ?_);revert hK K;refine qAd 1 1001 16 [] ?_)|fail
 all_goals (cases X<;>exact hfin (r':=r) (fns':=fns) (by omega) (by omega) (by omega) hx.2 (congrArg some (if_pos (a1 4 (2,1)))) (by exact tZ0 (cs:=[_,_,_,_,_,_]) (by simp only[hI.e,Ru.tI (I:=@id) rfl,List.map,A.reset,A.roC,tA,erD,Sm.er_map,id]<;>rfl) (a2 (2,1))) rfl rfl)
end Go.Gv
