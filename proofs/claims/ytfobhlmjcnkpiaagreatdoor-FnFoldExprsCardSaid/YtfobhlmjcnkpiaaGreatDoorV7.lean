/- Part V7 of the proof: contracts of functions of the program, each walked once. -/
import Derived.Test.YtfobhlmjcnkpiaaGreatDoorV5
import Derived.Test.YtfobhlmjcnkpiaaGreatDoorV6
import Derived.Test.YtfobhlmjcnkpiaaGreatDoorT5
set_option linter.all false
namespace Go.Gv
open Go.Av Go.Proofs
set_option maxRecDepth 10000
set_option maxHeartbeats 8000000
variable {I:∀{α:Type},α->α}
theorem PW0 {P:Program} {f:FuncId} {a1 a2:List (List T)} {W:Bool->Prop} (h:ACl P f [⟨.agg,[.ro true a1,.ro true a2]⟩] [] (fun res bx=>∃b,W b/\res=litB b/\bx=[])):ACl P f [⟨.agg,[.ro false a1,.ro false a2]⟩] [] (fun res bx=>∃b,W b/\res=litB b/\bx=[]):=by
 intro w vals S L bl O1 O2 h1 h2 h3 h4 h5 h6;refine (h w vals L L bl O1 O2 h1 h2 h3 (fun _ h=>h) h5 fun x hx=>⟨h4 _ (h6 x hx).1,(h6 x hx).2⟩).mono ?_;rintro e w' ⟨v,rfl,res,bx',S',bl',o1,o2,⟨b,hW,rfl,rfl⟩,hv,hb,hn,hs,hSS,hS',hk,ho,hp⟩;refine ⟨v,rfl,_,_,S,bl',o1,o2,⟨b,hW,rfl,rfl⟩,hv,hb,hn,fun b hb=>hs b (hSS b (h4 b hb)),fun _ h=>h,fun b hb=>.inl hb,hk,ho,hp⟩
def cvP:List A->List A
 | c::d::r=>A.dp (A.owF 6 c)::A.owF 3 d::r
 | l=>l
theorem RpA.cvP {E:Env}:∀{cs:List A} {us:List Value} {own:List Nat},RpA E cs us own->RpA E (Go.Gv.cvP cs) us own
 | [],_,_,h=>h
 | [_],_,_,h=>h
 | c::d::r,us,own,h=>by
  obtain ⟨u,us',o1,o2,rfl,rfl,h3,u2,us2,o3,o4,rfl,rfl,h5,h6⟩:=h;exact ⟨u,_,o1,_,rfl,rfl,RepA.dp (RepA.owF h3),u2,us2,o3,o4,rfl,rfl,RepA.owF h5,h6⟩
theorem qP1 {P:Program} {f:FuncId} {args:List AV} {bx:List (Option (List A))} {R:AV->List (Option (List A))->Prop} (h:ACl P f args bx (fun res bx=>R ⟨res.sh,cvP res.cs⟩ bx)):ACl P f args bx R:=by
 intro w vals S L bl O1 O2 h1 h2 h3 h4 h5 h6;refine (h w vals S L bl O1 O2 h1 h2 h3 h4 h5 h6).mono ?_;rintro e w' ⟨v,rfl,res,bx',S',bl',o1,o2,hR,hv,hr⟩;refine ⟨v,rfl,_,bx',S',bl',o1,o2,hR,?_,hr⟩;obtain ⟨sh,cs⟩:=res;cases sh with
 | any=>
  have hc:cs=[]:=hv.1;subst hc;exact hv
 | one=>exact ⟨hv.1,RpA.cvP hv.2⟩
 | agg=>exact ⟨hv.1,RpA.cvP hv.2⟩
 | tup ns=>exact ⟨hv.1,RpA.cvP hv.2⟩
@[simp,reducible] def pgC (I:∀{α:Type},α->α) (x:Pg×Bool):AV:=⟨.tup [(true,2),(false,1)],[.ow (0,0) true 6 (I (x.1.rules.map Ru.t)),.ow (0,0) false 3 (I (x.1.fns.map Fu.t)),.lit (.bool (I x.2))]⟩
theorem pZ1 (l:List Vl) (b:Bool) (hl:l.length<=2000) (hI:II @I) (hT:∀t∈l,t.s.size<=200):(vU0 l b).2.i<=l.length:=by
 have hF:=bB0 hI l (by omega) hT 20 (by omega)
 have hB:=bC0 hI l (by omega) hT 20 (by omega)
 exact (bN0 (fun r=>GF0 hF.le hB.le r) _ _).w ((QJ0 (fun r=>nK1 hB.le r) _ _).w (Nat.zero_le _))
section
variable (hI:II @I)
include hI
theorem zU1 (s:ByteArray) (hs:s.size<=1048576):ACl Tryz.prog 131 [litS (I s)] [] (fun res bx=>∃x:List Vl×Bool,(x.1.length<=2000/\∀t∈x.1,t.s.size<=200)/\res=⟨.one,[.ptr 0 0]⟩/\bx=[rdB @I x.1 ⟨0,x.2,0⟩]):=by
 have c1:=x_Lex hI s hs;refine qN hI tyK Tryz.func131 15 [.tmp 2] ?_;unhygienic intros
 refine qB 0 ?_
 repeat' first|refine qA 0 ?_|refine qJe (nN []) fun x hx=>?_|refine qp ?_ ?_|refine qk (fun h=>?_) fun h=>?_|fail
 exact hR _ _ ⟨(x.1,_),hx,rfl,by simp only[rdB,hI.e];rfl⟩
theorem YX0 (s:ByteArray) (hs:s.size<=1048576) (cO:∀p:Pg,p.sz<=1048576->ACl Tryz.prog 37 [pA @I p] [] (fun res bx=>∃b:Bool,(b=true↔p.good)/\res=litB b/\bx=[])):ACl Tryz.prog 94 [litS (I s)] [] (fun res bx=>∃x:Pg×Bool,x.1.sz<=420000/\res=pgC @I x/\bx=[]):=by
 refine qP1 ?_;have c1:=zU1 hI s hs;refine qN hI tyK Tryz.func94 76 [.cell 2 32,.tmp 3] ?_;unhygienic intros
 refine qB 0 ?_
 repeat' first|refine qA 0 ?_|refine qJe (nN []) fun x hx=>?_|refine qp ?_ ?_|refine qk (fun h=>?_) fun h=>?_|fail
 obtain ⟨l,b⟩:=x;obtain ⟨hl,hT⟩:=hx;simp only at hl hT |-;clear c1;obtain ⟨x,e⟩:∃x,x=tJ1 l b:=⟨_,rfl⟩;have hx0:x.1.sz<=420000:=by
  have h1:=vB1 (l:=l) hT b;have h2:=pZ1 l b hl hI hT;rw[e,tJ1]
  split
  ·rename_i q;have:=h1 q.1;show Pg.sz ⟨(vU0 l b).1,(XB0 l b).1⟩<=420000;omega
  ·show Pg.sz ⟨[],[]⟩<=_;simp[Pg.sz,Ru.szs,Fu.szs]
 have hl':l.length<=1048576:=by omega
 have hF:=bB0 hI l hl' hT 20 (by omega)
 have hB:=bC0 hI l hl' hT 20 (by omega)
 have hbl:=fun r=>(kH0 (l:=l) 20 (by omega) r).2
 have cG:=fun (r:Rd) (x:Fu×Rd) (hj:JD (20 - (20:Nat)) r) (e:x=pFn l (yU0 l 20) r)=>rd_fn hI l hl' hT hB hj e;have cH:=fun (r:Rd) (x:Ru×Rd) (hj:JD (20 - (20:Nat)) r) (e:x=rW0 l (wQ0 l 20) (yU0 l 20) r)=>tA1 hI l hl' hF hB hj e;have lG:=fun r=>nK1 (l:=l) hB.le r;have lH:=fun r=>GF0 (l:=l) hF.le hB.le r;have tH:=fun r=>tT1 (l:=l) (r:=r) hF.le hbl;have hz:=vB1 (l:=l) hT b;unfold tJ1 at e
 unfold vU0 XB0 at e hz;generalize pFn l (yU0 l 20)=gg at *;generalize rW0 l (wQ0 l 20) (yU0 l 20)=hh at *;clear hF hB hbl;obtain ⟨y,hy⟩:∃y,y=pFns l gg (l.length+2) ⟨0,b,0⟩:=⟨_,rfl⟩;have wy:y.2.i<=l.length:=by rw[hy];exact (QJ0 lG _ _).w (Nat.zero_le _)
 have jy:JD (20 - (20:Nat)) y.2:=by rw[hy];exact (QJ0 lG _ _).j (.inr rfl)
 rw[<-hy] at e hz;have i0:(I (0:Nat))=0:=by rw[hI.e]
 refine qLf 3 [2,3,4,5] (kkB 2 1 3) (fun a:List Fu×Rd×Nat=>⟨vag 76 [(2,⟨.one,[.ptr 0 0]⟩),(3,litB false),(4,⟨.one,[.ptr 1 0]⟩),(5,⟨.one,[.ptr 2 0]⟩)],[some [.nil,.nil],rdB @I l a.2.1,some [.nil,.ow (0,0) false 3 (I (a.1.map Fu.t))]],1⟩)
  (fun a=>JD (20 - (20:Nat)) a.2.1/\a.1.length+a.2.2<=l.length+2/\(l.length < a.2.1.i+a.2.2)/\y=(a.1++(pFns l gg a.2.2 a.2.1).1,(pFns l gg a.2.2 a.2.1).2)) (fun a=>a.2.2) ?_ fun a ha=>?_
 ·cbv
  exact ⟨([],⟨0,b,0⟩,l.length+2),by simp only[hI.e];rfl,.inr rfl,by simp,by simp only;omega,by simp[hy]⟩
 obtain ⟨acc,rc,m⟩:=a;obtain ⟨hjc,hlen,hin,hyv⟩:=ha;simp only at hjc hlen hin hyv |-;have hacc:acc.length<=1048580:=by omega
 by_cases hP:pSee l rc 2 ⟨⟨[102,117,110,99]⟩⟩
 ·have n1:¬rc.bad=true:=by rw[hP.1];decide
  have n2:=hP.2.1;obtain ⟨m,rfl⟩:∃m',m=m' + 1:=⟨m - 1,by omega⟩
  rw[pFns,if_pos hP] at hyv;obtain ⟨r4,h4⟩:∃r4,r4=rc.adv:=⟨_,rfl⟩;have c1:=is_t hI l hl' hP h4;have j4:JD (20 - (20:Nat)) r4:=by rw[h4];exact rN0 hjc
  obtain ⟨z,hzz⟩:∃z,z=gg r4:=⟨_,rfl⟩;have c2:=cG r4 z j4 hzz;have lz:=lG r4;rw[<-hzz] at lz;have jz:=lz.j j4;have iz:=lz.i;have i4:r4.i=rc.i+1:=by rw[h4];rfl
  rw[<-h4,<-hzz] at hyv;clear hP h4 hzz lz cG cH lG lH tH e hy cO hz;have e1:app (I (acc.map Fu.t)) [[.lit (.string (I z.1.name)),.sl (I (z.1.params.map strT)),.sl (I (z.1.a.map Sm.t))]]=I ((acc++[z.1]).map Fu.t):=by simp only[hI.e];cases hO;exact mE1 _ _
  refine qB 0 ?_
  repeat' first|refine qA 0 ?_|refine qJ (nN [1]) ?_|refine qp ?_ ?_|refine qk (fun h=>?_) fun h=>?_|fail
  all_goals first
   | exact absurd n2 (by assumption)
   | exact absurd (Classical.not_not.1 (by assumption)) n1
   | exact ⟨(acc++[z.1],z.2,m),by (try simp only[A.reset,xV0,hI.e]);rfl,⟨jz,by simp only[List.length_append,List.length_cons,List.length_nil];omega,by simp only;omega,by simp only;rw[hyv];simp⟩,by simp only;omega⟩
 ·have hp:pFns l gg m rc=([],rc):=by
   cases m with
   | zero=>rw[pFns]
   | succ m=>rw[pFns,if_neg hP]
  rw[hp] at hyv;simp only[List.append_nil] at hyv;have c1:=is_f hI l hl' hP;clear hy jy;subst hyv
  dsimp only at e hz wy
  generalize hy2':wA0 l hh (l.length+2) rc=y2 at e hz;have hy2:=hy2'.symm;clear hy2';have wy2:y2.2.i<=l.length:=by rw[hy2];exact (bN0 lH _ _).w wy
  clear hP cG lG hin wy;refine qB 0 ?_
  repeat' first|refine qA 0 ?_|refine qJ (nN [1]) ?_|refine qp ?_ ?_|refine qk (fun h=>?_) fun h=>?_|fail
  all_goals (
   clear c1;refine qLf 3 [2,3,4,5] (kkB 2 0 6) (fun a:List Ru×Rd×Nat=>⟨vag 76 [(2,⟨.one,[.ptr 0 0]⟩),(3,litB false),(4,⟨.one,[.ptr 1 0]⟩),(5,⟨.one,[.ptr 2 0]⟩)],[some [.nil,.nil],rdB @I l a.2.1,some [.ow (0,0) false 6 (I (a.1.map Ru.t)),.ow (0,0) false 3 (I (acc.map Fu.t))]],1⟩)
    (fun a=>JD (20 - (20:Nat)) a.2.1/\a.1.length+a.2.2<=l.length+2/\(a.2.1.bad=true\/l.length < a.2.1.i+a.2.2)/\y2=(a.1++(wA0 l hh a.2.2 a.2.1).1,(wA0 l hh a.2.2 a.2.1).2)) (fun a=>a.2.2) ?_ fun a ha=>?_
   ·cbv
    exact ⟨([],rc,l.length+2),by simp only[hI.e];rfl,hjc,by simp,.inr (by simp only;omega),by simp[hy2]⟩
   obtain ⟨ac2,rd,m2⟩:=a;obtain ⟨hjd,hlen2,hin2,hyv2⟩:=ha;simp only at hjd hlen2 hin2 hyv2 |-;have hac2:ac2.length<=1048580:=by omega
   clear hy2
   by_cases hQ:rd.i < l.length/\rd.bad=false
   ·have n1:¬rd.bad=true:=by rw[hQ.2];decide
    have n2:=hQ.1;have hin2:=hin2.resolve_left n1;obtain ⟨m2,rfl⟩:∃m',m2=m' + 1:=⟨m2 - 1,by omega⟩
    rw[wA0,if_pos hQ] at hyv2;obtain ⟨z,hzz⟩:∃z,z=hh rd:=⟨_,rfl⟩;have c2:=cH rd z hjd hzz;have lz:=lH rd;have tz:=tH rd;rw[<-hzz] at lz tz hyv2;have jz:=lz.j hjd;have inz:z.2.bad=true\/l.length < z.2.i+m2:=by
     by_cases q:z.2.bad=true
     ·exact .inl q
     ·have:=tz (Bool.eq_false_iff.2 q)
      exact .inr (by omega)
    clear hQ hzz lz tz cH lH tH e cO hz;have e1:app (I (ac2.map Ru.t)) [[.lit (.int .i64 (I z.1.k)),.lit (.int .i64 (I z.1.p.k)),.lit (.int .i64 (I z.1.p.n)),.lit (.string (I z.1.p.s)),.sl (I (z.1.p.l.map Ex.t)),.sl (I (z.1.a.map Sm.t))]]=I ((ac2++[z.1]).map Ru.t):=by simp only[hI.e];cases hO;exact pU1 _ _
    refine qB 0 ?_
    (repeat' first|refine qA 0 ?_|refine qJ (nN [1]) ?_|refine qp ?_ ?_|refine qk (fun h=>?_) fun h=>?_|fail)
    all_goals first
     | exact absurd n2 (by assumption)
     | exact absurd (Classical.not_not.1 (by assumption)) n1
     | exact ⟨(ac2++[z.1],z.2,m2),by (try simp only[A.reset,xV0,hI.e]);rfl,⟨jz,by simp only[List.length_append,List.length_cons,List.length_nil];omega,inz,by simp only;rw[hyv2];simp⟩,by simp only;omega⟩
     | trace_state
   ·have hp2:wA0 l hh m2 rd=([],rd):=by
     cases m2 with
     | zero=>rw[wA0]
     | succ m=>rw[wA0,if_neg hQ]
    rw[hp2] at hyv2;simp only[List.append_nil] at hyv2;rw[hyv2] at e hz wy2;simp only at e hz wy2;have hQ':¬rd.bad=true->¬rd.i < l.length:=fun q1 q2=>hQ ⟨q2,Bool.eq_false_iff.2 q1⟩;clear hQ cH lH tH hin2 hyv2 hp2
    by_cases hbad:rd.bad=true
    ·have q:x=(⟨[],[]⟩,false):=by rw[e,if_neg fun q=>by rw[q.1] at hbad;exact absurd hbad (by decide)]
     clear e hz cO;refine qB 0 ?_
     (repeat' first|refine qA 0 ?_|refine qJ (nN []) ?_|refine qp ?_ ?_|refine qk (fun h=>?_) fun h=>?_|fail)
     all_goals first | exact absurd hbad (by assumption) | exact absurd hbad (Classical.not_not.1 (by assumption)) | exact hR _ _ ⟨x,hx0,by rw[q];simp only[cvP,A.dp,A.owF,hI.e,pgC,List.map],rfl⟩
    ·have hz:=hz (Bool.eq_false_iff.2 hbad)
     have c0:=cO ⟨ac2,acc⟩ (by omega)
     by_cases hg:(⟨ac2,acc⟩:Pg).good
     ·have c2:=mR1 (PW0 c0) hg
      have q:x=(⟨ac2,acc⟩,true):=by rw[e,if_pos ⟨Bool.eq_false_iff.2 hbad,hg⟩]
      clear e hz cO c0 hg;refine qB 0 ?_
      (repeat' first|refine qA 0 ?_|refine qJ (nN []) ?_|refine qp ?_ ?_|refine qk (fun h=>?_) fun h=>?_|fail)
      all_goals first | exact absurd (by assumption) hbad | exact absurd (Classical.not_not.1 (by assumption)) hbad | exact absurd (by assumption) (hQ' (by assumption)) | exact hR _ _ ⟨x,hx0,by rw[q];simp only[cvP,A.dp,A.owF,hI.e,pgC,List.map],rfl⟩
     ·have c2:=mT1 (PW0 c0) hg
      have q:x=(⟨[],[]⟩,false):=by rw[e,if_neg fun q=>hg q.2]
      clear e hz cO c0 hg;refine qB 0 ?_
      (repeat' first|refine qA 0 ?_|refine qJ (nN []) ?_|refine qp ?_ ?_|refine qk (fun h=>?_) fun h=>?_|fail)
      all_goals first | exact absurd (by assumption) hbad | exact absurd (Classical.not_not.1 (by assumption)) hbad | exact absurd (by assumption) (hQ' (by assumption)) | exact hR _ _ ⟨x,hx0,by rw[q];simp only[cvP,A.dp,A.owF,hI.e,pgC,List.map],rfl⟩)
end
end Go.Gv
