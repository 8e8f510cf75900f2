/- Proved: Rows.FnExactGenBlockSaid: whatever program, number and statements it is given, laws.FnExactGenBlock returns true, and they read behind the call as they read before. There is no condition. -/
import Derived.Test.YtomgmhbmchidnaaGreatL2
import Derived.Test.YtomgmhbmchidnaaGreatL3
import Derived.Test.YtomgmhbmchidnaaGreatFacts
import Derived.Test.YtomgmhbmchidnaaGreatRows
set_option linter.all false
namespace Go.Proofs.YtomgmhbmchidnaaGreat.fnExactGenBlockDone
open Go.ChangeShapes Go.WideShapes Go.ChangeAt Go.RowKit
theorem own:ownKnob Tryz.prog.godebug=none:=by kernel_rfl
theorem laidOut:laidOutB Tryz.prog=true:=by kernel_rfl
theorem plain:Go.Gv.plainSet Tryz.prog [3,9,22,23,25,26,62,64,71,118,120,123]=true:=by kernel_rfl
set_option maxRecDepth 100000 in
theorem lifted (os:Os) (started:os.Started) (H:Type) (enc:TypeId×Value->H) :
  ReturnsInHanded {} Tryz.checked os 3 .any (Rows.fnExactGenBlockSpec.pre6 enc Tryz.prog Tryz.f3 Rows.fnExactGenBlockRow.domain false) (Rows.fnExactGenBlockSpec.post enc Tryz.prog Tryz.f3 false true false false):=by
 refine returnsInHanded_of_change (C:=Tryz.checked) own started (by kernel_rfl) Tryz.func3
  (ChangeSpec.witness6 (enc:=enc) (C:=Tryz.checked) false ⟨#[],#[.agg #[.slice none 0 0,.slice none 0 0],.int .i64 0,.slice none 0 0],[]⟩ 12 (by kernel_rfl) (by kernel_rfl) (by kernel_rfl) (by kernel_rfl)) ?_
 intro W base args ds gs before hval0 hW hcnd _;have hval:∀(j:Nat) t v,Tryz.f3.params[j]?=some t->args[j]?=some v->Value.okWide Tryz.prog W .any base t v:=hval0;have hW':=hW;obtain ⟨p,q,hA0,hV,rfl,hfz,hnd⟩:=hW;have hA:DataW.TrodAll enc Tryz.prog W 0 (fun _=>true) true Tryz.f3.params.toList args.toList ds p:=hA0;rw[Tryz.params3] at hA hval;obtain ⟨v0,vs0,d0,ds0,p0,q0,hargs0,rfl,rfl,h0,r0⟩:=trodAll_cons hA
 obtain ⟨v1,vs1,d1,ds1,p1,q1,hargs1,rfl,rfl,h1,r1⟩:=trodAll_cons r0;obtain ⟨v2,vs2,d2,ds2,p2,q2,hargs2,rfl,rfl,h2,r2⟩:=trodAll_cons r1;obtain ⟨rfl,rfl,rfl⟩:=trodAll_nil r2;obtain rfl:args=#[v0,v1,v2]:=by cases args;simp_all
 obtain ⟨rfl,rfl⟩:=trodVars_none hV;have k0:=h0;have lt0:∀x∈p0,x.block < W.heap.size:=by obtain ⟨m,hm⟩:=k0;exact DataW.trod_lt m _ _ _ hm
 have k1:=h1;have lt1:∀x∈p1,x.block < W.heap.size:=by obtain ⟨m,hm⟩:=k1;exact DataW.trod_lt m _ _ _ hm
 have k2:=h2;have lt2:∀x∈p2,x.block < W.heap.size:=by obtain ⟨m,hm⟩:=k2;exact DataW.trod_lt m _ _ _ hm
 obtain ⟨ts0,hr0,hs0⟩:∃ts,Go.Av.RepTs (fun b=>b < W.heap.size) W ts v0.cells.toList/\Go.Gv.Shape Tryz.prog 25 ts:=by
  obtain ⟨fuel,hf⟩:=h0;exact Go.Gv.trod_shape plain fuel 25 _ _ _ (by simp) hf
 obtain ⟨x0,rfl,hw0⟩:=Go.Gv.pg_of ts0 hs0;obtain ⟨x1,rfl⟩:=okWide_int Tryz.underlying3 (hval 1 3 v1 rfl rfl);obtain ⟨ts2,hr2,hs2⟩:∃ts,Go.Av.RepTs (fun b=>b < W.heap.size) W ts v2.cells.toList/\Go.Gv.Shape Tryz.prog 26 ts:=by
  obtain ⟨fuel,hf⟩:=h2;exact Go.Gv.trod_shape plain fuel 26 _ _ _ (by simp) hf
 obtain ⟨els,rfl,w3,w4⟩:=hs2.slice_inv Tryz.underlying26;obtain ⟨x2,rfl,hw2⟩:=Go.Gv.stmts_of w4;obtain ⟨a2,len2,cap2,rfl⟩:=okWide_slice Tryz.underlying26 (hval 2 26 v2 rfl rfl);have s0:Go.Av.RpS (Go.Gv.EA W) [⟨.agg,x0.t.map (Go.Av.tA true)⟩] [v0] []:=Go.Gv.slots_agg (by simp[Go.Gv.Pg.t]) hr0 Go.Gv.slots_nil
 obtain ⟨u0,us0,o1,o2,e1,e2,e3,e4⟩:=s0;simp only[List.cons.injEq] at e1;obtain ⟨rfl,_⟩:=e1;have e5:o1=[]:=by cases o1 with
  | nil=>rfl
  | cons a b=>simp at e2
 subst e5;obtain ⟨u2,us2,g1,g2,_⟩:=hr2;simp only[Value.cells,List.cons.injEq] at g1;obtain ⟨rfl,_⟩:=g1;have hx:Go.Av.RepV (Go.Gv.EA W) (Go.Gv.sI x2) (.slice a2 len2 cap2) []:=Go.Gv.one_mk ⟨g2,rfl⟩;clear hA0 hval0;refine (Go.Gv.law_main x0 x1 x2 hw0 (by simpa using w3) hw2 W v0 _ e3 hx).mono fun e W' ⟨he,hk⟩=>?_
 have bel:=Go.Gv.keeps_below hk;subst he;exact ⟨_,rfl,_,_,_,[],_,[],hW',trodAll_mk1 (shut_bool Tryz.underlying4 _),(trodAll_cons_mk (Below.trod laidOut (by kernel_rfl) (of_decide_eq_true (by kernel_rfl)) k0 bel lt0) (trodAll_cons_mk (Below.trod laidOut (by kernel_rfl) (of_decide_eq_true (by kernel_rfl)) k1 bel lt1) (trodAll_cons_mk (Below.trod laidOut (by kernel_rfl) (of_decide_eq_true (by kernel_rfl)) k2 bel lt2) trodAll_mk0))),rfl,bel.frame _,fun h=>by cases h⟩
theorem inst:Tryz.f3.isInstance Tryz.prog Rows.fnExactGenBlockRow.origin Rows.fnExactGenBlockRow.targs:=of_decide_eq_true (by kernel_rfl)
theorem wrapper:Tryz.f3.isWrapper Tryz.prog Rows.fnExactGenBlockRow.wrapper Rows.fnExactGenBlockRow.mainSum:=by
 unfold Func.isWrapper;first|(rw[if_pos (by decide +kernel)];kernel_rfl)|(rw[if_neg (by decide +kernel)];exact ⟨rfl,rfl⟩)
theorem over:Rows.fnExactGenBlockRow.holds Tryz.pinned (OpenSpec.ofChange Rows.fnExactGenBlockSpec):=
 OpenClaim.holds_of_wide 3 Tryz.f3 rfl rfl rfl rfl rfl rfl rfl ⟨rfl,rfl,rfl,rfl,rfl⟩ rfl rfl rfl rfl rfl named Tryz.func3 facts inst wrapper
  (fun os started H enc _=>lifted os started H enc)
theorem proved:Rows.FnExactGenBlockSaid:=over
#print axioms proved
end Go.Proofs.YtomgmhbmchidnaaGreat.fnExactGenBlockDone
