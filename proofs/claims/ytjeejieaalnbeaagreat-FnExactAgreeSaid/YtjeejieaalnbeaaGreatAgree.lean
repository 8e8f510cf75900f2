/- Proved: Rows.FnExactAgreeSaid: whatever program, state and machine it is given, laws.FnExactAgree returns true, and all read behind the call as they read before. There is no condition. -/
import Derived.Test.YtjeejieaalnbeaaGreatF1
import Derived.Test.YtjeejieaalnbeaaGreatD12
import Derived.Test.YtjeejieaalnbeaaGreatFacts
import Derived.Test.YtjeejieaalnbeaaGreatRows
set_option linter.all false
namespace Go.Proofs.YtjeejieaalnbeaaGreat.fnExactAgreeDone
open Go.ChangeShapes Go.WideShapes Go.ChangeAt Go.RowKit
theorem own:ownKnob Tryz.prog.godebug=none:=by kernel_rfl
theorem laidOut:laidOutB Tryz.prog=true:=by kernel_rfl
theorem plain:Go.Gv.plainSet Tryz.prog [3,4,5,9,22,23,25,26,27,29,30,32,33,35,36,38,39,40,41,43,117,119,120,122,125,131,133,135,136,137,139,201,203,205,207,210,248,252,255,270,274,293]=true:=by kernel_rfl
set_option maxRecDepth 100000 in
theorem lifted (os:Os) (started:os.Started) (H:Type) (enc:TypeId×Value->H) :
  ReturnsInHanded {} Tryz.checked os 3 .any (Rows.fnExactAgreeSpec.pre6 enc Tryz.prog Tryz.f3 Rows.fnExactAgreeRow.domain false) (Rows.fnExactAgreeSpec.post enc Tryz.prog Tryz.f3 false true false false):=by
 refine returnsInHanded_of_change (C:=Tryz.checked) own started (by kernel_rfl) Tryz.func3
  (ChangeSpec.witness6 (enc:=enc) (C:=Tryz.checked) false ⟨#[],#[.agg #[.slice none 0 0,.slice none 0 0],.agg #[.slice none 0 0,.slice none 0 0,.string ⟨#[]⟩,.slice none 0 0,.int .i64 0,.slice none 0 0,.int .i64 0,.int .i64 0,.int .i64 0,.int .i64 0,.int .i64 0],.agg #[.slice none 0 0,.slice none 0 0,.slice none 0 0,.slice none 0 0,.string ⟨#[]⟩,.slice none 0 0,.int .i64 0,.slice none 0 0,.int .i64 0,.int .i64 0,.int .i64 0,.int .i64 0,.bool false]],[]⟩ 12 (by kernel_rfl) (by kernel_rfl) (by kernel_rfl) (by kernel_rfl)) ?_
 intro W base args ds gs before hval0 hW hcnd _;have hval:∀(j:Nat) t v,Tryz.f3.params[j]?=some t->args[j]?=some v->Value.okWide Tryz.prog W .any base t v:=hval0;have hW':=hW;obtain ⟨p,q,hA0,hV,rfl,hfz,hnd⟩:=hW;have hA:DataW.TrodAll enc Tryz.prog W 0 (fun _=>true) true Tryz.f3.params.toList args.toList ds p:=hA0;rw[Tryz.params3] at hA hval;obtain ⟨v0,vs0,d0,ds0,p0,q0,hargs0,rfl,rfl,h0,r0⟩:=trodAll_cons hA
 obtain ⟨v1,vs1,d1,ds1,p1,q1,hargs1,rfl,rfl,h1,r1⟩:=trodAll_cons r0;obtain ⟨v2,vs2,d2,ds2,p2,q2,hargs2,rfl,rfl,h2,r2⟩:=trodAll_cons r1;obtain ⟨rfl,rfl,rfl⟩:=trodAll_nil r2;obtain rfl:args=#[v0,v1,v2]:=by cases args;simp_all
 obtain ⟨rfl,rfl⟩:=trodVars_none hV;have k0:=h0;have lt0:∀x∈p0,x.block < W.heap.size:=by obtain ⟨m,hm⟩:=k0;exact DataW.trod_lt m _ _ _ hm
 have k1:=h1;have lt1:∀x∈p1,x.block < W.heap.size:=by obtain ⟨m,hm⟩:=k1;exact DataW.trod_lt m _ _ _ hm
 have k2:=h2;have lt2:∀x∈p2,x.block < W.heap.size:=by obtain ⟨m,hm⟩:=k2;exact DataW.trod_lt m _ _ _ hm
 obtain ⟨ts0,hr0,hs0⟩:∃ts,Go.Av.RepTs (fun b=>b < W.heap.size) W ts v0.cells.toList/\Go.Gv.Shape Tryz.prog 25 ts:=by
  obtain ⟨fuel,hf⟩:=h0;exact Go.Gv.trod_shape plain fuel 25 _ _ _ (by simp) hf
 obtain ⟨x0,rfl,hw0⟩:=Go.Gv.pg_of ts0 hs0;obtain ⟨ts1,hr1,hs1⟩:∃ts,Go.Av.RepTs (fun b=>b < W.heap.size) W ts v1.cells.toList/\Go.Gv.Shape Tryz.prog 35 ts:=by
  obtain ⟨fuel,hf⟩:=h1;exact Go.Gv.trod_shape plain fuel 35 _ _ _ (by simp) hf
 obtain ⟨x1,rfl,hw1⟩:=Go.Gv.sx_of ts1 hs1;obtain ⟨ts2,hr2,hs2⟩:∃ts,Go.Av.RepTs (fun b=>b < W.heap.size) W ts v2.cells.toList/\Go.Gv.Shape Tryz.prog 43 ts:=by
  obtain ⟨fuel,hf⟩:=h2;exact Go.Gv.trod_shape plain fuel 43 _ _ _ (by simp) hf
 obtain ⟨x2,rfl,hw2⟩:=Go.Gv.mc_of ts2 hs2;clear hA0 hval0;refine (Go.Gv.law_of_slots (Go.Gv.c_FnExactAgree x0 hw0 x1 hw1 x2 hw2) (Go.Gv.slots_agg (by simp[Go.Gv.Pg.t_len]) hr0 (Go.Gv.slots_agg (by simp[Go.Gv.Sx.t_len]) hr1 (Go.Gv.slots_agg (by simp[Go.Gv.Mc.t_len]) hr2 Go.Gv.slots_nil)))).mono fun e W' ⟨he,bel⟩=>?_
 subst he;exact ⟨_,rfl,_,_,_,[],_,[],hW',trodAll_mk1 (shut_bool Tryz.underlying4 _),(trodAll_cons_mk (Below.trod laidOut (by kernel_rfl) (of_decide_eq_true (by kernel_rfl)) k0 bel lt0) (trodAll_cons_mk (Below.trod laidOut (by kernel_rfl) (of_decide_eq_true (by kernel_rfl)) k1 bel lt1) (trodAll_cons_mk (Below.trod laidOut (by kernel_rfl) (of_decide_eq_true (by kernel_rfl)) k2 bel lt2) trodAll_mk0))),rfl,bel.frame _,fun h=>by cases h⟩
theorem inst:Tryz.f3.isInstance Tryz.prog Rows.fnExactAgreeRow.origin Rows.fnExactAgreeRow.targs:=of_decide_eq_true (by kernel_rfl)
theorem wrapper:Tryz.f3.isWrapper Tryz.prog Rows.fnExactAgreeRow.wrapper Rows.fnExactAgreeRow.mainSum:=by
 unfold Func.isWrapper;first|(rw[if_pos (by decide +kernel)];kernel_rfl)|(rw[if_neg (by decide +kernel)];exact ⟨rfl,rfl⟩)
theorem over:Rows.fnExactAgreeRow.holds Tryz.pinned (OpenSpec.ofChange Rows.fnExactAgreeSpec):=
 OpenClaim.holds_of_wide 3 Tryz.f3 rfl rfl rfl rfl rfl rfl rfl ⟨rfl,rfl,rfl,rfl,rfl⟩ rfl rfl rfl rfl rfl named Tryz.func3 facts inst wrapper
  (fun os started H enc _=>lifted os started H enc)
theorem proved:Rows.FnExactAgreeSaid:=over
#print axioms proved
end Go.Proofs.YtjeejieaalnbeaaGreat.fnExactAgreeDone
