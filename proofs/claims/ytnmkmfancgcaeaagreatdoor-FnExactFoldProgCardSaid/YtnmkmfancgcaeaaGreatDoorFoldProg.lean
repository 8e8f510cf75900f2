/- Proved: Rows.FnExactFoldProgCardSaid: whatever program it is given, laws.FnExactFoldProg returns true, and the program reads behind the call as it read before; the condition: three tables of Go's library hold what their initialisers lay (the card ties them to the program's text). -/
import Derived.Test.YtnmkmfancgcaeaaGreatDoorPP5
import Derived.Test.YtnmkmfancgcaeaaGreatDoorPL1
import Derived.Test.YtnmkmfancgcaeaaGreatDoorPFacts
import Derived.Test.YtnmkmfancgcaeaaGreatDoorRows
import Derived.Test.YtnmkmfancgcaeaaGreatDoorCards
import Derived.Test.YtnmkmfancgcaeaaGreatDoorTie
import Derived.ProofKit
import Derived.LaidMore
import Derived.OpenShut
import Derived.Stop.Joined
import Derived.Stop.LaidErr
import Derived.MakeChecks
import Derived.SevenTiedAt
set_option linter.all false
namespace Go.Proofs.YtnmkmfancgcaeaaGreatDoor.fnExactFoldProgDone
open Go.ChangeShapes Go.WideShapes Go.ChangeAt Go.WideMaps Go.WideElems Go.RowKit
theorem own:ownKnob Tryz.prog.godebug=none:=by kernel_rfl
theorem laidOut:laidOutB Tryz.prog=true:=by kernel_rfl
theorem plain:Go.Gv.plainSet Tryz.prog [3,9,22,24,80,127,34,82,35,85,60,37]=true:=by kernel_rfl
abbrev ML0:List (String×DataW Unit):=Rows.fnExactFoldProgRow.laid
theorem GY0 (os:Os) (args:Array Value):laidMetH Tryz.prog ML0 ((World.doorLaid Tryz.prog 24 os).forCall (fun _ _=>0) ⟨#[],args,[]⟩).memory:=
 laidMetH_of_parts3 (fuel:=8) (laidMet_of_run' 8 (by kernel_rfl) (by kernel_rfl)) (by kernel_rfl) (by kernel_rfl)
theorem wE1 {W:World} (h:laidMetH Tryz.prog ML0 W):Go.Gv.GdW W:=by
 rw[MakeChecks.laidMetH_plain _ _ _ (by kernel_rfl)] at h
 have h3:=h.tail.tail;have ht:Lib.TabIs Tryz.prog W "internal/strconv.uint64pow10" .u64 Lib.pow10Tab:=Lib.tabIs_of_head (g:=0) (t:=171) (e:=160) (n:=20) (by kernel_rfl) (by kernel_rfl) (by kernel_rfl) (by kernel_rfl) (by kernel_rfl) (by kernel_rfl)
  (show laidMet Tryz.prog (("internal/strconv.uint64pow10",Lib.tabData .u64 Lib.pow10Tab)::[]) W from (show (Rows.laid_internal_strconv_uint64pow10:DataW Unit)=Lib.tabData .u64 Lib.pow10Tab by kernel_rfl) ▸ h3)
 intro x hx;simp only[Go.Av.glb,List.mem_singleton] at hx;subst hx;unfold Lib.TabIs World.var? at ht;rw[show Tryz.prog.globalNamed "internal/strconv.uint64pow10"=some 0 by kernel_rfl] at ht
 simp only[Option.bind_some] at ht
 split at ht
 ·rename_i cs t z hb
  exact ⟨(Array.getElem?_eq_some_iff.1 hb).1,cs,t,z,hb,Option.some.inj ht⟩
 ·cases ht
set_option maxRecDepth 100000 in
theorem lifted (os:Os) (started:os.Started) (H:Type) (enc:TypeId×Value->H) :
  ReturnsInHanded {} Tryz.checked os 4 .any (fun w args=>(Rows.fnExactFoldProgSpec.pre enc Tryz.prog Tryz.f4 [] false w args/\laidMetH Tryz.prog ML0 w)/\sizedMet enc Tryz.prog Tryz.f4 (OpenSpec.ofChange Rows.fnExactFoldProgSpec) false w args)
   (Rows.fnExactFoldProgSpec.post enc Tryz.prog Tryz.f4 false true false false):=by
 refine returnsInHanded_of_change_and (C:=Tryz.checked) (X:=fun w _=>laidMetH Tryz.prog ML0 w) (fun _ _ _ hh h=>h.of_heap hh) own started (by kernel_rfl) Tryz.func4
  (ChangeSpec.witness_shaped (enc:=enc) (C:=Tryz.checked) (os:=os) (X:=fun w _=>laidMetH Tryz.prog ML0 w) false (World.doorLaid Tryz.prog 24 os) #[.agg #[.slice none 0 0,.slice none 0 0]] 12 rfl (World.shaped_of_RefB (by kernel_rfl) (by kernel_rfl)) (by kernel_rfl) (by kernel_rfl) (by kernel_rfl) (GY0 os _)) ?_
 intro W base args ds gs before hval0 hW _ _ hL _;have hval:∀(j:Nat) t v,Tryz.f4.params[j]?=some t->args[j]?=some v->Value.okWide Tryz.prog W .any base t v:=hval0;have hW':=hW;obtain ⟨p,q,hA0,hV,rfl,hfz,hnd⟩:=hW;have hA:DataW.TrodAll enc Tryz.prog W 0 (fun _=>true) true Tryz.f4.params.toList args.toList ds p:=hA0;rw[Tryz.params4] at hA hval;obtain ⟨v0,vs0,d0,ds0,p0,q0,hargs0,rfl,rfl,h0,r0⟩:=trodAll_cons hA
 obtain ⟨rfl,rfl,rfl⟩:=trodAll_nil r0;obtain rfl:args=#[v0]:=by cases args;simp_all
 obtain ⟨rfl,rfl⟩:=trodVars_none hV;have k0:=h0;have lt0:∀x∈p0,x.block < W.heap.size:=by obtain ⟨m,hm⟩:=k0;exact DataW.trod_lt m _ _ _ hm
 obtain ⟨ts0,hr0,hs0⟩:∃ts,Go.Av.RepTs (fun b=>b < W.heap.size) W ts v0.cells.toList/\Go.Gv.Shape Tryz.prog 37 ts:=by
  obtain ⟨fuel,hf⟩:=h0;exact Go.Gv.trod_shape plain fuel 37 _ _ _ (by simp) hf
 obtain ⟨x0,rfl,hw0⟩:=Go.Gv.pg_of ts0 hs0;have s0:Go.Av.RpS (Go.Gv.EA W) [⟨.agg,x0.t.map (Go.Av.tA true)⟩] [v0] []:=Go.Gv.slots_agg (show 2<=x0.t.length from Nat.le_refl 2) hr0 Go.Gv.slots_nil
 obtain ⟨u0,us0,o1,o2,e1,e2,e3,e4⟩:=s0;simp only[List.cons.injEq] at e1;obtain ⟨rfl,_⟩:=e1;have e5:o1=[]:=by cases o1 with
  | nil=>rfl
  | cons a b=>simp at e2
 subst e5;have e6:Go.Av.RepV (Go.Gv.EA W) (Go.Gv.pI x0) v0 []:=e3;obtain ⟨u,u',g1,g2,h1,-,hr1,hr2⟩:=Go.Gv.agg_pg e6;obtain ⟨ad,n,cap,hu⟩:∃ad n c,u=.slice ad n c:=by
  obtain ⟨⟨ad,cap,rfl,-⟩,-⟩:=hr1;exact ⟨_,_,_,rfl⟩
 obtain ⟨ad',n',cap',hu'⟩:∃ad n c,u'=.slice ad n c:=by
  obtain ⟨⟨ad,cap,rfl,-⟩,-⟩:=hr2;exact ⟨_,_,_,rfl⟩
 subst hu;subst hu';subst h1;clear hA0 hval0 hr1 hr2;refine (Go.Gv.law_mainP x0 hw0 W (wE1 hL) ad n cap ad' n' cap' e6).mono fun e W' ⟨he,hk⟩=>?_;have bel:=Go.Gv.keeps_below hk;subst he;exact ⟨_,rfl,_,_,_,[],_,[],hW',trodAll_mk1 (shut_bool Tryz.underlying4 _),(trodAll_cons_mk (Below.trod laidOut (by kernel_rfl) (of_decide_eq_true (by kernel_rfl)) k0 bel lt0) trodAll_mk0),rfl,bel.frame _,fun h=>by cases h⟩
theorem inst:Tryz.f4.isInstance Tryz.prog Rows.fnExactFoldProgRow.origin Rows.fnExactFoldProgRow.targs:=of_decide_eq_true (by kernel_rfl)
theorem wrapper:Tryz.f4.isWrapper Tryz.prog Rows.fnExactFoldProgRow.wrapper Rows.fnExactFoldProgRow.mainSum:=by
 unfold Func.isWrapper;first|(rw[if_pos (by decide +kernel)];kernel_rfl)|(rw[if_neg (by decide +kernel)];exact ⟨rfl,rfl⟩)
theorem over:Rows.FnExactFoldProgSaid:=
 OpenClaim.holds_of_wide 4 Tryz.f4 rfl rfl rfl rfl rfl rfl rfl ⟨rfl,rfl,rfl,rfl,rfl⟩ rfl rfl rfl rfl rfl named Tryz.func4 facts inst wrapper
  (fun os started H enc _=>lifted os started H enc)
theorem proved:Rows.FnExactFoldProgCardSaid:=
 Claim7.holds_tied_plain_at .later [] [.data,.data,.data] true (true,"27c4e60330d3562e3b17e30b5dd0d7ab0a7e17ff7547e88206843c8a88b6d9ee") false
  over (fun _ h=>by cases h) (by kernel_rfl) (fun _ h=>by cases h) fnExactFoldProg_row_tie rfl ⟨rfl,rfl⟩ (by kernel_rfl) rfl
  (fun f fn hf hfn=>by
   obtain rfl:f=4:=Option.some.inj ((show Tryz.prog.funcNamed "loop.example/g00288/laws.FnExactFoldProg"=some 4 by kernel_rfl).symm.trans hf) |>.symm
   obtain rfl:fn=Tryz.f4:=(Option.some.inj (Tryz.func4.symm.trans hfn)).symm;exact ⟨by kernel_rfl,fun j t ht=>by
    rw[Tryz.params4] at ht;have hm:t∈[37]:=by simpa using Array.mem_of_getElem? ht
    have hall:([37].all fun u=>!Tryz.prog.wantsStandIn u)=true:=by kernel_rfl
    exact (show Tryz.prog.wantsStandIn t=false by simpa using List.all_eq_true.1 hall t hm)⟩)
  (by kernel_rfl)
#print axioms proved
end Go.Proofs.YtnmkmfancgcaeaaGreatDoor.fnExactFoldProgDone
