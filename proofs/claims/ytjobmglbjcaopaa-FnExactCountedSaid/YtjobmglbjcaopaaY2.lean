/- Part Y2 of the proof: contracts of functions of the program, each walked once. -/
import Derived.Test.YtjobmglbjcaopaaT1

namespace Go.Gv
open Go.Av Go.Proofs
set_option maxRecDepth 10000
set_option linter.unusedSimpArgs false

theorem st_szCell (xRefs : Int) (xVK : Int) (xVN : Int) (xVS : ByteArray) (left : Int) (hleft : lefts left)
    (ihV : SzOk 73 (fun left => [agT (Vl.mk xVK xVN xVS).t, litI left]) (Vl.mk xVK xVN xVS).sz) :
    ACalls Try.prog 55 [agT (Ce.mk xRefs (Vl.mk xVK xVN xVS)).t, litI left] [] (fun res bx => ∃ r, szR (Ce.mk xRefs (Vl.mk xVK xVN xVS)).sz left r ∧ res = litI r ∧ bx = []) := by
  simp only [SzOk, roT, agT, Ce.t, Ce.ow, Vl.t, Vl.ow, strT, intT, byteT, List.map, List.cons_append, List.nil_append, List.append_nil, tA] at *

  refine gcalls_by tys_ok 12 [.tmp 4] (fn := Try.f55) rfl rfl rfl rfl ?_ ?_ ?_
  · simp [stampFree, litI, A.stamp, A.rstamp, stampIn]
  · simp
  intro O hO P hP C hC R hR
  have hM : P.follows .mixedOrders = true := by rw [hP]; rfl
  obtain ⟨bin, cmp, sadd, scmp, beq, bnot, band, un, wrap, size, byte, sub, len, seg, app, get, set, nat, nadd, nsub, repl, text, bytes, mn, mx, nz, nn, idx, bnd, le, all, one, lits, isB, sOk, aOk, mOk⟩ := O
  have hseg : ∀ e, seg 0 (len e) e = e := by intro e; cases hO; simp
  repeat' (first
   | (with_reducible first | (refine hK _ ?_; clear hK K) | refine thenA_n ?_ | refine thenA_r ?_ | refine thenA_e ?_ | refine block_n ?_ | refine block_r ?_ | refine block_hit ?_ | refine GWp.seq ?_ | refine GWp.block ?_ | refine GWp.skip ?_ | refine GWp.ret ?_ | refine GWp.exit ?_ | refine need_nil ?_ | refine need_cons True.intro ?_)
   | ((with_reducible first | refine gPost_r ?_ | refine gPost_n ?_ | refine fork_t ?_ | refine fork_f ?_ | (refine GWp.region (base := 0) ?_; intro K hK)); cbv; try simp only [hseg])
   | ((with_reducible refine GWp.cond_t ?hh ?_); (case hh => rfl)) | ((with_reducible refine GWp.cond_f ?hh ?_); (case hh => rfl)) | ((with_reducible refine block_miss ?hh ?_); (case hh => rfl))
   | ((with_reducible refine GWp.draws (base := 0) hM ?hh ?_); (case hh => rfl); intro K hK; cbv; try simp only [hseg])
   | ((with_reducible refine need_cons ?hh ?_); (case hh => first | with_reducible rfl | exact nn_ok hO (by decide))) | fail)
  refine GCall.by ⟨fun _ _ => false, fun _ _ => false, []⟩ ?_
  cbv
  try simp only [hseg]
  refine GCallD.by hP rfl (ihV left hleft) ?_
  rintro res bx ⟨m1, hr1, rfl, rfl⟩
  cbv
  try simp only [hseg]
  have hl1 := szR_le hleft hr1
  repeat' (first
   | (with_reducible first | (refine hK _ ?_; clear hK K) | refine thenA_n ?_ | refine thenA_r ?_ | refine thenA_e ?_ | refine block_n ?_ | refine block_r ?_ | refine block_hit ?_ | refine GWp.seq ?_ | refine GWp.block ?_ | refine GWp.skip ?_ | refine GWp.ret ?_ | refine GWp.exit ?_ | refine need_nil ?_ | refine need_cons True.intro ?_)
   | ((with_reducible first | refine gPost_r ?_ | refine gPost_n ?_ | refine fork_t ?_ | refine fork_f ?_ | (refine GWp.region (base := 0) ?_; intro K hK)); cbv; try simp only [hseg])
   | ((with_reducible refine GWp.cond_t ?hh ?_); (case hh => rfl)) | ((with_reducible refine GWp.cond_f ?hh ?_); (case hh => rfl)) | ((with_reducible refine block_miss ?hh ?_); (case hh => rfl))
   | ((with_reducible refine GWp.draws (base := 0) hM ?hh ?_); (case hh => rfl); intro K hK; cbv; try simp only [hseg])
   | ((with_reducible refine need_cons ?hh ?_); (case hh => first | with_reducible rfl | exact nn_ok hO (by decide))) | fail)
  refine GWp.cond rfl (fun h1 => ?_) (fun h1 => ?_)
  · repeat' (first
     | (with_reducible first | (refine hK _ ?_; clear hK K) | refine thenA_n ?_ | refine thenA_r ?_ | refine thenA_e ?_ | refine block_n ?_ | refine block_r ?_ | refine block_hit ?_ | refine GWp.seq ?_ | refine GWp.block ?_ | refine GWp.skip ?_ | refine GWp.ret ?_ | refine GWp.exit ?_ | refine need_nil ?_ | refine need_cons True.intro ?_)
     | ((with_reducible first | refine gPost_r ?_ | refine gPost_n ?_ | refine fork_t ?_ | refine fork_f ?_ | (refine GWp.region (base := 0) ?_; intro K hK)); cbv; try simp only [hseg])
     | ((with_reducible refine GWp.cond_t ?hh ?_); (case hh => rfl)) | ((with_reducible refine GWp.cond_f ?hh ?_); (case hh => rfl)) | ((with_reducible refine block_miss ?hh ?_); (case hh => rfl))
     | ((with_reducible refine GWp.draws (base := 0) hM ?hh ?_); (case hh => rfl); intro K hK; cbv; try simp only [hseg])
     | ((with_reducible refine need_cons ?hh ?_); (case hh => first | with_reducible rfl | exact nn_ok hO (by decide))) | fail)
    refine hR _ _ ⟨_, .inr ⟨?_, rfl⟩, rfl, rfl⟩
    have hg1 : m1 < 0 := by
      try clear hK K
      clear hM hP hC hR; cases hO
      simp only [Ops.std, stdCmp, stdBin, scmp_eql, scmp_neq, stdUn, Int.ofNat_eq_natCast] at *
      simpa using h1
    clear hR; try clear hK
    simp only [szR, lefts, Int.ofNat_eq_natCast, Ce.sz, Vl.sz] at *
    omega
  have hg1 : ¬ m1 < 0 := by
    try clear hK K
    clear hM hP hC hR; cases hO
    simp only [Ops.std, stdCmp, stdBin, scmp_eql, scmp_neq, stdUn, Int.ofNat_eq_natCast] at *
    simpa using h1
  have hl1 := hl1 hg1
  repeat' (first
   | (with_reducible first | (refine hK _ ?_; clear hK K) | refine thenA_n ?_ | refine thenA_r ?_ | refine thenA_e ?_ | refine block_n ?_ | refine block_r ?_ | refine block_hit ?_ | refine GWp.seq ?_ | refine GWp.block ?_ | refine GWp.skip ?_ | refine GWp.ret ?_ | refine GWp.exit ?_ | refine need_nil ?_ | refine need_cons True.intro ?_)
   | ((with_reducible first | refine gPost_r ?_ | refine gPost_n ?_ | refine fork_t ?_ | refine fork_f ?_ | (refine GWp.region (base := 0) ?_; intro K hK)); cbv; try simp only [hseg])
   | ((with_reducible refine GWp.cond_t ?hh ?_); (case hh => rfl)) | ((with_reducible refine GWp.cond_f ?hh ?_); (case hh => rfl)) | ((with_reducible refine block_miss ?hh ?_); (case hh => rfl))
   | ((with_reducible refine GWp.draws (base := 0) hM ?hh ?_); (case hh => rfl); intro K hK; cbv; try simp only [hseg])
   | ((with_reducible refine need_cons ?hh ?_); (case hh => first | with_reducible rfl | exact nn_ok hO (by decide))) | fail)
  refine hR _ _ ⟨_, ?_, rfl, rfl⟩
  clear hR; try clear hK
  simp only [szR, lefts, Int.ofNat_eq_natCast, Ce.sz, Vl.sz] at *
  omega

theorem st_toCell (xRefs : Int) (xVK : Int) (xVN : Int) (xVS : ByteArray)
    (ihV : ToOk 76 [agT (Vl.mk xVK xVN xVS).t] ⟨.agg, (Vl.mk xVK xVN xVS).ow⟩) :
    ToOk 60 [agT (Ce.mk xRefs (Vl.mk xVK xVN xVS)).t] ⟨.agg, (Ce.mk xRefs (Vl.mk xVK xVN xVS)).ow⟩ := by
  simp only [ToOk, roT, agT, Ce.t, Ce.ow, Vl.t, Vl.ow, strT, intT, byteT, List.map, List.cons_append, List.nil_append, List.append_nil, tA] at *

  refine gcalls_by tys_ok 12 [.cell 2 83] (fn := Try.f60) rfl rfl rfl rfl ?_ ?_ ?_
  · simp [stampFree, litI, A.stamp, A.rstamp, stampIn]
  · simp
  intro O hO P hP C hC R hR
  have hM : P.follows .mixedOrders = true := by rw [hP]; rfl
  obtain ⟨bin, cmp, sadd, scmp, beq, bnot, band, un, wrap, size, byte, sub, len, seg, app, get, set, nat, nadd, nsub, repl, text, bytes, mn, mx, nz, nn, idx, bnd, le, all, one, lits, isB, sOk, aOk, mOk⟩ := O
  have hseg : ∀ e, seg 0 (len e) e = e := by intro e; cases hO; simp
  repeat' (first
   | (with_reducible first | (refine hK _ ?_; clear hK K) | refine thenA_n ?_ | refine thenA_r ?_ | refine thenA_e ?_ | refine block_n ?_ | refine block_r ?_ | refine block_hit ?_ | refine GWp.seq ?_ | refine GWp.block ?_ | refine GWp.skip ?_ | refine GWp.ret ?_ | refine GWp.exit ?_ | refine need_nil ?_ | refine need_cons True.intro ?_)
   | ((with_reducible first | refine gPost_r ?_ | refine gPost_n ?_ | refine fork_t ?_ | refine fork_f ?_ | (refine GWp.region (base := 0) ?_; intro K hK)); cbv; try simp only [hseg])
   | ((with_reducible refine GWp.cond_t ?hh ?_); (case hh => rfl)) | ((with_reducible refine GWp.cond_f ?hh ?_); (case hh => rfl)) | ((with_reducible refine block_miss ?hh ?_); (case hh => rfl))
   | ((with_reducible refine GWp.draws (base := 0) hM ?hh ?_); (case hh => rfl); intro K hK; cbv; try simp only [hseg])
   | ((with_reducible refine need_cons ?hh ?_); (case hh => first | with_reducible rfl | exact nn_ok hO (by decide))) | fail)
  refine GCall.by ⟨fun _ _ => false, fun _ _ => false, []⟩ ?_
  cbv
  try simp only [hseg]
  refine GCallD.by hP rfl (ihV) ?_
  rintro res bx ⟨rfl, rfl⟩
  cbv
  try simp only [hseg]
  repeat' (first
   | (with_reducible first | (refine hK _ ?_; clear hK K) | refine thenA_n ?_ | refine thenA_r ?_ | refine thenA_e ?_ | refine block_n ?_ | refine block_r ?_ | refine block_hit ?_ | refine GWp.seq ?_ | refine GWp.block ?_ | refine GWp.skip ?_ | refine GWp.ret ?_ | refine GWp.exit ?_ | refine need_nil ?_ | refine need_cons True.intro ?_)
   | ((with_reducible first | refine gPost_r ?_ | refine gPost_n ?_ | refine fork_t ?_ | refine fork_f ?_ | (refine GWp.region (base := 0) ?_; intro K hK)); cbv; try simp only [hseg])
   | ((with_reducible refine GWp.cond_t ?hh ?_); (case hh => rfl)) | ((with_reducible refine GWp.cond_f ?hh ?_); (case hh => rfl)) | ((with_reducible refine block_miss ?hh ?_); (case hh => rfl))
   | ((with_reducible refine GWp.draws (base := 0) hM ?hh ?_); (case hh => rfl); intro K hK; cbv; try simp only [hseg])
   | ((with_reducible refine need_cons ?hh ?_); (case hh => first | with_reducible rfl | exact nn_ok hO (by decide))) | fail)
  exact hR _ _ ⟨rfl, rfl⟩

theorem st_eqCell (xRefs : Int) (xVK : Int) (xVN : Int) (xVS : ByteArray)
    (ihV : EqOk 81 (agT (Vl.mk xVK xVN xVS).t)) :
    EqOk 66 (agT (Ce.mk xRefs (Vl.mk xVK xVN xVS)).t) := by
  simp only [EqOk, roT, agT, Ce.t, Ce.ow, Vl.t, Vl.ow, strT, intT, byteT, List.map, List.cons_append, List.nil_append, List.append_nil, tA] at *

  refine gcalls_by tys_ok 16 [.tmp 4] (fn := Try.f66) rfl rfl rfl rfl ?_ ?_ ?_
  · simp [stampFree, litI, A.stamp, A.rstamp, stampIn]
  · simp
  intro O hO P hP C hC R hR
  have hM : P.follows .mixedOrders = true := by rw [hP]; rfl
  obtain ⟨bin, cmp, sadd, scmp, beq, bnot, band, un, wrap, size, byte, sub, len, seg, app, get, set, nat, nadd, nsub, repl, text, bytes, mn, mx, nz, nn, idx, bnd, le, all, one, lits, isB, sOk, aOk, mOk⟩ := O
  have hseg : ∀ e, seg 0 (len e) e = e := by intro e; cases hO; simp
  have hne : ∀ x, cmp .neq x x = false := by intro x; cases hO; simp [Ops.std, stdCmp]
  have hse : ∀ x, scmp .neq x x = false := by intro x; cases hO; simp [Ops.std, scmp_neq]
  have hbe : ∀ x, bnot (beq x x) = false := by intro x; cases hO; simp [Ops.std]
  have hnt : bnot true = false := by cases hO; rfl
  repeat' (first
   | (with_reducible first | (refine hK _ ?_; clear hK K) | refine thenA_n ?_ | refine thenA_r ?_ | refine thenA_e ?_ | refine block_n ?_ | refine block_r ?_ | refine block_hit ?_ | refine GWp.seq ?_ | refine GWp.block ?_ | refine GWp.skip ?_ | refine GWp.ret ?_ | refine GWp.exit ?_ | refine need_nil ?_ | refine need_cons True.intro ?_)
   | ((with_reducible first | refine gPost_r ?_ | refine gPost_n ?_ | refine fork_t ?_ | refine fork_f ?_ | (refine GWp.region (base := 0) ?_; intro K hK)); cbv; try simp only [hseg])
   | ((with_reducible refine GWp.cond_t ?hh ?_); (case hh => rfl)) | ((with_reducible refine GWp.cond_f ?hh ?_); (case hh => rfl)) | ((with_reducible refine block_miss ?hh ?_); (case hh => rfl))
   | ((with_reducible refine GWp.draws (base := 0) hM ?hh ?_); (case hh => rfl); intro K hK; cbv; try simp only [hseg])
   | ((with_reducible refine need_cons ?hh ?_); (case hh => first | with_reducible rfl | exact nn_ok hO (by decide))) | fail)
  simp only [hne, hse, hbe, hnt]
  repeat' (first
   | (with_reducible first | (refine hK _ ?_; clear hK K) | refine thenA_n ?_ | refine thenA_r ?_ | refine thenA_e ?_ | refine block_n ?_ | refine block_r ?_ | refine block_hit ?_ | refine GWp.seq ?_ | refine GWp.block ?_ | refine GWp.skip ?_ | refine GWp.ret ?_ | refine GWp.exit ?_ | refine need_nil ?_ | refine need_cons True.intro ?_)
   | ((with_reducible first | refine gPost_r ?_ | refine gPost_n ?_ | refine fork_t ?_ | refine fork_f ?_ | (refine GWp.region (base := 0) ?_; intro K hK)); cbv; try simp only [hseg])
   | ((with_reducible refine GWp.cond_t ?hh ?_); (case hh => rfl)) | ((with_reducible refine GWp.cond_f ?hh ?_); (case hh => rfl)) | ((with_reducible refine block_miss ?hh ?_); (case hh => rfl))
   | ((with_reducible refine GWp.draws (base := 0) hM ?hh ?_); (case hh => rfl); intro K hK; cbv; try simp only [hseg])
   | ((with_reducible refine need_cons ?hh ?_); (case hh => first | with_reducible rfl | exact nn_ok hO (by decide))) | fail)
  refine GCall.by ⟨fun _ _ => false, fun _ _ => false, []⟩ ?_
  cbv
  try simp only [hseg]
  refine GCallD.by hP rfl (ihV) ?_
  rintro res bx ⟨rfl, rfl⟩
  cbv
  try simp only [hseg]
  simp only [hne, hse, hbe, hnt]
  repeat' (first
   | (with_reducible first | (refine hK _ ?_; clear hK K) | refine thenA_n ?_ | refine thenA_r ?_ | refine thenA_e ?_ | refine block_n ?_ | refine block_r ?_ | refine block_hit ?_ | refine GWp.seq ?_ | refine GWp.block ?_ | refine GWp.skip ?_ | refine GWp.ret ?_ | refine GWp.exit ?_ | refine need_nil ?_ | refine need_cons True.intro ?_)
   | ((with_reducible first | refine gPost_r ?_ | refine gPost_n ?_ | refine fork_t ?_ | refine fork_f ?_ | (refine GWp.region (base := 0) ?_; intro K hK)); cbv; try simp only [hseg])
   | ((with_reducible refine GWp.cond_t ?hh ?_); (case hh => rfl)) | ((with_reducible refine GWp.cond_f ?hh ?_); (case hh => rfl)) | ((with_reducible refine block_miss ?hh ?_); (case hh => rfl))
   | ((with_reducible refine GWp.draws (base := 0) hM ?hh ?_); (case hh => rfl); intro K hK; cbv; try simp only [hseg])
   | ((with_reducible refine need_cons ?hh ?_); (case hh => first | with_reducible rfl | exact nn_ok hO (by decide))) | fail)
  exact hR _ _ ⟨rfl, rfl⟩

theorem c_szCell (x : Ce) (hw : x.Wf) : SzOk 55 (fun left => [agT x.t, litI left]) x.sz := fun left hleft => by
  obtain ⟨xRefs, ⟨xVK, xVN, xVS⟩⟩ := x
  exact st_szCell xRefs xVK xVN xVS left hleft (c_szVal _ hw.v)
theorem c_toCell (x : Ce) (hz : x.sz ≤ 1048576) : ToOk 60 [agT x.t] ⟨.agg, x.ow⟩ := by
  obtain ⟨xRefs, ⟨xVK, xVN, xVS⟩⟩ := x
  simp only [Ce.sz] at hz
  exact st_toCell xRefs xVK xVN xVS (c_toVal _ (by omega))
theorem c_eqCell (x : Ce) (hz : x.sz ≤ 1048576) : EqOk 66 (agT x.t) := by
  obtain ⟨xRefs, ⟨xVK, xVN, xVS⟩⟩ := x
  simp only [Ce.sz] at hz
  exact st_eqCell xRefs xVK xVN xVS (c_eqVal _ (by omega))

theorem c_szCellS (l : List Ce) (els : List (List T)) (he : els = l.map Ce.t) (hl : l.length ≤ maxLen) (left : Int) (hleft : lefts left)
    (ih : ∀ e ∈ l, SzOk 55 (fun left => [agT e.t, litI left]) e.sz) :
    ACalls Try.prog 39 [roT els, litI left] [] (fun res bx => ∃ r, szR (l.length + Ce.szs l) left r ∧ res = litI r ∧ bx = []) := by
  refine gcalls_by tys_ok 27 [.tmp 4] (fn := Try.f39) rfl rfl rfl rfl ?_ ?_ ?_
  · simp [stampFree, litI, A.stamp, A.rstamp, stampIn]
  · simp
  intro O hO P hP C hC R hR
  have hM : P.follows .mixedOrders = true := by rw [hP]; rfl
  obtain ⟨bin, cmp, sadd, scmp, beq, bnot, band, un, wrap, size, byte, sub, len, seg, app, get, set, nat, nadd, nsub, repl, text, bytes, mn, mx, nz, nn, idx, bnd, le, all, one, lits, isB, sOk, aOk, mOk⟩ := O
  have hseg : ∀ e, seg 0 (len e) e = e := by intro e; cases hO; simp
  obtain ⟨N, hN⟩ : ∃ N, N = l.length := ⟨_, rfl⟩
  have hNe : els.length = N := by simp [he, hN]
  have hlen : len els = N := len_of hO hNe
  have hk : ∀ e ∈ els, e.length = 4 := by subst he; simp [Ce.t_len]
  have ha : all els 4 := all_of hO hk
  rw [← hN] at hl hR
  repeat' (first
   | (with_reducible first | (refine hK _ ?_; clear hK K) | refine thenA_n ?_ | refine thenA_r ?_ | refine thenA_e ?_ | refine block_n ?_ | refine block_r ?_ | refine block_hit ?_ | refine GWp.seq ?_ | refine GWp.block ?_ | refine GWp.skip ?_ | refine GWp.ret ?_ | refine GWp.exit ?_ | refine need_nil ?_ | refine need_cons True.intro ?_)
   | ((with_reducible first | refine gPost_r ?_ | refine gPost_n ?_ | refine fork_t ?_ | refine fork_f ?_ | (refine GWp.region (base := 0) ?_; intro K hK)); cbv; try simp only [hseg])
   | ((with_reducible refine GWp.cond_t ?hh ?_); (case hh => rfl)) | ((with_reducible refine GWp.cond_f ?hh ?_); (case hh => rfl)) | ((with_reducible refine block_miss ?hh ?_); (case hh => rfl))
   | ((with_reducible refine GWp.draws (base := 0) hM ?hh ?_); (case hh => rfl); intro K hK; cbv; try simp only [hseg])
   | ((with_reducible refine need_cons ?hh ?_); (case hh => first | with_reducible rfl | exact nn_ok hO (by decide))) | fail)
  have e0 : bin .sub .i64 left (Int.ofNat N) = _ := sub_id hO hleft hl
  have hs := sub_le (b := N) hleft
  generalize hm : left - Int.ofNat N = m at e0 hs
  simp only [hlen, e0]
  refine GWp.cond rfl (fun h3 => ?_) (fun h3 => ?_)
  · repeat' (first
     | (with_reducible first | (refine hK _ ?_; clear hK K) | refine thenA_n ?_ | refine thenA_r ?_ | refine thenA_e ?_ | refine block_n ?_ | refine block_r ?_ | refine block_hit ?_ | refine GWp.seq ?_ | refine GWp.block ?_ | refine GWp.skip ?_ | refine GWp.ret ?_ | refine GWp.exit ?_ | refine need_nil ?_ | refine need_cons True.intro ?_)
     | ((with_reducible first | refine gPost_r ?_ | refine gPost_n ?_ | refine fork_t ?_ | refine fork_f ?_ | (refine GWp.region (base := 0) ?_; intro K hK)); cbv; try simp only [hseg])
     | ((with_reducible refine GWp.cond_t ?hh ?_); (case hh => rfl)) | ((with_reducible refine GWp.cond_f ?hh ?_); (case hh => rfl)) | ((with_reducible refine block_miss ?hh ?_); (case hh => rfl))
     | ((with_reducible refine GWp.draws (base := 0) hM ?hh ?_); (case hh => rfl); intro K hK; cbv; try simp only [hseg])
     | ((with_reducible refine need_cons ?hh ?_); (case hh => first | with_reducible rfl | exact nn_ok hO (by decide))) | fail)
    refine hR _ _ ⟨_, .inr ⟨?_, rfl⟩, rfl, rfl⟩
    have hm0 : m < 0 := by
      try clear hK K
      clear hM hP hC hR; cases hO
      simp only [Ops.std, stdCmp, stdBin, scmp_eql, scmp_neq, stdUn, Int.ofNat_eq_natCast] at *
      simpa using h3
    clear hR; try clear hK
    simp only [szR, lefts, Int.ofNat_eq_natCast] at *
    omega
  have hm0 : ¬ m < 0 := by
    try clear hK K
    clear hM hP hC hR; cases hO
    simp only [Ops.std, stdCmp, stdBin, scmp_eql, scmp_neq, stdUn, Int.ofNat_eq_natCast] at *
    simpa using h3
  have hs := hs hm0
  have hN2 : N ≤ 1048576 := by
    clear hR
    simp only [lefts, Int.ofNat_eq_natCast] at *
    omega
  repeat' (first
   | (with_reducible first | (refine hK _ ?_; clear hK K) | refine thenA_n ?_ | refine thenA_r ?_ | refine thenA_e ?_ | refine block_n ?_ | refine block_r ?_ | refine block_hit ?_ | refine GWp.seq ?_ | refine GWp.block ?_ | refine GWp.skip ?_ | refine GWp.ret ?_ | refine GWp.exit ?_ | refine need_nil ?_ | refine need_cons True.intro ?_)
   | ((with_reducible first | refine gPost_r ?_ | refine gPost_n ?_ | refine fork_t ?_ | refine fork_f ?_ | (refine GWp.region (base := 0) ?_; intro K hK)); cbv; try simp only [hseg])
   | ((with_reducible refine GWp.cond_t ?hh ?_); (case hh => rfl)) | ((with_reducible refine GWp.cond_f ?hh ?_); (case hh => rfl)) | ((with_reducible refine block_miss ?hh ?_); (case hh => rfl))
   | ((with_reducible refine GWp.draws (base := 0) hM ?hh ?_); (case hh => rfl); intro K hK; cbv; try simp only [hseg])
   | ((with_reducible refine need_cons ?hh ?_); (case hh => first | with_reducible rfl | exact nn_ok hO (by decide))) | fail)
  refine GWp.loop (nb := 0) (keep := fun t => t == 0 || t == 1 || t == 5) (kk := fun _ _ => none) (invSz 27 els N (fun i => Ce.szs (l.take i)) left) (by simp at hC; simp [hC]) ?_ ?_
  · cbv
    exact ⟨_, 0, m, by cbv, by simp, by simp [Ce.szs]; exact hm.symm, hs, rfl⟩
  rintro n σ ⟨i, m1, rfl, g1, g2, g3, rfl⟩
  repeat' (first
   | (with_reducible first | (refine hK _ ?_; clear hK K) | refine thenA_n ?_ | refine thenA_r ?_ | refine thenA_e ?_ | refine block_n ?_ | refine block_r ?_ | refine block_hit ?_ | refine GWp.seq ?_ | refine GWp.block ?_ | refine GWp.skip ?_ | refine GWp.ret ?_ | refine GWp.exit ?_ | refine need_nil ?_ | refine need_cons True.intro ?_)
   | ((with_reducible first | refine gPost_r ?_ | refine gPost_n ?_ | refine fork_t ?_ | refine fork_f ?_ | (refine GWp.region (base := 0) ?_; intro K hK)); cbv; try simp only [hseg])
   | ((with_reducible refine GWp.cond_t ?hh ?_); (case hh => rfl)) | ((with_reducible refine GWp.cond_f ?hh ?_); (case hh => rfl)) | ((with_reducible refine block_miss ?hh ?_); (case hh => rfl))
   | ((with_reducible refine GWp.draws (base := 0) hM ?hh ?_); (case hh => rfl); intro K hK; cbv; try simp only [hseg])
   | ((with_reducible refine need_cons ?hh ?_); (case hh => first | with_reducible rfl | exact nn_ok hO (by decide))) | fail)
  simp only [hlen]
  refine GWp.cond rfl (fun h4 => ?_) (fun h4 => ?_)
  · have hlt : i < N := by
      try clear hK K
      clear hM hP hC hR; cases hO
      simp only [Ops.std, stdCmp, stdBin, scmp_eql, scmp_neq, stdUn, Int.ofNat_eq_natCast] at *
      simpa using h4
    obtain ⟨x, hx, hx', ht, e1⟩ := map_at hO he (hN ▸ hlt)
    have hc := ih x hx m1 g3
    obtain ⟨xRefs, ⟨xVK, xVN, xVS⟩⟩ := x
    simp only [SzOk, ToOk, EqOk, roT, agT, Ce.t, Ce.ow, Vl.t, Vl.ow, strT, intT, byteT, List.map, List.cons_append, List.nil_append, List.append_nil, tA] at hc e1
    repeat' (first
     | (with_reducible first | (refine hK _ ?_; clear hK K) | refine thenA_n ?_ | refine thenA_r ?_ | refine thenA_e ?_ | refine block_n ?_ | refine block_r ?_ | refine block_hit ?_ | refine GWp.seq ?_ | refine GWp.block ?_ | refine GWp.skip ?_ | refine GWp.ret ?_ | refine GWp.exit ?_ | refine need_nil ?_ | refine need_cons True.intro ?_)
     | ((with_reducible first | refine gPost_r ?_ | refine gPost_n ?_ | refine fork_t ?_ | refine fork_f ?_ | (refine GWp.region (base := 0) ?_; intro K hK)); cbv; try simp only [hseg])
     | ((with_reducible refine GWp.cond_t ?hh ?_); (case hh => rfl)) | ((with_reducible refine GWp.cond_f ?hh ?_); (case hh => rfl)) | ((with_reducible refine block_miss ?hh ?_); (case hh => rfl))
     | ((with_reducible refine GWp.draws (base := 0) hM ?hh ?_); (case hh => rfl); intro K hK; cbv; try simp only [hseg])
     | ((with_reducible refine need_cons ?hh ?_); (case hh => first | with_reducible rfl | exact nn_ok hO (by decide))) | fail)
    repeat (simp only [e1]; cbv)
    refine need_cons (hlen ▸ idx_nat hO hlt) (need_cons ha (need_nil ?_))
    refine GCall.by ⟨fun _ _ => false, fun _ _ => false, []⟩ ?_
    cbv
    try simp only [hseg]
    refine GCallD.by hP rfl (hc) ?_
    rintro res bx ⟨r, hr, rfl, rfl⟩
    cbv
    try simp only [hseg]
    have hz : Ce.szs (l.take (i + 1)) = Ce.szs (l.take i) + (Ce.mk xRefs (Vl.mk xVK xVN xVS)).sz := by rw [ht, Ce.szs_app, Ce.szs_one]
    generalize (Ce.mk xRefs (Vl.mk xVK xVN xVS)).sz = z at hr hz
    repeat' (first
     | (with_reducible first | (refine hK _ ?_; clear hK K) | refine thenA_n ?_ | refine thenA_r ?_ | refine thenA_e ?_ | refine block_n ?_ | refine block_r ?_ | refine block_hit ?_ | refine GWp.seq ?_ | refine GWp.block ?_ | refine GWp.skip ?_ | refine GWp.ret ?_ | refine GWp.exit ?_ | refine need_nil ?_ | refine need_cons True.intro ?_)
     | ((with_reducible first | refine gPost_r ?_ | refine gPost_n ?_ | refine fork_t ?_ | refine fork_f ?_ | (refine GWp.region (base := 0) ?_; intro K hK)); cbv; try simp only [hseg])
     | ((with_reducible refine GWp.cond_t ?hh ?_); (case hh => rfl)) | ((with_reducible refine GWp.cond_f ?hh ?_); (case hh => rfl)) | ((with_reducible refine block_miss ?hh ?_); (case hh => rfl))
     | ((with_reducible refine GWp.draws (base := 0) hM ?hh ?_); (case hh => rfl); intro K hK; cbv; try simp only [hseg])
     | ((with_reducible refine need_cons ?hh ?_); (case hh => first | with_reducible rfl | exact nn_ok hO (by decide))) | fail)
    have hzl : Ce.szs (l.take (i + 1)) ≤ Ce.szs l := by
      have := Ce.szs_app (l.take (i + 1)) (l.drop (i + 1))
      rw [List.take_append_drop] at this
      omega
    refine GWp.cond rfl (fun h5 => ?_) (fun h5 => ?_)
    · repeat' (first
       | (with_reducible first | (refine hK _ ?_; clear hK K) | refine thenA_n ?_ | refine thenA_r ?_ | refine thenA_e ?_ | refine block_n ?_ | refine block_r ?_ | refine block_hit ?_ | refine GWp.seq ?_ | refine GWp.block ?_ | refine GWp.skip ?_ | refine GWp.ret ?_ | refine GWp.exit ?_ | refine need_nil ?_ | refine need_cons True.intro ?_)
       | ((with_reducible first | refine gPost_r ?_ | refine gPost_n ?_ | refine fork_t ?_ | refine fork_f ?_ | (refine GWp.region (base := 0) ?_; intro K hK)); cbv; try simp only [hseg])
       | ((with_reducible refine GWp.cond_t ?hh ?_); (case hh => rfl)) | ((with_reducible refine GWp.cond_f ?hh ?_); (case hh => rfl)) | ((with_reducible refine block_miss ?hh ?_); (case hh => rfl))
       | ((with_reducible refine GWp.draws (base := 0) hM ?hh ?_); (case hh => rfl); intro K hK; cbv; try simp only [hseg])
       | ((with_reducible refine need_cons ?hh ?_); (case hh => first | with_reducible rfl | exact nn_ok hO (by decide))) | fail)
      refine hR _ _ ⟨_, .inr ⟨?_, rfl⟩, rfl, rfl⟩
      have hr0 : r < 0 := by
        try clear hK K
        clear hM hP hC hR; cases hO
        simp only [Ops.std, stdCmp, stdBin, scmp_eql, scmp_neq, stdUn, Int.ofNat_eq_natCast] at *
        simpa using h5
      clear hR; try clear hK
      simp only [szR, lefts, Int.ofNat_eq_natCast] at *
      omega
    · have hr0 : ¬ r < 0 := by
        try clear hK K
        clear hM hP hC hR; cases hO
        simp only [Ops.std, stdCmp, stdBin, scmp_eql, scmp_neq, stdUn, Int.ofNat_eq_natCast] at *
        simpa using h5
      repeat' (first
       | (with_reducible first | (refine hK _ ?_; clear hK K) | refine thenA_n ?_ | refine thenA_r ?_ | refine thenA_e ?_ | refine block_n ?_ | refine block_r ?_ | refine block_hit ?_ | refine GWp.seq ?_ | refine GWp.block ?_ | refine GWp.skip ?_ | refine GWp.ret ?_ | refine GWp.exit ?_ | refine need_nil ?_ | refine need_cons True.intro ?_)
       | ((with_reducible first | refine gPost_r ?_ | refine gPost_n ?_ | refine fork_t ?_ | refine fork_f ?_ | (refine GWp.region (base := 0) ?_; intro K hK)); cbv; try simp only [hseg])
       | ((with_reducible refine GWp.cond_t ?hh ?_); (case hh => rfl)) | ((with_reducible refine GWp.cond_f ?hh ?_); (case hh => rfl)) | ((with_reducible refine block_miss ?hh ?_); (case hh => rfl))
       | ((with_reducible refine GWp.draws (base := 0) hM ?hh ?_); (case hh => rfl); intro K hK; cbv; try simp only [hseg])
       | ((with_reducible refine need_cons ?hh ?_); (case hh => first | with_reducible rfl | exact nn_ok hO (by decide))) | fail)
      have e : bin .add .i64 (Int.ofNat i) 1 = _ := i_succ hO (by omega)
      cbv
      rw [e]
      refine ⟨_, ?_, i + 1, r, by cbv, by omega, ?_, ?_, rfl⟩
      · omega
      · clear hR; try clear hK
        simp only [szR, lefts, Int.ofNat_eq_natCast] at *
        omega
      · clear hR; try clear hK
        simp only [szR, lefts, Int.ofNat_eq_natCast] at *
        omega
  · have hge : i = N := by
      try clear hK K
      clear hM hP hC hR; cases hO
      simp only [Ops.std, stdCmp, stdBin, scmp_eql, scmp_neq, stdUn, Int.ofNat_eq_natCast] at *
      simp at h4; omega
    repeat' (first
     | (with_reducible first | (refine hK _ ?_; clear hK K) | refine thenA_n ?_ | refine thenA_r ?_ | refine thenA_e ?_ | refine block_n ?_ | refine block_r ?_ | refine block_hit ?_ | refine GWp.seq ?_ | refine GWp.block ?_ | refine GWp.skip ?_ | refine GWp.ret ?_ | refine GWp.exit ?_ | refine need_nil ?_ | refine need_cons True.intro ?_)
     | ((with_reducible first | refine gPost_r ?_ | refine gPost_n ?_ | refine fork_t ?_ | refine fork_f ?_ | (refine GWp.region (base := 0) ?_; intro K hK)); cbv; try simp only [hseg])
     | ((with_reducible refine GWp.cond_t ?hh ?_); (case hh => rfl)) | ((with_reducible refine GWp.cond_f ?hh ?_); (case hh => rfl)) | ((with_reducible refine block_miss ?hh ?_); (case hh => rfl))
     | ((with_reducible refine GWp.draws (base := 0) hM ?hh ?_); (case hh => rfl); intro K hK; cbv; try simp only [hseg])
     | ((with_reducible refine need_cons ?hh ?_); (case hh => first | with_reducible rfl | exact nn_ok hO (by decide))) | fail)
    have e2 : l.take i = l := List.take_of_length_le (by omega)
    refine hR _ _ ⟨_, .inl ⟨?_, ?_⟩, rfl, rfl⟩
    · clear hR; try clear hK
      simp only [szR, lefts, Int.ofNat_eq_natCast, e2] at *
      omega
    · clear hR; try clear hK
      simp only [szR, lefts, Int.ofNat_eq_natCast, e2] at *
      omega

theorem c_toCellS (l : List Ce) (els : List (List T)) (he : els = l.map Ce.t) (hl : l.length ≤ 1048576)
    (ih : ∀ e ∈ l, ToOk 60 [agT e.t] ⟨.agg, e.ow⟩) :
    ToOk 43 [roT els] ⟨.one, [.ow (0, 0) 4 els]⟩ := by
  refine gcalls_by tys_ok 23 [.tmp 2] (fn := Try.f43) rfl rfl rfl rfl ?_ ?_ ?_
  · simp [stampFree, litI, A.stamp, A.rstamp, stampIn]
  · simp
  intro O hO P hP C hC R hR
  have hM : P.follows .mixedOrders = true := by rw [hP]; rfl
  obtain ⟨bin, cmp, sadd, scmp, beq, bnot, band, un, wrap, size, byte, sub, len, seg, app, get, set, nat, nadd, nsub, repl, text, bytes, mn, mx, nz, nn, idx, bnd, le, all, one, lits, isB, sOk, aOk, mOk⟩ := O
  have hseg : ∀ e, seg 0 (len e) e = e := by intro e; cases hO; simp
  obtain ⟨N, hN⟩ : ∃ N, N = l.length := ⟨_, rfl⟩
  have hNe : els.length = N := by simp [he, hN]
  have hlen : len els = N := len_of hO hNe
  have hk : ∀ e ∈ els, e.length = 4 := by subst he; simp [Ce.t_len]
  have ha : all els 4 := all_of hO hk
  rw [← hN] at hl
  repeat' (first
   | (with_reducible first | (refine hK _ ?_; clear hK K) | refine thenA_n ?_ | refine thenA_r ?_ | refine thenA_e ?_ | refine block_n ?_ | refine block_r ?_ | refine block_hit ?_ | refine GWp.seq ?_ | refine GWp.block ?_ | refine GWp.skip ?_ | refine GWp.ret ?_ | refine GWp.exit ?_ | refine need_nil ?_ | refine need_cons True.intro ?_)
   | ((with_reducible first | refine gPost_r ?_ | refine gPost_n ?_ | refine fork_t ?_ | refine fork_f ?_ | (refine GWp.region (base := 0) ?_; intro K hK)); cbv; try simp only [hseg])
   | ((with_reducible refine GWp.cond_t ?hh ?_); (case hh => rfl)) | ((with_reducible refine GWp.cond_f ?hh ?_); (case hh => rfl)) | ((with_reducible refine block_miss ?hh ?_); (case hh => rfl))
   | ((with_reducible refine GWp.draws (base := 0) hM ?hh ?_); (case hh => rfl); intro K hK; cbv; try simp only [hseg])
   | ((with_reducible refine need_cons ?hh ?_); (case hh => first | with_reducible rfl | exact nn_ok hO (by decide))) | fail)
  simp only [hlen]
  refine need_cons (mOk_of hO (by simp only [Int.ofNat_eq_natCast]; omega)) (need_nil ?_)
  generalize hR0 : repl (nat (Int.ofNat N)) [T.lit (.int .i64 0), T.lit (.int .i64 0), T.lit (.int .i64 0), T.lit (.string ⟨#[]⟩)] = outs0
  have h0 : outs0.length = els.length ∧ ∀ e ∈ outs0, e.length = 4 := by
    subst hR0; cases hO
    refine ⟨?_, fun e he => ?_⟩
    · simp [Ops.std, hNe]
    · rw [List.eq_of_mem_replicate he]; rfl
  repeat' (first
   | (with_reducible first | (refine hK _ ?_; clear hK K) | refine thenA_n ?_ | refine thenA_r ?_ | refine thenA_e ?_ | refine block_n ?_ | refine block_r ?_ | refine block_hit ?_ | refine GWp.seq ?_ | refine GWp.block ?_ | refine GWp.skip ?_ | refine GWp.ret ?_ | refine GWp.exit ?_ | refine need_nil ?_ | refine need_cons True.intro ?_)
   | ((with_reducible first | refine gPost_r ?_ | refine gPost_n ?_ | refine fork_t ?_ | refine fork_f ?_ | (refine GWp.region (base := 0) ?_; intro K hK)); cbv; try simp only [hseg])
   | ((with_reducible refine GWp.cond_t ?hh ?_); (case hh => rfl)) | ((with_reducible refine GWp.cond_f ?hh ?_); (case hh => rfl)) | ((with_reducible refine block_miss ?hh ?_); (case hh => rfl))
   | ((with_reducible refine GWp.draws (base := 0) hM ?hh ?_); (case hh => rfl); intro K hK; cbv; try simp only [hseg])
   | ((with_reducible refine need_cons ?hh ?_); (case hh => first | with_reducible rfl | exact nn_ok hO (by decide))) | fail)
  refine GWp.loop (nb := 0) (keep := fun t => t == 0 || t == 3 || t == 4) (kk := fun _ _ => none) (invTo 23 els 4) (by simp at hC; simp [hC]) ?_ ?_
  · cbv
    exact ⟨_, 0, outs0, by cbv, Nat.zero_le _, h0.1, h0.2, by simp, rfl⟩
  rintro n σ ⟨i, outs, rfl, g1, g2, g3, g4, rfl⟩
  rw [hNe] at g1 g2
  have hlo : len outs = N := len_of hO g2
  repeat' (first
   | (with_reducible first | (refine hK _ ?_; clear hK K) | refine thenA_n ?_ | refine thenA_r ?_ | refine thenA_e ?_ | refine block_n ?_ | refine block_r ?_ | refine block_hit ?_ | refine GWp.seq ?_ | refine GWp.block ?_ | refine GWp.skip ?_ | refine GWp.ret ?_ | refine GWp.exit ?_ | refine need_nil ?_ | refine need_cons True.intro ?_)
   | ((with_reducible first | refine gPost_r ?_ | refine gPost_n ?_ | refine fork_t ?_ | refine fork_f ?_ | (refine GWp.region (base := 0) ?_; intro K hK)); cbv; try simp only [hseg])
   | ((with_reducible refine GWp.cond_t ?hh ?_); (case hh => rfl)) | ((with_reducible refine GWp.cond_f ?hh ?_); (case hh => rfl)) | ((with_reducible refine block_miss ?hh ?_); (case hh => rfl))
   | ((with_reducible refine GWp.draws (base := 0) hM ?hh ?_); (case hh => rfl); intro K hK; cbv; try simp only [hseg])
   | ((with_reducible refine need_cons ?hh ?_); (case hh => first | with_reducible rfl | exact nn_ok hO (by decide))) | fail)
  simp only [hlen]
  refine GWp.cond rfl (fun h4 => ?_) (fun h4 => ?_)
  · have hlt : i < N := by
      try clear hK K
      clear hM hP hC hR; cases hO
      simp only [Ops.std, stdCmp, stdBin, scmp_eql, scmp_neq, stdUn, Int.ofNat_eq_natCast] at *
      simpa using h4
    obtain ⟨x, hx, hx', ht, e1⟩ := map_at hO he (hN ▸ hlt)
    have hxe : els[i]? = some x.t := by rw [he]; simp [hx']
    have hc := ih x hx
    obtain ⟨xRefs, ⟨xVK, xVN, xVS⟩⟩ := x
    simp only [SzOk, ToOk, EqOk, roT, agT, Ce.t, Ce.ow, Vl.t, Vl.ow, strT, intT, byteT, List.map, List.cons_append, List.nil_append, List.append_nil, tA] at hc e1 hxe
    have en : nadd 0 (nat (Int.ofNat i)) = i := by cases hO; simp [Ops.std]
    repeat' (first
     | (with_reducible first | (refine hK _ ?_; clear hK K) | refine thenA_n ?_ | refine thenA_r ?_ | refine thenA_e ?_ | refine block_n ?_ | refine block_r ?_ | refine block_hit ?_ | refine GWp.seq ?_ | refine GWp.block ?_ | refine GWp.skip ?_ | refine GWp.ret ?_ | refine GWp.exit ?_ | refine need_nil ?_ | refine need_cons True.intro ?_)
     | ((with_reducible first | refine gPost_r ?_ | refine gPost_n ?_ | refine fork_t ?_ | refine fork_f ?_ | (refine GWp.region (base := 0) ?_; intro K hK)); cbv; try simp only [hseg])
     | ((with_reducible refine GWp.cond_t ?hh ?_); (case hh => rfl)) | ((with_reducible refine GWp.cond_f ?hh ?_); (case hh => rfl)) | ((with_reducible refine block_miss ?hh ?_); (case hh => rfl))
     | ((with_reducible refine GWp.draws (base := 0) hM ?hh ?_); (case hh => rfl); intro K hK; cbv; try simp only [hseg])
     | ((with_reducible refine need_cons ?hh ?_); (case hh => first | with_reducible rfl | exact nn_ok hO (by decide))) | fail)
    repeat (simp only [e1]; cbv)
    refine need_cons (hlen ▸ idx_nat hO hlt) (need_cons ha (need_nil ?_))
    refine GCall.by ⟨fun _ _ => false, fun _ _ => false, []⟩ ?_
    cbv
    try simp only [hseg]
    refine GCallD.by hP rfl (hc) ?_
    rintro res bx ⟨rfl, rfl⟩
    cbv
    try simp only [hseg]
    simp only [hlo, en]
    refine need_cons (idx_nat hO hlt) (need_cons (one_of hO (by omega) rfl g3) ?_)
    have es : ∀ y, set outs i y = outs.set i y := by intro y; cases hO; rfl
    obtain ⟨t1, t2⟩ := set_step (hNe.symm ▸ hlt) (g2.trans hNe.symm) g4 hxe
    have t3 : ∀ e ∈ outs.set i [T.lit (.int .i64 xRefs), T.lit (.int .i64 xVK), T.lit (.int .i64 xVN), T.lit (.string xVS)], e.length = 4 := by
      intro e he
      rcases List.mem_or_eq_of_mem_set he with h | h
      · exact g3 e h
      · rw [h]; rfl
    simp only [es]
    generalize outs.set i [T.lit (.int .i64 xRefs), T.lit (.int .i64 xVK), T.lit (.int .i64 xVN), T.lit (.string xVS)] = outs' at t1 t2 t3 ⊢
    repeat' (first
     | (with_reducible first | (refine hK _ ?_; clear hK K) | refine thenA_n ?_ | refine thenA_r ?_ | refine thenA_e ?_ | refine block_n ?_ | refine block_r ?_ | refine block_hit ?_ | refine GWp.seq ?_ | refine GWp.block ?_ | refine GWp.skip ?_ | refine GWp.ret ?_ | refine GWp.exit ?_ | refine need_nil ?_ | refine need_cons True.intro ?_)
     | ((with_reducible first | refine gPost_r ?_ | refine gPost_n ?_ | refine fork_t ?_ | refine fork_f ?_ | (refine GWp.region (base := 0) ?_; intro K hK)); cbv; try simp only [hseg])
     | ((with_reducible refine GWp.cond_t ?hh ?_); (case hh => rfl)) | ((with_reducible refine GWp.cond_f ?hh ?_); (case hh => rfl)) | ((with_reducible refine block_miss ?hh ?_); (case hh => rfl))
     | ((with_reducible refine GWp.draws (base := 0) hM ?hh ?_); (case hh => rfl); intro K hK; cbv; try simp only [hseg])
     | ((with_reducible refine need_cons ?hh ?_); (case hh => first | with_reducible rfl | exact nn_ok hO (by decide))) | fail)
    have e : bin .add .i64 (Int.ofNat i) 1 = _ := i_succ hO (by omega)
    cbv
    rw [e]
    exact ⟨_, by omega, i + 1, outs', by cbv, by omega, t1, t3, t2, rfl⟩
  · have hge : i = N := by
      try clear hK K
      clear hM hP hC hR; cases hO
      simp only [Ops.std, stdCmp, stdBin, scmp_eql, scmp_neq, stdUn, Int.ofNat_eq_natCast] at *
      simp at h4; omega
    have e2 : outs = els := by
      have := g4
      rw [List.take_of_length_le (by omega), List.take_of_length_le (by omega)] at this
      exact this
    subst e2
    repeat' (first
     | (with_reducible first | (refine hK _ ?_; clear hK K) | refine thenA_n ?_ | refine thenA_r ?_ | refine thenA_e ?_ | refine block_n ?_ | refine block_r ?_ | refine block_hit ?_ | refine GWp.seq ?_ | refine GWp.block ?_ | refine GWp.skip ?_ | refine GWp.ret ?_ | refine GWp.exit ?_ | refine need_nil ?_ | refine need_cons True.intro ?_)
     | ((with_reducible first | refine gPost_r ?_ | refine gPost_n ?_ | refine fork_t ?_ | refine fork_f ?_ | (refine GWp.region (base := 0) ?_; intro K hK)); cbv; try simp only [hseg])
     | ((with_reducible refine GWp.cond_t ?hh ?_); (case hh => rfl)) | ((with_reducible refine GWp.cond_f ?hh ?_); (case hh => rfl)) | ((with_reducible refine block_miss ?hh ?_); (case hh => rfl))
     | ((with_reducible refine GWp.draws (base := 0) hM ?hh ?_); (case hh => rfl); intro K hK; cbv; try simp only [hseg])
     | ((with_reducible refine need_cons ?hh ?_); (case hh => first | with_reducible rfl | exact nn_ok hO (by decide))) | fail)
    exact hR _ _ ⟨rfl, rfl⟩

theorem c_eqCellS (l : List Ce) (els : List (List T)) (he : els = l.map Ce.t) (hl : l.length ≤ 1048576)
    (ih : ∀ e ∈ l, EqOk 66 (agT e.t)) :
    EqOk 49 (roT els) := by
  refine gcalls_by tys_ok 27 [.tmp 4] (fn := Try.f49) rfl rfl rfl rfl ?_ ?_ ?_
  · simp [stampFree, litI, A.stamp, A.rstamp, stampIn]
  · simp
  intro O hO P hP C hC R hR
  have hM : P.follows .mixedOrders = true := by rw [hP]; rfl
  obtain ⟨bin, cmp, sadd, scmp, beq, bnot, band, un, wrap, size, byte, sub, len, seg, app, get, set, nat, nadd, nsub, repl, text, bytes, mn, mx, nz, nn, idx, bnd, le, all, one, lits, isB, sOk, aOk, mOk⟩ := O
  have hseg : ∀ e, seg 0 (len e) e = e := by intro e; cases hO; simp
  obtain ⟨N, hN⟩ : ∃ N, N = l.length := ⟨_, rfl⟩
  have hNe : els.length = N := by simp [he, hN]
  have hlen : len els = N := len_of hO hNe
  have hk : ∀ e ∈ els, e.length = 4 := by subst he; simp [Ce.t_len]
  have ha : all els 4 := all_of hO hk
  rw [← hN] at hl
  have hne : ∀ x, cmp .neq x x = false := by intro x; cases hO; simp [Ops.std, stdCmp]
  have hse : ∀ x, scmp .neq x x = false := by intro x; cases hO; simp [Ops.std, scmp_neq]
  have hbe : ∀ x, bnot (beq x x) = false := by intro x; cases hO; simp [Ops.std]
  have hnt : bnot true = false := by cases hO; rfl
  repeat' (first
   | (with_reducible first | (refine hK _ ?_; clear hK K) | refine thenA_n ?_ | refine thenA_r ?_ | refine thenA_e ?_ | refine block_n ?_ | refine block_r ?_ | refine block_hit ?_ | refine GWp.seq ?_ | refine GWp.block ?_ | refine GWp.skip ?_ | refine GWp.ret ?_ | refine GWp.exit ?_ | refine need_nil ?_ | refine need_cons True.intro ?_)
   | ((with_reducible first | refine gPost_r ?_ | refine gPost_n ?_ | refine fork_t ?_ | refine fork_f ?_ | (refine GWp.region (base := 0) ?_; intro K hK)); cbv; try simp only [hseg])
   | ((with_reducible refine GWp.cond_t ?hh ?_); (case hh => rfl)) | ((with_reducible refine GWp.cond_f ?hh ?_); (case hh => rfl)) | ((with_reducible refine block_miss ?hh ?_); (case hh => rfl))
   | ((with_reducible refine GWp.draws (base := 0) hM ?hh ?_); (case hh => rfl); intro K hK; cbv; try simp only [hseg])
   | ((with_reducible refine need_cons ?hh ?_); (case hh => first | with_reducible rfl | exact nn_ok hO (by decide))) | fail)
  simp only [hne]
  repeat' (first
   | (with_reducible first | (refine hK _ ?_; clear hK K) | refine thenA_n ?_ | refine thenA_r ?_ | refine thenA_e ?_ | refine block_n ?_ | refine block_r ?_ | refine block_hit ?_ | refine GWp.seq ?_ | refine GWp.block ?_ | refine GWp.skip ?_ | refine GWp.ret ?_ | refine GWp.exit ?_ | refine need_nil ?_ | refine need_cons True.intro ?_)
   | ((with_reducible first | refine gPost_r ?_ | refine gPost_n ?_ | refine fork_t ?_ | refine fork_f ?_ | (refine GWp.region (base := 0) ?_; intro K hK)); cbv; try simp only [hseg])
   | ((with_reducible refine GWp.cond_t ?hh ?_); (case hh => rfl)) | ((with_reducible refine GWp.cond_f ?hh ?_); (case hh => rfl)) | ((with_reducible refine block_miss ?hh ?_); (case hh => rfl))
   | ((with_reducible refine GWp.draws (base := 0) hM ?hh ?_); (case hh => rfl); intro K hK; cbv; try simp only [hseg])
   | ((with_reducible refine need_cons ?hh ?_); (case hh => first | with_reducible rfl | exact nn_ok hO (by decide))) | fail)
  refine GWp.loop (nb := 0) (keep := fun t => t == 0 || t == 1 || t == 5) (kk := fun _ _ => none) (invEq 27 els) (by simp at hC; simp [hC]) ?_ ?_
  · cbv
    exact ⟨_, 0, by cbv, Nat.zero_le _, rfl⟩
  rintro n σ ⟨i, rfl, g1, rfl⟩
  rw [hNe] at g1
  repeat' (first
   | (with_reducible first | (refine hK _ ?_; clear hK K) | refine thenA_n ?_ | refine thenA_r ?_ | refine thenA_e ?_ | refine block_n ?_ | refine block_r ?_ | refine block_hit ?_ | refine GWp.seq ?_ | refine GWp.block ?_ | refine GWp.skip ?_ | refine GWp.ret ?_ | refine GWp.exit ?_ | refine need_nil ?_ | refine need_cons True.intro ?_)
   | ((with_reducible first | refine gPost_r ?_ | refine gPost_n ?_ | refine fork_t ?_ | refine fork_f ?_ | (refine GWp.region (base := 0) ?_; intro K hK)); cbv; try simp only [hseg])
   | ((with_reducible refine GWp.cond_t ?hh ?_); (case hh => rfl)) | ((with_reducible refine GWp.cond_f ?hh ?_); (case hh => rfl)) | ((with_reducible refine block_miss ?hh ?_); (case hh => rfl))
   | ((with_reducible refine GWp.draws (base := 0) hM ?hh ?_); (case hh => rfl); intro K hK; cbv; try simp only [hseg])
   | ((with_reducible refine need_cons ?hh ?_); (case hh => first | with_reducible rfl | exact nn_ok hO (by decide))) | fail)
  simp only [hlen]
  refine GWp.cond rfl (fun h4 => ?_) (fun h4 => ?_)
  · have hlt : i < N := by
      try clear hK K
      clear hM hP hC hR; cases hO
      simp only [Ops.std, stdCmp, stdBin, scmp_eql, scmp_neq, stdUn, Int.ofNat_eq_natCast] at *
      simpa using h4
    obtain ⟨x, hx, hx', ht, e1⟩ := map_at hO he (hN ▸ hlt)
    have hc := ih x hx
    obtain ⟨xRefs, ⟨xVK, xVN, xVS⟩⟩ := x
    simp only [SzOk, ToOk, EqOk, roT, agT, Ce.t, Ce.ow, Vl.t, Vl.ow, strT, intT, byteT, List.map, List.cons_append, List.nil_append, List.append_nil, tA] at hc e1
    have hi : idx (Int.ofNat i) (len els) := hlen ▸ idx_nat hO hlt
    repeat' (first
     | (with_reducible first | (refine hK _ ?_; clear hK K) | refine thenA_n ?_ | refine thenA_r ?_ | refine thenA_e ?_ | refine block_n ?_ | refine block_r ?_ | refine block_hit ?_ | refine GWp.seq ?_ | refine GWp.block ?_ | refine GWp.skip ?_ | refine GWp.ret ?_ | refine GWp.exit ?_ | refine need_nil ?_ | refine need_cons True.intro ?_)
     | ((with_reducible first | refine gPost_r ?_ | refine gPost_n ?_ | refine fork_t ?_ | refine fork_f ?_ | (refine GWp.region (base := 0) ?_; intro K hK)); cbv; try simp only [hseg])
     | ((with_reducible refine GWp.cond_t ?hh ?_); (case hh => rfl)) | ((with_reducible refine GWp.cond_f ?hh ?_); (case hh => rfl)) | ((with_reducible refine block_miss ?hh ?_); (case hh => rfl))
     | ((with_reducible refine GWp.draws (base := 0) hM ?hh ?_); (case hh => rfl); intro K hK; cbv; try simp only [hseg])
     | ((with_reducible refine need_cons ?hh ?_); (case hh => first | with_reducible rfl | exact nn_ok hO (by decide))) | fail)
    repeat (simp only [e1]; cbv)
    refine need_cons hi (need_cons ha (need_cons hi (need_cons ha (need_nil ?_))))
    refine GCall.by ⟨fun _ _ => false, fun _ _ => false, []⟩ ?_
    cbv
    try simp only [hseg]
    refine GCallD.by hP rfl (hc) ?_
    rintro res bx ⟨rfl, rfl⟩
    cbv
    try simp only [hseg]
    repeat (simp only [e1]; cbv)
    simp only [hnt, hse, hne]
    repeat' (first
     | (with_reducible first | (refine hK _ ?_; clear hK K) | refine thenA_n ?_ | refine thenA_r ?_ | refine thenA_e ?_ | refine block_n ?_ | refine block_r ?_ | refine block_hit ?_ | refine GWp.seq ?_ | refine GWp.block ?_ | refine GWp.skip ?_ | refine GWp.ret ?_ | refine GWp.exit ?_ | refine need_nil ?_ | refine need_cons True.intro ?_)
     | ((with_reducible first | refine gPost_r ?_ | refine gPost_n ?_ | refine fork_t ?_ | refine fork_f ?_ | (refine GWp.region (base := 0) ?_; intro K hK)); cbv; try simp only [hseg])
     | ((with_reducible refine GWp.cond_t ?hh ?_); (case hh => rfl)) | ((with_reducible refine GWp.cond_f ?hh ?_); (case hh => rfl)) | ((with_reducible refine block_miss ?hh ?_); (case hh => rfl))
     | ((with_reducible refine GWp.draws (base := 0) hM ?hh ?_); (case hh => rfl); intro K hK; cbv; try simp only [hseg])
     | ((with_reducible refine need_cons ?hh ?_); (case hh => first | with_reducible rfl | exact nn_ok hO (by decide))) | fail)
    have e : bin .add .i64 (Int.ofNat i) 1 = _ := i_succ hO (by omega)
    cbv
    rw [e]
    exact ⟨_, by omega, i + 1, by cbv, by omega, rfl⟩
  · repeat' (first
     | (with_reducible first | (refine hK _ ?_; clear hK K) | refine thenA_n ?_ | refine thenA_r ?_ | refine thenA_e ?_ | refine block_n ?_ | refine block_r ?_ | refine block_hit ?_ | refine GWp.seq ?_ | refine GWp.block ?_ | refine GWp.skip ?_ | refine GWp.ret ?_ | refine GWp.exit ?_ | refine need_nil ?_ | refine need_cons True.intro ?_)
     | ((with_reducible first | refine gPost_r ?_ | refine gPost_n ?_ | refine fork_t ?_ | refine fork_f ?_ | (refine GWp.region (base := 0) ?_; intro K hK)); cbv; try simp only [hseg])
     | ((with_reducible refine GWp.cond_t ?hh ?_); (case hh => rfl)) | ((with_reducible refine GWp.cond_f ?hh ?_); (case hh => rfl)) | ((with_reducible refine block_miss ?hh ?_); (case hh => rfl))
     | ((with_reducible refine GWp.draws (base := 0) hM ?hh ?_); (case hh => rfl); intro K hK; cbv; try simp only [hseg])
     | ((with_reducible refine need_cons ?hh ?_); (case hh => first | with_reducible rfl | exact nn_ok hO (by decide))) | fail)
    exact hR _ _ ⟨rfl, rfl⟩

theorem szCells (l : List Ce) (hl : l.length ≤ maxLen) (h : ∀ e ∈ l, Ce.Wf e) : SzOk 39 (fun left => [roT (l.map Ce.t), litI left]) (l.length + Ce.szs l) :=
  fun left hleft => c_szCellS l _ rfl hl left hleft fun e he => c_szCell e (h e he)
theorem toCells (l : List Ce) (hl : l.length + Ce.szs l ≤ 1048576) : ToOk 43 [roT (l.map Ce.t)] ⟨.one, [.ow (0, 0) 4 (l.map Ce.t)]⟩ :=
  c_toCellS l _ rfl (by omega) fun e he => c_toCell e (by have := sum_mem (f := Ce.sz) he; unfold Ce.szs at hl; omega)
theorem eqCells (l : List Ce) (hl : l.length + Ce.szs l ≤ 1048576) : EqOk 49 (roT (l.map Ce.t)) :=
  c_eqCellS l _ rfl (by omega) fun e he => c_eqCell e (by have := sum_mem (f := Ce.sz) he; unfold Ce.szs at hl; omega)

theorem st_szHeap (xCells : List Ce) (left : Int) (hleft : lefts left)
    (ihCells : SzOk 39 (fun left => [roT (xCells.map Ce.t), litI left]) (xCells.length + Ce.szs xCells)) :
    ACalls Try.prog 12 [agT (He.mk xCells).t, litI left] [] (fun res bx => ∃ r, szR (He.mk xCells).sz left r ∧ res = litI r ∧ bx = []) := by
  simp only [SzOk, roT, agT, He.t, He.ow, Ce.t, Ce.ow, Vl.t, Vl.ow, strT, intT, byteT, List.map, List.cons_append, List.nil_append, List.append_nil, tA] at *
  generalize xCells.map Ce.t = tCells at *
  refine gcalls_by tys_ok 12 [.tmp 4] (fn := Try.f12) rfl rfl rfl rfl ?_ ?_ ?_
  · simp [stampFree, litI, A.stamp, A.rstamp, stampIn]
  · simp
  intro O hO P hP C hC R hR
  have hM : P.follows .mixedOrders = true := by rw [hP]; rfl
  obtain ⟨bin, cmp, sadd, scmp, beq, bnot, band, un, wrap, size, byte, sub, len, seg, app, get, set, nat, nadd, nsub, repl, text, bytes, mn, mx, nz, nn, idx, bnd, le, all, one, lits, isB, sOk, aOk, mOk⟩ := O
  have hseg : ∀ e, seg 0 (len e) e = e := by intro e; cases hO; simp
  repeat' (first
   | (with_reducible first | (refine hK _ ?_; clear hK K) | refine thenA_n ?_ | refine thenA_r ?_ | refine thenA_e ?_ | refine block_n ?_ | refine block_r ?_ | refine block_hit ?_ | refine GWp.seq ?_ | refine GWp.block ?_ | refine GWp.skip ?_ | refine GWp.ret ?_ | refine GWp.exit ?_ | refine need_nil ?_ | refine need_cons True.intro ?_)
   | ((with_reducible first | refine gPost_r ?_ | refine gPost_n ?_ | refine fork_t ?_ | refine fork_f ?_ | (refine GWp.region (base := 0) ?_; intro K hK)); cbv; try simp only [hseg])
   | ((with_reducible refine GWp.cond_t ?hh ?_); (case hh => rfl)) | ((with_reducible refine GWp.cond_f ?hh ?_); (case hh => rfl)) | ((with_reducible refine block_miss ?hh ?_); (case hh => rfl))
   | ((with_reducible refine GWp.draws (base := 0) hM ?hh ?_); (case hh => rfl); intro K hK; cbv; try simp only [hseg])
   | ((with_reducible refine need_cons ?hh ?_); (case hh => first | with_reducible rfl | exact nn_ok hO (by decide))) | fail)
  refine GCall.by ⟨fun _ _ => false, fun _ _ => false, []⟩ ?_
  cbv
  try simp only [hseg]
  refine GCallD.by hP rfl (ihCells left hleft) ?_
  rintro res bx ⟨m1, hr1, rfl, rfl⟩
  cbv
  try simp only [hseg]
  have hl1 := szR_le hleft hr1
  repeat' (first
   | (with_reducible first | (refine hK _ ?_; clear hK K) | refine thenA_n ?_ | refine thenA_r ?_ | refine thenA_e ?_ | refine block_n ?_ | refine block_r ?_ | refine block_hit ?_ | refine GWp.seq ?_ | refine GWp.block ?_ | refine GWp.skip ?_ | refine GWp.ret ?_ | refine GWp.exit ?_ | refine need_nil ?_ | refine need_cons True.intro ?_)
   | ((with_reducible first | refine gPost_r ?_ | refine gPost_n ?_ | refine fork_t ?_ | refine fork_f ?_ | (refine GWp.region (base := 0) ?_; intro K hK)); cbv; try simp only [hseg])
   | ((with_reducible refine GWp.cond_t ?hh ?_); (case hh => rfl)) | ((with_reducible refine GWp.cond_f ?hh ?_); (case hh => rfl)) | ((with_reducible refine block_miss ?hh ?_); (case hh => rfl))
   | ((with_reducible refine GWp.draws (base := 0) hM ?hh ?_); (case hh => rfl); intro K hK; cbv; try simp only [hseg])
   | ((with_reducible refine need_cons ?hh ?_); (case hh => first | with_reducible rfl | exact nn_ok hO (by decide))) | fail)
  refine GWp.cond rfl (fun h1 => ?_) (fun h1 => ?_)
  · repeat' (first
     | (with_reducible first | (refine hK _ ?_; clear hK K) | refine thenA_n ?_ | refine thenA_r ?_ | refine thenA_e ?_ | refine block_n ?_ | refine block_r ?_ | refine block_hit ?_ | refine GWp.seq ?_ | refine GWp.block ?_ | refine GWp.skip ?_ | refine GWp.ret ?_ | refine GWp.exit ?_ | refine need_nil ?_ | refine need_cons True.intro ?_)
     | ((with_reducible first | refine gPost_r ?_ | refine gPost_n ?_ | refine fork_t ?_ | refine fork_f ?_ | (refine GWp.region (base := 0) ?_; intro K hK)); cbv; try simp only [hseg])
     | ((with_reducible refine GWp.cond_t ?hh ?_); (case hh => rfl)) | ((with_reducible refine GWp.cond_f ?hh ?_); (case hh => rfl)) | ((with_reducible refine block_miss ?hh ?_); (case hh => rfl))
     | ((with_reducible refine GWp.draws (base := 0) hM ?hh ?_); (case hh => rfl); intro K hK; cbv; try simp only [hseg])
     | ((with_reducible refine need_cons ?hh ?_); (case hh => first | with_reducible rfl | exact nn_ok hO (by decide))) | fail)
    refine hR _ _ ⟨_, .inr ⟨?_, rfl⟩, rfl, rfl⟩
    have hg1 : m1 < 0 := by
      try clear hK K
      clear hM hP hC hR; cases hO
      simp only [Ops.std, stdCmp, stdBin, scmp_eql, scmp_neq, stdUn, Int.ofNat_eq_natCast] at *
      simpa using h1
    clear hR; try clear hK
    simp only [szR, lefts, Int.ofNat_eq_natCast, He.sz, Ce.sz, Vl.sz] at *
    omega
  have hg1 : ¬ m1 < 0 := by
    try clear hK K
    clear hM hP hC hR; cases hO
    simp only [Ops.std, stdCmp, stdBin, scmp_eql, scmp_neq, stdUn, Int.ofNat_eq_natCast] at *
    simpa using h1
  have hl1 := hl1 hg1
  repeat' (first
   | (with_reducible first | (refine hK _ ?_; clear hK K) | refine thenA_n ?_ | refine thenA_r ?_ | refine thenA_e ?_ | refine block_n ?_ | refine block_r ?_ | refine block_hit ?_ | refine GWp.seq ?_ | refine GWp.block ?_ | refine GWp.skip ?_ | refine GWp.ret ?_ | refine GWp.exit ?_ | refine need_nil ?_ | refine need_cons True.intro ?_)
   | ((with_reducible first | refine gPost_r ?_ | refine gPost_n ?_ | refine fork_t ?_ | refine fork_f ?_ | (refine GWp.region (base := 0) ?_; intro K hK)); cbv; try simp only [hseg])
   | ((with_reducible refine GWp.cond_t ?hh ?_); (case hh => rfl)) | ((with_reducible refine GWp.cond_f ?hh ?_); (case hh => rfl)) | ((with_reducible refine block_miss ?hh ?_); (case hh => rfl))
   | ((with_reducible refine GWp.draws (base := 0) hM ?hh ?_); (case hh => rfl); intro K hK; cbv; try simp only [hseg])
   | ((with_reducible refine need_cons ?hh ?_); (case hh => first | with_reducible rfl | exact nn_ok hO (by decide))) | fail)
  refine hR _ _ ⟨_, ?_, rfl, rfl⟩
  clear hR; try clear hK
  simp only [szR, lefts, Int.ofNat_eq_natCast, He.sz, Ce.sz, Vl.sz] at *
  omega

theorem st_toHeap (xCells : List Ce)
    (ihCells : ToOk 43 [roT (xCells.map Ce.t)] ⟨.one, [.ow (0, 0) 4 (xCells.map Ce.t)]⟩) :
    ToOk 20 [agT (He.mk xCells).t] ⟨.agg, (He.mk xCells).ow⟩ := by
  simp only [ToOk, roT, agT, He.t, He.ow, Ce.t, Ce.ow, Vl.t, Vl.ow, strT, intT, byteT, List.map, List.cons_append, List.nil_append, List.append_nil, tA] at *
  generalize xCells.map Ce.t = tCells at *
  refine gcalls_by tys_ok 9 [.cell 2 38] (fn := Try.f20) rfl rfl rfl rfl ?_ ?_ ?_
  · simp [stampFree, litI, A.stamp, A.rstamp, stampIn]
  · simp
  intro O hO P hP C hC R hR
  have hM : P.follows .mixedOrders = true := by rw [hP]; rfl
  obtain ⟨bin, cmp, sadd, scmp, beq, bnot, band, un, wrap, size, byte, sub, len, seg, app, get, set, nat, nadd, nsub, repl, text, bytes, mn, mx, nz, nn, idx, bnd, le, all, one, lits, isB, sOk, aOk, mOk⟩ := O
  have hseg : ∀ e, seg 0 (len e) e = e := by intro e; cases hO; simp
  repeat' (first
   | (with_reducible first | (refine hK _ ?_; clear hK K) | refine thenA_n ?_ | refine thenA_r ?_ | refine thenA_e ?_ | refine block_n ?_ | refine block_r ?_ | refine block_hit ?_ | refine GWp.seq ?_ | refine GWp.block ?_ | refine GWp.skip ?_ | refine GWp.ret ?_ | refine GWp.exit ?_ | refine need_nil ?_ | refine need_cons True.intro ?_)
   | ((with_reducible first | refine gPost_r ?_ | refine gPost_n ?_ | refine fork_t ?_ | refine fork_f ?_ | (refine GWp.region (base := 0) ?_; intro K hK)); cbv; try simp only [hseg])
   | ((with_reducible refine GWp.cond_t ?hh ?_); (case hh => rfl)) | ((with_reducible refine GWp.cond_f ?hh ?_); (case hh => rfl)) | ((with_reducible refine block_miss ?hh ?_); (case hh => rfl))
   | ((with_reducible refine GWp.draws (base := 0) hM ?hh ?_); (case hh => rfl); intro K hK; cbv; try simp only [hseg])
   | ((with_reducible refine need_cons ?hh ?_); (case hh => first | with_reducible rfl | exact nn_ok hO (by decide))) | fail)
  refine GCall.by ⟨fun _ _ => false, fun _ _ => false, []⟩ ?_
  cbv
  try simp only [hseg]
  refine GCallD.by hP rfl (ihCells) ?_
  rintro res bx ⟨rfl, rfl⟩
  cbv
  try simp only [hseg]
  repeat' (first
   | (with_reducible first | (refine hK _ ?_; clear hK K) | refine thenA_n ?_ | refine thenA_r ?_ | refine thenA_e ?_ | refine block_n ?_ | refine block_r ?_ | refine block_hit ?_ | refine GWp.seq ?_ | refine GWp.block ?_ | refine GWp.skip ?_ | refine GWp.ret ?_ | refine GWp.exit ?_ | refine need_nil ?_ | refine need_cons True.intro ?_)
   | ((with_reducible first | refine gPost_r ?_ | refine gPost_n ?_ | refine fork_t ?_ | refine fork_f ?_ | (refine GWp.region (base := 0) ?_; intro K hK)); cbv; try simp only [hseg])
   | ((with_reducible refine GWp.cond_t ?hh ?_); (case hh => rfl)) | ((with_reducible refine GWp.cond_f ?hh ?_); (case hh => rfl)) | ((with_reducible refine block_miss ?hh ?_); (case hh => rfl))
   | ((with_reducible refine GWp.draws (base := 0) hM ?hh ?_); (case hh => rfl); intro K hK; cbv; try simp only [hseg])
   | ((with_reducible refine need_cons ?hh ?_); (case hh => first | with_reducible rfl | exact nn_ok hO (by decide))) | fail)
  exact hR _ _ ⟨rfl, rfl⟩

theorem st_eqHeap (xCells : List Ce)
    (ihCells : EqOk 49 (roT (xCells.map Ce.t))) :
    EqOk 28 (agT (He.mk xCells).t) := by
  simp only [EqOk, roT, agT, He.t, He.ow, Ce.t, Ce.ow, Vl.t, Vl.ow, strT, intT, byteT, List.map, List.cons_append, List.nil_append, List.append_nil, tA] at *
  generalize xCells.map Ce.t = tCells at *
  refine gcalls_by tys_ok 11 [.tmp 4] (fn := Try.f28) rfl rfl rfl rfl ?_ ?_ ?_
  · simp [stampFree, litI, A.stamp, A.rstamp, stampIn]
  · simp
  intro O hO P hP C hC R hR
  have hM : P.follows .mixedOrders = true := by rw [hP]; rfl
  obtain ⟨bin, cmp, sadd, scmp, beq, bnot, band, un, wrap, size, byte, sub, len, seg, app, get, set, nat, nadd, nsub, repl, text, bytes, mn, mx, nz, nn, idx, bnd, le, all, one, lits, isB, sOk, aOk, mOk⟩ := O
  have hseg : ∀ e, seg 0 (len e) e = e := by intro e; cases hO; simp
  have hne : ∀ x, cmp .neq x x = false := by intro x; cases hO; simp [Ops.std, stdCmp]
  have hse : ∀ x, scmp .neq x x = false := by intro x; cases hO; simp [Ops.std, scmp_neq]
  have hbe : ∀ x, bnot (beq x x) = false := by intro x; cases hO; simp [Ops.std]
  have hnt : bnot true = false := by cases hO; rfl
  repeat' (first
   | (with_reducible first | (refine hK _ ?_; clear hK K) | refine thenA_n ?_ | refine thenA_r ?_ | refine thenA_e ?_ | refine block_n ?_ | refine block_r ?_ | refine block_hit ?_ | refine GWp.seq ?_ | refine GWp.block ?_ | refine GWp.skip ?_ | refine GWp.ret ?_ | refine GWp.exit ?_ | refine need_nil ?_ | refine need_cons True.intro ?_)
   | ((with_reducible first | refine gPost_r ?_ | refine gPost_n ?_ | refine fork_t ?_ | refine fork_f ?_ | (refine GWp.region (base := 0) ?_; intro K hK)); cbv; try simp only [hseg])
   | ((with_reducible refine GWp.cond_t ?hh ?_); (case hh => rfl)) | ((with_reducible refine GWp.cond_f ?hh ?_); (case hh => rfl)) | ((with_reducible refine block_miss ?hh ?_); (case hh => rfl))
   | ((with_reducible refine GWp.draws (base := 0) hM ?hh ?_); (case hh => rfl); intro K hK; cbv; try simp only [hseg])
   | ((with_reducible refine need_cons ?hh ?_); (case hh => first | with_reducible rfl | exact nn_ok hO (by decide))) | fail)
  refine GCall.by ⟨fun _ _ => false, fun _ _ => false, []⟩ ?_
  cbv
  try simp only [hseg]
  refine GCallD.by hP rfl (ihCells) ?_
  rintro res bx ⟨rfl, rfl⟩
  cbv
  try simp only [hseg]
  simp only [hne, hse, hbe, hnt]
  repeat' (first
   | (with_reducible first | (refine hK _ ?_; clear hK K) | refine thenA_n ?_ | refine thenA_r ?_ | refine thenA_e ?_ | refine block_n ?_ | refine block_r ?_ | refine block_hit ?_ | refine GWp.seq ?_ | refine GWp.block ?_ | refine GWp.skip ?_ | refine GWp.ret ?_ | refine GWp.exit ?_ | refine need_nil ?_ | refine need_cons True.intro ?_)
   | ((with_reducible first | refine gPost_r ?_ | refine gPost_n ?_ | refine fork_t ?_ | refine fork_f ?_ | (refine GWp.region (base := 0) ?_; intro K hK)); cbv; try simp only [hseg])
   | ((with_reducible refine GWp.cond_t ?hh ?_); (case hh => rfl)) | ((with_reducible refine GWp.cond_f ?hh ?_); (case hh => rfl)) | ((with_reducible refine block_miss ?hh ?_); (case hh => rfl))
   | ((with_reducible refine GWp.draws (base := 0) hM ?hh ?_); (case hh => rfl); intro K hK; cbv; try simp only [hseg])
   | ((with_reducible refine need_cons ?hh ?_); (case hh => first | with_reducible rfl | exact nn_ok hO (by decide))) | fail)
  exact hR _ _ ⟨rfl, rfl⟩

theorem c_szHeap (x : He) (hw : x.Wf) : SzOk 12 (fun left => [agT x.t, litI left]) x.sz := fun left hleft => by
  obtain ⟨xCells⟩ := x
  exact st_szHeap xCells left hleft (szCells xCells hw.cells hw.cells')
theorem c_toHeap (x : He) (hz : x.sz ≤ 1048576) : ToOk 20 [agT x.t] ⟨.agg, x.ow⟩ := by
  obtain ⟨xCells⟩ := x
  simp only [He.sz] at hz
  exact st_toHeap xCells (toCells xCells (by omega))
theorem c_eqHeap (x : He) (hz : x.sz ≤ 1048576) : EqOk 28 (agT x.t) := by
  obtain ⟨xCells⟩ := x
  simp only [He.sz] at hz
  exact st_eqHeap xCells (eqCells xCells (by omega))

theorem st_szMEntry (xKey : ByteArray) (xRef : Int) (left : Int) (hleft : lefts left)
    (hKey : xKey.size ≤ maxLen) :
    ACalls Try.prog 74 [agT (Me.mk xKey xRef).t, litI left] [] (fun res bx => ∃ r, szR (Me.mk xKey xRef).sz left r ∧ res = litI r ∧ bx = []) := by
  simp only [SzOk, roT, agT, Me.t, Me.ow, strT, intT, byteT, List.map, List.cons_append, List.nil_append, List.append_nil, tA] at *

  refine gcalls_by tys_ok 13 [.tmp 4] (fn := Try.f74) rfl rfl rfl rfl ?_ ?_ ?_
  · simp [stampFree, litI, A.stamp, A.rstamp, stampIn]
  · simp
  intro O hO P hP C hC R hR
  have hM : P.follows .mixedOrders = true := by rw [hP]; rfl
  obtain ⟨bin, cmp, sadd, scmp, beq, bnot, band, un, wrap, size, byte, sub, len, seg, app, get, set, nat, nadd, nsub, repl, text, bytes, mn, mx, nz, nn, idx, bnd, le, all, one, lits, isB, sOk, aOk, mOk⟩ := O
  have hseg : ∀ e, seg 0 (len e) e = e := by intro e; cases hO; simp
  repeat' (first
   | (with_reducible first | (refine hK _ ?_; clear hK K) | refine thenA_n ?_ | refine thenA_r ?_ | refine thenA_e ?_ | refine block_n ?_ | refine block_r ?_ | refine block_hit ?_ | refine GWp.seq ?_ | refine GWp.block ?_ | refine GWp.skip ?_ | refine GWp.ret ?_ | refine GWp.exit ?_ | refine need_nil ?_ | refine need_cons True.intro ?_)
   | ((with_reducible first | refine gPost_r ?_ | refine gPost_n ?_ | refine fork_t ?_ | refine fork_f ?_ | (refine GWp.region (base := 0) ?_; intro K hK)); cbv; try simp only [hseg])
   | ((with_reducible refine GWp.cond_t ?hh ?_); (case hh => rfl)) | ((with_reducible refine GWp.cond_f ?hh ?_); (case hh => rfl)) | ((with_reducible refine block_miss ?hh ?_); (case hh => rfl))
   | ((with_reducible refine GWp.draws (base := 0) hM ?hh ?_); (case hh => rfl); intro K hK; cbv; try simp only [hseg])
   | ((with_reducible refine need_cons ?hh ?_); (case hh => first | with_reducible rfl | exact nn_ok hO (by decide))) | fail)
  obtain ⟨n1, hn1⟩ : ∃ z, z = xKey.size := ⟨_, rfl⟩
  have hz1 : size xKey = n1 := by cases hO; exact hn1.symm
  have e1 : bin .sub .i64 left (Int.ofNat n1) = _ := sub_id hO hleft (hn1 ▸ hKey)
  have hl1 := sub_le (b := n1) hleft
  generalize hm1 : left - Int.ofNat n1 = m1 at e1 hl1
  simp only [hz1, e1]
  refine GWp.cond rfl (fun h1 => ?_) (fun h1 => ?_)
  · repeat' (first
     | (with_reducible first | (refine hK _ ?_; clear hK K) | refine thenA_n ?_ | refine thenA_r ?_ | refine thenA_e ?_ | refine block_n ?_ | refine block_r ?_ | refine block_hit ?_ | refine GWp.seq ?_ | refine GWp.block ?_ | refine GWp.skip ?_ | refine GWp.ret ?_ | refine GWp.exit ?_ | refine need_nil ?_ | refine need_cons True.intro ?_)
     | ((with_reducible first | refine gPost_r ?_ | refine gPost_n ?_ | refine fork_t ?_ | refine fork_f ?_ | (refine GWp.region (base := 0) ?_; intro K hK)); cbv; try simp only [hseg])
     | ((with_reducible refine GWp.cond_t ?hh ?_); (case hh => rfl)) | ((with_reducible refine GWp.cond_f ?hh ?_); (case hh => rfl)) | ((with_reducible refine block_miss ?hh ?_); (case hh => rfl))
     | ((with_reducible refine GWp.draws (base := 0) hM ?hh ?_); (case hh => rfl); intro K hK; cbv; try simp only [hseg])
     | ((with_reducible refine need_cons ?hh ?_); (case hh => first | with_reducible rfl | exact nn_ok hO (by decide))) | fail)
    refine hR _ _ ⟨_, .inr ⟨?_, rfl⟩, rfl, rfl⟩
    have hg1 : m1 < 0 := by
      try clear hK K
      clear hM hP hC hR; cases hO
      simp only [Ops.std, stdCmp, stdBin, scmp_eql, scmp_neq, stdUn, Int.ofNat_eq_natCast] at *
      simpa using h1
    clear hR; try clear hK
    simp only [szR, lefts, Int.ofNat_eq_natCast, Me.sz] at *
    omega
  have hg1 : ¬ m1 < 0 := by
    try clear hK K
    clear hM hP hC hR; cases hO
    simp only [Ops.std, stdCmp, stdBin, scmp_eql, scmp_neq, stdUn, Int.ofNat_eq_natCast] at *
    simpa using h1
  have hl1 := hl1 hg1
  repeat' (first
   | (with_reducible first | (refine hK _ ?_; clear hK K) | refine thenA_n ?_ | refine thenA_r ?_ | refine thenA_e ?_ | refine block_n ?_ | refine block_r ?_ | refine block_hit ?_ | refine GWp.seq ?_ | refine GWp.block ?_ | refine GWp.skip ?_ | refine GWp.ret ?_ | refine GWp.exit ?_ | refine need_nil ?_ | refine need_cons True.intro ?_)
   | ((with_reducible first | refine gPost_r ?_ | refine gPost_n ?_ | refine fork_t ?_ | refine fork_f ?_ | (refine GWp.region (base := 0) ?_; intro K hK)); cbv; try simp only [hseg])
   | ((with_reducible refine GWp.cond_t ?hh ?_); (case hh => rfl)) | ((with_reducible refine GWp.cond_f ?hh ?_); (case hh => rfl)) | ((with_reducible refine block_miss ?hh ?_); (case hh => rfl))
   | ((with_reducible refine GWp.draws (base := 0) hM ?hh ?_); (case hh => rfl); intro K hK; cbv; try simp only [hseg])
   | ((with_reducible refine need_cons ?hh ?_); (case hh => first | with_reducible rfl | exact nn_ok hO (by decide))) | fail)
  refine hR _ _ ⟨_, ?_, rfl, rfl⟩
  clear hR; try clear hK
  simp only [szR, lefts, Int.ofNat_eq_natCast, Me.sz] at *
  omega

theorem st_toMEntry (xKey : ByteArray) (xRef : Int)
     :
    ToOk 77 [agT (Me.mk xKey xRef).t] ⟨.agg, (Me.mk xKey xRef).ow⟩ := by
  simp only [ToOk, roT, agT, Me.t, Me.ow, strT, intT, byteT, List.map, List.cons_append, List.nil_append, List.append_nil, tA] at *

  refine gcalls_by tys_ok 11 [.cell 2 59] (fn := Try.f77) rfl rfl rfl rfl ?_ ?_ ?_
  · simp [stampFree, litI, A.stamp, A.rstamp, stampIn]
  · simp
  intro O hO P hP C hC R hR
  have hM : P.follows .mixedOrders = true := by rw [hP]; rfl
  obtain ⟨bin, cmp, sadd, scmp, beq, bnot, band, un, wrap, size, byte, sub, len, seg, app, get, set, nat, nadd, nsub, repl, text, bytes, mn, mx, nz, nn, idx, bnd, le, all, one, lits, isB, sOk, aOk, mOk⟩ := O
  have hseg : ∀ e, seg 0 (len e) e = e := by intro e; cases hO; simp
  repeat' (first
   | (with_reducible first | (refine hK _ ?_; clear hK K) | refine thenA_n ?_ | refine thenA_r ?_ | refine thenA_e ?_ | refine block_n ?_ | refine block_r ?_ | refine block_hit ?_ | refine GWp.seq ?_ | refine GWp.block ?_ | refine GWp.skip ?_ | refine GWp.ret ?_ | refine GWp.exit ?_ | refine need_nil ?_ | refine need_cons True.intro ?_)
   | ((with_reducible first | refine gPost_r ?_ | refine gPost_n ?_ | refine fork_t ?_ | refine fork_f ?_ | (refine GWp.region (base := 0) ?_; intro K hK)); cbv; try simp only [hseg])
   | ((with_reducible refine GWp.cond_t ?hh ?_); (case hh => rfl)) | ((with_reducible refine GWp.cond_f ?hh ?_); (case hh => rfl)) | ((with_reducible refine block_miss ?hh ?_); (case hh => rfl))
   | ((with_reducible refine GWp.draws (base := 0) hM ?hh ?_); (case hh => rfl); intro K hK; cbv; try simp only [hseg])
   | ((with_reducible refine need_cons ?hh ?_); (case hh => first | with_reducible rfl | exact nn_ok hO (by decide))) | fail)
  exact hR _ _ ⟨rfl, rfl⟩

theorem st_eqMEntry (xKey : ByteArray) (xRef : Int)
     :
    EqOk 82 (agT (Me.mk xKey xRef).t) := by
  simp only [EqOk, roT, agT, Me.t, Me.ow, strT, intT, byteT, List.map, List.cons_append, List.nil_append, List.append_nil, tA] at *

  refine gcalls_by tys_ok 15 [.tmp 4] (fn := Try.f82) rfl rfl rfl rfl ?_ ?_ ?_
  · simp [stampFree, litI, A.stamp, A.rstamp, stampIn]
  · simp
  intro O hO P hP C hC R hR
  have hM : P.follows .mixedOrders = true := by rw [hP]; rfl
  obtain ⟨bin, cmp, sadd, scmp, beq, bnot, band, un, wrap, size, byte, sub, len, seg, app, get, set, nat, nadd, nsub, repl, text, bytes, mn, mx, nz, nn, idx, bnd, le, all, one, lits, isB, sOk, aOk, mOk⟩ := O
  have hseg : ∀ e, seg 0 (len e) e = e := by intro e; cases hO; simp
  have hne : ∀ x, cmp .neq x x = false := by intro x; cases hO; simp [Ops.std, stdCmp]
  have hse : ∀ x, scmp .neq x x = false := by intro x; cases hO; simp [Ops.std, scmp_neq]
  have hbe : ∀ x, bnot (beq x x) = false := by intro x; cases hO; simp [Ops.std]
  have hnt : bnot true = false := by cases hO; rfl
  repeat' (first
   | (with_reducible first | (refine hK _ ?_; clear hK K) | refine thenA_n ?_ | refine thenA_r ?_ | refine thenA_e ?_ | refine block_n ?_ | refine block_r ?_ | refine block_hit ?_ | refine GWp.seq ?_ | refine GWp.block ?_ | refine GWp.skip ?_ | refine GWp.ret ?_ | refine GWp.exit ?_ | refine need_nil ?_ | refine need_cons True.intro ?_)
   | ((with_reducible first | refine gPost_r ?_ | refine gPost_n ?_ | refine fork_t ?_ | refine fork_f ?_ | (refine GWp.region (base := 0) ?_; intro K hK)); cbv; try simp only [hseg])
   | ((with_reducible refine GWp.cond_t ?hh ?_); (case hh => rfl)) | ((with_reducible refine GWp.cond_f ?hh ?_); (case hh => rfl)) | ((with_reducible refine block_miss ?hh ?_); (case hh => rfl))
   | ((with_reducible refine GWp.draws (base := 0) hM ?hh ?_); (case hh => rfl); intro K hK; cbv; try simp only [hseg])
   | ((with_reducible refine need_cons ?hh ?_); (case hh => first | with_reducible rfl | exact nn_ok hO (by decide))) | fail)
  simp only [hne, hse, hbe, hnt]
  repeat' (first
   | (with_reducible first | (refine hK _ ?_; clear hK K) | refine thenA_n ?_ | refine thenA_r ?_ | refine thenA_e ?_ | refine block_n ?_ | refine block_r ?_ | refine block_hit ?_ | refine GWp.seq ?_ | refine GWp.block ?_ | refine GWp.skip ?_ | refine GWp.ret ?_ | refine GWp.exit ?_ | refine need_nil ?_ | refine need_cons True.intro ?_)
   | ((with_reducible first | refine gPost_r ?_ | refine gPost_n ?_ | refine fork_t ?_ | refine fork_f ?_ | (refine GWp.region (base := 0) ?_; intro K hK)); cbv; try simp only [hseg])
   | ((with_reducible refine GWp.cond_t ?hh ?_); (case hh => rfl)) | ((with_reducible refine GWp.cond_f ?hh ?_); (case hh => rfl)) | ((with_reducible refine block_miss ?hh ?_); (case hh => rfl))
   | ((with_reducible refine GWp.draws (base := 0) hM ?hh ?_); (case hh => rfl); intro K hK; cbv; try simp only [hseg])
   | ((with_reducible refine need_cons ?hh ?_); (case hh => first | with_reducible rfl | exact nn_ok hO (by decide))) | fail)
  simp only [hne, hse, hbe, hnt]
  repeat' (first
   | (with_reducible first | (refine hK _ ?_; clear hK K) | refine thenA_n ?_ | refine thenA_r ?_ | refine thenA_e ?_ | refine block_n ?_ | refine block_r ?_ | refine block_hit ?_ | refine GWp.seq ?_ | refine GWp.block ?_ | refine GWp.skip ?_ | refine GWp.ret ?_ | refine GWp.exit ?_ | refine need_nil ?_ | refine need_cons True.intro ?_)
   | ((with_reducible first | refine gPost_r ?_ | refine gPost_n ?_ | refine fork_t ?_ | refine fork_f ?_ | (refine GWp.region (base := 0) ?_; intro K hK)); cbv; try simp only [hseg])
   | ((with_reducible refine GWp.cond_t ?hh ?_); (case hh => rfl)) | ((with_reducible refine GWp.cond_f ?hh ?_); (case hh => rfl)) | ((with_reducible refine block_miss ?hh ?_); (case hh => rfl))
   | ((with_reducible refine GWp.draws (base := 0) hM ?hh ?_); (case hh => rfl); intro K hK; cbv; try simp only [hseg])
   | ((with_reducible refine need_cons ?hh ?_); (case hh => first | with_reducible rfl | exact nn_ok hO (by decide))) | fail)
  exact hR _ _ ⟨rfl, rfl⟩

theorem c_szMEntry (x : Me) (hw : x.Wf) : SzOk 74 (fun left => [agT x.t, litI left]) x.sz := fun left hleft => by
  obtain ⟨xKey, xRef⟩ := x
  exact st_szMEntry xKey xRef left hleft hw.key
theorem c_toMEntry (x : Me) (hz : x.sz ≤ 1048576) : ToOk 77 [agT x.t] ⟨.agg, x.ow⟩ := by
  obtain ⟨xKey, xRef⟩ := x
  simp only [Me.sz] at hz
  exact st_toMEntry xKey xRef 
theorem c_eqMEntry (x : Me) (hz : x.sz ≤ 1048576) : EqOk 82 (agT x.t) := by
  obtain ⟨xKey, xRef⟩ := x
  simp only [Me.sz] at hz
  exact st_eqMEntry xKey xRef 

theorem c_szMEntryS (l : List Me) (els : List (List T)) (he : els = l.map Me.t) (hl : l.length ≤ maxLen) (left : Int) (hleft : lefts left)
    (ih : ∀ e ∈ l, SzOk 74 (fun left => [agT e.t, litI left]) e.sz) :
    ACalls Try.prog 56 [roT els, litI left] [] (fun res bx => ∃ r, szR (l.length + Me.szs l) left r ∧ res = litI r ∧ bx = []) := by
  refine gcalls_by tys_ok 27 [.tmp 4] (fn := Try.f56) rfl rfl rfl rfl ?_ ?_ ?_
  · simp [stampFree, litI, A.stamp, A.rstamp, stampIn]
  · simp
  intro O hO P hP C hC R hR
  have hM : P.follows .mixedOrders = true := by rw [hP]; rfl
  obtain ⟨bin, cmp, sadd, scmp, beq, bnot, band, un, wrap, size, byte, sub, len, seg, app, get, set, nat, nadd, nsub, repl, text, bytes, mn, mx, nz, nn, idx, bnd, le, all, one, lits, isB, sOk, aOk, mOk⟩ := O
  have hseg : ∀ e, seg 0 (len e) e = e := by intro e; cases hO; simp
  obtain ⟨N, hN⟩ : ∃ N, N = l.length := ⟨_, rfl⟩
  have hNe : els.length = N := by simp [he, hN]
  have hlen : len els = N := len_of hO hNe
  have hk : ∀ e ∈ els, e.length = 2 := by subst he; simp [Me.t_len]
  have ha : all els 2 := all_of hO hk
  rw [← hN] at hl hR
  repeat' (first
   | (with_reducible first | (refine hK _ ?_; clear hK K) | refine thenA_n ?_ | refine thenA_r ?_ | refine thenA_e ?_ | refine block_n ?_ | refine block_r ?_ | refine block_hit ?_ | refine GWp.seq ?_ | refine GWp.block ?_ | refine GWp.skip ?_ | refine GWp.ret ?_ | refine GWp.exit ?_ | refine need_nil ?_ | refine need_cons True.intro ?_)
   | ((with_reducible first | refine gPost_r ?_ | refine gPost_n ?_ | refine fork_t ?_ | refine fork_f ?_ | (refine GWp.region (base := 0) ?_; intro K hK)); cbv; try simp only [hseg])
   | ((with_reducible refine GWp.cond_t ?hh ?_); (case hh => rfl)) | ((with_reducible refine GWp.cond_f ?hh ?_); (case hh => rfl)) | ((with_reducible refine block_miss ?hh ?_); (case hh => rfl))
   | ((with_reducible refine GWp.draws (base := 0) hM ?hh ?_); (case hh => rfl); intro K hK; cbv; try simp only [hseg])
   | ((with_reducible refine need_cons ?hh ?_); (case hh => first | with_reducible rfl | exact nn_ok hO (by decide))) | fail)
  have e0 : bin .sub .i64 left (Int.ofNat N) = _ := sub_id hO hleft hl
  have hs := sub_le (b := N) hleft
  generalize hm : left - Int.ofNat N = m at e0 hs
  simp only [hlen, e0]
  refine GWp.cond rfl (fun h3 => ?_) (fun h3 => ?_)
  · repeat' (first
     | (with_reducible first | (refine hK _ ?_; clear hK K) | refine thenA_n ?_ | refine thenA_r ?_ | refine thenA_e ?_ | refine block_n ?_ | refine block_r ?_ | refine block_hit ?_ | refine GWp.seq ?_ | refine GWp.block ?_ | refine GWp.skip ?_ | refine GWp.ret ?_ | refine GWp.exit ?_ | refine need_nil ?_ | refine need_cons True.intro ?_)
     | ((with_reducible first | refine gPost_r ?_ | refine gPost_n ?_ | refine fork_t ?_ | refine fork_f ?_ | (refine GWp.region (base := 0) ?_; intro K hK)); cbv; try simp only [hseg])
     | ((with_reducible refine GWp.cond_t ?hh ?_); (case hh => rfl)) | ((with_reducible refine GWp.cond_f ?hh ?_); (case hh => rfl)) | ((with_reducible refine block_miss ?hh ?_); (case hh => rfl))
     | ((with_reducible refine GWp.draws (base := 0) hM ?hh ?_); (case hh => rfl); intro K hK; cbv; try simp only [hseg])
     | ((with_reducible refine need_cons ?hh ?_); (case hh => first | with_reducible rfl | exact nn_ok hO (by decide))) | fail)
    refine hR _ _ ⟨_, .inr ⟨?_, rfl⟩, rfl, rfl⟩
    have hm0 : m < 0 := by
      try clear hK K
      clear hM hP hC hR; cases hO
      simp only [Ops.std, stdCmp, stdBin, scmp_eql, scmp_neq, stdUn, Int.ofNat_eq_natCast] at *
      simpa using h3
    clear hR; try clear hK
    simp only [szR, lefts, Int.ofNat_eq_natCast] at *
    omega
  have hm0 : ¬ m < 0 := by
    try clear hK K
    clear hM hP hC hR; cases hO
    simp only [Ops.std, stdCmp, stdBin, scmp_eql, scmp_neq, stdUn, Int.ofNat_eq_natCast] at *
    simpa using h3
  have hs := hs hm0
  have hN2 : N ≤ 1048576 := by
    clear hR
    simp only [lefts, Int.ofNat_eq_natCast] at *
    omega
  repeat' (first
   | (with_reducible first | (refine hK _ ?_; clear hK K) | refine thenA_n ?_ | refine thenA_r ?_ | refine thenA_e ?_ | refine block_n ?_ | refine block_r ?_ | refine block_hit ?_ | refine GWp.seq ?_ | refine GWp.block ?_ | refine GWp.skip ?_ | refine GWp.ret ?_ | refine GWp.exit ?_ | refine need_nil ?_ | refine need_cons True.intro ?_)
   | ((with_reducible first | refine gPost_r ?_ | refine gPost_n ?_ | refine fork_t ?_ | refine fork_f ?_ | (refine GWp.region (base := 0) ?_; intro K hK)); cbv; try simp only [hseg])
   | ((with_reducible refine GWp.cond_t ?hh ?_); (case hh => rfl)) | ((with_reducible refine GWp.cond_f ?hh ?_); (case hh => rfl)) | ((with_reducible refine block_miss ?hh ?_); (case hh => rfl))
   | ((with_reducible refine GWp.draws (base := 0) hM ?hh ?_); (case hh => rfl); intro K hK; cbv; try simp only [hseg])
   | ((with_reducible refine need_cons ?hh ?_); (case hh => first | with_reducible rfl | exact nn_ok hO (by decide))) | fail)
  refine GWp.loop (nb := 0) (keep := fun t => t == 0 || t == 1 || t == 5) (kk := fun _ _ => none) (invSz 27 els N (fun i => Me.szs (l.take i)) left) (by simp at hC; simp [hC]) ?_ ?_
  · cbv
    exact ⟨_, 0, m, by cbv, by simp, by simp [Me.szs]; exact hm.symm, hs, rfl⟩
  rintro n σ ⟨i, m1, rfl, g1, g2, g3, rfl⟩
  repeat' (first
   | (with_reducible first | (refine hK _ ?_; clear hK K) | refine thenA_n ?_ | refine thenA_r ?_ | refine thenA_e ?_ | refine block_n ?_ | refine block_r ?_ | refine block_hit ?_ | refine GWp.seq ?_ | refine GWp.block ?_ | refine GWp.skip ?_ | refine GWp.ret ?_ | refine GWp.exit ?_ | refine need_nil ?_ | refine need_cons True.intro ?_)
   | ((with_reducible first | refine gPost_r ?_ | refine gPost_n ?_ | refine fork_t ?_ | refine fork_f ?_ | (refine GWp.region (base := 0) ?_; intro K hK)); cbv; try simp only [hseg])
   | ((with_reducible refine GWp.cond_t ?hh ?_); (case hh => rfl)) | ((with_reducible refine GWp.cond_f ?hh ?_); (case hh => rfl)) | ((with_reducible refine block_miss ?hh ?_); (case hh => rfl))
   | ((with_reducible refine GWp.draws (base := 0) hM ?hh ?_); (case hh => rfl); intro K hK; cbv; try simp only [hseg])
   | ((with_reducible refine need_cons ?hh ?_); (case hh => first | with_reducible rfl | exact nn_ok hO (by decide))) | fail)
  simp only [hlen]
  refine GWp.cond rfl (fun h4 => ?_) (fun h4 => ?_)
  · have hlt : i < N := by
      try clear hK K
      clear hM hP hC hR; cases hO
      simp only [Ops.std, stdCmp, stdBin, scmp_eql, scmp_neq, stdUn, Int.ofNat_eq_natCast] at *
      simpa using h4
    obtain ⟨x, hx, hx', ht, e1⟩ := map_at hO he (hN ▸ hlt)
    have hc := ih x hx m1 g3
    obtain ⟨xKey, xRef⟩ := x
    simp only [SzOk, ToOk, EqOk, roT, agT, Me.t, Me.ow, strT, intT, byteT, List.map, List.cons_append, List.nil_append, List.append_nil, tA] at hc e1
    repeat' (first
     | (with_reducible first | (refine hK _ ?_; clear hK K) | refine thenA_n ?_ | refine thenA_r ?_ | refine thenA_e ?_ | refine block_n ?_ | refine block_r ?_ | refine block_hit ?_ | refine GWp.seq ?_ | refine GWp.block ?_ | refine GWp.skip ?_ | refine GWp.ret ?_ | refine GWp.exit ?_ | refine need_nil ?_ | refine need_cons True.intro ?_)
     | ((with_reducible first | refine gPost_r ?_ | refine gPost_n ?_ | refine fork_t ?_ | refine fork_f ?_ | (refine GWp.region (base := 0) ?_; intro K hK)); cbv; try simp only [hseg])
     | ((with_reducible refine GWp.cond_t ?hh ?_); (case hh => rfl)) | ((with_reducible refine GWp.cond_f ?hh ?_); (case hh => rfl)) | ((with_reducible refine block_miss ?hh ?_); (case hh => rfl))
     | ((with_reducible refine GWp.draws (base := 0) hM ?hh ?_); (case hh => rfl); intro K hK; cbv; try simp only [hseg])
     | ((with_reducible refine need_cons ?hh ?_); (case hh => first | with_reducible rfl | exact nn_ok hO (by decide))) | fail)
    repeat (simp only [e1]; cbv)
    refine need_cons (hlen ▸ idx_nat hO hlt) (need_cons ha (need_nil ?_))
    refine GCall.by ⟨fun _ _ => false, fun _ _ => false, []⟩ ?_
    cbv
    try simp only [hseg]
    refine GCallD.by hP rfl (hc) ?_
    rintro res bx ⟨r, hr, rfl, rfl⟩
    cbv
    try simp only [hseg]
    have hz : Me.szs (l.take (i + 1)) = Me.szs (l.take i) + (Me.mk xKey xRef).sz := by rw [ht, Me.szs_app, Me.szs_one]
    generalize (Me.mk xKey xRef).sz = z at hr hz
    repeat' (first
     | (with_reducible first | (refine hK _ ?_; clear hK K) | refine thenA_n ?_ | refine thenA_r ?_ | refine thenA_e ?_ | refine block_n ?_ | refine block_r ?_ | refine block_hit ?_ | refine GWp.seq ?_ | refine GWp.block ?_ | refine GWp.skip ?_ | refine GWp.ret ?_ | refine GWp.exit ?_ | refine need_nil ?_ | refine need_cons True.intro ?_)
     | ((with_reducible first | refine gPost_r ?_ | refine gPost_n ?_ | refine fork_t ?_ | refine fork_f ?_ | (refine GWp.region (base := 0) ?_; intro K hK)); cbv; try simp only [hseg])
     | ((with_reducible refine GWp.cond_t ?hh ?_); (case hh => rfl)) | ((with_reducible refine GWp.cond_f ?hh ?_); (case hh => rfl)) | ((with_reducible refine block_miss ?hh ?_); (case hh => rfl))
     | ((with_reducible refine GWp.draws (base := 0) hM ?hh ?_); (case hh => rfl); intro K hK; cbv; try simp only [hseg])
     | ((with_reducible refine need_cons ?hh ?_); (case hh => first | with_reducible rfl | exact nn_ok hO (by decide))) | fail)
    have hzl : Me.szs (l.take (i + 1)) ≤ Me.szs l := by
      have := Me.szs_app (l.take (i + 1)) (l.drop (i + 1))
      rw [List.take_append_drop] at this
      omega
    refine GWp.cond rfl (fun h5 => ?_) (fun h5 => ?_)
    · repeat' (first
       | (with_reducible first | (refine hK _ ?_; clear hK K) | refine thenA_n ?_ | refine thenA_r ?_ | refine thenA_e ?_ | refine block_n ?_ | refine block_r ?_ | refine block_hit ?_ | refine GWp.seq ?_ | refine GWp.block ?_ | refine GWp.skip ?_ | refine GWp.ret ?_ | refine GWp.exit ?_ | refine need_nil ?_ | refine need_cons True.intro ?_)
       | ((with_reducible first | refine gPost_r ?_ | refine gPost_n ?_ | refine fork_t ?_ | refine fork_f ?_ | (refine GWp.region (base := 0) ?_; intro K hK)); cbv; try simp only [hseg])
       | ((with_reducible refine GWp.cond_t ?hh ?_); (case hh => rfl)) | ((with_reducible refine GWp.cond_f ?hh ?_); (case hh => rfl)) | ((with_reducible refine block_miss ?hh ?_); (case hh => rfl))
       | ((with_reducible refine GWp.draws (base := 0) hM ?hh ?_); (case hh => rfl); intro K hK; cbv; try simp only [hseg])
       | ((with_reducible refine need_cons ?hh ?_); (case hh => first | with_reducible rfl | exact nn_ok hO (by decide))) | fail)
      refine hR _ _ ⟨_, .inr ⟨?_, rfl⟩, rfl, rfl⟩
      have hr0 : r < 0 := by
        try clear hK K
        clear hM hP hC hR; cases hO
        simp only [Ops.std, stdCmp, stdBin, scmp_eql, scmp_neq, stdUn, Int.ofNat_eq_natCast] at *
        simpa using h5
      clear hR; try clear hK
      simp only [szR, lefts, Int.ofNat_eq_natCast] at *
      omega
    · have hr0 : ¬ r < 0 := by
        try clear hK K
        clear hM hP hC hR; cases hO
        simp only [Ops.std, stdCmp, stdBin, scmp_eql, scmp_neq, stdUn, Int.ofNat_eq_natCast] at *
        simpa using h5
      repeat' (first
       | (with_reducible first | (refine hK _ ?_; clear hK K) | refine thenA_n ?_ | refine thenA_r ?_ | refine thenA_e ?_ | refine block_n ?_ | refine block_r ?_ | refine block_hit ?_ | refine GWp.seq ?_ | refine GWp.block ?_ | refine GWp.skip ?_ | refine GWp.ret ?_ | refine GWp.exit ?_ | refine need_nil ?_ | refine need_cons True.intro ?_)
       | ((with_reducible first | refine gPost_r ?_ | refine gPost_n ?_ | refine fork_t ?_ | refine fork_f ?_ | (refine GWp.region (base := 0) ?_; intro K hK)); cbv; try simp only [hseg])
       | ((with_reducible refine GWp.cond_t ?hh ?_); (case hh => rfl)) | ((with_reducible refine GWp.cond_f ?hh ?_); (case hh => rfl)) | ((with_reducible refine block_miss ?hh ?_); (case hh => rfl))
       | ((with_reducible refine GWp.draws (base := 0) hM ?hh ?_); (case hh => rfl); intro K hK; cbv; try simp only [hseg])
       | ((with_reducible refine need_cons ?hh ?_); (case hh => first | with_reducible rfl | exact nn_ok hO (by decide))) | fail)
      have e : bin .add .i64 (Int.ofNat i) 1 = _ := i_succ hO (by omega)
      cbv
      rw [e]
      refine ⟨_, ?_, i + 1, r, by cbv, by omega, ?_, ?_, rfl⟩
      · omega
      · clear hR; try clear hK
        simp only [szR, lefts, Int.ofNat_eq_natCast] at *
        omega
      · clear hR; try clear hK
        simp only [szR, lefts, Int.ofNat_eq_natCast] at *
        omega
  · have hge : i = N := by
      try clear hK K
      clear hM hP hC hR; cases hO
      simp only [Ops.std, stdCmp, stdBin, scmp_eql, scmp_neq, stdUn, Int.ofNat_eq_natCast] at *
      simp at h4; omega
    repeat' (first
     | (with_reducible first | (refine hK _ ?_; clear hK K) | refine thenA_n ?_ | refine thenA_r ?_ | refine thenA_e ?_ | refine block_n ?_ | refine block_r ?_ | refine block_hit ?_ | refine GWp.seq ?_ | refine GWp.block ?_ | refine GWp.skip ?_ | refine GWp.ret ?_ | refine GWp.exit ?_ | refine need_nil ?_ | refine need_cons True.intro ?_)
     | ((with_reducible first | refine gPost_r ?_ | refine gPost_n ?_ | refine fork_t ?_ | refine fork_f ?_ | (refine GWp.region (base := 0) ?_; intro K hK)); cbv; try simp only [hseg])
     | ((with_reducible refine GWp.cond_t ?hh ?_); (case hh => rfl)) | ((with_reducible refine GWp.cond_f ?hh ?_); (case hh => rfl)) | ((with_reducible refine block_miss ?hh ?_); (case hh => rfl))
     | ((with_reducible refine GWp.draws (base := 0) hM ?hh ?_); (case hh => rfl); intro K hK; cbv; try simp only [hseg])
     | ((with_reducible refine need_cons ?hh ?_); (case hh => first | with_reducible rfl | exact nn_ok hO (by decide))) | fail)
    have e2 : l.take i = l := List.take_of_length_le (by omega)
    refine hR _ _ ⟨_, .inl ⟨?_, ?_⟩, rfl, rfl⟩
    · clear hR; try clear hK
      simp only [szR, lefts, Int.ofNat_eq_natCast, e2] at *
      omega
    · clear hR; try clear hK
      simp only [szR, lefts, Int.ofNat_eq_natCast, e2] at *
      omega

theorem c_toMEntryS (l : List Me) (els : List (List T)) (he : els = l.map Me.t) (hl : l.length ≤ 1048576)
    (ih : ∀ e ∈ l, ToOk 77 [agT e.t] ⟨.agg, e.ow⟩) :
    ToOk 61 [roT els] ⟨.one, [.ow (0, 0) 2 els]⟩ := by
  refine gcalls_by tys_ok 23 [.tmp 2] (fn := Try.f61) rfl rfl rfl rfl ?_ ?_ ?_
  · simp [stampFree, litI, A.stamp, A.rstamp, stampIn]
  · simp
  intro O hO P hP C hC R hR
  have hM : P.follows .mixedOrders = true := by rw [hP]; rfl
  obtain ⟨bin, cmp, sadd, scmp, beq, bnot, band, un, wrap, size, byte, sub, len, seg, app, get, set, nat, nadd, nsub, repl, text, bytes, mn, mx, nz, nn, idx, bnd, le, all, one, lits, isB, sOk, aOk, mOk⟩ := O
  have hseg : ∀ e, seg 0 (len e) e = e := by intro e; cases hO; simp
  obtain ⟨N, hN⟩ : ∃ N, N = l.length := ⟨_, rfl⟩
  have hNe : els.length = N := by simp [he, hN]
  have hlen : len els = N := len_of hO hNe
  have hk : ∀ e ∈ els, e.length = 2 := by subst he; simp [Me.t_len]
  have ha : all els 2 := all_of hO hk
  rw [← hN] at hl
  repeat' (first
   | (with_reducible first | (refine hK _ ?_; clear hK K) | refine thenA_n ?_ | refine thenA_r ?_ | refine thenA_e ?_ | refine block_n ?_ | refine block_r ?_ | refine block_hit ?_ | refine GWp.seq ?_ | refine GWp.block ?_ | refine GWp.skip ?_ | refine GWp.ret ?_ | refine GWp.exit ?_ | refine need_nil ?_ | refine need_cons True.intro ?_)
   | ((with_reducible first | refine gPost_r ?_ | refine gPost_n ?_ | refine fork_t ?_ | refine fork_f ?_ | (refine GWp.region (base := 0) ?_; intro K hK)); cbv; try simp only [hseg])
   | ((with_reducible refine GWp.cond_t ?hh ?_); (case hh => rfl)) | ((with_reducible refine GWp.cond_f ?hh ?_); (case hh => rfl)) | ((with_reducible refine block_miss ?hh ?_); (case hh => rfl))
   | ((with_reducible refine GWp.draws (base := 0) hM ?hh ?_); (case hh => rfl); intro K hK; cbv; try simp only [hseg])
   | ((with_reducible refine need_cons ?hh ?_); (case hh => first | with_reducible rfl | exact nn_ok hO (by decide))) | fail)
  simp only [hlen]
  refine need_cons (mOk_of hO (by simp only [Int.ofNat_eq_natCast]; omega)) (need_nil ?_)
  generalize hR0 : repl (nat (Int.ofNat N)) [T.lit (.string ⟨#[]⟩), T.lit (.int .i64 0)] = outs0
  have h0 : outs0.length = els.length ∧ ∀ e ∈ outs0, e.length = 2 := by
    subst hR0; cases hO
    refine ⟨?_, fun e he => ?_⟩
    · simp [Ops.std, hNe]
    · rw [List.eq_of_mem_replicate he]; rfl
  repeat' (first
   | (with_reducible first | (refine hK _ ?_; clear hK K) | refine thenA_n ?_ | refine thenA_r ?_ | refine thenA_e ?_ | refine block_n ?_ | refine block_r ?_ | refine block_hit ?_ | refine GWp.seq ?_ | refine GWp.block ?_ | refine GWp.skip ?_ | refine GWp.ret ?_ | refine GWp.exit ?_ | refine need_nil ?_ | refine need_cons True.intro ?_)
   | ((with_reducible first | refine gPost_r ?_ | refine gPost_n ?_ | refine fork_t ?_ | refine fork_f ?_ | (refine GWp.region (base := 0) ?_; intro K hK)); cbv; try simp only [hseg])
   | ((with_reducible refine GWp.cond_t ?hh ?_); (case hh => rfl)) | ((with_reducible refine GWp.cond_f ?hh ?_); (case hh => rfl)) | ((with_reducible refine block_miss ?hh ?_); (case hh => rfl))
   | ((with_reducible refine GWp.draws (base := 0) hM ?hh ?_); (case hh => rfl); intro K hK; cbv; try simp only [hseg])
   | ((with_reducible refine need_cons ?hh ?_); (case hh => first | with_reducible rfl | exact nn_ok hO (by decide))) | fail)
  refine GWp.loop (nb := 0) (keep := fun t => t == 0 || t == 3 || t == 4) (kk := fun _ _ => none) (invTo 23 els 2) (by simp at hC; simp [hC]) ?_ ?_
  · cbv
    exact ⟨_, 0, outs0, by cbv, Nat.zero_le _, h0.1, h0.2, by simp, rfl⟩
  rintro n σ ⟨i, outs, rfl, g1, g2, g3, g4, rfl⟩
  rw [hNe] at g1 g2
  have hlo : len outs = N := len_of hO g2
  repeat' (first
   | (with_reducible first | (refine hK _ ?_; clear hK K) | refine thenA_n ?_ | refine thenA_r ?_ | refine thenA_e ?_ | refine block_n ?_ | refine block_r ?_ | refine block_hit ?_ | refine GWp.seq ?_ | refine GWp.block ?_ | refine GWp.skip ?_ | refine GWp.ret ?_ | refine GWp.exit ?_ | refine need_nil ?_ | refine need_cons True.intro ?_)
   | ((with_reducible first | refine gPost_r ?_ | refine gPost_n ?_ | refine fork_t ?_ | refine fork_f ?_ | (refine GWp.region (base := 0) ?_; intro K hK)); cbv; try simp only [hseg])
   | ((with_reducible refine GWp.cond_t ?hh ?_); (case hh => rfl)) | ((with_reducible refine GWp.cond_f ?hh ?_); (case hh => rfl)) | ((with_reducible refine block_miss ?hh ?_); (case hh => rfl))
   | ((with_reducible refine GWp.draws (base := 0) hM ?hh ?_); (case hh => rfl); intro K hK; cbv; try simp only [hseg])
   | ((with_reducible refine need_cons ?hh ?_); (case hh => first | with_reducible rfl | exact nn_ok hO (by decide))) | fail)
  simp only [hlen]
  refine GWp.cond rfl (fun h4 => ?_) (fun h4 => ?_)
  · have hlt : i < N := by
      try clear hK K
      clear hM hP hC hR; cases hO
      simp only [Ops.std, stdCmp, stdBin, scmp_eql, scmp_neq, stdUn, Int.ofNat_eq_natCast] at *
      simpa using h4
    obtain ⟨x, hx, hx', ht, e1⟩ := map_at hO he (hN ▸ hlt)
    have hxe : els[i]? = some x.t := by rw [he]; simp [hx']
    have hc := ih x hx
    obtain ⟨xKey, xRef⟩ := x
    simp only [SzOk, ToOk, EqOk, roT, agT, Me.t, Me.ow, strT, intT, byteT, List.map, List.cons_append, List.nil_append, List.append_nil, tA] at hc e1 hxe
    have en : nadd 0 (nat (Int.ofNat i)) = i := by cases hO; simp [Ops.std]
    repeat' (first
     | (with_reducible first | (refine hK _ ?_; clear hK K) | refine thenA_n ?_ | refine thenA_r ?_ | refine thenA_e ?_ | refine block_n ?_ | refine block_r ?_ | refine block_hit ?_ | refine GWp.seq ?_ | refine GWp.block ?_ | refine GWp.skip ?_ | refine GWp.ret ?_ | refine GWp.exit ?_ | refine need_nil ?_ | refine need_cons True.intro ?_)
     | ((with_reducible first | refine gPost_r ?_ | refine gPost_n ?_ | refine fork_t ?_ | refine fork_f ?_ | (refine GWp.region (base := 0) ?_; intro K hK)); cbv; try simp only [hseg])
     | ((with_reducible refine GWp.cond_t ?hh ?_); (case hh => rfl)) | ((with_reducible refine GWp.cond_f ?hh ?_); (case hh => rfl)) | ((with_reducible refine block_miss ?hh ?_); (case hh => rfl))
     | ((with_reducible refine GWp.draws (base := 0) hM ?hh ?_); (case hh => rfl); intro K hK; cbv; try simp only [hseg])
     | ((with_reducible refine need_cons ?hh ?_); (case hh => first | with_reducible rfl | exact nn_ok hO (by decide))) | fail)
    repeat (simp only [e1]; cbv)
    refine need_cons (hlen ▸ idx_nat hO hlt) (need_cons ha (need_nil ?_))
    refine GCall.by ⟨fun _ _ => false, fun _ _ => false, []⟩ ?_
    cbv
    try simp only [hseg]
    refine GCallD.by hP rfl (hc) ?_
    rintro res bx ⟨rfl, rfl⟩
    cbv
    try simp only [hseg]
    simp only [hlo, en]
    refine need_cons (idx_nat hO hlt) (need_cons (one_of hO (by omega) rfl g3) ?_)
    have es : ∀ y, set outs i y = outs.set i y := by intro y; cases hO; rfl
    obtain ⟨t1, t2⟩ := set_step (hNe.symm ▸ hlt) (g2.trans hNe.symm) g4 hxe
    have t3 : ∀ e ∈ outs.set i [T.lit (.string xKey), T.lit (.int .i64 xRef)], e.length = 2 := by
      intro e he
      rcases List.mem_or_eq_of_mem_set he with h | h
      · exact g3 e h
      · rw [h]; rfl
    simp only [es]
    generalize outs.set i [T.lit (.string xKey), T.lit (.int .i64 xRef)] = outs' at t1 t2 t3 ⊢
    repeat' (first
     | (with_reducible first | (refine hK _ ?_; clear hK K) | refine thenA_n ?_ | refine thenA_r ?_ | refine thenA_e ?_ | refine block_n ?_ | refine block_r ?_ | refine block_hit ?_ | refine GWp.seq ?_ | refine GWp.block ?_ | refine GWp.skip ?_ | refine GWp.ret ?_ | refine GWp.exit ?_ | refine need_nil ?_ | refine need_cons True.intro ?_)
     | ((with_reducible first | refine gPost_r ?_ | refine gPost_n ?_ | refine fork_t ?_ | refine fork_f ?_ | (refine GWp.region (base := 0) ?_; intro K hK)); cbv; try simp only [hseg])
     | ((with_reducible refine GWp.cond_t ?hh ?_); (case hh => rfl)) | ((with_reducible refine GWp.cond_f ?hh ?_); (case hh => rfl)) | ((with_reducible refine block_miss ?hh ?_); (case hh => rfl))
     | ((with_reducible refine GWp.draws (base := 0) hM ?hh ?_); (case hh => rfl); intro K hK; cbv; try simp only [hseg])
     | ((with_reducible refine need_cons ?hh ?_); (case hh => first | with_reducible rfl | exact nn_ok hO (by decide))) | fail)
    have e : bin .add .i64 (Int.ofNat i) 1 = _ := i_succ hO (by omega)
    cbv
    rw [e]
    exact ⟨_, by omega, i + 1, outs', by cbv, by omega, t1, t3, t2, rfl⟩
  · have hge : i = N := by
      try clear hK K
      clear hM hP hC hR; cases hO
      simp only [Ops.std, stdCmp, stdBin, scmp_eql, scmp_neq, stdUn, Int.ofNat_eq_natCast] at *
      simp at h4; omega
    have e2 : outs = els := by
      have := g4
      rw [List.take_of_length_le (by omega), List.take_of_length_le (by omega)] at this
      exact this
    subst e2
    repeat' (first
     | (with_reducible first | (refine hK _ ?_; clear hK K) | refine thenA_n ?_ | refine thenA_r ?_ | refine thenA_e ?_ | refine block_n ?_ | refine block_r ?_ | refine block_hit ?_ | refine GWp.seq ?_ | refine GWp.block ?_ | refine GWp.skip ?_ | refine GWp.ret ?_ | refine GWp.exit ?_ | refine need_nil ?_ | refine need_cons True.intro ?_)
     | ((with_reducible first | refine gPost_r ?_ | refine gPost_n ?_ | refine fork_t ?_ | refine fork_f ?_ | (refine GWp.region (base := 0) ?_; intro K hK)); cbv; try simp only [hseg])
     | ((with_reducible refine GWp.cond_t ?hh ?_); (case hh => rfl)) | ((with_reducible refine GWp.cond_f ?hh ?_); (case hh => rfl)) | ((with_reducible refine block_miss ?hh ?_); (case hh => rfl))
     | ((with_reducible refine GWp.draws (base := 0) hM ?hh ?_); (case hh => rfl); intro K hK; cbv; try simp only [hseg])
     | ((with_reducible refine need_cons ?hh ?_); (case hh => first | with_reducible rfl | exact nn_ok hO (by decide))) | fail)
    exact hR _ _ ⟨rfl, rfl⟩

theorem c_eqMEntryS (l : List Me) (els : List (List T)) (he : els = l.map Me.t) (hl : l.length ≤ 1048576)
    (ih : ∀ e ∈ l, EqOk 82 (agT e.t)) :
    EqOk 67 (roT els) := by
  refine gcalls_by tys_ok 27 [.tmp 4] (fn := Try.f67) rfl rfl rfl rfl ?_ ?_ ?_
  · simp [stampFree, litI, A.stamp, A.rstamp, stampIn]
  · simp
  intro O hO P hP C hC R hR
  have hM : P.follows .mixedOrders = true := by rw [hP]; rfl
  obtain ⟨bin, cmp, sadd, scmp, beq, bnot, band, un, wrap, size, byte, sub, len, seg, app, get, set, nat, nadd, nsub, repl, text, bytes, mn, mx, nz, nn, idx, bnd, le, all, one, lits, isB, sOk, aOk, mOk⟩ := O
  have hseg : ∀ e, seg 0 (len e) e = e := by intro e; cases hO; simp
  obtain ⟨N, hN⟩ : ∃ N, N = l.length := ⟨_, rfl⟩
  have hNe : els.length = N := by simp [he, hN]
  have hlen : len els = N := len_of hO hNe
  have hk : ∀ e ∈ els, e.length = 2 := by subst he; simp [Me.t_len]
  have ha : all els 2 := all_of hO hk
  rw [← hN] at hl
  have hne : ∀ x, cmp .neq x x = false := by intro x; cases hO; simp [Ops.std, stdCmp]
  have hse : ∀ x, scmp .neq x x = false := by intro x; cases hO; simp [Ops.std, scmp_neq]
  have hbe : ∀ x, bnot (beq x x) = false := by intro x; cases hO; simp [Ops.std]
  have hnt : bnot true = false := by cases hO; rfl
  repeat' (first
   | (with_reducible first | (refine hK _ ?_; clear hK K) | refine thenA_n ?_ | refine thenA_r ?_ | refine thenA_e ?_ | refine block_n ?_ | refine block_r ?_ | refine block_hit ?_ | refine GWp.seq ?_ | refine GWp.block ?_ | refine GWp.skip ?_ | refine GWp.ret ?_ | refine GWp.exit ?_ | refine need_nil ?_ | refine need_cons True.intro ?_)
   | ((with_reducible first | refine gPost_r ?_ | refine gPost_n ?_ | refine fork_t ?_ | refine fork_f ?_ | (refine GWp.region (base := 0) ?_; intro K hK)); cbv; try simp only [hseg])
   | ((with_reducible refine GWp.cond_t ?hh ?_); (case hh => rfl)) | ((with_reducible refine GWp.cond_f ?hh ?_); (case hh => rfl)) | ((with_reducible refine block_miss ?hh ?_); (case hh => rfl))
   | ((with_reducible refine GWp.draws (base := 0) hM ?hh ?_); (case hh => rfl); intro K hK; cbv; try simp only [hseg])
   | ((with_reducible refine need_cons ?hh ?_); (case hh => first | with_reducible rfl | exact nn_ok hO (by decide))) | fail)
  simp only [hne]
  repeat' (first
   | (with_reducible first | (refine hK _ ?_; clear hK K) | refine thenA_n ?_ | refine thenA_r ?_ | refine thenA_e ?_ | refine block_n ?_ | refine block_r ?_ | refine block_hit ?_ | refine GWp.seq ?_ | refine GWp.block ?_ | refine GWp.skip ?_ | refine GWp.ret ?_ | refine GWp.exit ?_ | refine need_nil ?_ | refine need_cons True.intro ?_)
   | ((with_reducible first | refine gPost_r ?_ | refine gPost_n ?_ | refine fork_t ?_ | refine fork_f ?_ | (refine GWp.region (base := 0) ?_; intro K hK)); cbv; try simp only [hseg])
   | ((with_reducible refine GWp.cond_t ?hh ?_); (case hh => rfl)) | ((with_reducible refine GWp.cond_f ?hh ?_); (case hh => rfl)) | ((with_reducible refine block_miss ?hh ?_); (case hh => rfl))
   | ((with_reducible refine GWp.draws (base := 0) hM ?hh ?_); (case hh => rfl); intro K hK; cbv; try simp only [hseg])
   | ((with_reducible refine need_cons ?hh ?_); (case hh => first | with_reducible rfl | exact nn_ok hO (by decide))) | fail)
  refine GWp.loop (nb := 0) (keep := fun t => t == 0 || t == 1 || t == 5) (kk := fun _ _ => none) (invEq 27 els) (by simp at hC; simp [hC]) ?_ ?_
  · cbv
    exact ⟨_, 0, by cbv, Nat.zero_le _, rfl⟩
  rintro n σ ⟨i, rfl, g1, rfl⟩
  rw [hNe] at g1
  repeat' (first
   | (with_reducible first | (refine hK _ ?_; clear hK K) | refine thenA_n ?_ | refine thenA_r ?_ | refine thenA_e ?_ | refine block_n ?_ | refine block_r ?_ | refine block_hit ?_ | refine GWp.seq ?_ | refine GWp.block ?_ | refine GWp.skip ?_ | refine GWp.ret ?_ | refine GWp.exit ?_ | refine need_nil ?_ | refine need_cons True.intro ?_)
   | ((with_reducible first | refine gPost_r ?_ | refine gPost_n ?_ | refine fork_t ?_ | refine fork_f ?_ | (refine GWp.region (base := 0) ?_; intro K hK)); cbv; try simp only [hseg])
   | ((with_reducible refine GWp.cond_t ?hh ?_); (case hh => rfl)) | ((with_reducible refine GWp.cond_f ?hh ?_); (case hh => rfl)) | ((with_reducible refine block_miss ?hh ?_); (case hh => rfl))
   | ((with_reducible refine GWp.draws (base := 0) hM ?hh ?_); (case hh => rfl); intro K hK; cbv; try simp only [hseg])
   | ((with_reducible refine need_cons ?hh ?_); (case hh => first | with_reducible rfl | exact nn_ok hO (by decide))) | fail)
  simp only [hlen]
  refine GWp.cond rfl (fun h4 => ?_) (fun h4 => ?_)
  · have hlt : i < N := by
      try clear hK K
      clear hM hP hC hR; cases hO
      simp only [Ops.std, stdCmp, stdBin, scmp_eql, scmp_neq, stdUn, Int.ofNat_eq_natCast] at *
      simpa using h4
    obtain ⟨x, hx, hx', ht, e1⟩ := map_at hO he (hN ▸ hlt)
    have hc := ih x hx
    obtain ⟨xKey, xRef⟩ := x
    simp only [SzOk, ToOk, EqOk, roT, agT, Me.t, Me.ow, strT, intT, byteT, List.map, List.cons_append, List.nil_append, List.append_nil, tA] at hc e1
    have hi : idx (Int.ofNat i) (len els) := hlen ▸ idx_nat hO hlt
    repeat' (first
     | (with_reducible first | (refine hK _ ?_; clear hK K) | refine thenA_n ?_ | refine thenA_r ?_ | refine thenA_e ?_ | refine block_n ?_ | refine block_r ?_ | refine block_hit ?_ | refine GWp.seq ?_ | refine GWp.block ?_ | refine GWp.skip ?_ | refine GWp.ret ?_ | refine GWp.exit ?_ | refine need_nil ?_ | refine need_cons True.intro ?_)
     | ((with_reducible first | refine gPost_r ?_ | refine gPost_n ?_ | refine fork_t ?_ | refine fork_f ?_ | (refine GWp.region (base := 0) ?_; intro K hK)); cbv; try simp only [hseg])
     | ((with_reducible refine GWp.cond_t ?hh ?_); (case hh => rfl)) | ((with_reducible refine GWp.cond_f ?hh ?_); (case hh => rfl)) | ((with_reducible refine block_miss ?hh ?_); (case hh => rfl))
     | ((with_reducible refine GWp.draws (base := 0) hM ?hh ?_); (case hh => rfl); intro K hK; cbv; try simp only [hseg])
     | ((with_reducible refine need_cons ?hh ?_); (case hh => first | with_reducible rfl | exact nn_ok hO (by decide))) | fail)
    repeat (simp only [e1]; cbv)
    refine need_cons hi (need_cons ha (need_cons hi (need_cons ha (need_nil ?_))))
    refine GCall.by ⟨fun _ _ => false, fun _ _ => false, []⟩ ?_
    cbv
    try simp only [hseg]
    refine GCallD.by hP rfl (hc) ?_
    rintro res bx ⟨rfl, rfl⟩
    cbv
    try simp only [hseg]
    repeat (simp only [e1]; cbv)
    simp only [hnt, hse, hne]
    repeat' (first
     | (with_reducible first | (refine hK _ ?_; clear hK K) | refine thenA_n ?_ | refine thenA_r ?_ | refine thenA_e ?_ | refine block_n ?_ | refine block_r ?_ | refine block_hit ?_ | refine GWp.seq ?_ | refine GWp.block ?_ | refine GWp.skip ?_ | refine GWp.ret ?_ | refine GWp.exit ?_ | refine need_nil ?_ | refine need_cons True.intro ?_)
     | ((with_reducible first | refine gPost_r ?_ | refine gPost_n ?_ | refine fork_t ?_ | refine fork_f ?_ | (refine GWp.region (base := 0) ?_; intro K hK)); cbv; try simp only [hseg])
     | ((with_reducible refine GWp.cond_t ?hh ?_); (case hh => rfl)) | ((with_reducible refine GWp.cond_f ?hh ?_); (case hh => rfl)) | ((with_reducible refine block_miss ?hh ?_); (case hh => rfl))
     | ((with_reducible refine GWp.draws (base := 0) hM ?hh ?_); (case hh => rfl); intro K hK; cbv; try simp only [hseg])
     | ((with_reducible refine need_cons ?hh ?_); (case hh => first | with_reducible rfl | exact nn_ok hO (by decide))) | fail)
    have e : bin .add .i64 (Int.ofNat i) 1 = _ := i_succ hO (by omega)
    cbv
    rw [e]
    exact ⟨_, by omega, i + 1, by cbv, by omega, rfl⟩
  · repeat' (first
     | (with_reducible first | (refine hK _ ?_; clear hK K) | refine thenA_n ?_ | refine thenA_r ?_ | refine thenA_e ?_ | refine block_n ?_ | refine block_r ?_ | refine block_hit ?_ | refine GWp.seq ?_ | refine GWp.block ?_ | refine GWp.skip ?_ | refine GWp.ret ?_ | refine GWp.exit ?_ | refine need_nil ?_ | refine need_cons True.intro ?_)
     | ((with_reducible first | refine gPost_r ?_ | refine gPost_n ?_ | refine fork_t ?_ | refine fork_f ?_ | (refine GWp.region (base := 0) ?_; intro K hK)); cbv; try simp only [hseg])
     | ((with_reducible refine GWp.cond_t ?hh ?_); (case hh => rfl)) | ((with_reducible refine GWp.cond_f ?hh ?_); (case hh => rfl)) | ((with_reducible refine block_miss ?hh ?_); (case hh => rfl))
     | ((with_reducible refine GWp.draws (base := 0) hM ?hh ?_); (case hh => rfl); intro K hK; cbv; try simp only [hseg])
     | ((with_reducible refine need_cons ?hh ?_); (case hh => first | with_reducible rfl | exact nn_ok hO (by decide))) | fail)
    exact hR _ _ ⟨rfl, rfl⟩

theorem szMEntrys (l : List Me) (hl : l.length ≤ maxLen) (h : ∀ e ∈ l, Me.Wf e) : SzOk 56 (fun left => [roT (l.map Me.t), litI left]) (l.length + Me.szs l) :=
  fun left hleft => c_szMEntryS l _ rfl hl left hleft fun e he => c_szMEntry e (h e he)
theorem toMEntrys (l : List Me) (hl : l.length + Me.szs l ≤ 1048576) : ToOk 61 [roT (l.map Me.t)] ⟨.one, [.ow (0, 0) 2 (l.map Me.t)]⟩ :=
  c_toMEntryS l _ rfl (by omega) fun e he => c_toMEntry e (by have := sum_mem (f := Me.sz) he; unfold Me.szs at hl; omega)
theorem eqMEntrys (l : List Me) (hl : l.length + Me.szs l ≤ 1048576) : EqOk 67 (roT (l.map Me.t)) :=
  c_eqMEntryS l _ rfl (by omega) fun e he => c_eqMEntry e (by have := sum_mem (f := Me.sz) he; unfold Me.szs at hl; omega)

theorem st_szMTable (xL : List Me) (left : Int) (hleft : lefts left)
    (ihL : SzOk 56 (fun left => [roT (xL.map Me.t), litI left]) (xL.length + Me.szs xL)) :
    ACalls Try.prog 40 [agT (Mt.mk xL).t, litI left] [] (fun res bx => ∃ r, szR (Mt.mk xL).sz left r ∧ res = litI r ∧ bx = []) := by
  simp only [SzOk, roT, agT, Mt.t, Mt.ow, Me.t, Me.ow, strT, intT, byteT, List.map, List.cons_append, List.nil_append, List.append_nil, tA] at *
  generalize xL.map Me.t = tL at *
  refine gcalls_by tys_ok 12 [.tmp 4] (fn := Try.f40) rfl rfl rfl rfl ?_ ?_ ?_
  · simp [stampFree, litI, A.stamp, A.rstamp, stampIn]
  · simp
  intro O hO P hP C hC R hR
  have hM : P.follows .mixedOrders = true := by rw [hP]; rfl
  obtain ⟨bin, cmp, sadd, scmp, beq, bnot, band, un, wrap, size, byte, sub, len, seg, app, get, set, nat, nadd, nsub, repl, text, bytes, mn, mx, nz, nn, idx, bnd, le, all, one, lits, isB, sOk, aOk, mOk⟩ := O
  have hseg : ∀ e, seg 0 (len e) e = e := by intro e; cases hO; simp
  repeat' (first
   | (with_reducible first | (refine hK _ ?_; clear hK K) | refine thenA_n ?_ | refine thenA_r ?_ | refine thenA_e ?_ | refine block_n ?_ | refine block_r ?_ | refine block_hit ?_ | refine GWp.seq ?_ | refine GWp.block ?_ | refine GWp.skip ?_ | refine GWp.ret ?_ | refine GWp.exit ?_ | refine need_nil ?_ | refine need_cons True.intro ?_)
   | ((with_reducible first | refine gPost_r ?_ | refine gPost_n ?_ | refine fork_t ?_ | refine fork_f ?_ | (refine GWp.region (base := 0) ?_; intro K hK)); cbv; try simp only [hseg])
   | ((with_reducible refine GWp.cond_t ?hh ?_); (case hh => rfl)) | ((with_reducible refine GWp.cond_f ?hh ?_); (case hh => rfl)) | ((with_reducible refine block_miss ?hh ?_); (case hh => rfl))
   | ((with_reducible refine GWp.draws (base := 0) hM ?hh ?_); (case hh => rfl); intro K hK; cbv; try simp only [hseg])
   | ((with_reducible refine need_cons ?hh ?_); (case hh => first | with_reducible rfl | exact nn_ok hO (by decide))) | fail)
  refine GCall.by ⟨fun _ _ => false, fun _ _ => false, []⟩ ?_
  cbv
  try simp only [hseg]
  refine GCallD.by hP rfl (ihL left hleft) ?_
  rintro res bx ⟨m1, hr1, rfl, rfl⟩
  cbv
  try simp only [hseg]
  have hl1 := szR_le hleft hr1
  repeat' (first
   | (with_reducible first | (refine hK _ ?_; clear hK K) | refine thenA_n ?_ | refine thenA_r ?_ | refine thenA_e ?_ | refine block_n ?_ | refine block_r ?_ | refine block_hit ?_ | refine GWp.seq ?_ | refine GWp.block ?_ | refine GWp.skip ?_ | refine GWp.ret ?_ | refine GWp.exit ?_ | refine need_nil ?_ | refine need_cons True.intro ?_)
   | ((with_reducible first | refine gPost_r ?_ | refine gPost_n ?_ | refine fork_t ?_ | refine fork_f ?_ | (refine GWp.region (base := 0) ?_; intro K hK)); cbv; try simp only [hseg])
   | ((with_reducible refine GWp.cond_t ?hh ?_); (case hh => rfl)) | ((with_reducible refine GWp.cond_f ?hh ?_); (case hh => rfl)) | ((with_reducible refine block_miss ?hh ?_); (case hh => rfl))
   | ((with_reducible refine GWp.draws (base := 0) hM ?hh ?_); (case hh => rfl); intro K hK; cbv; try simp only [hseg])
   | ((with_reducible refine need_cons ?hh ?_); (case hh => first | with_reducible rfl | exact nn_ok hO (by decide))) | fail)
  refine GWp.cond rfl (fun h1 => ?_) (fun h1 => ?_)
  · repeat' (first
     | (with_reducible first | (refine hK _ ?_; clear hK K) | refine thenA_n ?_ | refine thenA_r ?_ | refine thenA_e ?_ | refine block_n ?_ | refine block_r ?_ | refine block_hit ?_ | refine GWp.seq ?_ | refine GWp.block ?_ | refine GWp.skip ?_ | refine GWp.ret ?_ | refine GWp.exit ?_ | refine need_nil ?_ | refine need_cons True.intro ?_)
     | ((with_reducible first | refine gPost_r ?_ | refine gPost_n ?_ | refine fork_t ?_ | refine fork_f ?_ | (refine GWp.region (base := 0) ?_; intro K hK)); cbv; try simp only [hseg])
     | ((with_reducible refine GWp.cond_t ?hh ?_); (case hh => rfl)) | ((with_reducible refine GWp.cond_f ?hh ?_); (case hh => rfl)) | ((with_reducible refine block_miss ?hh ?_); (case hh => rfl))
     | ((with_reducible refine GWp.draws (base := 0) hM ?hh ?_); (case hh => rfl); intro K hK; cbv; try simp only [hseg])
     | ((with_reducible refine need_cons ?hh ?_); (case hh => first | with_reducible rfl | exact nn_ok hO (by decide))) | fail)
    refine hR _ _ ⟨_, .inr ⟨?_, rfl⟩, rfl, rfl⟩
    have hg1 : m1 < 0 := by
      try clear hK K
      clear hM hP hC hR; cases hO
      simp only [Ops.std, stdCmp, stdBin, scmp_eql, scmp_neq, stdUn, Int.ofNat_eq_natCast] at *
      simpa using h1
    clear hR; try clear hK
    simp only [szR, lefts, Int.ofNat_eq_natCast, Mt.sz, Me.sz] at *
    omega
  have hg1 : ¬ m1 < 0 := by
    try clear hK K
    clear hM hP hC hR; cases hO
    simp only [Ops.std, stdCmp, stdBin, scmp_eql, scmp_neq, stdUn, Int.ofNat_eq_natCast] at *
    simpa using h1
  have hl1 := hl1 hg1
  repeat' (first
   | (with_reducible first | (refine hK _ ?_; clear hK K) | refine thenA_n ?_ | refine thenA_r ?_ | refine thenA_e ?_ | refine block_n ?_ | refine block_r ?_ | refine block_hit ?_ | refine GWp.seq ?_ | refine GWp.block ?_ | refine GWp.skip ?_ | refine GWp.ret ?_ | refine GWp.exit ?_ | refine need_nil ?_ | refine need_cons True.intro ?_)
   | ((with_reducible first | refine gPost_r ?_ | refine gPost_n ?_ | refine fork_t ?_ | refine fork_f ?_ | (refine GWp.region (base := 0) ?_; intro K hK)); cbv; try simp only [hseg])
   | ((with_reducible refine GWp.cond_t ?hh ?_); (case hh => rfl)) | ((with_reducible refine GWp.cond_f ?hh ?_); (case hh => rfl)) | ((with_reducible refine block_miss ?hh ?_); (case hh => rfl))
   | ((with_reducible refine GWp.draws (base := 0) hM ?hh ?_); (case hh => rfl); intro K hK; cbv; try simp only [hseg])
   | ((with_reducible refine need_cons ?hh ?_); (case hh => first | with_reducible rfl | exact nn_ok hO (by decide))) | fail)
  refine hR _ _ ⟨_, ?_, rfl, rfl⟩
  clear hR; try clear hK
  simp only [szR, lefts, Int.ofNat_eq_natCast, Mt.sz, Me.sz] at *
  omega

theorem st_toMTable (xL : List Me)
    (ihL : ToOk 61 [roT (xL.map Me.t)] ⟨.one, [.ow (0, 0) 2 (xL.map Me.t)]⟩) :
    ToOk 44 [agT (Mt.mk xL).t] ⟨.agg, (Mt.mk xL).ow⟩ := by
  simp only [ToOk, roT, agT, Mt.t, Mt.ow, Me.t, Me.ow, strT, intT, byteT, List.map, List.cons_append, List.nil_append, List.append_nil, tA] at *
  generalize xL.map Me.t = tL at *
  refine gcalls_by tys_ok 9 [.cell 2 57] (fn := Try.f44) rfl rfl rfl rfl ?_ ?_ ?_
  · simp [stampFree, litI, A.stamp, A.rstamp, stampIn]
  · simp
  intro O hO P hP C hC R hR
  have hM : P.follows .mixedOrders = true := by rw [hP]; rfl
  obtain ⟨bin, cmp, sadd, scmp, beq, bnot, band, un, wrap, size, byte, sub, len, seg, app, get, set, nat, nadd, nsub, repl, text, bytes, mn, mx, nz, nn, idx, bnd, le, all, one, lits, isB, sOk, aOk, mOk⟩ := O
  have hseg : ∀ e, seg 0 (len e) e = e := by intro e; cases hO; simp
  repeat' (first
   | (with_reducible first | (refine hK _ ?_; clear hK K) | refine thenA_n ?_ | refine thenA_r ?_ | refine thenA_e ?_ | refine block_n ?_ | refine block_r ?_ | refine block_hit ?_ | refine GWp.seq ?_ | refine GWp.block ?_ | refine GWp.skip ?_ | refine GWp.ret ?_ | refine GWp.exit ?_ | refine need_nil ?_ | refine need_cons True.intro ?_)
   | ((with_reducible first | refine gPost_r ?_ | refine gPost_n ?_ | refine fork_t ?_ | refine fork_f ?_ | (refine GWp.region (base := 0) ?_; intro K hK)); cbv; try simp only [hseg])
   | ((with_reducible refine GWp.cond_t ?hh ?_); (case hh => rfl)) | ((with_reducible refine GWp.cond_f ?hh ?_); (case hh => rfl)) | ((with_reducible refine block_miss ?hh ?_); (case hh => rfl))
   | ((with_reducible refine GWp.draws (base := 0) hM ?hh ?_); (case hh => rfl); intro K hK; cbv; try simp only [hseg])
   | ((with_reducible refine need_cons ?hh ?_); (case hh => first | with_reducible rfl | exact nn_ok hO (by decide))) | fail)
  refine GCall.by ⟨fun _ _ => false, fun _ _ => false, []⟩ ?_
  cbv
  try simp only [hseg]
  refine GCallD.by hP rfl (ihL) ?_
  rintro res bx ⟨rfl, rfl⟩
  cbv
  try simp only [hseg]
  repeat' (first
   | (with_reducible first | (refine hK _ ?_; clear hK K) | refine thenA_n ?_ | refine thenA_r ?_ | refine thenA_e ?_ | refine block_n ?_ | refine block_r ?_ | refine block_hit ?_ | refine GWp.seq ?_ | refine GWp.block ?_ | refine GWp.skip ?_ | refine GWp.ret ?_ | refine GWp.exit ?_ | refine need_nil ?_ | refine need_cons True.intro ?_)
   | ((with_reducible first | refine gPost_r ?_ | refine gPost_n ?_ | refine fork_t ?_ | refine fork_f ?_ | (refine GWp.region (base := 0) ?_; intro K hK)); cbv; try simp only [hseg])
   | ((with_reducible refine GWp.cond_t ?hh ?_); (case hh => rfl)) | ((with_reducible refine GWp.cond_f ?hh ?_); (case hh => rfl)) | ((with_reducible refine block_miss ?hh ?_); (case hh => rfl))
   | ((with_reducible refine GWp.draws (base := 0) hM ?hh ?_); (case hh => rfl); intro K hK; cbv; try simp only [hseg])
   | ((with_reducible refine need_cons ?hh ?_); (case hh => first | with_reducible rfl | exact nn_ok hO (by decide))) | fail)
  exact hR _ _ ⟨rfl, rfl⟩

theorem st_eqMTable (xL : List Me)
    (ihL : EqOk 67 (roT (xL.map Me.t))) :
    EqOk 50 (agT (Mt.mk xL).t) := by
  simp only [EqOk, roT, agT, Mt.t, Mt.ow, Me.t, Me.ow, strT, intT, byteT, List.map, List.cons_append, List.nil_append, List.append_nil, tA] at *
  generalize xL.map Me.t = tL at *
  refine gcalls_by tys_ok 11 [.tmp 4] (fn := Try.f50) rfl rfl rfl rfl ?_ ?_ ?_
  · simp [stampFree, litI, A.stamp, A.rstamp, stampIn]
  · simp
  intro O hO P hP C hC R hR
  have hM : P.follows .mixedOrders = true := by rw [hP]; rfl
  obtain ⟨bin, cmp, sadd, scmp, beq, bnot, band, un, wrap, size, byte, sub, len, seg, app, get, set, nat, nadd, nsub, repl, text, bytes, mn, mx, nz, nn, idx, bnd, le, all, one, lits, isB, sOk, aOk, mOk⟩ := O
  have hseg : ∀ e, seg 0 (len e) e = e := by intro e; cases hO; simp
  have hne : ∀ x, cmp .neq x x = false := by intro x; cases hO; simp [Ops.std, stdCmp]
  have hse : ∀ x, scmp .neq x x = false := by intro x; cases hO; simp [Ops.std, scmp_neq]
  have hbe : ∀ x, bnot (beq x x) = false := by intro x; cases hO; simp [Ops.std]
  have hnt : bnot true = false := by cases hO; rfl
  repeat' (first
   | (with_reducible first | (refine hK _ ?_; clear hK K) | refine thenA_n ?_ | refine thenA_r ?_ | refine thenA_e ?_ | refine block_n ?_ | refine block_r ?_ | refine block_hit ?_ | refine GWp.seq ?_ | refine GWp.block ?_ | refine GWp.skip ?_ | refine GWp.ret ?_ | refine GWp.exit ?_ | refine need_nil ?_ | refine need_cons True.intro ?_)
   | ((with_reducible first | refine gPost_r ?_ | refine gPost_n ?_ | refine fork_t ?_ | refine fork_f ?_ | (refine GWp.region (base := 0) ?_; intro K hK)); cbv; try simp only [hseg])
   | ((with_reducible refine GWp.cond_t ?hh ?_); (case hh => rfl)) | ((with_reducible refine GWp.cond_f ?hh ?_); (case hh => rfl)) | ((with_reducible refine block_miss ?hh ?_); (case hh => rfl))
   | ((with_reducible refine GWp.draws (base := 0) hM ?hh ?_); (case hh => rfl); intro K hK; cbv; try simp only [hseg])
   | ((with_reducible refine need_cons ?hh ?_); (case hh => first | with_reducible rfl | exact nn_ok hO (by decide))) | fail)
  refine GCall.by ⟨fun _ _ => false, fun _ _ => false, []⟩ ?_
  cbv
  try simp only [hseg]
  refine GCallD.by hP rfl (ihL) ?_
  rintro res bx ⟨rfl, rfl⟩
  cbv
  try simp only [hseg]
  simp only [hne, hse, hbe, hnt]
  repeat' (first
   | (with_reducible first | (refine hK _ ?_; clear hK K) | refine thenA_n ?_ | refine thenA_r ?_ | refine thenA_e ?_ | refine block_n ?_ | refine block_r ?_ | refine block_hit ?_ | refine GWp.seq ?_ | refine GWp.block ?_ | refine GWp.skip ?_ | refine GWp.ret ?_ | refine GWp.exit ?_ | refine need_nil ?_ | refine need_cons True.intro ?_)
   | ((with_reducible first | refine gPost_r ?_ | refine gPost_n ?_ | refine fork_t ?_ | refine fork_f ?_ | (refine GWp.region (base := 0) ?_; intro K hK)); cbv; try simp only [hseg])
   | ((with_reducible refine GWp.cond_t ?hh ?_); (case hh => rfl)) | ((with_reducible refine GWp.cond_f ?hh ?_); (case hh => rfl)) | ((with_reducible refine block_miss ?hh ?_); (case hh => rfl))
   | ((with_reducible refine GWp.draws (base := 0) hM ?hh ?_); (case hh => rfl); intro K hK; cbv; try simp only [hseg])
   | ((with_reducible refine need_cons ?hh ?_); (case hh => first | with_reducible rfl | exact nn_ok hO (by decide))) | fail)
  exact hR _ _ ⟨rfl, rfl⟩

theorem c_szMTable (x : Mt) (hw : x.Wf) : SzOk 40 (fun left => [agT x.t, litI left]) x.sz := fun left hleft => by
  obtain ⟨xL⟩ := x
  exact st_szMTable xL left hleft (szMEntrys xL hw.l hw.l')
theorem c_toMTable (x : Mt) (hz : x.sz ≤ 1048576) : ToOk 44 [agT x.t] ⟨.agg, x.ow⟩ := by
  obtain ⟨xL⟩ := x
  simp only [Mt.sz] at hz
  exact st_toMTable xL (toMEntrys xL (by omega))
theorem c_eqMTable (x : Mt) (hz : x.sz ≤ 1048576) : EqOk 50 (agT x.t) := by
  obtain ⟨xL⟩ := x
  simp only [Mt.sz] at hz
  exact st_eqMTable xL (eqMEntrys xL (by omega))

theorem c_szMTableS (l : List Mt) (els : List (List T)) (he : els = l.map Mt.t) (hl : l.length ≤ maxLen) (left : Int) (hleft : lefts left)
    (ih : ∀ e ∈ l, SzOk 40 (fun left => [agT e.t, litI left]) e.sz) :
    ACalls Try.prog 14 [roT els, litI left] [] (fun res bx => ∃ r, szR (l.length + Mt.szs l) left r ∧ res = litI r ∧ bx = []) := by
  refine gcalls_by tys_ok 27 [.tmp 4] (fn := Try.f14) rfl rfl rfl rfl ?_ ?_ ?_
  · simp [stampFree, litI, A.stamp, A.rstamp, stampIn]
  · simp
  intro O hO P hP C hC R hR
  have hM : P.follows .mixedOrders = true := by rw [hP]; rfl
  obtain ⟨bin, cmp, sadd, scmp, beq, bnot, band, un, wrap, size, byte, sub, len, seg, app, get, set, nat, nadd, nsub, repl, text, bytes, mn, mx, nz, nn, idx, bnd, le, all, one, lits, isB, sOk, aOk, mOk⟩ := O
  have hseg : ∀ e, seg 0 (len e) e = e := by intro e; cases hO; simp
  obtain ⟨N, hN⟩ : ∃ N, N = l.length := ⟨_, rfl⟩
  have hNe : els.length = N := by simp [he, hN]
  have hlen : len els = N := len_of hO hNe
  have hk : ∀ e ∈ els, e.length = 1 := by subst he; simp [Mt.t_len]
  have ha : all els 1 := all_of hO hk
  rw [← hN] at hl hR
  repeat' (first
   | (with_reducible first | (refine hK _ ?_; clear hK K) | refine thenA_n ?_ | refine thenA_r ?_ | refine thenA_e ?_ | refine block_n ?_ | refine block_r ?_ | refine block_hit ?_ | refine GWp.seq ?_ | refine GWp.block ?_ | refine GWp.skip ?_ | refine GWp.ret ?_ | refine GWp.exit ?_ | refine need_nil ?_ | refine need_cons True.intro ?_)
   | ((with_reducible first | refine gPost_r ?_ | refine gPost_n ?_ | refine fork_t ?_ | refine fork_f ?_ | (refine GWp.region (base := 0) ?_; intro K hK)); cbv; try simp only [hseg])
   | ((with_reducible refine GWp.cond_t ?hh ?_); (case hh => rfl)) | ((with_reducible refine GWp.cond_f ?hh ?_); (case hh => rfl)) | ((with_reducible refine block_miss ?hh ?_); (case hh => rfl))
   | ((with_reducible refine GWp.draws (base := 0) hM ?hh ?_); (case hh => rfl); intro K hK; cbv; try simp only [hseg])
   | ((with_reducible refine need_cons ?hh ?_); (case hh => first | with_reducible rfl | exact nn_ok hO (by decide))) | fail)
  have e0 : bin .sub .i64 left (Int.ofNat N) = _ := sub_id hO hleft hl
  have hs := sub_le (b := N) hleft
  generalize hm : left - Int.ofNat N = m at e0 hs
  simp only [hlen, e0]
  refine GWp.cond rfl (fun h3 => ?_) (fun h3 => ?_)
  · repeat' (first
     | (with_reducible first | (refine hK _ ?_; clear hK K) | refine thenA_n ?_ | refine thenA_r ?_ | refine thenA_e ?_ | refine block_n ?_ | refine block_r ?_ | refine block_hit ?_ | refine GWp.seq ?_ | refine GWp.block ?_ | refine GWp.skip ?_ | refine GWp.ret ?_ | refine GWp.exit ?_ | refine need_nil ?_ | refine need_cons True.intro ?_)
     | ((with_reducible first | refine gPost_r ?_ | refine gPost_n ?_ | refine fork_t ?_ | refine fork_f ?_ | (refine GWp.region (base := 0) ?_; intro K hK)); cbv; try simp only [hseg])
     | ((with_reducible refine GWp.cond_t ?hh ?_); (case hh => rfl)) | ((with_reducible refine GWp.cond_f ?hh ?_); (case hh => rfl)) | ((with_reducible refine block_miss ?hh ?_); (case hh => rfl))
     | ((with_reducible refine GWp.draws (base := 0) hM ?hh ?_); (case hh => rfl); intro K hK; cbv; try simp only [hseg])
     | ((with_reducible refine need_cons ?hh ?_); (case hh => first | with_reducible rfl | exact nn_ok hO (by decide))) | fail)
    refine hR _ _ ⟨_, .inr ⟨?_, rfl⟩, rfl, rfl⟩
    have hm0 : m < 0 := by
      try clear hK K
      clear hM hP hC hR; cases hO
      simp only [Ops.std, stdCmp, stdBin, scmp_eql, scmp_neq, stdUn, Int.ofNat_eq_natCast] at *
      simpa using h3
    clear hR; try clear hK
    simp only [szR, lefts, Int.ofNat_eq_natCast] at *
    omega
  have hm0 : ¬ m < 0 := by
    try clear hK K
    clear hM hP hC hR; cases hO
    simp only [Ops.std, stdCmp, stdBin, scmp_eql, scmp_neq, stdUn, Int.ofNat_eq_natCast] at *
    simpa using h3
  have hs := hs hm0
  have hN2 : N ≤ 1048576 := by
    clear hR
    simp only [lefts, Int.ofNat_eq_natCast] at *
    omega
  repeat' (first
   | (with_reducible first | (refine hK _ ?_; clear hK K) | refine thenA_n ?_ | refine thenA_r ?_ | refine thenA_e ?_ | refine block_n ?_ | refine block_r ?_ | refine block_hit ?_ | refine GWp.seq ?_ | refine GWp.block ?_ | refine GWp.skip ?_ | refine GWp.ret ?_ | refine GWp.exit ?_ | refine need_nil ?_ | refine need_cons True.intro ?_)
   | ((with_reducible first | refine gPost_r ?_ | refine gPost_n ?_ | refine fork_t ?_ | refine fork_f ?_ | (refine GWp.region (base := 0) ?_; intro K hK)); cbv; try simp only [hseg])
   | ((with_reducible refine GWp.cond_t ?hh ?_); (case hh => rfl)) | ((with_reducible refine GWp.cond_f ?hh ?_); (case hh => rfl)) | ((with_reducible refine block_miss ?hh ?_); (case hh => rfl))
   | ((with_reducible refine GWp.draws (base := 0) hM ?hh ?_); (case hh => rfl); intro K hK; cbv; try simp only [hseg])
   | ((with_reducible refine need_cons ?hh ?_); (case hh => first | with_reducible rfl | exact nn_ok hO (by decide))) | fail)
  refine GWp.loop (nb := 0) (keep := fun t => t == 0 || t == 1 || t == 5) (kk := fun _ _ => none) (invSz 27 els N (fun i => Mt.szs (l.take i)) left) (by simp at hC; simp [hC]) ?_ ?_
  · cbv
    exact ⟨_, 0, m, by cbv, by simp, by simp [Mt.szs]; exact hm.symm, hs, rfl⟩
  rintro n σ ⟨i, m1, rfl, g1, g2, g3, rfl⟩
  repeat' (first
   | (with_reducible first | (refine hK _ ?_; clear hK K) | refine thenA_n ?_ | refine thenA_r ?_ | refine thenA_e ?_ | refine block_n ?_ | refine block_r ?_ | refine block_hit ?_ | refine GWp.seq ?_ | refine GWp.block ?_ | refine GWp.skip ?_ | refine GWp.ret ?_ | refine GWp.exit ?_ | refine need_nil ?_ | refine need_cons True.intro ?_)
   | ((with_reducible first | refine gPost_r ?_ | refine gPost_n ?_ | refine fork_t ?_ | refine fork_f ?_ | (refine GWp.region (base := 0) ?_; intro K hK)); cbv; try simp only [hseg])
   | ((with_reducible refine GWp.cond_t ?hh ?_); (case hh => rfl)) | ((with_reducible refine GWp.cond_f ?hh ?_); (case hh => rfl)) | ((with_reducible refine block_miss ?hh ?_); (case hh => rfl))
   | ((with_reducible refine GWp.draws (base := 0) hM ?hh ?_); (case hh => rfl); intro K hK; cbv; try simp only [hseg])
   | ((with_reducible refine need_cons ?hh ?_); (case hh => first | with_reducible rfl | exact nn_ok hO (by decide))) | fail)
  simp only [hlen]
  refine GWp.cond rfl (fun h4 => ?_) (fun h4 => ?_)
  · have hlt : i < N := by
      try clear hK K
      clear hM hP hC hR; cases hO
      simp only [Ops.std, stdCmp, stdBin, scmp_eql, scmp_neq, stdUn, Int.ofNat_eq_natCast] at *
      simpa using h4
    obtain ⟨x, hx, hx', ht, e1⟩ := map_at hO he (hN ▸ hlt)
    have hc := ih x hx m1 g3
    obtain ⟨xL⟩ := x
    simp only [SzOk, ToOk, EqOk, roT, agT, Mt.t, Mt.ow, Me.t, Me.ow, strT, intT, byteT, List.map, List.cons_append, List.nil_append, List.append_nil, tA] at hc e1
    generalize xL.map Me.t = tL at hc e1
    repeat' (first
     | (with_reducible first | (refine hK _ ?_; clear hK K) | refine thenA_n ?_ | refine thenA_r ?_ | refine thenA_e ?_ | refine block_n ?_ | refine block_r ?_ | refine block_hit ?_ | refine GWp.seq ?_ | refine GWp.block ?_ | refine GWp.skip ?_ | refine GWp.ret ?_ | refine GWp.exit ?_ | refine need_nil ?_ | refine need_cons True.intro ?_)
     | ((with_reducible first | refine gPost_r ?_ | refine gPost_n ?_ | refine fork_t ?_ | refine fork_f ?_ | (refine GWp.region (base := 0) ?_; intro K hK)); cbv; try simp only [hseg])
     | ((with_reducible refine GWp.cond_t ?hh ?_); (case hh => rfl)) | ((with_reducible refine GWp.cond_f ?hh ?_); (case hh => rfl)) | ((with_reducible refine block_miss ?hh ?_); (case hh => rfl))
     | ((with_reducible refine GWp.draws (base := 0) hM ?hh ?_); (case hh => rfl); intro K hK; cbv; try simp only [hseg])
     | ((with_reducible refine need_cons ?hh ?_); (case hh => first | with_reducible rfl | exact nn_ok hO (by decide))) | fail)
    repeat (simp only [e1]; cbv)
    refine need_cons (hlen ▸ idx_nat hO hlt) (need_cons ha (need_nil ?_))
    refine GCall.by ⟨fun _ _ => false, fun _ _ => false, []⟩ ?_
    cbv
    try simp only [hseg]
    refine GCallD.by hP rfl (hc) ?_
    rintro res bx ⟨r, hr, rfl, rfl⟩
    cbv
    try simp only [hseg]
    have hz : Mt.szs (l.take (i + 1)) = Mt.szs (l.take i) + (Mt.mk xL).sz := by rw [ht, Mt.szs_app, Mt.szs_one]
    generalize (Mt.mk xL).sz = z at hr hz
    repeat' (first
     | (with_reducible first | (refine hK _ ?_; clear hK K) | refine thenA_n ?_ | refine thenA_r ?_ | refine thenA_e ?_ | refine block_n ?_ | refine block_r ?_ | refine block_hit ?_ | refine GWp.seq ?_ | refine GWp.block ?_ | refine GWp.skip ?_ | refine GWp.ret ?_ | refine GWp.exit ?_ | refine need_nil ?_ | refine need_cons True.intro ?_)
     | ((with_reducible first | refine gPost_r ?_ | refine gPost_n ?_ | refine fork_t ?_ | refine fork_f ?_ | (refine GWp.region (base := 0) ?_; intro K hK)); cbv; try simp only [hseg])
     | ((with_reducible refine GWp.cond_t ?hh ?_); (case hh => rfl)) | ((with_reducible refine GWp.cond_f ?hh ?_); (case hh => rfl)) | ((with_reducible refine block_miss ?hh ?_); (case hh => rfl))
     | ((with_reducible refine GWp.draws (base := 0) hM ?hh ?_); (case hh => rfl); intro K hK; cbv; try simp only [hseg])
     | ((with_reducible refine need_cons ?hh ?_); (case hh => first | with_reducible rfl | exact nn_ok hO (by decide))) | fail)
    have hzl : Mt.szs (l.take (i + 1)) ≤ Mt.szs l := by
      have := Mt.szs_app (l.take (i + 1)) (l.drop (i + 1))
      rw [List.take_append_drop] at this
      omega
    refine GWp.cond rfl (fun h5 => ?_) (fun h5 => ?_)
    · repeat' (first
       | (with_reducible first | (refine hK _ ?_; clear hK K) | refine thenA_n ?_ | refine thenA_r ?_ | refine thenA_e ?_ | refine block_n ?_ | refine block_r ?_ | refine block_hit ?_ | refine GWp.seq ?_ | refine GWp.block ?_ | refine GWp.skip ?_ | refine GWp.ret ?_ | refine GWp.exit ?_ | refine need_nil ?_ | refine need_cons True.intro ?_)
       | ((with_reducible first | refine gPost_r ?_ | refine gPost_n ?_ | refine fork_t ?_ | refine fork_f ?_ | (refine GWp.region (base := 0) ?_; intro K hK)); cbv; try simp only [hseg])
       | ((with_reducible refine GWp.cond_t ?hh ?_); (case hh => rfl)) | ((with_reducible refine GWp.cond_f ?hh ?_); (case hh => rfl)) | ((with_reducible refine block_miss ?hh ?_); (case hh => rfl))
       | ((with_reducible refine GWp.draws (base := 0) hM ?hh ?_); (case hh => rfl); intro K hK; cbv; try simp only [hseg])
       | ((with_reducible refine need_cons ?hh ?_); (case hh => first | with_reducible rfl | exact nn_ok hO (by decide))) | fail)
      refine hR _ _ ⟨_, .inr ⟨?_, rfl⟩, rfl, rfl⟩
      have hr0 : r < 0 := by
        try clear hK K
        clear hM hP hC hR; cases hO
        simp only [Ops.std, stdCmp, stdBin, scmp_eql, scmp_neq, stdUn, Int.ofNat_eq_natCast] at *
        simpa using h5
      clear hR; try clear hK
      simp only [szR, lefts, Int.ofNat_eq_natCast] at *
      omega
    · have hr0 : ¬ r < 0 := by
        try clear hK K
        clear hM hP hC hR; cases hO
        simp only [Ops.std, stdCmp, stdBin, scmp_eql, scmp_neq, stdUn, Int.ofNat_eq_natCast] at *
        simpa using h5
      repeat' (first
       | (with_reducible first | (refine hK _ ?_; clear hK K) | refine thenA_n ?_ | refine thenA_r ?_ | refine thenA_e ?_ | refine block_n ?_ | refine block_r ?_ | refine block_hit ?_ | refine GWp.seq ?_ | refine GWp.block ?_ | refine GWp.skip ?_ | refine GWp.ret ?_ | refine GWp.exit ?_ | refine need_nil ?_ | refine need_cons True.intro ?_)
       | ((with_reducible first | refine gPost_r ?_ | refine gPost_n ?_ | refine fork_t ?_ | refine fork_f ?_ | (refine GWp.region (base := 0) ?_; intro K hK)); cbv; try simp only [hseg])
       | ((with_reducible refine GWp.cond_t ?hh ?_); (case hh => rfl)) | ((with_reducible refine GWp.cond_f ?hh ?_); (case hh => rfl)) | ((with_reducible refine block_miss ?hh ?_); (case hh => rfl))
       | ((with_reducible refine GWp.draws (base := 0) hM ?hh ?_); (case hh => rfl); intro K hK; cbv; try simp only [hseg])
       | ((with_reducible refine need_cons ?hh ?_); (case hh => first | with_reducible rfl | exact nn_ok hO (by decide))) | fail)
      have e : bin .add .i64 (Int.ofNat i) 1 = _ := i_succ hO (by omega)
      cbv
      rw [e]
      refine ⟨_, ?_, i + 1, r, by cbv, by omega, ?_, ?_, rfl⟩
      · omega
      · clear hR; try clear hK
        simp only [szR, lefts, Int.ofNat_eq_natCast] at *
        omega
      · clear hR; try clear hK
        simp only [szR, lefts, Int.ofNat_eq_natCast] at *
        omega
  · have hge : i = N := by
      try clear hK K
      clear hM hP hC hR; cases hO
      simp only [Ops.std, stdCmp, stdBin, scmp_eql, scmp_neq, stdUn, Int.ofNat_eq_natCast] at *
      simp at h4; omega
    repeat' (first
     | (with_reducible first | (refine hK _ ?_; clear hK K) | refine thenA_n ?_ | refine thenA_r ?_ | refine thenA_e ?_ | refine block_n ?_ | refine block_r ?_ | refine block_hit ?_ | refine GWp.seq ?_ | refine GWp.block ?_ | refine GWp.skip ?_ | refine GWp.ret ?_ | refine GWp.exit ?_ | refine need_nil ?_ | refine need_cons True.intro ?_)
     | ((with_reducible first | refine gPost_r ?_ | refine gPost_n ?_ | refine fork_t ?_ | refine fork_f ?_ | (refine GWp.region (base := 0) ?_; intro K hK)); cbv; try simp only [hseg])
     | ((with_reducible refine GWp.cond_t ?hh ?_); (case hh => rfl)) | ((with_reducible refine GWp.cond_f ?hh ?_); (case hh => rfl)) | ((with_reducible refine block_miss ?hh ?_); (case hh => rfl))
     | ((with_reducible refine GWp.draws (base := 0) hM ?hh ?_); (case hh => rfl); intro K hK; cbv; try simp only [hseg])
     | ((with_reducible refine need_cons ?hh ?_); (case hh => first | with_reducible rfl | exact nn_ok hO (by decide))) | fail)
    have e2 : l.take i = l := List.take_of_length_le (by omega)
    refine hR _ _ ⟨_, .inl ⟨?_, ?_⟩, rfl, rfl⟩
    · clear hR; try clear hK
      simp only [szR, lefts, Int.ofNat_eq_natCast, e2] at *
      omega
    · clear hR; try clear hK
      simp only [szR, lefts, Int.ofNat_eq_natCast, e2] at *
      omega

theorem c_toMTableS (l : List Mt) (els : List (List T)) (he : els = l.map Mt.t) (hl : l.length ≤ 1048576)
    (ih : ∀ e ∈ l, ToOk 44 [agT e.t] ⟨.agg, e.ow⟩) :
    ToOk 22 [roT els] ⟨.one, [.ow (0, 0) 1 els]⟩ := by
  refine gcalls_by tys_ok 23 [.tmp 2] (fn := Try.f22) rfl rfl rfl rfl ?_ ?_ ?_
  · simp [stampFree, litI, A.stamp, A.rstamp, stampIn]
  · simp
  intro O hO P hP C hC R hR
  have hM : P.follows .mixedOrders = true := by rw [hP]; rfl
  obtain ⟨bin, cmp, sadd, scmp, beq, bnot, band, un, wrap, size, byte, sub, len, seg, app, get, set, nat, nadd, nsub, repl, text, bytes, mn, mx, nz, nn, idx, bnd, le, all, one, lits, isB, sOk, aOk, mOk⟩ := O
  have hseg : ∀ e, seg 0 (len e) e = e := by intro e; cases hO; simp
  obtain ⟨N, hN⟩ : ∃ N, N = l.length := ⟨_, rfl⟩
  have hNe : els.length = N := by simp [he, hN]
  have hlen : len els = N := len_of hO hNe
  have hk : ∀ e ∈ els, e.length = 1 := by subst he; simp [Mt.t_len]
  have ha : all els 1 := all_of hO hk
  rw [← hN] at hl
  repeat' (first
   | (with_reducible first | (refine hK _ ?_; clear hK K) | refine thenA_n ?_ | refine thenA_r ?_ | refine thenA_e ?_ | refine block_n ?_ | refine block_r ?_ | refine block_hit ?_ | refine GWp.seq ?_ | refine GWp.block ?_ | refine GWp.skip ?_ | refine GWp.ret ?_ | refine GWp.exit ?_ | refine need_nil ?_ | refine need_cons True.intro ?_)
   | ((with_reducible first | refine gPost_r ?_ | refine gPost_n ?_ | refine fork_t ?_ | refine fork_f ?_ | (refine GWp.region (base := 0) ?_; intro K hK)); cbv; try simp only [hseg])
   | ((with_reducible refine GWp.cond_t ?hh ?_); (case hh => rfl)) | ((with_reducible refine GWp.cond_f ?hh ?_); (case hh => rfl)) | ((with_reducible refine block_miss ?hh ?_); (case hh => rfl))
   | ((with_reducible refine GWp.draws (base := 0) hM ?hh ?_); (case hh => rfl); intro K hK; cbv; try simp only [hseg])
   | ((with_reducible refine need_cons ?hh ?_); (case hh => first | with_reducible rfl | exact nn_ok hO (by decide))) | fail)
  simp only [hlen]
  refine need_cons (mOk_of hO (by simp only [Int.ofNat_eq_natCast]; omega)) (need_nil ?_)
  generalize hR0 : repl (nat (Int.ofNat N)) [T.sl []] = outs0
  have h0 : outs0.length = els.length ∧ ∀ e ∈ outs0, e.length = 1 := by
    subst hR0; cases hO
    refine ⟨?_, fun e he => ?_⟩
    · simp [Ops.std, hNe]
    · rw [List.eq_of_mem_replicate he]; rfl
  repeat' (first
   | (with_reducible first | (refine hK _ ?_; clear hK K) | refine thenA_n ?_ | refine thenA_r ?_ | refine thenA_e ?_ | refine block_n ?_ | refine block_r ?_ | refine block_hit ?_ | refine GWp.seq ?_ | refine GWp.block ?_ | refine GWp.skip ?_ | refine GWp.ret ?_ | refine GWp.exit ?_ | refine need_nil ?_ | refine need_cons True.intro ?_)
   | ((with_reducible first | refine gPost_r ?_ | refine gPost_n ?_ | refine fork_t ?_ | refine fork_f ?_ | (refine GWp.region (base := 0) ?_; intro K hK)); cbv; try simp only [hseg])
   | ((with_reducible refine GWp.cond_t ?hh ?_); (case hh => rfl)) | ((with_reducible refine GWp.cond_f ?hh ?_); (case hh => rfl)) | ((with_reducible refine block_miss ?hh ?_); (case hh => rfl))
   | ((with_reducible refine GWp.draws (base := 0) hM ?hh ?_); (case hh => rfl); intro K hK; cbv; try simp only [hseg])
   | ((with_reducible refine need_cons ?hh ?_); (case hh => first | with_reducible rfl | exact nn_ok hO (by decide))) | fail)
  refine GWp.loop (nb := 0) (keep := fun t => t == 0 || t == 3 || t == 4) (kk := fun _ _ => none) (invTo 23 els 1) (by simp at hC; simp [hC]) ?_ ?_
  · cbv
    exact ⟨_, 0, outs0, by cbv, Nat.zero_le _, h0.1, h0.2, by simp, rfl⟩
  rintro n σ ⟨i, outs, rfl, g1, g2, g3, g4, rfl⟩
  rw [hNe] at g1 g2
  have hlo : len outs = N := len_of hO g2
  repeat' (first
   | (with_reducible first | (refine hK _ ?_; clear hK K) | refine thenA_n ?_ | refine thenA_r ?_ | refine thenA_e ?_ | refine block_n ?_ | refine block_r ?_ | refine block_hit ?_ | refine GWp.seq ?_ | refine GWp.block ?_ | refine GWp.skip ?_ | refine GWp.ret ?_ | refine GWp.exit ?_ | refine need_nil ?_ | refine need_cons True.intro ?_)
   | ((with_reducible first | refine gPost_r ?_ | refine gPost_n ?_ | refine fork_t ?_ | refine fork_f ?_ | (refine GWp.region (base := 0) ?_; intro K hK)); cbv; try simp only [hseg])
   | ((with_reducible refine GWp.cond_t ?hh ?_); (case hh => rfl)) | ((with_reducible refine GWp.cond_f ?hh ?_); (case hh => rfl)) | ((with_reducible refine block_miss ?hh ?_); (case hh => rfl))
   | ((with_reducible refine GWp.draws (base := 0) hM ?hh ?_); (case hh => rfl); intro K hK; cbv; try simp only [hseg])
   | ((with_reducible refine need_cons ?hh ?_); (case hh => first | with_reducible rfl | exact nn_ok hO (by decide))) | fail)
  simp only [hlen]
  refine GWp.cond rfl (fun h4 => ?_) (fun h4 => ?_)
  · have hlt : i < N := by
      try clear hK K
      clear hM hP hC hR; cases hO
      simp only [Ops.std, stdCmp, stdBin, scmp_eql, scmp_neq, stdUn, Int.ofNat_eq_natCast] at *
      simpa using h4
    obtain ⟨x, hx, hx', ht, e1⟩ := map_at hO he (hN ▸ hlt)
    have hxe : els[i]? = some x.t := by rw [he]; simp [hx']
    have hc := ih x hx
    obtain ⟨xL⟩ := x
    simp only [SzOk, ToOk, EqOk, roT, agT, Mt.t, Mt.ow, Me.t, Me.ow, strT, intT, byteT, List.map, List.cons_append, List.nil_append, List.append_nil, tA] at hc e1 hxe
    generalize xL.map Me.t = tL at hc e1 hxe
    have en : nadd 0 (nat (Int.ofNat i)) = i := by cases hO; simp [Ops.std]
    repeat' (first
     | (with_reducible first | (refine hK _ ?_; clear hK K) | refine thenA_n ?_ | refine thenA_r ?_ | refine thenA_e ?_ | refine block_n ?_ | refine block_r ?_ | refine block_hit ?_ | refine GWp.seq ?_ | refine GWp.block ?_ | refine GWp.skip ?_ | refine GWp.ret ?_ | refine GWp.exit ?_ | refine need_nil ?_ | refine need_cons True.intro ?_)
     | ((with_reducible first | refine gPost_r ?_ | refine gPost_n ?_ | refine fork_t ?_ | refine fork_f ?_ | (refine GWp.region (base := 0) ?_; intro K hK)); cbv; try simp only [hseg])
     | ((with_reducible refine GWp.cond_t ?hh ?_); (case hh => rfl)) | ((with_reducible refine GWp.cond_f ?hh ?_); (case hh => rfl)) | ((with_reducible refine block_miss ?hh ?_); (case hh => rfl))
     | ((with_reducible refine GWp.draws (base := 0) hM ?hh ?_); (case hh => rfl); intro K hK; cbv; try simp only [hseg])
     | ((with_reducible refine need_cons ?hh ?_); (case hh => first | with_reducible rfl | exact nn_ok hO (by decide))) | fail)
    repeat (simp only [e1]; cbv)
    refine need_cons (hlen ▸ idx_nat hO hlt) (need_cons ha (need_nil ?_))
    refine GCall.by ⟨fun _ _ => false, fun _ _ => false, []⟩ ?_
    cbv
    try simp only [hseg]
    refine GCallD.by hP rfl (hc) ?_
    rintro res bx ⟨rfl, rfl⟩
    cbv
    try simp only [hseg]
    simp only [hlo, en]
    refine need_cons (idx_nat hO hlt) (need_cons (one_of hO (by omega) rfl g3) ?_)
    have es : ∀ y, set outs i y = outs.set i y := by intro y; cases hO; rfl
    obtain ⟨t1, t2⟩ := set_step (hNe.symm ▸ hlt) (g2.trans hNe.symm) g4 hxe
    have t3 : ∀ e ∈ outs.set i [T.sl tL], e.length = 1 := by
      intro e he
      rcases List.mem_or_eq_of_mem_set he with h | h
      · exact g3 e h
      · rw [h]; rfl
    simp only [es]
    generalize outs.set i [T.sl tL] = outs' at t1 t2 t3 ⊢
    repeat' (first
     | (with_reducible first | (refine hK _ ?_; clear hK K) | refine thenA_n ?_ | refine thenA_r ?_ | refine thenA_e ?_ | refine block_n ?_ | refine block_r ?_ | refine block_hit ?_ | refine GWp.seq ?_ | refine GWp.block ?_ | refine GWp.skip ?_ | refine GWp.ret ?_ | refine GWp.exit ?_ | refine need_nil ?_ | refine need_cons True.intro ?_)
     | ((with_reducible first | refine gPost_r ?_ | refine gPost_n ?_ | refine fork_t ?_ | refine fork_f ?_ | (refine GWp.region (base := 0) ?_; intro K hK)); cbv; try simp only [hseg])
     | ((with_reducible refine GWp.cond_t ?hh ?_); (case hh => rfl)) | ((with_reducible refine GWp.cond_f ?hh ?_); (case hh => rfl)) | ((with_reducible refine block_miss ?hh ?_); (case hh => rfl))
     | ((with_reducible refine GWp.draws (base := 0) hM ?hh ?_); (case hh => rfl); intro K hK; cbv; try simp only [hseg])
     | ((with_reducible refine need_cons ?hh ?_); (case hh => first | with_reducible rfl | exact nn_ok hO (by decide))) | fail)
    have e : bin .add .i64 (Int.ofNat i) 1 = _ := i_succ hO (by omega)
    cbv
    rw [e]
    exact ⟨_, by omega, i + 1, outs', by cbv, by omega, t1, t3, t2, rfl⟩
  · have hge : i = N := by
      try clear hK K
      clear hM hP hC hR; cases hO
      simp only [Ops.std, stdCmp, stdBin, scmp_eql, scmp_neq, stdUn, Int.ofNat_eq_natCast] at *
      simp at h4; omega
    have e2 : outs = els := by
      have := g4
      rw [List.take_of_length_le (by omega), List.take_of_length_le (by omega)] at this
      exact this
    subst e2
    repeat' (first
     | (with_reducible first | (refine hK _ ?_; clear hK K) | refine thenA_n ?_ | refine thenA_r ?_ | refine thenA_e ?_ | refine block_n ?_ | refine block_r ?_ | refine block_hit ?_ | refine GWp.seq ?_ | refine GWp.block ?_ | refine GWp.skip ?_ | refine GWp.ret ?_ | refine GWp.exit ?_ | refine need_nil ?_ | refine need_cons True.intro ?_)
     | ((with_reducible first | refine gPost_r ?_ | refine gPost_n ?_ | refine fork_t ?_ | refine fork_f ?_ | (refine GWp.region (base := 0) ?_; intro K hK)); cbv; try simp only [hseg])
     | ((with_reducible refine GWp.cond_t ?hh ?_); (case hh => rfl)) | ((with_reducible refine GWp.cond_f ?hh ?_); (case hh => rfl)) | ((with_reducible refine block_miss ?hh ?_); (case hh => rfl))
     | ((with_reducible refine GWp.draws (base := 0) hM ?hh ?_); (case hh => rfl); intro K hK; cbv; try simp only [hseg])
     | ((with_reducible refine need_cons ?hh ?_); (case hh => first | with_reducible rfl | exact nn_ok hO (by decide))) | fail)
    exact hR _ _ ⟨rfl, rfl⟩

theorem c_eqMTableS (l : List Mt) (els : List (List T)) (he : els = l.map Mt.t) (hl : l.length ≤ 1048576)
    (ih : ∀ e ∈ l, EqOk 50 (agT e.t)) :
    EqOk 30 (roT els) := by
  refine gcalls_by tys_ok 27 [.tmp 4] (fn := Try.f30) rfl rfl rfl rfl ?_ ?_ ?_
  · simp [stampFree, litI, A.stamp, A.rstamp, stampIn]
  · simp
  intro O hO P hP C hC R hR
  have hM : P.follows .mixedOrders = true := by rw [hP]; rfl
  obtain ⟨bin, cmp, sadd, scmp, beq, bnot, band, un, wrap, size, byte, sub, len, seg, app, get, set, nat, nadd, nsub, repl, text, bytes, mn, mx, nz, nn, idx, bnd, le, all, one, lits, isB, sOk, aOk, mOk⟩ := O
  have hseg : ∀ e, seg 0 (len e) e = e := by intro e; cases hO; simp
  obtain ⟨N, hN⟩ : ∃ N, N = l.length := ⟨_, rfl⟩
  have hNe : els.length = N := by simp [he, hN]
  have hlen : len els = N := len_of hO hNe
  have hk : ∀ e ∈ els, e.length = 1 := by subst he; simp [Mt.t_len]
  have ha : all els 1 := all_of hO hk
  rw [← hN] at hl
  have hne : ∀ x, cmp .neq x x = false := by intro x; cases hO; simp [Ops.std, stdCmp]
  have hse : ∀ x, scmp .neq x x = false := by intro x; cases hO; simp [Ops.std, scmp_neq]
  have hbe : ∀ x, bnot (beq x x) = false := by intro x; cases hO; simp [Ops.std]
  have hnt : bnot true = false := by cases hO; rfl
  repeat' (first
   | (with_reducible first | (refine hK _ ?_; clear hK K) | refine thenA_n ?_ | refine thenA_r ?_ | refine thenA_e ?_ | refine block_n ?_ | refine block_r ?_ | refine block_hit ?_ | refine GWp.seq ?_ | refine GWp.block ?_ | refine GWp.skip ?_ | refine GWp.ret ?_ | refine GWp.exit ?_ | refine need_nil ?_ | refine need_cons True.intro ?_)
   | ((with_reducible first | refine gPost_r ?_ | refine gPost_n ?_ | refine fork_t ?_ | refine fork_f ?_ | (refine GWp.region (base := 0) ?_; intro K hK)); cbv; try simp only [hseg])
   | ((with_reducible refine GWp.cond_t ?hh ?_); (case hh => rfl)) | ((with_reducible refine GWp.cond_f ?hh ?_); (case hh => rfl)) | ((with_reducible refine block_miss ?hh ?_); (case hh => rfl))
   | ((with_reducible refine GWp.draws (base := 0) hM ?hh ?_); (case hh => rfl); intro K hK; cbv; try simp only [hseg])
   | ((with_reducible refine need_cons ?hh ?_); (case hh => first | with_reducible rfl | exact nn_ok hO (by decide))) | fail)
  simp only [hne]
  repeat' (first
   | (with_reducible first | (refine hK _ ?_; clear hK K) | refine thenA_n ?_ | refine thenA_r ?_ | refine thenA_e ?_ | refine block_n ?_ | refine block_r ?_ | refine block_hit ?_ | refine GWp.seq ?_ | refine GWp.block ?_ | refine GWp.skip ?_ | refine GWp.ret ?_ | refine GWp.exit ?_ | refine need_nil ?_ | refine need_cons True.intro ?_)
   | ((with_reducible first | refine gPost_r ?_ | refine gPost_n ?_ | refine fork_t ?_ | refine fork_f ?_ | (refine GWp.region (base := 0) ?_; intro K hK)); cbv; try simp only [hseg])
   | ((with_reducible refine GWp.cond_t ?hh ?_); (case hh => rfl)) | ((with_reducible refine GWp.cond_f ?hh ?_); (case hh => rfl)) | ((with_reducible refine block_miss ?hh ?_); (case hh => rfl))
   | ((with_reducible refine GWp.draws (base := 0) hM ?hh ?_); (case hh => rfl); intro K hK; cbv; try simp only [hseg])
   | ((with_reducible refine need_cons ?hh ?_); (case hh => first | with_reducible rfl | exact nn_ok hO (by decide))) | fail)
  refine GWp.loop (nb := 0) (keep := fun t => t == 0 || t == 1 || t == 5) (kk := fun _ _ => none) (invEq 27 els) (by simp at hC; simp [hC]) ?_ ?_
  · cbv
    exact ⟨_, 0, by cbv, Nat.zero_le _, rfl⟩
  rintro n σ ⟨i, rfl, g1, rfl⟩
  rw [hNe] at g1
  repeat' (first
   | (with_reducible first | (refine hK _ ?_; clear hK K) | refine thenA_n ?_ | refine thenA_r ?_ | refine thenA_e ?_ | refine block_n ?_ | refine block_r ?_ | refine block_hit ?_ | refine GWp.seq ?_ | refine GWp.block ?_ | refine GWp.skip ?_ | refine GWp.ret ?_ | refine GWp.exit ?_ | refine need_nil ?_ | refine need_cons True.intro ?_)
   | ((with_reducible first | refine gPost_r ?_ | refine gPost_n ?_ | refine fork_t ?_ | refine fork_f ?_ | (refine GWp.region (base := 0) ?_; intro K hK)); cbv; try simp only [hseg])
   | ((with_reducible refine GWp.cond_t ?hh ?_); (case hh => rfl)) | ((with_reducible refine GWp.cond_f ?hh ?_); (case hh => rfl)) | ((with_reducible refine block_miss ?hh ?_); (case hh => rfl))
   | ((with_reducible refine GWp.draws (base := 0) hM ?hh ?_); (case hh => rfl); intro K hK; cbv; try simp only [hseg])
   | ((with_reducible refine need_cons ?hh ?_); (case hh => first | with_reducible rfl | exact nn_ok hO (by decide))) | fail)
  simp only [hlen]
  refine GWp.cond rfl (fun h4 => ?_) (fun h4 => ?_)
  · have hlt : i < N := by
      try clear hK K
      clear hM hP hC hR; cases hO
      simp only [Ops.std, stdCmp, stdBin, scmp_eql, scmp_neq, stdUn, Int.ofNat_eq_natCast] at *
      simpa using h4
    obtain ⟨x, hx, hx', ht, e1⟩ := map_at hO he (hN ▸ hlt)
    have hc := ih x hx
    obtain ⟨xL⟩ := x
    simp only [SzOk, ToOk, EqOk, roT, agT, Mt.t, Mt.ow, Me.t, Me.ow, strT, intT, byteT, List.map, List.cons_append, List.nil_append, List.append_nil, tA] at hc e1
    generalize xL.map Me.t = tL at hc e1
    have hi : idx (Int.ofNat i) (len els) := hlen ▸ idx_nat hO hlt
    repeat' (first
     | (with_reducible first | (refine hK _ ?_; clear hK K) | refine thenA_n ?_ | refine thenA_r ?_ | refine thenA_e ?_ | refine block_n ?_ | refine block_r ?_ | refine block_hit ?_ | refine GWp.seq ?_ | refine GWp.block ?_ | refine GWp.skip ?_ | refine GWp.ret ?_ | refine GWp.exit ?_ | refine need_nil ?_ | refine need_cons True.intro ?_)
     | ((with_reducible first | refine gPost_r ?_ | refine gPost_n ?_ | refine fork_t ?_ | refine fork_f ?_ | (refine GWp.region (base := 0) ?_; intro K hK)); cbv; try simp only [hseg])
     | ((with_reducible refine GWp.cond_t ?hh ?_); (case hh => rfl)) | ((with_reducible refine GWp.cond_f ?hh ?_); (case hh => rfl)) | ((with_reducible refine block_miss ?hh ?_); (case hh => rfl))
     | ((with_reducible refine GWp.draws (base := 0) hM ?hh ?_); (case hh => rfl); intro K hK; cbv; try simp only [hseg])
     | ((with_reducible refine need_cons ?hh ?_); (case hh => first | with_reducible rfl | exact nn_ok hO (by decide))) | fail)
    repeat (simp only [e1]; cbv)
    refine need_cons hi (need_cons ha (need_cons hi (need_cons ha (need_nil ?_))))
    refine GCall.by ⟨fun _ _ => false, fun _ _ => false, []⟩ ?_
    cbv
    try simp only [hseg]
    refine GCallD.by hP rfl (hc) ?_
    rintro res bx ⟨rfl, rfl⟩
    cbv
    try simp only [hseg]
    repeat (simp only [e1]; cbv)
    simp only [hnt, hse, hne]
    repeat' (first
     | (with_reducible first | (refine hK _ ?_; clear hK K) | refine thenA_n ?_ | refine thenA_r ?_ | refine thenA_e ?_ | refine block_n ?_ | refine block_r ?_ | refine block_hit ?_ | refine GWp.seq ?_ | refine GWp.block ?_ | refine GWp.skip ?_ | refine GWp.ret ?_ | refine GWp.exit ?_ | refine need_nil ?_ | refine need_cons True.intro ?_)
     | ((with_reducible first | refine gPost_r ?_ | refine gPost_n ?_ | refine fork_t ?_ | refine fork_f ?_ | (refine GWp.region (base := 0) ?_; intro K hK)); cbv; try simp only [hseg])
     | ((with_reducible refine GWp.cond_t ?hh ?_); (case hh => rfl)) | ((with_reducible refine GWp.cond_f ?hh ?_); (case hh => rfl)) | ((with_reducible refine block_miss ?hh ?_); (case hh => rfl))
     | ((with_reducible refine GWp.draws (base := 0) hM ?hh ?_); (case hh => rfl); intro K hK; cbv; try simp only [hseg])
     | ((with_reducible refine need_cons ?hh ?_); (case hh => first | with_reducible rfl | exact nn_ok hO (by decide))) | fail)
    have e : bin .add .i64 (Int.ofNat i) 1 = _ := i_succ hO (by omega)
    cbv
    rw [e]
    exact ⟨_, by omega, i + 1, by cbv, by omega, rfl⟩
  · repeat' (first
     | (with_reducible first | (refine hK _ ?_; clear hK K) | refine thenA_n ?_ | refine thenA_r ?_ | refine thenA_e ?_ | refine block_n ?_ | refine block_r ?_ | refine block_hit ?_ | refine GWp.seq ?_ | refine GWp.block ?_ | refine GWp.skip ?_ | refine GWp.ret ?_ | refine GWp.exit ?_ | refine need_nil ?_ | refine need_cons True.intro ?_)
     | ((with_reducible first | refine gPost_r ?_ | refine gPost_n ?_ | refine fork_t ?_ | refine fork_f ?_ | (refine GWp.region (base := 0) ?_; intro K hK)); cbv; try simp only [hseg])
     | ((with_reducible refine GWp.cond_t ?hh ?_); (case hh => rfl)) | ((with_reducible refine GWp.cond_f ?hh ?_); (case hh => rfl)) | ((with_reducible refine block_miss ?hh ?_); (case hh => rfl))
     | ((with_reducible refine GWp.draws (base := 0) hM ?hh ?_); (case hh => rfl); intro K hK; cbv; try simp only [hseg])
     | ((with_reducible refine need_cons ?hh ?_); (case hh => first | with_reducible rfl | exact nn_ok hO (by decide))) | fail)
    exact hR _ _ ⟨rfl, rfl⟩

theorem szMTables (l : List Mt) (hl : l.length ≤ maxLen) (h : ∀ e ∈ l, Mt.Wf e) : SzOk 14 (fun left => [roT (l.map Mt.t), litI left]) (l.length + Mt.szs l) :=
  fun left hleft => c_szMTableS l _ rfl hl left hleft fun e he => c_szMTable e (h e he)
theorem toMTables (l : List Mt) (hl : l.length + Mt.szs l ≤ 1048576) : ToOk 22 [roT (l.map Mt.t)] ⟨.one, [.ow (0, 0) 1 (l.map Mt.t)]⟩ :=
  c_toMTableS l _ rfl (by omega) fun e he => c_toMTable e (by have := sum_mem (f := Mt.sz) he; unfold Mt.szs at hl; omega)
theorem eqMTables (l : List Mt) (hl : l.length + Mt.szs l ≤ 1048576) : EqOk 30 (roT (l.map Mt.t)) :=
  c_eqMTableS l _ rfl (by omega) fun e he => c_eqMTable e (by have := sum_mem (f := Mt.sz) he; unfold Mt.szs at hl; omega)

theorem st_szRec (xLine : ByteArray) (xFields : List ByteArray) (left : Int) (hleft : lefts left)
    (hLine : xLine.size ≤ maxLen)
    (ihFields : SzOk 42 (fun left => [roT (xFields.map strT), litI left]) (xFields.length + strsz xFields)) :
    ACalls Try.prog 16 [agT (Rc.mk xLine xFields).t, litI left] [] (fun res bx => ∃ r, szR (Rc.mk xLine xFields).sz left r ∧ res = litI r ∧ bx = []) := by
  simp only [SzOk, roT, agT, Rc.t, Rc.ow, strT, intT, byteT, List.map, List.cons_append, List.nil_append, List.append_nil, tA] at *
  generalize xFields.map strT = tFields at *
  refine gcalls_by tys_ok 19 [.tmp 4] (fn := Try.f16) rfl rfl rfl rfl ?_ ?_ ?_
  · simp [stampFree, litI, A.stamp, A.rstamp, stampIn]
  · simp
  intro O hO P hP C hC R hR
  have hM : P.follows .mixedOrders = true := by rw [hP]; rfl
  obtain ⟨bin, cmp, sadd, scmp, beq, bnot, band, un, wrap, size, byte, sub, len, seg, app, get, set, nat, nadd, nsub, repl, text, bytes, mn, mx, nz, nn, idx, bnd, le, all, one, lits, isB, sOk, aOk, mOk⟩ := O
  have hseg : ∀ e, seg 0 (len e) e = e := by intro e; cases hO; simp
  repeat' (first
   | (with_reducible first | (refine hK _ ?_; clear hK K) | refine thenA_n ?_ | refine thenA_r ?_ | refine thenA_e ?_ | refine block_n ?_ | refine block_r ?_ | refine block_hit ?_ | refine GWp.seq ?_ | refine GWp.block ?_ | refine GWp.skip ?_ | refine GWp.ret ?_ | refine GWp.exit ?_ | refine need_nil ?_ | refine need_cons True.intro ?_)
   | ((with_reducible first | refine gPost_r ?_ | refine gPost_n ?_ | refine fork_t ?_ | refine fork_f ?_ | (refine GWp.region (base := 0) ?_; intro K hK)); cbv; try simp only [hseg])
   | ((with_reducible refine GWp.cond_t ?hh ?_); (case hh => rfl)) | ((with_reducible refine GWp.cond_f ?hh ?_); (case hh => rfl)) | ((with_reducible refine block_miss ?hh ?_); (case hh => rfl))
   | ((with_reducible refine GWp.draws (base := 0) hM ?hh ?_); (case hh => rfl); intro K hK; cbv; try simp only [hseg])
   | ((with_reducible refine need_cons ?hh ?_); (case hh => first | with_reducible rfl | exact nn_ok hO (by decide))) | fail)
  obtain ⟨n1, hn1⟩ : ∃ z, z = xLine.size := ⟨_, rfl⟩
  have hz1 : size xLine = n1 := by cases hO; exact hn1.symm
  have e1 : bin .sub .i64 left (Int.ofNat n1) = _ := sub_id hO hleft (hn1 ▸ hLine)
  have hl1 := sub_le (b := n1) hleft
  generalize hm1 : left - Int.ofNat n1 = m1 at e1 hl1
  simp only [hz1, e1]
  refine GWp.cond rfl (fun h1 => ?_) (fun h1 => ?_)
  · repeat' (first
     | (with_reducible first | (refine hK _ ?_; clear hK K) | refine thenA_n ?_ | refine thenA_r ?_ | refine thenA_e ?_ | refine block_n ?_ | refine block_r ?_ | refine block_hit ?_ | refine GWp.seq ?_ | refine GWp.block ?_ | refine GWp.skip ?_ | refine GWp.ret ?_ | refine GWp.exit ?_ | refine need_nil ?_ | refine need_cons True.intro ?_)
     | ((with_reducible first | refine gPost_r ?_ | refine gPost_n ?_ | refine fork_t ?_ | refine fork_f ?_ | (refine GWp.region (base := 0) ?_; intro K hK)); cbv; try simp only [hseg])
     | ((with_reducible refine GWp.cond_t ?hh ?_); (case hh => rfl)) | ((with_reducible refine GWp.cond_f ?hh ?_); (case hh => rfl)) | ((with_reducible refine block_miss ?hh ?_); (case hh => rfl))
     | ((with_reducible refine GWp.draws (base := 0) hM ?hh ?_); (case hh => rfl); intro K hK; cbv; try simp only [hseg])
     | ((with_reducible refine need_cons ?hh ?_); (case hh => first | with_reducible rfl | exact nn_ok hO (by decide))) | fail)
    refine hR _ _ ⟨_, .inr ⟨?_, rfl⟩, rfl, rfl⟩
    have hg1 : m1 < 0 := by
      try clear hK K
      clear hM hP hC hR; cases hO
      simp only [Ops.std, stdCmp, stdBin, scmp_eql, scmp_neq, stdUn, Int.ofNat_eq_natCast] at *
      simpa using h1
    clear hR; try clear hK
    simp only [szR, lefts, Int.ofNat_eq_natCast, Rc.sz] at *
    omega
  have hg1 : ¬ m1 < 0 := by
    try clear hK K
    clear hM hP hC hR; cases hO
    simp only [Ops.std, stdCmp, stdBin, scmp_eql, scmp_neq, stdUn, Int.ofNat_eq_natCast] at *
    simpa using h1
  have hl1 := hl1 hg1
  repeat' (first
   | (with_reducible first | (refine hK _ ?_; clear hK K) | refine thenA_n ?_ | refine thenA_r ?_ | refine thenA_e ?_ | refine block_n ?_ | refine block_r ?_ | refine block_hit ?_ | refine GWp.seq ?_ | refine GWp.block ?_ | refine GWp.skip ?_ | refine GWp.ret ?_ | refine GWp.exit ?_ | refine need_nil ?_ | refine need_cons True.intro ?_)
   | ((with_reducible first | refine gPost_r ?_ | refine gPost_n ?_ | refine fork_t ?_ | refine fork_f ?_ | (refine GWp.region (base := 0) ?_; intro K hK)); cbv; try simp only [hseg])
   | ((with_reducible refine GWp.cond_t ?hh ?_); (case hh => rfl)) | ((with_reducible refine GWp.cond_f ?hh ?_); (case hh => rfl)) | ((with_reducible refine block_miss ?hh ?_); (case hh => rfl))
   | ((with_reducible refine GWp.draws (base := 0) hM ?hh ?_); (case hh => rfl); intro K hK; cbv; try simp only [hseg])
   | ((with_reducible refine need_cons ?hh ?_); (case hh => first | with_reducible rfl | exact nn_ok hO (by decide))) | fail)
  refine GCall.by ⟨fun _ _ => false, fun _ _ => false, []⟩ ?_
  cbv
  try simp only [hseg]
  refine GCallD.by hP rfl (ihFields m1 hl1) ?_
  rintro res bx ⟨m2, hr2, rfl, rfl⟩
  cbv
  try simp only [hseg]
  have hl2 := szR_le hl1 hr2
  repeat' (first
   | (with_reducible first | (refine hK _ ?_; clear hK K) | refine thenA_n ?_ | refine thenA_r ?_ | refine thenA_e ?_ | refine block_n ?_ | refine block_r ?_ | refine block_hit ?_ | refine GWp.seq ?_ | refine GWp.block ?_ | refine GWp.skip ?_ | refine GWp.ret ?_ | refine GWp.exit ?_ | refine need_nil ?_ | refine need_cons True.intro ?_)
   | ((with_reducible first | refine gPost_r ?_ | refine gPost_n ?_ | refine fork_t ?_ | refine fork_f ?_ | (refine GWp.region (base := 0) ?_; intro K hK)); cbv; try simp only [hseg])
   | ((with_reducible refine GWp.cond_t ?hh ?_); (case hh => rfl)) | ((with_reducible refine GWp.cond_f ?hh ?_); (case hh => rfl)) | ((with_reducible refine block_miss ?hh ?_); (case hh => rfl))
   | ((with_reducible refine GWp.draws (base := 0) hM ?hh ?_); (case hh => rfl); intro K hK; cbv; try simp only [hseg])
   | ((with_reducible refine need_cons ?hh ?_); (case hh => first | with_reducible rfl | exact nn_ok hO (by decide))) | fail)
  refine GWp.cond rfl (fun h2 => ?_) (fun h2 => ?_)
  · repeat' (first
     | (with_reducible first | (refine hK _ ?_; clear hK K) | refine thenA_n ?_ | refine thenA_r ?_ | refine thenA_e ?_ | refine block_n ?_ | refine block_r ?_ | refine block_hit ?_ | refine GWp.seq ?_ | refine GWp.block ?_ | refine GWp.skip ?_ | refine GWp.ret ?_ | refine GWp.exit ?_ | refine need_nil ?_ | refine need_cons True.intro ?_)
     | ((with_reducible first | refine gPost_r ?_ | refine gPost_n ?_ | refine fork_t ?_ | refine fork_f ?_ | (refine GWp.region (base := 0) ?_; intro K hK)); cbv; try simp only [hseg])
     | ((with_reducible refine GWp.cond_t ?hh ?_); (case hh => rfl)) | ((with_reducible refine GWp.cond_f ?hh ?_); (case hh => rfl)) | ((with_reducible refine block_miss ?hh ?_); (case hh => rfl))
     | ((with_reducible refine GWp.draws (base := 0) hM ?hh ?_); (case hh => rfl); intro K hK; cbv; try simp only [hseg])
     | ((with_reducible refine need_cons ?hh ?_); (case hh => first | with_reducible rfl | exact nn_ok hO (by decide))) | fail)
    refine hR _ _ ⟨_, .inr ⟨?_, rfl⟩, rfl, rfl⟩
    have hg2 : m2 < 0 := by
      try clear hK K
      clear hM hP hC hR; cases hO
      simp only [Ops.std, stdCmp, stdBin, scmp_eql, scmp_neq, stdUn, Int.ofNat_eq_natCast] at *
      simpa using h2
    clear hR; try clear hK
    simp only [szR, lefts, Int.ofNat_eq_natCast, Rc.sz] at *
    omega
  have hg2 : ¬ m2 < 0 := by
    try clear hK K
    clear hM hP hC hR; cases hO
    simp only [Ops.std, stdCmp, stdBin, scmp_eql, scmp_neq, stdUn, Int.ofNat_eq_natCast] at *
    simpa using h2
  have hl2 := hl2 hg2
  repeat' (first
   | (with_reducible first | (refine hK _ ?_; clear hK K) | refine thenA_n ?_ | refine thenA_r ?_ | refine thenA_e ?_ | refine block_n ?_ | refine block_r ?_ | refine block_hit ?_ | refine GWp.seq ?_ | refine GWp.block ?_ | refine GWp.skip ?_ | refine GWp.ret ?_ | refine GWp.exit ?_ | refine need_nil ?_ | refine need_cons True.intro ?_)
   | ((with_reducible first | refine gPost_r ?_ | refine gPost_n ?_ | refine fork_t ?_ | refine fork_f ?_ | (refine GWp.region (base := 0) ?_; intro K hK)); cbv; try simp only [hseg])
   | ((with_reducible refine GWp.cond_t ?hh ?_); (case hh => rfl)) | ((with_reducible refine GWp.cond_f ?hh ?_); (case hh => rfl)) | ((with_reducible refine block_miss ?hh ?_); (case hh => rfl))
   | ((with_reducible refine GWp.draws (base := 0) hM ?hh ?_); (case hh => rfl); intro K hK; cbv; try simp only [hseg])
   | ((with_reducible refine need_cons ?hh ?_); (case hh => first | with_reducible rfl | exact nn_ok hO (by decide))) | fail)
  refine hR _ _ ⟨_, ?_, rfl, rfl⟩
  clear hR; try clear hK
  simp only [szR, lefts, Int.ofNat_eq_natCast, Rc.sz] at *
  omega

theorem st_toRec (xLine : ByteArray) (xFields : List ByteArray)
    (ihFields : ToOk 46 [roT (xFields.map strT)] ⟨.one, [.ow (0, 0) 1 (xFields.map strT)]⟩) :
    ToOk 24 [agT (Rc.mk xLine xFields).t] ⟨.agg, (Rc.mk xLine xFields).ow⟩ := by
  simp only [ToOk, roT, agT, Rc.t, Rc.ow, strT, intT, byteT, List.map, List.cons_append, List.nil_append, List.append_nil, tA] at *
  generalize xFields.map strT = tFields at *
  refine gcalls_by tys_ok 12 [.cell 2 41] (fn := Try.f24) rfl rfl rfl rfl ?_ ?_ ?_
  · simp [stampFree, litI, A.stamp, A.rstamp, stampIn]
  · simp
  intro O hO P hP C hC R hR
  have hM : P.follows .mixedOrders = true := by rw [hP]; rfl
  obtain ⟨bin, cmp, sadd, scmp, beq, bnot, band, un, wrap, size, byte, sub, len, seg, app, get, set, nat, nadd, nsub, repl, text, bytes, mn, mx, nz, nn, idx, bnd, le, all, one, lits, isB, sOk, aOk, mOk⟩ := O
  have hseg : ∀ e, seg 0 (len e) e = e := by intro e; cases hO; simp
  repeat' (first
   | (with_reducible first | (refine hK _ ?_; clear hK K) | refine thenA_n ?_ | refine thenA_r ?_ | refine thenA_e ?_ | refine block_n ?_ | refine block_r ?_ | refine block_hit ?_ | refine GWp.seq ?_ | refine GWp.block ?_ | refine GWp.skip ?_ | refine GWp.ret ?_ | refine GWp.exit ?_ | refine need_nil ?_ | refine need_cons True.intro ?_)
   | ((with_reducible first | refine gPost_r ?_ | refine gPost_n ?_ | refine fork_t ?_ | refine fork_f ?_ | (refine GWp.region (base := 0) ?_; intro K hK)); cbv; try simp only [hseg])
   | ((with_reducible refine GWp.cond_t ?hh ?_); (case hh => rfl)) | ((with_reducible refine GWp.cond_f ?hh ?_); (case hh => rfl)) | ((with_reducible refine block_miss ?hh ?_); (case hh => rfl))
   | ((with_reducible refine GWp.draws (base := 0) hM ?hh ?_); (case hh => rfl); intro K hK; cbv; try simp only [hseg])
   | ((with_reducible refine need_cons ?hh ?_); (case hh => first | with_reducible rfl | exact nn_ok hO (by decide))) | fail)
  refine GCall.by ⟨fun _ _ => false, fun _ _ => false, []⟩ ?_
  cbv
  try simp only [hseg]
  refine GCallD.by hP rfl (ihFields) ?_
  rintro res bx ⟨rfl, rfl⟩
  cbv
  try simp only [hseg]
  repeat' (first
   | (with_reducible first | (refine hK _ ?_; clear hK K) | refine thenA_n ?_ | refine thenA_r ?_ | refine thenA_e ?_ | refine block_n ?_ | refine block_r ?_ | refine block_hit ?_ | refine GWp.seq ?_ | refine GWp.block ?_ | refine GWp.skip ?_ | refine GWp.ret ?_ | refine GWp.exit ?_ | refine need_nil ?_ | refine need_cons True.intro ?_)
   | ((with_reducible first | refine gPost_r ?_ | refine gPost_n ?_ | refine fork_t ?_ | refine fork_f ?_ | (refine GWp.region (base := 0) ?_; intro K hK)); cbv; try simp only [hseg])
   | ((with_reducible refine GWp.cond_t ?hh ?_); (case hh => rfl)) | ((with_reducible refine GWp.cond_f ?hh ?_); (case hh => rfl)) | ((with_reducible refine block_miss ?hh ?_); (case hh => rfl))
   | ((with_reducible refine GWp.draws (base := 0) hM ?hh ?_); (case hh => rfl); intro K hK; cbv; try simp only [hseg])
   | ((with_reducible refine need_cons ?hh ?_); (case hh => first | with_reducible rfl | exact nn_ok hO (by decide))) | fail)
  exact hR _ _ ⟨rfl, rfl⟩

theorem st_eqRec (xLine : ByteArray) (xFields : List ByteArray)
    (ihFields : EqOk 52 (roT (xFields.map strT))) :
    EqOk 32 (agT (Rc.mk xLine xFields).t) := by
  simp only [EqOk, roT, agT, Rc.t, Rc.ow, strT, intT, byteT, List.map, List.cons_append, List.nil_append, List.append_nil, tA] at *
  generalize xFields.map strT = tFields at *
  refine gcalls_by tys_ok 16 [.tmp 4] (fn := Try.f32) rfl rfl rfl rfl ?_ ?_ ?_
  · simp [stampFree, litI, A.stamp, A.rstamp, stampIn]
  · simp
  intro O hO P hP C hC R hR
  have hM : P.follows .mixedOrders = true := by rw [hP]; rfl
  obtain ⟨bin, cmp, sadd, scmp, beq, bnot, band, un, wrap, size, byte, sub, len, seg, app, get, set, nat, nadd, nsub, repl, text, bytes, mn, mx, nz, nn, idx, bnd, le, all, one, lits, isB, sOk, aOk, mOk⟩ := O
  have hseg : ∀ e, seg 0 (len e) e = e := by intro e; cases hO; simp
  have hne : ∀ x, cmp .neq x x = false := by intro x; cases hO; simp [Ops.std, stdCmp]
  have hse : ∀ x, scmp .neq x x = false := by intro x; cases hO; simp [Ops.std, scmp_neq]
  have hbe : ∀ x, bnot (beq x x) = false := by intro x; cases hO; simp [Ops.std]
  have hnt : bnot true = false := by cases hO; rfl
  repeat' (first
   | (with_reducible first | (refine hK _ ?_; clear hK K) | refine thenA_n ?_ | refine thenA_r ?_ | refine thenA_e ?_ | refine block_n ?_ | refine block_r ?_ | refine block_hit ?_ | refine GWp.seq ?_ | refine GWp.block ?_ | refine GWp.skip ?_ | refine GWp.ret ?_ | refine GWp.exit ?_ | refine need_nil ?_ | refine need_cons True.intro ?_)
   | ((with_reducible first | refine gPost_r ?_ | refine gPost_n ?_ | refine fork_t ?_ | refine fork_f ?_ | (refine GWp.region (base := 0) ?_; intro K hK)); cbv; try simp only [hseg])
   | ((with_reducible refine GWp.cond_t ?hh ?_); (case hh => rfl)) | ((with_reducible refine GWp.cond_f ?hh ?_); (case hh => rfl)) | ((with_reducible refine block_miss ?hh ?_); (case hh => rfl))
   | ((with_reducible refine GWp.draws (base := 0) hM ?hh ?_); (case hh => rfl); intro K hK; cbv; try simp only [hseg])
   | ((with_reducible refine need_cons ?hh ?_); (case hh => first | with_reducible rfl | exact nn_ok hO (by decide))) | fail)
  simp only [hne, hse, hbe, hnt]
  repeat' (first
   | (with_reducible first | (refine hK _ ?_; clear hK K) | refine thenA_n ?_ | refine thenA_r ?_ | refine thenA_e ?_ | refine block_n ?_ | refine block_r ?_ | refine block_hit ?_ | refine GWp.seq ?_ | refine GWp.block ?_ | refine GWp.skip ?_ | refine GWp.ret ?_ | refine GWp.exit ?_ | refine need_nil ?_ | refine need_cons True.intro ?_)
   | ((with_reducible first | refine gPost_r ?_ | refine gPost_n ?_ | refine fork_t ?_ | refine fork_f ?_ | (refine GWp.region (base := 0) ?_; intro K hK)); cbv; try simp only [hseg])
   | ((with_reducible refine GWp.cond_t ?hh ?_); (case hh => rfl)) | ((with_reducible refine GWp.cond_f ?hh ?_); (case hh => rfl)) | ((with_reducible refine block_miss ?hh ?_); (case hh => rfl))
   | ((with_reducible refine GWp.draws (base := 0) hM ?hh ?_); (case hh => rfl); intro K hK; cbv; try simp only [hseg])
   | ((with_reducible refine need_cons ?hh ?_); (case hh => first | with_reducible rfl | exact nn_ok hO (by decide))) | fail)
  refine GCall.by ⟨fun _ _ => false, fun _ _ => false, []⟩ ?_
  cbv
  try simp only [hseg]
  refine GCallD.by hP rfl (ihFields) ?_
  rintro res bx ⟨rfl, rfl⟩
  cbv
  try simp only [hseg]
  simp only [hne, hse, hbe, hnt]
  repeat' (first
   | (with_reducible first | (refine hK _ ?_; clear hK K) | refine thenA_n ?_ | refine thenA_r ?_ | refine thenA_e ?_ | refine block_n ?_ | refine block_r ?_ | refine block_hit ?_ | refine GWp.seq ?_ | refine GWp.block ?_ | refine GWp.skip ?_ | refine GWp.ret ?_ | refine GWp.exit ?_ | refine need_nil ?_ | refine need_cons True.intro ?_)
   | ((with_reducible first | refine gPost_r ?_ | refine gPost_n ?_ | refine fork_t ?_ | refine fork_f ?_ | (refine GWp.region (base := 0) ?_; intro K hK)); cbv; try simp only [hseg])
   | ((with_reducible refine GWp.cond_t ?hh ?_); (case hh => rfl)) | ((with_reducible refine GWp.cond_f ?hh ?_); (case hh => rfl)) | ((with_reducible refine block_miss ?hh ?_); (case hh => rfl))
   | ((with_reducible refine GWp.draws (base := 0) hM ?hh ?_); (case hh => rfl); intro K hK; cbv; try simp only [hseg])
   | ((with_reducible refine need_cons ?hh ?_); (case hh => first | with_reducible rfl | exact nn_ok hO (by decide))) | fail)
  exact hR _ _ ⟨rfl, rfl⟩

theorem c_szRec (x : Rc) (hw : x.Wf) : SzOk 16 (fun left => [agT x.t, litI left]) x.sz := fun left hleft => by
  obtain ⟨xLine, xFields⟩ := x
  exact st_szRec xLine xFields left hleft hw.line (szStrings xFields hw.fields hw.fields')
theorem c_toRec (x : Rc) (hz : x.sz ≤ 1048576) : ToOk 24 [agT x.t] ⟨.agg, x.ow⟩ := by
  obtain ⟨xLine, xFields⟩ := x
  simp only [Rc.sz] at hz
  exact st_toRec xLine xFields (toStrings xFields (by omega))
theorem c_eqRec (x : Rc) (hz : x.sz ≤ 1048576) : EqOk 32 (agT x.t) := by
  obtain ⟨xLine, xFields⟩ := x
  simp only [Rc.sz] at hz
  exact st_eqRec xLine xFields (eqStrings xFields (by omega))

end Go.Gv
