/- Part Z5 of the proof: contracts of functions of the program, each walked once. -/
import Derived.Test.YtjobmglbjcaopaaZ1
import Derived.Test.YtjobmglbjcaopaaZ3
import Derived.Test.YtjobmglbjcaopaaY4

namespace Go.Gv
open Go.Av Go.Proofs
set_option maxRecDepth 10000
set_option linter.unusedSimpArgs false

theorem tellA : TellOkA := fun k x1 x2 hg => by
  refine gcalls_by tys_ok 9 [] (fn := Try.f27) rfl rfl rfl rfl ?_ ?_ ?_
  · simp [stampFree, litI, A.stamp, A.rstamp, stampIn]
  · simp [stampFree, litI, A.stamp, A.rstamp, stampIn]
  intro O hO P hP C hC R hR
  have hM : P.follows .mixedOrders = true := by rw [hP]; rfl
  obtain ⟨bin, cmp, sadd, scmp, beq, bnot, un, wrap, size, byte, sub, len, seg, app, get, set, nat, nadd, nsub, repl, text, bytes, mn, mx, nz, nn, idx, bnd, le, all, one, lits, isB, sOk, aOk, mOk⟩ := O
  have hseg : ∀ e, seg 0 (len e) e = e := by intro e; cases hO; simp
  have e2 : bin .add .i64 x2 1 = bump x2 := by cases hO; rfl
  repeat' (first
   | (with_reducible first | (refine hK _ ?_; clear hK K) | refine thenA_n ?_ | refine thenA_r ?_ | refine thenA_e ?_ | refine block_n ?_ | refine block_r ?_ | refine block_hit ?_ | refine GWp.seq ?_ | refine GWp.block ?_ | refine GWp.skip ?_ | refine GWp.ret ?_ | refine GWp.exit ?_ | refine need_nil ?_ | refine need_cons True.intro ?_)
   | ((with_reducible first | refine gPost_r ?_ | refine gPost_n ?_ | refine fork_t ?_ | refine fork_f ?_ | (refine GWp.region (base := 2) ?_; intro K hK)); cbv; try simp only [hseg])
   | ((with_reducible refine GWp.cond_t ?hh ?_); (case hh => rfl)) | ((with_reducible refine GWp.cond_f ?hh ?_); (case hh => rfl)) | ((with_reducible refine block_miss ?hh ?_); (case hh => rfl))
   | ((with_reducible refine GWp.draws (base := 2) hM ?hh ?_); (case hh => rfl); intro K hK; cbv; try simp only [hseg])
   | ((with_reducible refine need_cons ?hh ?_); (case hh => first | with_reducible rfl | exact nn_ok hO (by decide))) | fail)
  refine GWp.cond rfl (fun h => ?_) (fun h => ?_)
  · have hk : k = x1 := by
      try clear hK K
      clear hM hP hC hR; cases hO
      simp only [Ops.std, stdCmp, stdBin, scmp_eql, scmp_neq, stdUn, Int.ofNat_eq_natCast] at *
      simpa using h
    repeat' (first
     | (with_reducible first | (refine hK _ ?_; clear hK K) | refine thenA_n ?_ | refine thenA_r ?_ | refine thenA_e ?_ | refine block_n ?_ | refine block_r ?_ | refine block_hit ?_ | refine GWp.seq ?_ | refine GWp.block ?_ | refine GWp.skip ?_ | refine GWp.ret ?_ | refine GWp.exit ?_ | refine need_nil ?_ | refine need_cons True.intro ?_)
     | ((with_reducible first | refine gPost_r ?_ | refine gPost_n ?_ | refine fork_t ?_ | refine fork_f ?_ | (refine GWp.region (base := 2) ?_; intro K hK)); cbv; try simp only [hseg])
     | ((with_reducible refine GWp.cond_t ?hh ?_); (case hh => rfl)) | ((with_reducible refine GWp.cond_f ?hh ?_); (case hh => rfl)) | ((with_reducible refine block_miss ?hh ?_); (case hh => rfl))
     | ((with_reducible refine GWp.draws (base := 2) hM ?hh ?_); (case hh => rfl); intro K hK; cbv; try simp only [hseg])
     | ((with_reducible refine need_cons ?hh ?_); (case hh => first | with_reducible rfl | exact nn_ok hO (by decide))) | fail)
    simp only [e2]
    obtain ⟨b, hb⟩ : ∃ b, b = bump x2 := ⟨_, rfl⟩
    rw [← hb]
    repeat' (first
     | (with_reducible first | (refine hK _ ?_; clear hK K) | refine thenA_n ?_ | refine thenA_r ?_ | refine thenA_e ?_ | refine block_n ?_ | refine block_r ?_ | refine block_hit ?_ | refine GWp.seq ?_ | refine GWp.block ?_ | refine GWp.skip ?_ | refine GWp.ret ?_ | refine GWp.exit ?_ | refine need_nil ?_ | refine need_cons True.intro ?_)
     | ((with_reducible first | refine gPost_r ?_ | refine gPost_n ?_ | refine fork_t ?_ | refine fork_f ?_ | (refine GWp.region (base := 2) ?_; intro K hK)); cbv; try simp only [hseg])
     | ((with_reducible refine GWp.cond_t ?hh ?_); (case hh => rfl)) | ((with_reducible refine GWp.cond_f ?hh ?_); (case hh => rfl)) | ((with_reducible refine block_miss ?hh ?_); (case hh => rfl))
     | ((with_reducible refine GWp.draws (base := 2) hM ?hh ?_); (case hh => rfl); intro K hK; cbv; try simp only [hseg])
     | ((with_reducible refine need_cons ?hh ?_); (case hh => first | with_reducible rfl | exact nn_ok hO (by decide))) | fail)
    exact hR _ _ ⟨x1, b, by rw [stepA, if_pos hk, hb], trivial, rfl, rfl⟩
  · have hk : k ≠ x1 := by
      try clear hK K
      clear hM hP hC hR; cases hO
      simp only [Ops.std, stdCmp, stdBin, scmp_eql, scmp_neq, stdUn, Int.ofNat_eq_natCast] at *
      simpa using h
    repeat' (first
     | (with_reducible first | (refine hK _ ?_; clear hK K) | refine thenA_n ?_ | refine thenA_r ?_ | refine thenA_e ?_ | refine block_n ?_ | refine block_r ?_ | refine block_hit ?_ | refine GWp.seq ?_ | refine GWp.block ?_ | refine GWp.skip ?_ | refine GWp.ret ?_ | refine GWp.exit ?_ | refine need_nil ?_ | refine need_cons True.intro ?_)
     | ((with_reducible first | refine gPost_r ?_ | refine gPost_n ?_ | refine fork_t ?_ | refine fork_f ?_ | (refine GWp.region (base := 2) ?_; intro K hK)); cbv; try simp only [hseg])
     | ((with_reducible refine GWp.cond_t ?hh ?_); (case hh => rfl)) | ((with_reducible refine GWp.cond_f ?hh ?_); (case hh => rfl)) | ((with_reducible refine block_miss ?hh ?_); (case hh => rfl))
     | ((with_reducible refine GWp.draws (base := 2) hM ?hh ?_); (case hh => rfl); intro K hK; cbv; try simp only [hseg])
     | ((with_reducible refine need_cons ?hh ?_); (case hh => first | with_reducible rfl | exact nn_ok hO (by decide))) | fail)
    exact hR _ _ ⟨x1, x2, by rw [stepA, if_neg hk], trivial, rfl, rfl⟩

theorem foldA (a : Int) : ∀ (l : List Int) (n : Nat), n + l.length ≤ 4611686018427387904 → l.foldl stepA (a, Int.ofNat n) = (a, Int.ofNat (n + l.count a))
  | [], n, _ => by simp
  | k :: l, n, h => by
    rw [List.length_cons] at h
    have e : stepA (a, Int.ofNat n) k = (a, Int.ofNat (n + if k = a then 1 else 0)) := by
      unfold stepA
      by_cases hk : k = a
      · simp only [if_pos hk]
        rw [bump, i64_id (by simp only [Int.ofNat_eq_natCast]; omega)]
        rfl
      · simp only [if_neg hk]; rfl
    rw [List.foldl_cons, e, foldA a l _ (by split <;> omega)]
    congr 2
    rw [List.count_cons]
    simp only [beq_iff_eq]
    omega

theorem c_HoldersOf' (x : Mc) (hz : x.sz ≤ 1048576) (a : Int) : NumOk 8 [agT x.t, litI a] (x.holds.count a) := by
  have hc := eachHolderA tellA x hz a 0 trivial
  have hl := x.holds_len
  rw [show (0 : Int) = Int.ofNat 0 from rfl, foldA a x.holds 0 (by omega), Nat.zero_add] at hc
  generalize x.holds.count a = c at hc ⊢
  obtain ⟨⟨x1⟩, x2, x3, x4, ⟨x5, x6⟩, x7, x8, x9, x10, x11, x12, x13⟩ := x
  simp only [agT, Mc.t, He.t, Rc.t, List.map, tA, List.cons_append, List.nil_append, NumOk] at hc ⊢
  generalize x1.map Ce.t = y1 at *
  generalize x2.map intT = y2 at *
  generalize x3.map Mt.t = y3 at *
  generalize x4.map Fr.t = y4 at *
  generalize x6.map strT = y6 at *
  generalize x8.map byteT = y8 at *
  refine gcalls_by tys_ok 10 [.tmp 4] (fn := Try.f8) rfl rfl rfl rfl ?_ ?_ ?_
  · simp [stampFree, litI, A.stamp, A.rstamp, stampIn]
  · simp [stampFree, litI, A.stamp, A.rstamp, stampIn]
  intro O hO P hP C hC R hR
  have hM : P.follows .mixedOrders = true := by rw [hP]; rfl
  obtain ⟨bin, cmp, sadd, scmp, beq, bnot, un, wrap, size, byte, sub, len, seg, app, get, set, nat, nadd, nsub, repl, text, bytes, mn, mx, nz, nn, idx, bnd, le, all, one, lits, isB, sOk, aOk, mOk⟩ := O
  have hseg : ∀ e, seg 0 (len e) e = e := by intro e; cases hO; simp
  repeat' (first
   | (with_reducible first | (refine hK _ ?_; clear hK K) | refine thenA_n ?_ | refine thenA_r ?_ | refine thenA_e ?_ | refine block_n ?_ | refine block_r ?_ | refine block_hit ?_ | refine GWp.seq ?_ | refine GWp.block ?_ | refine GWp.skip ?_ | refine GWp.ret ?_ | refine GWp.exit ?_ | refine need_nil ?_ | refine need_cons True.intro ?_)
   | ((with_reducible first | refine gPost_r ?_ | refine gPost_n ?_ | refine fork_t ?_ | refine fork_f ?_ | (refine GWp.region (base := 0) ?_; intro K hK)); cbv; try simp only [hseg])
   | ((with_reducible refine GWp.cond_t ?hh ?_); (case hh => rfl)) | ((with_reducible refine GWp.cond_f ?hh ?_); (case hh => rfl)) | ((with_reducible refine block_miss ?hh ?_); (case hh => rfl))
   | ((with_reducible refine GWp.draws (base := 0) hM ?hh ?_); (case hh => rfl); intro K hK; cbv; try simp only [hseg])
   | ((with_reducible refine need_cons ?hh ?_); (case hh => first | with_reducible rfl | exact nn_ok hO (by decide))) | fail)
  refine GCall.by ⟨fun _ _ => false, fun _ _ => false, [1, 2]⟩ ?_
  cbv
  try simp only [hseg]
  refine GCallD.by hP rfl (hc) ?_
  rintro res bx ⟨r1, r2, hr, hg, rfl, rfl⟩
  cbv
  try simp only [hseg]
  repeat' (first
   | (with_reducible first | (refine hK _ ?_; clear hK K) | refine thenA_n ?_ | refine thenA_r ?_ | refine thenA_e ?_ | refine block_n ?_ | refine block_r ?_ | refine block_hit ?_ | refine GWp.seq ?_ | refine GWp.block ?_ | refine GWp.skip ?_ | refine GWp.ret ?_ | refine GWp.exit ?_ | refine need_nil ?_ | refine need_cons True.intro ?_)
   | ((with_reducible first | refine gPost_r ?_ | refine gPost_n ?_ | refine fork_t ?_ | refine fork_f ?_ | (refine GWp.region (base := 0) ?_; intro K hK)); cbv; try simp only [hseg])
   | ((with_reducible refine GWp.cond_t ?hh ?_); (case hh => rfl)) | ((with_reducible refine GWp.cond_f ?hh ?_); (case hh => rfl)) | ((with_reducible refine block_miss ?hh ?_); (case hh => rfl))
   | ((with_reducible refine GWp.draws (base := 0) hM ?hh ?_); (case hh => rfl); intro K hK; cbv; try simp only [hseg])
   | ((with_reducible refine need_cons ?hh ?_); (case hh => first | with_reducible rfl | exact nn_ok hO (by decide))) | fail)
  refine hR _ _ ⟨c, rfl, ?_, rfl⟩
  rw [(Prod.mk.inj hr).2]; rfl

theorem c_FnExactHoldersOf (x : Mc) (hw : x.Wf) (a : Int) : ACalls Try.prog 3 [agT x.t, litI a] [] (fun res bx => res = litB true ∧ bx = []) := by
  have hs := c_szMach x hw 1048576 ⟨by decide, by decide⟩
  have ht := fun h => c_toMach x h
  have hq := fun h => c_eqMach x h
  have h1 := fun h => c_HoldersOf x h a
  have h2 := fun h => c_HoldersOf' x h a
  generalize x.holds.count a = c at h1 h2
  generalize x.sz = z at *
  clear hw
  obtain ⟨⟨x1⟩, x2, x3, x4, ⟨x5, x6⟩, x7, x8, x9, x10, x11, x12, x13⟩ := x
  simp only [agT, Mc.t, He.t, Rc.t, Mc.ow, He.ow, Rc.ow, List.map, tA, List.cons_append, List.nil_append, NumOk, ToOk, EqOk] at *
  generalize x1.map Ce.t = y1 at *
  generalize x2.map intT = y2 at *
  generalize x3.map Mt.t = y3 at *
  generalize x4.map Fr.t = y4 at *
  generalize x6.map strT = y6 at *
  generalize x8.map byteT = y8 at *
  refine gcalls_by tys_ok 31 [.tmp 4] (fn := Try.f3) rfl rfl rfl rfl ?_ ?_ ?_
  · simp [stampFree, litI, A.stamp, A.rstamp, stampIn]
  · simp [stampFree, litI, A.stamp, A.rstamp, stampIn]
  intro O hO P hP C hC R hR
  have hM : P.follows .mixedOrders = true := by rw [hP]; rfl
  obtain ⟨bin, cmp, sadd, scmp, beq, bnot, un, wrap, size, byte, sub, len, seg, app, get, set, nat, nadd, nsub, repl, text, bytes, mn, mx, nz, nn, idx, bnd, le, all, one, lits, isB, sOk, aOk, mOk⟩ := O
  have hseg : ∀ e, seg 0 (len e) e = e := by intro e; cases hO; simp
  have hne : ∀ x, cmp .neq x x = false := by intro x; cases hO; simp [Ops.std, stdCmp]
  have hnt : bnot true = false := by cases hO; rfl
  repeat' (first
   | (with_reducible first | (refine hK _ ?_; clear hK K) | refine thenA_n ?_ | refine thenA_r ?_ | refine thenA_e ?_ | refine block_n ?_ | refine block_r ?_ | refine block_hit ?_ | refine GWp.seq ?_ | refine GWp.block ?_ | refine GWp.skip ?_ | refine GWp.ret ?_ | refine GWp.exit ?_ | refine need_nil ?_ | refine need_cons True.intro ?_)
   | ((with_reducible first | refine gPost_r ?_ | refine gPost_n ?_ | refine fork_t ?_ | refine fork_f ?_ | (refine GWp.region (base := 0) ?_; intro K hK)); cbv; try simp only [hseg])
   | ((with_reducible refine GWp.cond_t ?hh ?_); (case hh => rfl)) | ((with_reducible refine GWp.cond_f ?hh ?_); (case hh => rfl)) | ((with_reducible refine block_miss ?hh ?_); (case hh => rfl))
   | ((with_reducible refine GWp.draws (base := 0) hM ?hh ?_); (case hh => rfl); intro K hK; cbv; try simp only [hseg])
   | ((with_reducible refine need_cons ?hh ?_); (case hh => first | with_reducible rfl | exact nn_ok hO (by decide))) | fail)
  refine GCall.by ⟨fun _ _ => false, fun _ _ => false, []⟩ ?_
  cbv
  try simp only [hseg]
  refine GCallD.by hP rfl (hs) ?_
  rintro res bx ⟨r, hr, rfl, rfl⟩
  cbv
  try simp only [hseg]
  repeat' (first
   | (with_reducible first | (refine hK _ ?_; clear hK K) | refine thenA_n ?_ | refine thenA_r ?_ | refine thenA_e ?_ | refine block_n ?_ | refine block_r ?_ | refine block_hit ?_ | refine GWp.seq ?_ | refine GWp.block ?_ | refine GWp.skip ?_ | refine GWp.ret ?_ | refine GWp.exit ?_ | refine need_nil ?_ | refine need_cons True.intro ?_)
   | ((with_reducible first | refine gPost_r ?_ | refine gPost_n ?_ | refine fork_t ?_ | refine fork_f ?_ | (refine GWp.region (base := 0) ?_; intro K hK)); cbv; try simp only [hseg])
   | ((with_reducible refine GWp.cond_t ?hh ?_); (case hh => rfl)) | ((with_reducible refine GWp.cond_f ?hh ?_); (case hh => rfl)) | ((with_reducible refine block_miss ?hh ?_); (case hh => rfl))
   | ((with_reducible refine GWp.draws (base := 0) hM ?hh ?_); (case hh => rfl); intro K hK; cbv; try simp only [hseg])
   | ((with_reducible refine need_cons ?hh ?_); (case hh => first | with_reducible rfl | exact nn_ok hO (by decide))) | fail)
  refine GWp.cond rfl (fun h4 => ?_) (fun h4 => ?_)
  · repeat' (first
     | (with_reducible first | (refine hK _ ?_; clear hK K) | refine thenA_n ?_ | refine thenA_r ?_ | refine thenA_e ?_ | refine block_n ?_ | refine block_r ?_ | refine block_hit ?_ | refine GWp.seq ?_ | refine GWp.block ?_ | refine GWp.skip ?_ | refine GWp.ret ?_ | refine GWp.exit ?_ | refine need_nil ?_ | refine need_cons True.intro ?_)
     | ((with_reducible first | refine gPost_r ?_ | refine gPost_n ?_ | refine fork_t ?_ | refine fork_f ?_ | (refine GWp.region (base := 0) ?_; intro K hK)); cbv; try simp only [hseg])
     | ((with_reducible refine GWp.cond_t ?hh ?_); (case hh => rfl)) | ((with_reducible refine GWp.cond_f ?hh ?_); (case hh => rfl)) | ((with_reducible refine block_miss ?hh ?_); (case hh => rfl))
     | ((with_reducible refine GWp.draws (base := 0) hM ?hh ?_); (case hh => rfl); intro K hK; cbv; try simp only [hseg])
     | ((with_reducible refine need_cons ?hh ?_); (case hh => first | with_reducible rfl | exact nn_ok hO (by decide))) | fail)
    exact hR _ _ ⟨rfl, rfl⟩
  have hg : ¬ r < 0 := by
    try clear hK K
    clear hM hP hC hR; cases hO
    simp only [Ops.std, stdCmp, stdBin, scmp_eql, scmp_neq, stdUn, Int.ofNat_eq_natCast] at *
    simpa using h4
  have hz : z ≤ 1048576 := by
    simp only [szR, Int.ofNat_eq_natCast] at hr
    omega
  repeat' (first
   | (with_reducible first | (refine hK _ ?_; clear hK K) | refine thenA_n ?_ | refine thenA_r ?_ | refine thenA_e ?_ | refine block_n ?_ | refine block_r ?_ | refine block_hit ?_ | refine GWp.seq ?_ | refine GWp.block ?_ | refine GWp.skip ?_ | refine GWp.ret ?_ | refine GWp.exit ?_ | refine need_nil ?_ | refine need_cons True.intro ?_)
   | ((with_reducible first | refine gPost_r ?_ | refine gPost_n ?_ | refine fork_t ?_ | refine fork_f ?_ | (refine GWp.region (base := 0) ?_; intro K hK)); cbv; try simp only [hseg])
   | ((with_reducible refine GWp.cond_t ?hh ?_); (case hh => rfl)) | ((with_reducible refine GWp.cond_f ?hh ?_); (case hh => rfl)) | ((with_reducible refine block_miss ?hh ?_); (case hh => rfl))
   | ((with_reducible refine GWp.draws (base := 0) hM ?hh ?_); (case hh => rfl); intro K hK; cbv; try simp only [hseg])
   | ((with_reducible refine need_cons ?hh ?_); (case hh => first | with_reducible rfl | exact nn_ok hO (by decide))) | fail)
  refine GCall.by ⟨fun _ _ => false, fun _ _ => false, []⟩ ?_
  cbv
  try simp only [hseg]
  refine GCallD.by hP rfl (ht hz) ?_
  rintro res bx ⟨rfl, rfl⟩
  cbv
  try simp only [hseg]
  repeat' (first
   | (with_reducible first | (refine hK _ ?_; clear hK K) | refine thenA_n ?_ | refine thenA_r ?_ | refine thenA_e ?_ | refine block_n ?_ | refine block_r ?_ | refine block_hit ?_ | refine GWp.seq ?_ | refine GWp.block ?_ | refine GWp.skip ?_ | refine GWp.ret ?_ | refine GWp.exit ?_ | refine need_nil ?_ | refine need_cons True.intro ?_)
   | ((with_reducible first | refine gPost_r ?_ | refine gPost_n ?_ | refine fork_t ?_ | refine fork_f ?_ | (refine GWp.region (base := 0) ?_; intro K hK)); cbv; try simp only [hseg])
   | ((with_reducible refine GWp.cond_t ?hh ?_); (case hh => rfl)) | ((with_reducible refine GWp.cond_f ?hh ?_); (case hh => rfl)) | ((with_reducible refine block_miss ?hh ?_); (case hh => rfl))
   | ((with_reducible refine GWp.draws (base := 0) hM ?hh ?_); (case hh => rfl); intro K hK; cbv; try simp only [hseg])
   | ((with_reducible refine need_cons ?hh ?_); (case hh => first | with_reducible rfl | exact nn_ok hO (by decide))) | fail)
  refine GCall.by ⟨fun _ _ => false, fun _ _ => true, []⟩ ?_
  cbv
  try simp only [hseg]
  refine GCallD.by hP rfl (h1 hz) ?_
  rintro res bx ⟨r1, hr1, rfl, rfl⟩
  cbv
  try simp only [hseg]
  repeat' (first
   | (with_reducible first | (refine hK _ ?_; clear hK K) | refine thenA_n ?_ | refine thenA_r ?_ | refine thenA_e ?_ | refine block_n ?_ | refine block_r ?_ | refine block_hit ?_ | refine GWp.seq ?_ | refine GWp.block ?_ | refine GWp.skip ?_ | refine GWp.ret ?_ | refine GWp.exit ?_ | refine need_nil ?_ | refine need_cons True.intro ?_)
   | ((with_reducible first | refine gPost_r ?_ | refine gPost_n ?_ | refine fork_t ?_ | refine fork_f ?_ | (refine GWp.region (base := 0) ?_; intro K hK)); cbv; try simp only [hseg])
   | ((with_reducible refine GWp.cond_t ?hh ?_); (case hh => rfl)) | ((with_reducible refine GWp.cond_f ?hh ?_); (case hh => rfl)) | ((with_reducible refine block_miss ?hh ?_); (case hh => rfl))
   | ((with_reducible refine GWp.draws (base := 0) hM ?hh ?_); (case hh => rfl); intro K hK; cbv; try simp only [hseg])
   | ((with_reducible refine need_cons ?hh ?_); (case hh => first | with_reducible rfl | exact nn_ok hO (by decide))) | fail)
  refine GCall.by ⟨fun _ _ => false, fun _ _ => false, []⟩ ?_
  cbv
  try simp only [hseg]
  refine GCallD.by hP rfl (ht hz) ?_
  rintro res bx ⟨rfl, rfl⟩
  cbv
  try simp only [hseg]
  repeat' (first
   | (with_reducible first | (refine hK _ ?_; clear hK K) | refine thenA_n ?_ | refine thenA_r ?_ | refine thenA_e ?_ | refine block_n ?_ | refine block_r ?_ | refine block_hit ?_ | refine GWp.seq ?_ | refine GWp.block ?_ | refine GWp.skip ?_ | refine GWp.ret ?_ | refine GWp.exit ?_ | refine need_nil ?_ | refine need_cons True.intro ?_)
   | ((with_reducible first | refine gPost_r ?_ | refine gPost_n ?_ | refine fork_t ?_ | refine fork_f ?_ | (refine GWp.region (base := 0) ?_; intro K hK)); cbv; try simp only [hseg])
   | ((with_reducible refine GWp.cond_t ?hh ?_); (case hh => rfl)) | ((with_reducible refine GWp.cond_f ?hh ?_); (case hh => rfl)) | ((with_reducible refine block_miss ?hh ?_); (case hh => rfl))
   | ((with_reducible refine GWp.draws (base := 0) hM ?hh ?_); (case hh => rfl); intro K hK; cbv; try simp only [hseg])
   | ((with_reducible refine need_cons ?hh ?_); (case hh => first | with_reducible rfl | exact nn_ok hO (by decide))) | fail)
  refine GCall.by ⟨fun _ _ => false, fun _ _ => true, []⟩ ?_
  cbv
  try simp only [hseg]
  refine GCallD.by hP rfl (h2 hz) ?_
  rintro res bx ⟨r2, hr2, rfl, rfl⟩
  cbv
  try simp only [hseg]
  obtain rfl : r1 = r2 := by omega
  repeat' (first
   | (with_reducible first | (refine hK _ ?_; clear hK K) | refine thenA_n ?_ | refine thenA_r ?_ | refine thenA_e ?_ | refine block_n ?_ | refine block_r ?_ | refine block_hit ?_ | refine GWp.seq ?_ | refine GWp.block ?_ | refine GWp.skip ?_ | refine GWp.ret ?_ | refine GWp.exit ?_ | refine need_nil ?_ | refine need_cons True.intro ?_)
   | ((with_reducible first | refine gPost_r ?_ | refine gPost_n ?_ | refine fork_t ?_ | refine fork_f ?_ | (refine GWp.region (base := 0) ?_; intro K hK)); cbv; try simp only [hseg])
   | ((with_reducible refine GWp.cond_t ?hh ?_); (case hh => rfl)) | ((with_reducible refine GWp.cond_f ?hh ?_); (case hh => rfl)) | ((with_reducible refine block_miss ?hh ?_); (case hh => rfl))
   | ((with_reducible refine GWp.draws (base := 0) hM ?hh ?_); (case hh => rfl); intro K hK; cbv; try simp only [hseg])
   | ((with_reducible refine need_cons ?hh ?_); (case hh => first | with_reducible rfl | exact nn_ok hO (by decide))) | fail)
  simp only [hne]
  repeat' (first
   | (with_reducible first | (refine hK _ ?_; clear hK K) | refine thenA_n ?_ | refine thenA_r ?_ | refine thenA_e ?_ | refine block_n ?_ | refine block_r ?_ | refine block_hit ?_ | refine GWp.seq ?_ | refine GWp.block ?_ | refine GWp.skip ?_ | refine GWp.ret ?_ | refine GWp.exit ?_ | refine need_nil ?_ | refine need_cons True.intro ?_)
   | ((with_reducible first | refine gPost_r ?_ | refine gPost_n ?_ | refine fork_t ?_ | refine fork_f ?_ | (refine GWp.region (base := 0) ?_; intro K hK)); cbv; try simp only [hseg])
   | ((with_reducible refine GWp.cond_t ?hh ?_); (case hh => rfl)) | ((with_reducible refine GWp.cond_f ?hh ?_); (case hh => rfl)) | ((with_reducible refine block_miss ?hh ?_); (case hh => rfl))
   | ((with_reducible refine GWp.draws (base := 0) hM ?hh ?_); (case hh => rfl); intro K hK; cbv; try simp only [hseg])
   | ((with_reducible refine need_cons ?hh ?_); (case hh => first | with_reducible rfl | exact nn_ok hO (by decide))) | fail)
  refine GCall.by ⟨fun _ _ => false, fun _ _ => false, []⟩ ?_
  cbv
  try simp only [hseg]
  refine GCallD.by hP rfl (ht hz) ?_
  rintro res bx ⟨rfl, rfl⟩
  cbv
  try simp only [hseg]
  repeat' (first
   | (with_reducible first | (refine hK _ ?_; clear hK K) | refine thenA_n ?_ | refine thenA_r ?_ | refine thenA_e ?_ | refine block_n ?_ | refine block_r ?_ | refine block_hit ?_ | refine GWp.seq ?_ | refine GWp.block ?_ | refine GWp.skip ?_ | refine GWp.ret ?_ | refine GWp.exit ?_ | refine need_nil ?_ | refine need_cons True.intro ?_)
   | ((with_reducible first | refine gPost_r ?_ | refine gPost_n ?_ | refine fork_t ?_ | refine fork_f ?_ | (refine GWp.region (base := 0) ?_; intro K hK)); cbv; try simp only [hseg])
   | ((with_reducible refine GWp.cond_t ?hh ?_); (case hh => rfl)) | ((with_reducible refine GWp.cond_f ?hh ?_); (case hh => rfl)) | ((with_reducible refine block_miss ?hh ?_); (case hh => rfl))
   | ((with_reducible refine GWp.draws (base := 0) hM ?hh ?_); (case hh => rfl); intro K hK; cbv; try simp only [hseg])
   | ((with_reducible refine need_cons ?hh ?_); (case hh => first | with_reducible rfl | exact nn_ok hO (by decide))) | fail)
  refine GCall.by ⟨fun _ _ => false, fun _ _ => true, []⟩ ?_
  cbv
  try simp only [hseg]
  refine GCallD.by hP rfl (hq hz) ?_
  rintro res bx ⟨rfl, rfl⟩
  cbv
  try simp only [hseg]
  repeat' (first
   | (with_reducible first | (refine hK _ ?_; clear hK K) | refine thenA_n ?_ | refine thenA_r ?_ | refine thenA_e ?_ | refine block_n ?_ | refine block_r ?_ | refine block_hit ?_ | refine GWp.seq ?_ | refine GWp.block ?_ | refine GWp.skip ?_ | refine GWp.ret ?_ | refine GWp.exit ?_ | refine need_nil ?_ | refine need_cons True.intro ?_)
   | ((with_reducible first | refine gPost_r ?_ | refine gPost_n ?_ | refine fork_t ?_ | refine fork_f ?_ | (refine GWp.region (base := 0) ?_; intro K hK)); cbv; try simp only [hseg])
   | ((with_reducible refine GWp.cond_t ?hh ?_); (case hh => rfl)) | ((with_reducible refine GWp.cond_f ?hh ?_); (case hh => rfl)) | ((with_reducible refine block_miss ?hh ?_); (case hh => rfl))
   | ((with_reducible refine GWp.draws (base := 0) hM ?hh ?_); (case hh => rfl); intro K hK; cbv; try simp only [hseg])
   | ((with_reducible refine need_cons ?hh ?_); (case hh => first | with_reducible rfl | exact nn_ok hO (by decide))) | fail)
  simp only [hnt]
  repeat' (first
   | (with_reducible first | (refine hK _ ?_; clear hK K) | refine thenA_n ?_ | refine thenA_r ?_ | refine thenA_e ?_ | refine block_n ?_ | refine block_r ?_ | refine block_hit ?_ | refine GWp.seq ?_ | refine GWp.block ?_ | refine GWp.skip ?_ | refine GWp.ret ?_ | refine GWp.exit ?_ | refine need_nil ?_ | refine need_cons True.intro ?_)
   | ((with_reducible first | refine gPost_r ?_ | refine gPost_n ?_ | refine fork_t ?_ | refine fork_f ?_ | (refine GWp.region (base := 0) ?_; intro K hK)); cbv; try simp only [hseg])
   | ((with_reducible refine GWp.cond_t ?hh ?_); (case hh => rfl)) | ((with_reducible refine GWp.cond_f ?hh ?_); (case hh => rfl)) | ((with_reducible refine block_miss ?hh ?_); (case hh => rfl))
   | ((with_reducible refine GWp.draws (base := 0) hM ?hh ?_); (case hh => rfl); intro K hK; cbv; try simp only [hseg])
   | ((with_reducible refine need_cons ?hh ?_); (case hh => first | with_reducible rfl | exact nn_ok hO (by decide))) | fail)
  exact hR _ _ ⟨rfl, rfl⟩
end Go.Gv
