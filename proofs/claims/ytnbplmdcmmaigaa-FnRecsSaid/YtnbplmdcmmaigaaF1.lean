/- Part F1 of the proof: contracts of functions of the program, each walked once. -/
import Derived.Test.YtnbplmdcmmaigaaT1

namespace Go.Gv
open Go.Av Go.Proofs
set_option maxRecDepth 10000
set_option linter.unusedSimpArgs false

theorem c_within (x y z : Int) : ACalls Try.prog 24 [litI x, litI y, litI z] [] (fun res bx => ∃ b, b = (decide (y ≤ x) && decide (x ≤ z)) ∧ res = litB b ∧ bx = []) := by
  refine gcalls_by tys_ok 15 [.tmp 6] (fn := Try.f24) rfl rfl rfl rfl ?_ ?_ ?_
  · simp [stampFree, litI, A.stamp, A.rstamp, stampIn]
  · simp
  intro O hO P hP C hC R hR
  have hM : P.follows .mixedOrders = true := by rw [hP]; rfl
  obtain ⟨bin, cmp, sadd, scmp, beq, bnot, un, wrap, size, byte, sub, len, seg, app, get, set, nat, nadd, nsub, repl, text, bytes, mn, mx, nz, nn, idx, bnd, le, all, one, lits, isB, sOk, aOk, mOk⟩ := O
  have hseg : ∀ e, seg 0 (len e) e = e := by intro e; cases hO; simp
  repeat' first
    | ((with_reducible refine hK _ ?_); clear hK K)
    | ((with_reducible refine thenA_n ?_))
    | ((with_reducible refine thenA_r ?_))
    | ((with_reducible refine thenA_e ?_))
    | ((with_reducible refine block_n ?_))
    | ((with_reducible refine block_r ?_))
    | ((with_reducible refine block_hit ?_))
    | ((with_reducible refine GWp.seq ?_))
    | ((with_reducible refine GWp.block ?_))
    | ((with_reducible refine GWp.skip ?_))
    | ((with_reducible refine GWp.ret ?_))
    | ((with_reducible refine GWp.exit ?_))
    | ((with_reducible refine block_miss ?hd ?_); case hd => rfl)
    | ((with_reducible refine gPost_r ?_); cbv; try simp only [hseg])
    | ((with_reducible refine gPost_n ?_); cbv; try simp only [hseg])
    | ((with_reducible refine fork_t ?_); cbv; try simp only [hseg])
    | ((with_reducible refine fork_f ?_); cbv; try simp only [hseg])
    | ((with_reducible refine GWp.cond_t ?hc ?_); case hc => rfl)
    | ((with_reducible refine GWp.cond_f ?hc ?_); case hc => rfl)
    | ((with_reducible refine GWp.region (base := 0) ?_); intro K hK; cbv; try simp only [hseg])
    | ((with_reducible refine GWp.draws (base := 0) hM ?ho ?_); (case ho => rfl); intro K hK; cbv; try simp only [hseg])
    | ((with_reducible refine need_nil ?_))
    | ((with_reducible refine need_cons ?hp ?_); case hp => first | exact True.intro | with_reducible rfl | exact nn_ok hO (by decide))
    | (fail)
  refine GFork.mk (fun hf => ?_) (fun hf => ?_) <;> cbv
  · repeat' first
      | ((with_reducible refine hK _ ?_); clear hK K)
      | ((with_reducible refine thenA_n ?_))
      | ((with_reducible refine thenA_r ?_))
      | ((with_reducible refine thenA_e ?_))
      | ((with_reducible refine block_n ?_))
      | ((with_reducible refine block_r ?_))
      | ((with_reducible refine block_hit ?_))
      | ((with_reducible refine GWp.seq ?_))
      | ((with_reducible refine GWp.block ?_))
      | ((with_reducible refine GWp.skip ?_))
      | ((with_reducible refine GWp.ret ?_))
      | ((with_reducible refine GWp.exit ?_))
      | ((with_reducible refine block_miss ?hd ?_); case hd => rfl)
      | ((with_reducible refine gPost_r ?_); cbv; try simp only [hseg])
      | ((with_reducible refine gPost_n ?_); cbv; try simp only [hseg])
      | ((with_reducible refine fork_t ?_); cbv; try simp only [hseg])
      | ((with_reducible refine fork_f ?_); cbv; try simp only [hseg])
      | ((with_reducible refine GWp.cond_t ?hc ?_); case hc => rfl)
      | ((with_reducible refine GWp.cond_f ?hc ?_); case hc => rfl)
      | ((with_reducible refine GWp.region (base := 0) ?_); intro K hK; cbv; try simp only [hseg])
      | ((with_reducible refine GWp.draws (base := 0) hM ?ho ?_); (case ho => rfl); intro K hK; cbv; try simp only [hseg])
      | ((with_reducible refine need_nil ?_))
      | ((with_reducible refine need_cons ?hp ?_); case hp => first | exact True.intro | with_reducible rfl | exact nn_ok hO (by decide))
      | (fail)
    refine hR _ _ ⟨_, ?_, rfl, rfl⟩
    clear hM hP hC hR
    cases hO
    simp only [Ops.std, stdCmp, stdBin, scmp_eql, scmp_neq, stdUn, Int.ofNat_eq_natCast] at *
    simp_all
  · repeat' first
      | ((with_reducible refine hK _ ?_); clear hK K)
      | ((with_reducible refine thenA_n ?_))
      | ((with_reducible refine thenA_r ?_))
      | ((with_reducible refine thenA_e ?_))
      | ((with_reducible refine block_n ?_))
      | ((with_reducible refine block_r ?_))
      | ((with_reducible refine block_hit ?_))
      | ((with_reducible refine GWp.seq ?_))
      | ((with_reducible refine GWp.block ?_))
      | ((with_reducible refine GWp.skip ?_))
      | ((with_reducible refine GWp.ret ?_))
      | ((with_reducible refine GWp.exit ?_))
      | ((with_reducible refine block_miss ?hd ?_); case hd => rfl)
      | ((with_reducible refine gPost_r ?_); cbv; try simp only [hseg])
      | ((with_reducible refine gPost_n ?_); cbv; try simp only [hseg])
      | ((with_reducible refine fork_t ?_); cbv; try simp only [hseg])
      | ((with_reducible refine fork_f ?_); cbv; try simp only [hseg])
      | ((with_reducible refine GWp.cond_t ?hc ?_); case hc => rfl)
      | ((with_reducible refine GWp.cond_f ?hc ?_); case hc => rfl)
      | ((with_reducible refine GWp.region (base := 0) ?_); intro K hK; cbv; try simp only [hseg])
      | ((with_reducible refine GWp.draws (base := 0) hM ?ho ?_); (case ho => rfl); intro K hK; cbv; try simp only [hseg])
      | ((with_reducible refine need_nil ?_))
      | ((with_reducible refine need_cons ?hp ?_); case hp => first | exact True.intro | with_reducible rfl | exact nn_ok hO (by decide))
      | (fail)
    refine hR _ _ ⟨_, ?_, rfl, rfl⟩
    clear hM hP hC hR
    cases hO
    simp only [Ops.std, stdCmp, stdBin, scmp_eql, scmp_neq, stdUn, Int.ofNat_eq_natCast] at *
    simp_all
    omega

def inv27 (els1 els2 : List (List T)) (l1 l2 : List ByteArray) (n : Nat) (σ : AS) : Prop := ∃ (i : Nat), σ = ⟨vag 26 [(0, roA els1), (1, roA els2), (5, litI (Int.ofNat i))], [], 1⟩ ∧ i ≤ l1.length ∧ l1.take i = l2.take i ∧ n = l1.length - i

theorem c_sameTexts (els1 els2 : List (List T)) (l1 l2 : List ByteArray) (h1 : els1 = strs l1) (h2 : els2 = strs l2) (hb : l1.length ≤ 4611686018427387904) : ACalls Try.prog 27 [roA els1, roA els2] [] (fun res bx => ∃ b, b = decide (l1 = l2) ∧ res = litB b ∧ bx = []) := by
  refine gcalls_by tys_ok 26 [.tmp 4] (fn := Try.f27) rfl rfl rfl rfl ?_ ?_ ?_
  · simp [stampFree, roA, A.stamp, A.rstamp, stampIn]
  · simp
  intro O hO P hP C hC R hR
  have hM : P.follows .mixedOrders = true := by rw [hP]; rfl
  obtain ⟨bin, cmp, sadd, scmp, beq, bnot, un, wrap, size, byte, sub, len, seg, app, get, set, nat, nadd, nsub, repl, text, bytes, mn, mx, nz, nn, idx, bnd, le, all, one, lits, isB, sOk, aOk, mOk⟩ := O
  have hseg : ∀ e, seg 0 (len e) e = e := by intro e; cases hO; simp
  repeat' first
    | ((with_reducible refine hK _ ?_); clear hK K)
    | ((with_reducible refine thenA_n ?_))
    | ((with_reducible refine thenA_r ?_))
    | ((with_reducible refine thenA_e ?_))
    | ((with_reducible refine block_n ?_))
    | ((with_reducible refine block_r ?_))
    | ((with_reducible refine block_hit ?_))
    | ((with_reducible refine GWp.seq ?_))
    | ((with_reducible refine GWp.block ?_))
    | ((with_reducible refine GWp.skip ?_))
    | ((with_reducible refine GWp.ret ?_))
    | ((with_reducible refine GWp.exit ?_))
    | ((with_reducible refine block_miss ?hd ?_); case hd => rfl)
    | ((with_reducible refine gPost_r ?_); cbv; try simp only [hseg])
    | ((with_reducible refine gPost_n ?_); cbv; try simp only [hseg])
    | ((with_reducible refine fork_t ?_); cbv; try simp only [hseg])
    | ((with_reducible refine fork_f ?_); cbv; try simp only [hseg])
    | ((with_reducible refine GWp.cond_t ?hc ?_); case hc => rfl)
    | ((with_reducible refine GWp.cond_f ?hc ?_); case hc => rfl)
    | ((with_reducible refine GWp.region (base := 0) ?_); intro K hK; cbv; try simp only [hseg])
    | ((with_reducible refine GWp.draws (base := 0) hM ?ho ?_); (case ho => rfl); intro K hK; cbv; try simp only [hseg])
    | ((with_reducible refine need_nil ?_))
    | ((with_reducible refine need_cons ?hp ?_); case hp => first | exact True.intro | with_reducible rfl | exact nn_ok hO (by decide))
    | (fail)
  refine GWp.cond rfl (fun h3 => ?_) (fun h3 => ?_)
  · repeat' first
      | ((with_reducible refine hK _ ?_); clear hK K)
      | ((with_reducible refine thenA_n ?_))
      | ((with_reducible refine thenA_r ?_))
      | ((with_reducible refine thenA_e ?_))
      | ((with_reducible refine block_n ?_))
      | ((with_reducible refine block_r ?_))
      | ((with_reducible refine block_hit ?_))
      | ((with_reducible refine GWp.seq ?_))
      | ((with_reducible refine GWp.block ?_))
      | ((with_reducible refine GWp.skip ?_))
      | ((with_reducible refine GWp.ret ?_))
      | ((with_reducible refine GWp.exit ?_))
      | ((with_reducible refine block_miss ?hd ?_); case hd => rfl)
      | ((with_reducible refine gPost_r ?_); cbv; try simp only [hseg])
      | ((with_reducible refine gPost_n ?_); cbv; try simp only [hseg])
      | ((with_reducible refine fork_t ?_); cbv; try simp only [hseg])
      | ((with_reducible refine fork_f ?_); cbv; try simp only [hseg])
      | ((with_reducible refine GWp.cond_t ?hc ?_); case hc => rfl)
      | ((with_reducible refine GWp.cond_f ?hc ?_); case hc => rfl)
      | ((with_reducible refine GWp.region (base := 0) ?_); intro K hK; cbv; try simp only [hseg])
      | ((with_reducible refine GWp.draws (base := 0) hM ?ho ?_); (case ho => rfl); intro K hK; cbv; try simp only [hseg])
      | ((with_reducible refine need_nil ?_))
      | ((with_reducible refine need_cons ?hp ?_); case hp => first | exact True.intro | with_reducible rfl | exact nn_ok hO (by decide))
      | (fail)
    refine hR _ _ ⟨_, ?_, rfl, rfl⟩
    clear hM hP hC hR
    cases hO
    simp only [Ops.std, stdCmp, stdBin, scmp_eql, scmp_neq, stdUn, Int.ofNat_eq_natCast] at *
    simp_all
    intro e; simp_all
  have hl : l1.length = l2.length := by
    try clear hK K
    clear hM hP hC hR; cases hO
    simp only [Ops.std, stdCmp, stdBin, scmp_eql, scmp_neq, stdUn, Int.ofNat_eq_natCast] at *
    first | done | omega | (simp_all; done) | (simp_all; omega)
  repeat' first
    | ((with_reducible refine hK _ ?_); clear hK K)
    | ((with_reducible refine thenA_n ?_))
    | ((with_reducible refine thenA_r ?_))
    | ((with_reducible refine thenA_e ?_))
    | ((with_reducible refine block_n ?_))
    | ((with_reducible refine block_r ?_))
    | ((with_reducible refine block_hit ?_))
    | ((with_reducible refine GWp.seq ?_))
    | ((with_reducible refine GWp.block ?_))
    | ((with_reducible refine GWp.skip ?_))
    | ((with_reducible refine GWp.ret ?_))
    | ((with_reducible refine GWp.exit ?_))
    | ((with_reducible refine block_miss ?hd ?_); case hd => rfl)
    | ((with_reducible refine gPost_r ?_); cbv; try simp only [hseg])
    | ((with_reducible refine gPost_n ?_); cbv; try simp only [hseg])
    | ((with_reducible refine fork_t ?_); cbv; try simp only [hseg])
    | ((with_reducible refine fork_f ?_); cbv; try simp only [hseg])
    | ((with_reducible refine GWp.cond_t ?hc ?_); case hc => rfl)
    | ((with_reducible refine GWp.cond_f ?hc ?_); case hc => rfl)
    | ((with_reducible refine GWp.region (base := 0) ?_); intro K hK; cbv; try simp only [hseg])
    | ((with_reducible refine GWp.draws (base := 0) hM ?ho ?_); (case ho => rfl); intro K hK; cbv; try simp only [hseg])
    | ((with_reducible refine need_nil ?_))
    | ((with_reducible refine need_cons ?hp ?_); case hp => first | exact True.intro | with_reducible rfl | exact nn_ok hO (by decide))
    | (fail)
  refine GWp.loop (nb := 0) (keep := fun t => t == 0 || t == 1 || t == 5) (kk := fun _ _ => none) (inv27 els1 els2 l1 l2) (by simp at hC; simp [hC]) ?_ ?_
  · cbv
    exact ⟨_, 0, by cbv, by simp, by simp, rfl⟩
  rintro n σ ⟨i, rfl, g1, g2, rfl⟩
  repeat' first
    | ((with_reducible refine hK _ ?_); clear hK K)
    | ((with_reducible refine thenA_n ?_))
    | ((with_reducible refine thenA_r ?_))
    | ((with_reducible refine thenA_e ?_))
    | ((with_reducible refine block_n ?_))
    | ((with_reducible refine block_r ?_))
    | ((with_reducible refine block_hit ?_))
    | ((with_reducible refine GWp.seq ?_))
    | ((with_reducible refine GWp.block ?_))
    | ((with_reducible refine GWp.skip ?_))
    | ((with_reducible refine GWp.ret ?_))
    | ((with_reducible refine GWp.exit ?_))
    | ((with_reducible refine block_miss ?hd ?_); case hd => rfl)
    | ((with_reducible refine gPost_r ?_); cbv; try simp only [hseg])
    | ((with_reducible refine gPost_n ?_); cbv; try simp only [hseg])
    | ((with_reducible refine fork_t ?_); cbv; try simp only [hseg])
    | ((with_reducible refine fork_f ?_); cbv; try simp only [hseg])
    | ((with_reducible refine GWp.cond_t ?hc ?_); case hc => rfl)
    | ((with_reducible refine GWp.cond_f ?hc ?_); case hc => rfl)
    | ((with_reducible refine GWp.region (base := 0) ?_); intro K hK; cbv; try simp only [hseg])
    | ((with_reducible refine GWp.draws (base := 0) hM ?ho ?_); (case ho => rfl); intro K hK; cbv; try simp only [hseg])
    | ((with_reducible refine need_nil ?_))
    | ((with_reducible refine need_cons ?hp ?_); case hp => first | exact True.intro | with_reducible rfl | exact nn_ok hO (by decide))
    | (fail)
  refine GWp.cond rfl (fun h4 => ?_) (fun h4 => ?_)
  · have hi : i < l1.length := by
      try clear hK K
      clear hM hP hC hR; cases hO
      simp only [Ops.std, stdCmp, stdBin, scmp_eql, scmp_neq, stdUn, Int.ofNat_eq_natCast] at *
      first | done | omega | (simp_all; done) | (simp_all; omega)
    have e1 : get els1 (nat (Int.ofNat i)) = _ := strs_at hO h1 hi
    have e2 : get els2 (nat (Int.ofNat i)) = _ := strs_at hO h2 (i := i) (by omega)
    generalize hx1 : l1.getD i ⟨#[]⟩ = x1 at e1
    generalize hx2 : l2.getD i ⟨#[]⟩ = x2 at e2
    repeat' first
      | ((with_reducible refine hK _ ?_); clear hK K)
      | ((with_reducible refine thenA_n ?_))
      | ((with_reducible refine thenA_r ?_))
      | ((with_reducible refine thenA_e ?_))
      | ((with_reducible refine block_n ?_))
      | ((with_reducible refine block_r ?_))
      | ((with_reducible refine block_hit ?_))
      | ((with_reducible refine GWp.seq ?_))
      | ((with_reducible refine GWp.block ?_))
      | ((with_reducible refine GWp.skip ?_))
      | ((with_reducible refine GWp.ret ?_))
      | ((with_reducible refine GWp.exit ?_))
      | ((with_reducible refine block_miss ?hd ?_); case hd => rfl)
      | ((with_reducible refine gPost_r ?_); cbv; try simp only [hseg])
      | ((with_reducible refine gPost_n ?_); cbv; try simp only [hseg])
      | ((with_reducible refine fork_t ?_); cbv; try simp only [hseg])
      | ((with_reducible refine fork_f ?_); cbv; try simp only [hseg])
      | ((with_reducible refine GWp.cond_t ?hc ?_); case hc => rfl)
      | ((with_reducible refine GWp.cond_f ?hc ?_); case hc => rfl)
      | ((with_reducible refine GWp.region (base := 0) ?_); intro K hK; cbv; try simp only [hseg])
      | ((with_reducible refine GWp.draws (base := 0) hM ?ho ?_); (case ho => rfl); intro K hK; cbv; try simp only [hseg])
      | ((with_reducible refine need_nil ?_))
      | ((with_reducible refine need_cons ?hp ?_); case hp => first | exact True.intro | with_reducible rfl | exact nn_ok hO (by decide))
      | (fail)
    repeat (simp only [e1, e2]; cbv)
    refine need_cons (by
      try clear hK K
      clear hM hP hC hR; cases hO
      simp only [Ops.std, stdCmp, stdBin, scmp_eql, scmp_neq, stdUn, Int.ofNat_eq_natCast] at *
      subst h1; simp; omega) ?_
    refine need_cons (by
      try clear hK K
      clear hM hP hC hR; cases hO
      simp only [Ops.std, stdCmp, stdBin, scmp_eql, scmp_neq, stdUn, Int.ofNat_eq_natCast] at *
      subst h1; exact strs_all _) ?_
    refine need_cons (by
      try clear hK K
      clear hM hP hC hR; cases hO
      simp only [Ops.std, stdCmp, stdBin, scmp_eql, scmp_neq, stdUn, Int.ofNat_eq_natCast] at *
      subst h2; simp; omega) ?_
    refine need_cons (by
      try clear hK K
      clear hM hP hC hR; cases hO
      simp only [Ops.std, stdCmp, stdBin, scmp_eql, scmp_neq, stdUn, Int.ofNat_eq_natCast] at *
      subst h2; exact strs_all _) ?_
    repeat' first
      | ((with_reducible refine hK _ ?_); clear hK K)
      | ((with_reducible refine thenA_n ?_))
      | ((with_reducible refine thenA_r ?_))
      | ((with_reducible refine thenA_e ?_))
      | ((with_reducible refine block_n ?_))
      | ((with_reducible refine block_r ?_))
      | ((with_reducible refine block_hit ?_))
      | ((with_reducible refine GWp.seq ?_))
      | ((with_reducible refine GWp.block ?_))
      | ((with_reducible refine GWp.skip ?_))
      | ((with_reducible refine GWp.ret ?_))
      | ((with_reducible refine GWp.exit ?_))
      | ((with_reducible refine block_miss ?hd ?_); case hd => rfl)
      | ((with_reducible refine gPost_r ?_); cbv; try simp only [hseg])
      | ((with_reducible refine gPost_n ?_); cbv; try simp only [hseg])
      | ((with_reducible refine fork_t ?_); cbv; try simp only [hseg])
      | ((with_reducible refine fork_f ?_); cbv; try simp only [hseg])
      | ((with_reducible refine GWp.cond_t ?hc ?_); case hc => rfl)
      | ((with_reducible refine GWp.cond_f ?hc ?_); case hc => rfl)
      | ((with_reducible refine GWp.region (base := 0) ?_); intro K hK; cbv; try simp only [hseg])
      | ((with_reducible refine GWp.draws (base := 0) hM ?ho ?_); (case ho => rfl); intro K hK; cbv; try simp only [hseg])
      | ((with_reducible refine need_nil ?_))
      | ((with_reducible refine need_cons ?hp ?_); case hp => first | exact True.intro | with_reducible rfl | exact nn_ok hO (by decide))
      | (fail)
    refine GWp.cond rfl (fun h5 => ?_) (fun h5 => ?_)
    · repeat' first
        | ((with_reducible refine hK _ ?_); clear hK K)
        | ((with_reducible refine thenA_n ?_))
        | ((with_reducible refine thenA_r ?_))
        | ((with_reducible refine thenA_e ?_))
        | ((with_reducible refine block_n ?_))
        | ((with_reducible refine block_r ?_))
        | ((with_reducible refine block_hit ?_))
        | ((with_reducible refine GWp.seq ?_))
        | ((with_reducible refine GWp.block ?_))
        | ((with_reducible refine GWp.skip ?_))
        | ((with_reducible refine GWp.ret ?_))
        | ((with_reducible refine GWp.exit ?_))
        | ((with_reducible refine block_miss ?hd ?_); case hd => rfl)
        | ((with_reducible refine gPost_r ?_); cbv; try simp only [hseg])
        | ((with_reducible refine gPost_n ?_); cbv; try simp only [hseg])
        | ((with_reducible refine fork_t ?_); cbv; try simp only [hseg])
        | ((with_reducible refine fork_f ?_); cbv; try simp only [hseg])
        | ((with_reducible refine GWp.cond_t ?hc ?_); case hc => rfl)
        | ((with_reducible refine GWp.cond_f ?hc ?_); case hc => rfl)
        | ((with_reducible refine GWp.region (base := 0) ?_); intro K hK; cbv; try simp only [hseg])
        | ((with_reducible refine GWp.draws (base := 0) hM ?ho ?_); (case ho => rfl); intro K hK; cbv; try simp only [hseg])
        | ((with_reducible refine need_nil ?_))
        | ((with_reducible refine need_cons ?hp ?_); case hp => first | exact True.intro | with_reducible rfl | exact nn_ok hO (by decide))
        | (fail)
      refine hR _ _ ⟨_, ?_, rfl, rfl⟩
      have hne : x1 ≠ x2 := by
        try clear hK K
        clear hM hP hC hR; cases hO
        simp only [Ops.std, stdCmp, stdBin, scmp_eql, scmp_neq, stdUn, Int.ofNat_eq_natCast] at *
        first | done | omega | (simp_all; done) | (simp_all; omega)
      symm
      rw [decide_eq_false_iff_not]
      intro he
      subst he
      exact hne (hx1.symm.trans hx2)
    · have he : x1 = x2 := by
        try clear hK K
        clear hM hP hC hR; cases hO
        simp only [Ops.std, stdCmp, stdBin, scmp_eql, scmp_neq, stdUn, Int.ofNat_eq_natCast] at *
        simpa using h5
      repeat' first
        | ((with_reducible refine hK _ ?_); clear hK K)
        | ((with_reducible refine thenA_n ?_))
        | ((with_reducible refine thenA_r ?_))
        | ((with_reducible refine thenA_e ?_))
        | ((with_reducible refine block_n ?_))
        | ((with_reducible refine block_r ?_))
        | ((with_reducible refine block_hit ?_))
        | ((with_reducible refine GWp.seq ?_))
        | ((with_reducible refine GWp.block ?_))
        | ((with_reducible refine GWp.skip ?_))
        | ((with_reducible refine GWp.ret ?_))
        | ((with_reducible refine GWp.exit ?_))
        | ((with_reducible refine block_miss ?hd ?_); case hd => rfl)
        | ((with_reducible refine gPost_r ?_); cbv; try simp only [hseg])
        | ((with_reducible refine gPost_n ?_); cbv; try simp only [hseg])
        | ((with_reducible refine fork_t ?_); cbv; try simp only [hseg])
        | ((with_reducible refine fork_f ?_); cbv; try simp only [hseg])
        | ((with_reducible refine GWp.cond_t ?hc ?_); case hc => rfl)
        | ((with_reducible refine GWp.cond_f ?hc ?_); case hc => rfl)
        | ((with_reducible refine GWp.region (base := 0) ?_); intro K hK; cbv; try simp only [hseg])
        | ((with_reducible refine GWp.draws (base := 0) hM ?ho ?_); (case ho => rfl); intro K hK; cbv; try simp only [hseg])
        | ((with_reducible refine need_nil ?_))
        | ((with_reducible refine need_cons ?hp ?_); case hp => first | exact True.intro | with_reducible rfl | exact nn_ok hO (by decide))
        | (fail)
      cbv
      refine ⟨_, ?_, i + 1, ?_, by omega, ?_, rfl⟩
      · omega
      · have e : bin BinOp.add IntKind.i64 (Int.ofNat i) 1 = Int.ofNat (i + 1) := by
          exact i_succ hO (by omega)
        rw [e]; cbv
      · exact take_succ ⟨#[]⟩ (by omega) (by omega) g2 (hx1.trans (he.trans hx2.symm))
  · repeat' first
      | ((with_reducible refine hK _ ?_); clear hK K)
      | ((with_reducible refine thenA_n ?_))
      | ((with_reducible refine thenA_r ?_))
      | ((with_reducible refine thenA_e ?_))
      | ((with_reducible refine block_n ?_))
      | ((with_reducible refine block_r ?_))
      | ((with_reducible refine block_hit ?_))
      | ((with_reducible refine GWp.seq ?_))
      | ((with_reducible refine GWp.block ?_))
      | ((with_reducible refine GWp.skip ?_))
      | ((with_reducible refine GWp.ret ?_))
      | ((with_reducible refine GWp.exit ?_))
      | ((with_reducible refine block_miss ?hd ?_); case hd => rfl)
      | ((with_reducible refine gPost_r ?_); cbv; try simp only [hseg])
      | ((with_reducible refine gPost_n ?_); cbv; try simp only [hseg])
      | ((with_reducible refine fork_t ?_); cbv; try simp only [hseg])
      | ((with_reducible refine fork_f ?_); cbv; try simp only [hseg])
      | ((with_reducible refine GWp.cond_t ?hc ?_); case hc => rfl)
      | ((with_reducible refine GWp.cond_f ?hc ?_); case hc => rfl)
      | ((with_reducible refine GWp.region (base := 0) ?_); intro K hK; cbv; try simp only [hseg])
      | ((with_reducible refine GWp.draws (base := 0) hM ?ho ?_); (case ho => rfl); intro K hK; cbv; try simp only [hseg])
      | ((with_reducible refine need_nil ?_))
      | ((with_reducible refine need_cons ?hp ?_); case hp => first | exact True.intro | with_reducible rfl | exact nn_ok hO (by decide))
      | (fail)
    refine hR _ _ ⟨_, ?_, rfl, rfl⟩
    have hi : i = l1.length := by
      try clear hK K
      clear hM hP hC hR; cases hO
      simp only [Ops.std, stdCmp, stdBin, scmp_eql, scmp_neq, stdUn, Int.ofNat_eq_natCast] at *
      subst h1; simp at h4; omega
    subst hi
    rw [List.take_length, hl, List.take_length] at g2
    simp [g2]
end Go.Gv

namespace Go.Gv
open Go.Av Go.Proofs
set_option maxRecDepth 10000
set_option linter.unusedSimpArgs false

def words1 : List ByteArray := [⟨#[97]⟩, ⟨#[97, 98]⟩, ⟨#[49]⟩, ⟨#[50, 50]⟩, ⟨#[98]⟩, ⟨#[45, 51]⟩]
def blanks1 : List ByteArray := [⟨#[32]⟩, ⟨#[32]⟩, ⟨#[32, 32]⟩, ⟨#[9]⟩]
theorem words1_size : ∀ v ∈ words1, v.size ≤ 2 := by decide
theorem blanks1_size : ∀ v ∈ blanks1, v.size ≤ 2 := by decide
theorem sOk_of {O : Ops} (hO : O = Ops.std) {a b : ByteArray} (h : a.size + b.size ≤ 9223372036854775807) : O.sOk a b := by subst hO; exact h
theorem sadd_size {O : Ops} (hO : O = Ops.std) (a b : ByteArray) : (O.sadd a b).size = a.size + b.size := by subst hO; exact ByteArray.size_append

def inv20 (els : List (List T)) (l : List Int) (n : Nat) (σ : AS) : Prop := ∃ (s : ByteArray) (k i h : Int), σ = ⟨vag 21 [(0, curP), (3, litS s), (4, litI k)], [some (cur els i h)], 1⟩ ∧ (0 ≤ i ∧ i ≤ Int.ofNat l.length) ∧ 0 ≤ k ∧ s.size + 4 * k.toNat ≤ 16 ∧ n = k.toNat

theorem c_l13Line (els : List (List T)) (l : List Int) (he : els = byts l) (hl : l.length ≤ 1048576) (i h : Int) (hi : 0 ≤ i ∧ i ≤ Int.ofNat l.length) :
    ACalls Try.prog 20 [curP] [some (cur els i h)] (fun res bx => ∃ s, res = litS s ∧ s.size ≤ 16 ∧ Drew els l bx) := by
  refine gcalls_by tys_ok 21 [.tmp 2] (fn := Try.f20) rfl rfl rfl rfl ?_ ?_ ?_
  · simp [stampFree, curP, A.stamp, A.rstamp, stampIn]
  · simp [stampFree, cur, A.stamp, A.rstamp, stampIn]
  intro O hO P hP C hC R hR
  have hM : P.follows .mixedOrders = true := by rw [hP]; rfl
  obtain ⟨bin, cmp, sadd, scmp, beq, bnot, un, wrap, size, byte, sub, len, seg, app, get, set, nat, nadd, nsub, repl, text, bytes, mn, mx, nz, nn, idx, bnd, le, all, one, lits, isB, sOk, aOk, mOk⟩ := O
  have hseg : ∀ e, seg 0 (len e) e = e := by intro e; cases hO; simp
  repeat' first
    | ((with_reducible refine hK _ ?_); clear hK K)
    | ((with_reducible refine thenA_n ?_))
    | ((with_reducible refine thenA_r ?_))
    | ((with_reducible refine thenA_e ?_))
    | ((with_reducible refine block_n ?_))
    | ((with_reducible refine block_r ?_))
    | ((with_reducible refine block_hit ?_))
    | ((with_reducible refine GWp.seq ?_))
    | ((with_reducible refine GWp.block ?_))
    | ((with_reducible refine GWp.skip ?_))
    | ((with_reducible refine GWp.ret ?_))
    | ((with_reducible refine GWp.exit ?_))
    | ((with_reducible refine block_miss ?hd ?_); case hd => rfl)
    | ((with_reducible refine gPost_r ?_); cbv; try simp only [hseg])
    | ((with_reducible refine gPost_n ?_); cbv; try simp only [hseg])
    | ((with_reducible refine fork_t ?_); cbv; try simp only [hseg])
    | ((with_reducible refine fork_f ?_); cbv; try simp only [hseg])
    | ((with_reducible refine GWp.cond_t ?hc ?_); case hc => rfl)
    | ((with_reducible refine GWp.cond_f ?hc ?_); case hc => rfl)
    | ((with_reducible refine GWp.region (base := 1) ?_); intro K hK; cbv; try simp only [hseg])
    | ((with_reducible refine GWp.draws (base := 1) hM ?ho ?_); (case ho => rfl); intro K hK; cbv; try simp only [hseg])
    | ((with_reducible refine need_nil ?_))
    | ((with_reducible refine need_cons ?hp ?_); case hp => first | exact True.intro | with_reducible rfl | exact nn_ok hO (by decide))
    | (fail)
  refine GCall.by ⟨fun _ _ => false, fun _ _ => false, [0]⟩ ?_
  cbv
  try simp only [hseg]
  refine GCallD.by hP rfl (c_l1Below els l he hl i h hi _) ?_
  rintro res bx ⟨x, rfl, ⟨i1, h1, rfl, hi1⟩, hx, hx'⟩
  cbv
  try simp only [hseg]
  have hx5 := hx' (by decide)
  clear hx'
  repeat' first
    | ((with_reducible refine hK _ ?_); clear hK K)
    | ((with_reducible refine thenA_n ?_))
    | ((with_reducible refine thenA_r ?_))
    | ((with_reducible refine thenA_e ?_))
    | ((with_reducible refine block_n ?_))
    | ((with_reducible refine block_r ?_))
    | ((with_reducible refine block_hit ?_))
    | ((with_reducible refine GWp.seq ?_))
    | ((with_reducible refine GWp.block ?_))
    | ((with_reducible refine GWp.skip ?_))
    | ((with_reducible refine GWp.ret ?_))
    | ((with_reducible refine GWp.exit ?_))
    | ((with_reducible refine block_miss ?hd ?_); case hd => rfl)
    | ((with_reducible refine gPost_r ?_); cbv; try simp only [hseg])
    | ((with_reducible refine gPost_n ?_); cbv; try simp only [hseg])
    | ((with_reducible refine fork_t ?_); cbv; try simp only [hseg])
    | ((with_reducible refine fork_f ?_); cbv; try simp only [hseg])
    | ((with_reducible refine GWp.cond_t ?hc ?_); case hc => rfl)
    | ((with_reducible refine GWp.cond_f ?hc ?_); case hc => rfl)
    | ((with_reducible refine GWp.region (base := 1) ?_); intro K hK; cbv; try simp only [hseg])
    | ((with_reducible refine GWp.draws (base := 1) hM ?ho ?_); (case ho => rfl); intro K hK; cbv; try simp only [hseg])
    | ((with_reducible refine need_nil ?_))
    | ((with_reducible refine need_cons ?hp ?_); case hp => first | exact True.intro | with_reducible rfl | exact nn_ok hO (by decide))
    | (fail)
  refine GWp.loop (nb := 1) (keep := fun t => t == 0 || t == 3 || t == 4) (kk := fun _ _ => none) (inv20 els l) (by simp at hC; simp [hC]) ?_ ?_
  · cbv
    refine ⟨_, ⟨#[]⟩, x, i1, h1, by cbv, hi1, hx, ?_, rfl⟩
    show 0 + _ ≤ _; omega
  rintro n σ ⟨s, k, i2, h2, rfl, hi2, hk, hs, rfl⟩
  repeat' first
    | ((with_reducible refine hK _ ?_); clear hK K)
    | ((with_reducible refine thenA_n ?_))
    | ((with_reducible refine thenA_r ?_))
    | ((with_reducible refine thenA_e ?_))
    | ((with_reducible refine block_n ?_))
    | ((with_reducible refine block_r ?_))
    | ((with_reducible refine block_hit ?_))
    | ((with_reducible refine GWp.seq ?_))
    | ((with_reducible refine GWp.block ?_))
    | ((with_reducible refine GWp.skip ?_))
    | ((with_reducible refine GWp.ret ?_))
    | ((with_reducible refine GWp.exit ?_))
    | ((with_reducible refine block_miss ?hd ?_); case hd => rfl)
    | ((with_reducible refine gPost_r ?_); cbv; try simp only [hseg])
    | ((with_reducible refine gPost_n ?_); cbv; try simp only [hseg])
    | ((with_reducible refine fork_t ?_); cbv; try simp only [hseg])
    | ((with_reducible refine fork_f ?_); cbv; try simp only [hseg])
    | ((with_reducible refine GWp.cond_t ?hc ?_); case hc => rfl)
    | ((with_reducible refine GWp.cond_f ?hc ?_); case hc => rfl)
    | ((with_reducible refine GWp.region (base := 1) ?_); intro K hK; cbv; try simp only [hseg])
    | ((with_reducible refine GWp.draws (base := 1) hM ?ho ?_); (case ho => rfl); intro K hK; cbv; try simp only [hseg])
    | ((with_reducible refine need_nil ?_))
    | ((with_reducible refine need_cons ?hp ?_); case hp => first | exact True.intro | with_reducible rfl | exact nn_ok hO (by decide))
    | (fail)
  refine GWp.cond rfl (fun h4 => ?_) (fun h4 => ?_)
  · have hkp : 0 < k := by
      try clear hK K
      clear hM hP hC hR; cases hO
      simp only [Ops.std, stdCmp, stdBin, scmp_eql, scmp_neq, stdUn, Int.ofNat_eq_natCast] at *
      simpa using h4
    repeat' first
      | ((with_reducible refine hK _ ?_); clear hK K)
      | ((with_reducible refine thenA_n ?_))
      | ((with_reducible refine thenA_r ?_))
      | ((with_reducible refine thenA_e ?_))
      | ((with_reducible refine block_n ?_))
      | ((with_reducible refine block_r ?_))
      | ((with_reducible refine block_hit ?_))
      | ((with_reducible refine GWp.seq ?_))
      | ((with_reducible refine GWp.block ?_))
      | ((with_reducible refine GWp.skip ?_))
      | ((with_reducible refine GWp.ret ?_))
      | ((with_reducible refine GWp.exit ?_))
      | ((with_reducible refine block_miss ?hd ?_); case hd => rfl)
      | ((with_reducible refine gPost_r ?_); cbv; try simp only [hseg])
      | ((with_reducible refine gPost_n ?_); cbv; try simp only [hseg])
      | ((with_reducible refine fork_t ?_); cbv; try simp only [hseg])
      | ((with_reducible refine fork_f ?_); cbv; try simp only [hseg])
      | ((with_reducible refine GWp.cond_t ?hc ?_); case hc => rfl)
      | ((with_reducible refine GWp.cond_f ?hc ?_); case hc => rfl)
      | ((with_reducible refine GWp.region (base := 1) ?_); intro K hK; cbv; try simp only [hseg])
      | ((with_reducible refine GWp.draws (base := 1) hM ?ho ?_); (case ho => rfl); intro K hK; cbv; try simp only [hseg])
      | ((with_reducible refine need_nil ?_))
      | ((with_reducible refine need_cons ?hp ?_); case hp => first | exact True.intro | with_reducible rfl | exact nn_ok hO (by decide))
      | (fail)
    refine GCall.by ⟨fun _ _ => false, fun _ _ => false, [0]⟩ ?_
    cbv
    try simp only [hseg]
    refine GCallD.by hP rfl (c_l1Str els l he hl i2 h2 hi2 words1 _ rfl (by simp [words1])) ?_
    rintro res bx ⟨v, rfl, hv, ⟨i3, h3, rfl, hi3⟩⟩
    cbv
    try simp only [hseg]
    have hv2 := words1_size v hv
    refine need_cons (sOk_of hO (by omega)) (need_nil ?_)
    refine GCall.by ⟨fun _ _ => false, fun _ _ => false, [0]⟩ ?_
    cbv
    try simp only [hseg]
    refine GCallD.by hP rfl (c_l1Str els l he hl i3 h3 hi3 blanks1 _ rfl (by simp [blanks1])) ?_
    rintro res bx ⟨u, rfl, hu, ⟨i5, h5, rfl, hi5⟩⟩
    cbv
    try simp only [hseg]
    have hu2 := blanks1_size u hu
    have hz1 : (sadd s v).size = s.size + v.size := sadd_size hO s v
    have hz2 : (sadd (sadd s v) u).size = (sadd s v).size + u.size := sadd_size hO _ u
    refine need_cons (sOk_of hO (by omega)) (need_nil ?_)
    generalize sadd (sadd s v) u = s2 at hz2
    repeat' first
      | ((with_reducible refine hK _ ?_); clear hK K)
      | ((with_reducible refine thenA_n ?_))
      | ((with_reducible refine thenA_r ?_))
      | ((with_reducible refine thenA_e ?_))
      | ((with_reducible refine block_n ?_))
      | ((with_reducible refine block_r ?_))
      | ((with_reducible refine block_hit ?_))
      | ((with_reducible refine GWp.seq ?_))
      | ((with_reducible refine GWp.block ?_))
      | ((with_reducible refine GWp.skip ?_))
      | ((with_reducible refine GWp.ret ?_))
      | ((with_reducible refine GWp.exit ?_))
      | ((with_reducible refine block_miss ?hd ?_); case hd => rfl)
      | ((with_reducible refine gPost_r ?_); cbv; try simp only [hseg])
      | ((with_reducible refine gPost_n ?_); cbv; try simp only [hseg])
      | ((with_reducible refine fork_t ?_); cbv; try simp only [hseg])
      | ((with_reducible refine fork_f ?_); cbv; try simp only [hseg])
      | ((with_reducible refine GWp.cond_t ?hc ?_); case hc => rfl)
      | ((with_reducible refine GWp.cond_f ?hc ?_); case hc => rfl)
      | ((with_reducible refine GWp.region (base := 1) ?_); intro K hK; cbv; try simp only [hseg])
      | ((with_reducible refine GWp.draws (base := 1) hM ?ho ?_); (case ho => rfl); intro K hK; cbv; try simp only [hseg])
      | ((with_reducible refine need_nil ?_))
      | ((with_reducible refine need_cons ?hp ?_); case hp => first | exact True.intro | with_reducible rfl | exact nn_ok hO (by decide))
      | (fail)
    cbv
    have e : bin .sub .i64 k 1 = k - 1 := by
      cases hO
      exact i64_id (by omega)
    rw [e]
    generalize hk' : k - 1 = k2
    refine ⟨k2.toNat, by omega, s2, k2, i5, h5, by cbv, hi5, by omega, by omega, rfl⟩
  · repeat' first
      | ((with_reducible refine hK _ ?_); clear hK K)
      | ((with_reducible refine thenA_n ?_))
      | ((with_reducible refine thenA_r ?_))
      | ((with_reducible refine thenA_e ?_))
      | ((with_reducible refine block_n ?_))
      | ((with_reducible refine block_r ?_))
      | ((with_reducible refine block_hit ?_))
      | ((with_reducible refine GWp.seq ?_))
      | ((with_reducible refine GWp.block ?_))
      | ((with_reducible refine GWp.skip ?_))
      | ((with_reducible refine GWp.ret ?_))
      | ((with_reducible refine GWp.exit ?_))
      | ((with_reducible refine block_miss ?hd ?_); case hd => rfl)
      | ((with_reducible refine gPost_r ?_); cbv; try simp only [hseg])
      | ((with_reducible refine gPost_n ?_); cbv; try simp only [hseg])
      | ((with_reducible refine fork_t ?_); cbv; try simp only [hseg])
      | ((with_reducible refine fork_f ?_); cbv; try simp only [hseg])
      | ((with_reducible refine GWp.cond_t ?hc ?_); case hc => rfl)
      | ((with_reducible refine GWp.cond_f ?hc ?_); case hc => rfl)
      | ((with_reducible refine GWp.region (base := 1) ?_); intro K hK; cbv; try simp only [hseg])
      | ((with_reducible refine GWp.draws (base := 1) hM ?ho ?_); (case ho => rfl); intro K hK; cbv; try simp only [hseg])
      | ((with_reducible refine need_nil ?_))
      | ((with_reducible refine need_cons ?hp ?_); case hp => first | exact True.intro | with_reducible rfl | exact nn_ok hO (by decide))
      | (fail)
    refine hR _ _ ⟨_, rfl, by omega, ⟨_, _, rfl, hi2⟩⟩

def inv6 (els : List (List T)) (l : List Int) (n : Nat) (σ : AS) : Prop := ∃ (s : ByteArray) (k : Nat) (i h : Int), σ = ⟨vag 19 [(4, litS s), (5, litI (Int.ofNat k))], [], 1⟩ ∧ k ≤ 60 ∧ s.size ≤ 16 + 4 * k ∧ n = 60 - k

theorem c_DrawRecOf (els : List (List T)) (l : List Int) (he : els = byts l) (hl : l.length ≤ 1048576) :
    ACalls Try.prog 6 [⟨.one, [.ro true els]⟩] [] (fun res bx => ∃ s, res = litS s ∧ s.size ≤ 256 ∧ bx = []) := by
  refine gcalls_by tys_ok 19 [.tmp 2] (fn := Try.f6) rfl rfl rfl rfl ?_ ?_ ?_
  · simp [stampFree, A.stamp, A.rstamp, stampIn]
  · simp
  intro O hO P hP C hC R hR
  have hM : P.follows .mixedOrders = true := by rw [hP]; rfl
  obtain ⟨bin, cmp, sadd, scmp, beq, bnot, un, wrap, size, byte, sub, len, seg, app, get, set, nat, nadd, nsub, repl, text, bytes, mn, mx, nz, nn, idx, bnd, le, all, one, lits, isB, sOk, aOk, mOk⟩ := O
  have hseg : ∀ e, seg 0 (len e) e = e := by intro e; cases hO; simp
  repeat' first
    | ((with_reducible refine hK _ ?_); clear hK K)
    | ((with_reducible refine thenA_n ?_))
    | ((with_reducible refine thenA_r ?_))
    | ((with_reducible refine thenA_e ?_))
    | ((with_reducible refine block_n ?_))
    | ((with_reducible refine block_r ?_))
    | ((with_reducible refine block_hit ?_))
    | ((with_reducible refine GWp.seq ?_))
    | ((with_reducible refine GWp.block ?_))
    | ((with_reducible refine GWp.skip ?_))
    | ((with_reducible refine GWp.ret ?_))
    | ((with_reducible refine GWp.exit ?_))
    | ((with_reducible refine block_miss ?hd ?_); case hd => rfl)
    | ((with_reducible refine gPost_r ?_); cbv; try simp only [hseg])
    | ((with_reducible refine gPost_n ?_); cbv; try simp only [hseg])
    | ((with_reducible refine fork_t ?_); cbv; try simp only [hseg])
    | ((with_reducible refine fork_f ?_); cbv; try simp only [hseg])
    | ((with_reducible refine GWp.cond_t ?hc ?_); case hc => rfl)
    | ((with_reducible refine GWp.cond_f ?hc ?_); case hc => rfl)
    | ((with_reducible refine GWp.region (base := 0) ?_); intro K hK; cbv; try simp only [hseg])
    | ((with_reducible refine GWp.draws (base := 0) hM ?ho ?_); (case ho => rfl); intro K hK; cbv; try simp only [hseg])
    | ((with_reducible refine need_nil ?_))
    | ((with_reducible refine need_cons ?hp ?_); case hp => first | exact True.intro | with_reducible rfl | exact nn_ok hO (by decide))
    | (fail)
  refine GCall.by ⟨fun _ _ => false, fun _ _ => false, []⟩ ?_
  cbv
  try simp only [hseg]
  refine GCallD.by hP rfl (c_l1New els l he hl) ?_
  rintro res bx ⟨h, rfl, rfl⟩
  cbv
  try simp only [hseg]
  repeat' first
    | ((with_reducible refine hK _ ?_); clear hK K)
    | ((with_reducible refine thenA_n ?_))
    | ((with_reducible refine thenA_r ?_))
    | ((with_reducible refine thenA_e ?_))
    | ((with_reducible refine block_n ?_))
    | ((with_reducible refine block_r ?_))
    | ((with_reducible refine block_hit ?_))
    | ((with_reducible refine GWp.seq ?_))
    | ((with_reducible refine GWp.block ?_))
    | ((with_reducible refine GWp.skip ?_))
    | ((with_reducible refine GWp.ret ?_))
    | ((with_reducible refine GWp.exit ?_))
    | ((with_reducible refine block_miss ?hd ?_); case hd => rfl)
    | ((with_reducible refine gPost_r ?_); cbv; try simp only [hseg])
    | ((with_reducible refine gPost_n ?_); cbv; try simp only [hseg])
    | ((with_reducible refine fork_t ?_); cbv; try simp only [hseg])
    | ((with_reducible refine fork_f ?_); cbv; try simp only [hseg])
    | ((with_reducible refine GWp.cond_t ?hc ?_); case hc => rfl)
    | ((with_reducible refine GWp.cond_f ?hc ?_); case hc => rfl)
    | ((with_reducible refine GWp.region (base := 0) ?_); intro K hK; cbv; try simp only [hseg])
    | ((with_reducible refine GWp.draws (base := 0) hM ?ho ?_); (case ho => rfl); intro K hK; cbv; try simp only [hseg])
    | ((with_reducible refine need_nil ?_))
    | ((with_reducible refine need_cons ?hp ?_); case hp => first | exact True.intro | with_reducible rfl | exact nn_ok hO (by decide))
    | (fail)
  refine GCall.by ⟨fun _ _ => false, fun _ _ => false, [0]⟩ ?_
  cbv
  try simp only [hseg]
  refine GCallD.by hP rfl (c_l13Line els l he hl 0 h ⟨by omega, Int.natCast_nonneg _⟩) ?_
  rintro res bx ⟨s, rfl, hs, ⟨i1, h1, rfl, hi1⟩⟩
  cbv
  try simp only [hseg]
  repeat' first
    | ((with_reducible refine hK _ ?_); clear hK K)
    | ((with_reducible refine thenA_n ?_))
    | ((with_reducible refine thenA_r ?_))
    | ((with_reducible refine thenA_e ?_))
    | ((with_reducible refine block_n ?_))
    | ((with_reducible refine block_r ?_))
    | ((with_reducible refine block_hit ?_))
    | ((with_reducible refine GWp.seq ?_))
    | ((with_reducible refine GWp.block ?_))
    | ((with_reducible refine GWp.skip ?_))
    | ((with_reducible refine GWp.ret ?_))
    | ((with_reducible refine GWp.exit ?_))
    | ((with_reducible refine block_miss ?hd ?_); case hd => rfl)
    | ((with_reducible refine gPost_r ?_); cbv; try simp only [hseg])
    | ((with_reducible refine gPost_n ?_); cbv; try simp only [hseg])
    | ((with_reducible refine fork_t ?_); cbv; try simp only [hseg])
    | ((with_reducible refine fork_f ?_); cbv; try simp only [hseg])
    | ((with_reducible refine GWp.cond_t ?hc ?_); case hc => rfl)
    | ((with_reducible refine GWp.cond_f ?hc ?_); case hc => rfl)
    | ((with_reducible refine GWp.region (base := 0) ?_); intro K hK; cbv; try simp only [hseg])
    | ((with_reducible refine GWp.draws (base := 0) hM ?ho ?_); (case ho => rfl); intro K hK; cbv; try simp only [hseg])
    | ((with_reducible refine need_nil ?_))
    | ((with_reducible refine need_cons ?hp ?_); case hp => first | exact True.intro | with_reducible rfl | exact nn_ok hO (by decide))
    | (fail)
  refine GCall.by ⟨fun _ _ => false, fun _ _ => false, [0]⟩ ?_
  cbv
  try simp only [hseg]
  refine GCallD.by hP rfl (c_l1Once els l he hl i1 h1 hi1 _) ?_
  rintro res bx ⟨b, rfl, ⟨i2, h2, rfl, hi2⟩⟩
  cbv
  try simp only [hseg]
  repeat' first
    | ((with_reducible refine hK _ ?_); clear hK K)
    | ((with_reducible refine thenA_n ?_))
    | ((with_reducible refine thenA_r ?_))
    | ((with_reducible refine thenA_e ?_))
    | ((with_reducible refine block_n ?_))
    | ((with_reducible refine block_r ?_))
    | ((with_reducible refine block_hit ?_))
    | ((with_reducible refine GWp.seq ?_))
    | ((with_reducible refine GWp.block ?_))
    | ((with_reducible refine GWp.skip ?_))
    | ((with_reducible refine GWp.ret ?_))
    | ((with_reducible refine GWp.exit ?_))
    | ((with_reducible refine block_miss ?hd ?_); case hd => rfl)
    | ((with_reducible refine gPost_r ?_); cbv; try simp only [hseg])
    | ((with_reducible refine gPost_n ?_); cbv; try simp only [hseg])
    | ((with_reducible refine fork_t ?_); cbv; try simp only [hseg])
    | ((with_reducible refine fork_f ?_); cbv; try simp only [hseg])
    | ((with_reducible refine GWp.cond_t ?hc ?_); case hc => rfl)
    | ((with_reducible refine GWp.cond_f ?hc ?_); case hc => rfl)
    | ((with_reducible refine GWp.region (base := 0) ?_); intro K hK; cbv; try simp only [hseg])
    | ((with_reducible refine GWp.draws (base := 0) hM ?ho ?_); (case ho => rfl); intro K hK; cbv; try simp only [hseg])
    | ((with_reducible refine need_nil ?_))
    | ((with_reducible refine need_cons ?hp ?_); case hp => first | exact True.intro | with_reducible rfl | exact nn_ok hO (by decide))
    | (fail)
  refine GWp.cond rfl (fun h4 => ?_) (fun h4 => ?_)
  · repeat' first
      | ((with_reducible refine hK _ ?_); clear hK K)
      | ((with_reducible refine thenA_n ?_))
      | ((with_reducible refine thenA_r ?_))
      | ((with_reducible refine thenA_e ?_))
      | ((with_reducible refine block_n ?_))
      | ((with_reducible refine block_r ?_))
      | ((with_reducible refine block_hit ?_))
      | ((with_reducible refine GWp.seq ?_))
      | ((with_reducible refine GWp.block ?_))
      | ((with_reducible refine GWp.skip ?_))
      | ((with_reducible refine GWp.ret ?_))
      | ((with_reducible refine GWp.exit ?_))
      | ((with_reducible refine block_miss ?hd ?_); case hd => rfl)
      | ((with_reducible refine gPost_r ?_); cbv; try simp only [hseg])
      | ((with_reducible refine gPost_n ?_); cbv; try simp only [hseg])
      | ((with_reducible refine fork_t ?_); cbv; try simp only [hseg])
      | ((with_reducible refine fork_f ?_); cbv; try simp only [hseg])
      | ((with_reducible refine GWp.cond_t ?hc ?_); case hc => rfl)
      | ((with_reducible refine GWp.cond_f ?hc ?_); case hc => rfl)
      | ((with_reducible refine GWp.region (base := 0) ?_); intro K hK; cbv; try simp only [hseg])
      | ((with_reducible refine GWp.draws (base := 0) hM ?ho ?_); (case ho => rfl); intro K hK; cbv; try simp only [hseg])
      | ((with_reducible refine need_nil ?_))
      | ((with_reducible refine need_cons ?hp ?_); case hp => first | exact True.intro | with_reducible rfl | exact nn_ok hO (by decide))
      | (fail)
    refine GWp.loop (nb := 0) (keep := fun t => t == 4 || t == 5) (kk := fun _ _ => none) (inv6 els l) (by simp at hC; simp [hC]) ?_ ?_
    · cbv
      refine ⟨_, s, 0, i2, h2, by cbv, by omega, by omega, rfl⟩
    rintro n σ ⟨s, k, i3, h3, rfl, hk, hs, rfl⟩
    repeat' first
      | ((with_reducible refine hK _ ?_); clear hK K)
      | ((with_reducible refine thenA_n ?_))
      | ((with_reducible refine thenA_r ?_))
      | ((with_reducible refine thenA_e ?_))
      | ((with_reducible refine block_n ?_))
      | ((with_reducible refine block_r ?_))
      | ((with_reducible refine block_hit ?_))
      | ((with_reducible refine GWp.seq ?_))
      | ((with_reducible refine GWp.block ?_))
      | ((with_reducible refine GWp.skip ?_))
      | ((with_reducible refine GWp.ret ?_))
      | ((with_reducible refine GWp.exit ?_))
      | ((with_reducible refine block_miss ?hd ?_); case hd => rfl)
      | ((with_reducible refine gPost_r ?_); cbv; try simp only [hseg])
      | ((with_reducible refine gPost_n ?_); cbv; try simp only [hseg])
      | ((with_reducible refine fork_t ?_); cbv; try simp only [hseg])
      | ((with_reducible refine fork_f ?_); cbv; try simp only [hseg])
      | ((with_reducible refine GWp.cond_t ?hc ?_); case hc => rfl)
      | ((with_reducible refine GWp.cond_f ?hc ?_); case hc => rfl)
      | ((with_reducible refine GWp.region (base := 0) ?_); intro K hK; cbv; try simp only [hseg])
      | ((with_reducible refine GWp.draws (base := 0) hM ?ho ?_); (case ho => rfl); intro K hK; cbv; try simp only [hseg])
      | ((with_reducible refine need_nil ?_))
      | ((with_reducible refine need_cons ?hp ?_); case hp => first | exact True.intro | with_reducible rfl | exact nn_ok hO (by decide))
      | (fail)
    refine GWp.cond rfl (fun h5 => ?_) (fun h5 => ?_)
    · have hk6 : k < 60 := by
        try clear hK K
        clear hM hP hC hR; cases hO
        simp only [Ops.std, stdCmp, stdBin, scmp_eql, scmp_neq, stdUn, Int.ofNat_eq_natCast] at *
        first | done | omega | (simp_all; done) | (simp_all; omega)
      repeat' first
        | ((with_reducible refine hK _ ?_); clear hK K)
        | ((with_reducible refine thenA_n ?_))
        | ((with_reducible refine thenA_r ?_))
        | ((with_reducible refine thenA_e ?_))
        | ((with_reducible refine block_n ?_))
        | ((with_reducible refine block_r ?_))
        | ((with_reducible refine block_hit ?_))
        | ((with_reducible refine GWp.seq ?_))
        | ((with_reducible refine GWp.block ?_))
        | ((with_reducible refine GWp.skip ?_))
        | ((with_reducible refine GWp.ret ?_))
        | ((with_reducible refine GWp.exit ?_))
        | ((with_reducible refine block_miss ?hd ?_); case hd => rfl)
        | ((with_reducible refine gPost_r ?_); cbv; try simp only [hseg])
        | ((with_reducible refine gPost_n ?_); cbv; try simp only [hseg])
        | ((with_reducible refine fork_t ?_); cbv; try simp only [hseg])
        | ((with_reducible refine fork_f ?_); cbv; try simp only [hseg])
        | ((with_reducible refine GWp.cond_t ?hc ?_); case hc => rfl)
        | ((with_reducible refine GWp.cond_f ?hc ?_); case hc => rfl)
        | ((with_reducible refine GWp.region (base := 0) ?_); intro K hK; cbv; try simp only [hseg])
        | ((with_reducible refine GWp.draws (base := 0) hM ?ho ?_); (case ho => rfl); intro K hK; cbv; try simp only [hseg])
        | ((with_reducible refine need_nil ?_))
        | ((with_reducible refine need_cons ?hp ?_); case hp => first | exact True.intro | with_reducible rfl | exact nn_ok hO (by decide))
        | (fail)
      have hz1 : (sadd s ⟨#[97, 98, 32, 99]⟩).size = s.size + 4 := sadd_size hO s _
      refine need_cons (sOk_of hO (by show _ + 4 ≤ _; omega)) (need_nil ?_)
      repeat' first
        | ((with_reducible refine hK _ ?_); clear hK K)
        | ((with_reducible refine thenA_n ?_))
        | ((with_reducible refine thenA_r ?_))
        | ((with_reducible refine thenA_e ?_))
        | ((with_reducible refine block_n ?_))
        | ((with_reducible refine block_r ?_))
        | ((with_reducible refine block_hit ?_))
        | ((with_reducible refine GWp.seq ?_))
        | ((with_reducible refine GWp.block ?_))
        | ((with_reducible refine GWp.skip ?_))
        | ((with_reducible refine GWp.ret ?_))
        | ((with_reducible refine GWp.exit ?_))
        | ((with_reducible refine block_miss ?hd ?_); case hd => rfl)
        | ((with_reducible refine gPost_r ?_); cbv; try simp only [hseg])
        | ((with_reducible refine gPost_n ?_); cbv; try simp only [hseg])
        | ((with_reducible refine fork_t ?_); cbv; try simp only [hseg])
        | ((with_reducible refine fork_f ?_); cbv; try simp only [hseg])
        | ((with_reducible refine GWp.cond_t ?hc ?_); case hc => rfl)
        | ((with_reducible refine GWp.cond_f ?hc ?_); case hc => rfl)
        | ((with_reducible refine GWp.region (base := 0) ?_); intro K hK; cbv; try simp only [hseg])
        | ((with_reducible refine GWp.draws (base := 0) hM ?ho ?_); (case ho => rfl); intro K hK; cbv; try simp only [hseg])
        | ((with_reducible refine need_nil ?_))
        | ((with_reducible refine need_cons ?hp ?_); case hp => first | exact True.intro | with_reducible rfl | exact nn_ok hO (by decide))
        | (fail)
      cbv
      have e : bin .add .i64 (Int.ofNat k) 1 = _ := i_succ hO (by omega)
      rw [e]
      refine ⟨_, ?_, _, k + 1, i3, h3, by cbv, by omega, ?_, rfl⟩
      · omega
      · rw [hz1]; omega
    · repeat' first
        | ((with_reducible refine hK _ ?_); clear hK K)
        | ((with_reducible refine thenA_n ?_))
        | ((with_reducible refine thenA_r ?_))
        | ((with_reducible refine thenA_e ?_))
        | ((with_reducible refine block_n ?_))
        | ((with_reducible refine block_r ?_))
        | ((with_reducible refine block_hit ?_))
        | ((with_reducible refine GWp.seq ?_))
        | ((with_reducible refine GWp.block ?_))
        | ((with_reducible refine GWp.skip ?_))
        | ((with_reducible refine GWp.ret ?_))
        | ((with_reducible refine GWp.exit ?_))
        | ((with_reducible refine block_miss ?hd ?_); case hd => rfl)
        | ((with_reducible refine gPost_r ?_); cbv; try simp only [hseg])
        | ((with_reducible refine gPost_n ?_); cbv; try simp only [hseg])
        | ((with_reducible refine fork_t ?_); cbv; try simp only [hseg])
        | ((with_reducible refine fork_f ?_); cbv; try simp only [hseg])
        | ((with_reducible refine GWp.cond_t ?hc ?_); case hc => rfl)
        | ((with_reducible refine GWp.cond_f ?hc ?_); case hc => rfl)
        | ((with_reducible refine GWp.region (base := 0) ?_); intro K hK; cbv; try simp only [hseg])
        | ((with_reducible refine GWp.draws (base := 0) hM ?ho ?_); (case ho => rfl); intro K hK; cbv; try simp only [hseg])
        | ((with_reducible refine need_nil ?_))
        | ((with_reducible refine need_cons ?hp ?_); case hp => first | exact True.intro | with_reducible rfl | exact nn_ok hO (by decide))
        | (fail)
      refine hR _ _ ⟨_, rfl, by omega, rfl⟩
  · repeat' first
      | ((with_reducible refine hK _ ?_); clear hK K)
      | ((with_reducible refine thenA_n ?_))
      | ((with_reducible refine thenA_r ?_))
      | ((with_reducible refine thenA_e ?_))
      | ((with_reducible refine block_n ?_))
      | ((with_reducible refine block_r ?_))
      | ((with_reducible refine block_hit ?_))
      | ((with_reducible refine GWp.seq ?_))
      | ((with_reducible refine GWp.block ?_))
      | ((with_reducible refine GWp.skip ?_))
      | ((with_reducible refine GWp.ret ?_))
      | ((with_reducible refine GWp.exit ?_))
      | ((with_reducible refine block_miss ?hd ?_); case hd => rfl)
      | ((with_reducible refine gPost_r ?_); cbv; try simp only [hseg])
      | ((with_reducible refine gPost_n ?_); cbv; try simp only [hseg])
      | ((with_reducible refine fork_t ?_); cbv; try simp only [hseg])
      | ((with_reducible refine fork_f ?_); cbv; try simp only [hseg])
      | ((with_reducible refine GWp.cond_t ?hc ?_); case hc => rfl)
      | ((with_reducible refine GWp.cond_f ?hc ?_); case hc => rfl)
      | ((with_reducible refine GWp.region (base := 0) ?_); intro K hK; cbv; try simp only [hseg])
      | ((with_reducible refine GWp.draws (base := 0) hM ?ho ?_); (case ho => rfl); intro K hK; cbv; try simp only [hseg])
      | ((with_reducible refine need_nil ?_))
      | ((with_reducible refine need_cons ?hp ?_); case hp => first | exact True.intro | with_reducible rfl | exact nn_ok hO (by decide))
      | (fail)
    refine hR _ _ ⟨_, rfl, by omega, rfl⟩
end Go.Gv
