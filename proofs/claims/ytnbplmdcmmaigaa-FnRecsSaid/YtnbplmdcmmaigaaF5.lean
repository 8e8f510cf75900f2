/- Part F5 of the proof: contracts of functions of the program, each walked once. -/
import Derived.Test.YtnbplmdcmmaigaaF1

namespace Go.Gv
open Go.Av Go.Proofs
set_option maxRecDepth 10000
set_option linter.unusedSimpArgs false

def recA (line : ByteArray) (els : List (List T)) : AV := ⟨.agg, [.lit (.string line), .ro false els]⟩
def fieldOf (line : ByteArray) (fields : List ByteArray) (i : Int) : ByteArray :=
  if i = 0 then line else if 1 ≤ i ∧ i ≤ Int.ofNat fields.length then fields.getD (i - 1).toNat ⟨#[]⟩ else ⟨#[]⟩

theorem c_FieldOf (line : ByteArray) (els : List (List T)) (fields : List ByteArray) (he : els = strs fields) (hl : fields.length ≤ 4611686018427387904) (i : Int) :
    ACalls Try.prog 9 [recA line els, litI i] [] (fun res bx => ∃ v, v = fieldOf line fields i ∧ res = litS v ∧ bx = []) := by
  refine gcalls_by tys_ok 22 [.tmp 4] (fn := Try.f9) rfl rfl rfl rfl ?_ ?_ ?_
  · simp [stampFree, recA, litI, A.stamp, A.rstamp, stampIn]
  · simp
  intro O hO P hP C hC R hR
  have hM : P.follows .mixedOrders = true := by rw [hP]; rfl
  obtain ⟨bin, cmp, sadd, scmp, beq, bnot, un, wrap, size, byte, sub, len, seg, app, get, set, nat, nadd, nsub, repl, text, bytes, mn, mx, nz, nn, idx, bnd, le, all, one, lits, isB, sOk, aOk, mOk⟩ := O
  have hseg : ∀ e, seg 0 (len e) e = e := by intro e; cases hO; simp
  repeat' first
    | ((with_reducible refine hK _ ?_); clear hK K)
    | ((with_reducible refine thenA_n ?_))
    | ((with_reducible refine thenA_r ?_))
    | ((with_reducible refine thenA_e ?_))
    | ((with_reducible refine block_n ?_))
    | ((with_reducible refine block_r ?_))
    | ((with_reducible refine block_hit ?_))
    | ((with_reducible refine GWp.seq ?_))
    | ((with_reducible refine GWp.block ?_))
    | ((with_reducible refine GWp.skip ?_))
    | ((with_reducible refine GWp.ret ?_))
    | ((with_reducible refine GWp.exit ?_))
    | ((with_reducible refine block_miss ?hd ?_); case hd => rfl)
    | ((with_reducible refine gPost_r ?_); cbv; try simp only [hseg])
    | ((with_reducible refine gPost_n ?_); cbv; try simp only [hseg])
    | ((with_reducible refine fork_t ?_); cbv; try simp only [hseg])
    | ((with_reducible refine fork_f ?_); cbv; try simp only [hseg])
    | ((with_reducible refine GWp.cond_t ?hc ?_); case hc => rfl)
    | ((with_reducible refine GWp.cond_f ?hc ?_); case hc => rfl)
    | ((with_reducible refine GWp.region (base := 0) ?_); intro K hK; cbv; try simp only [hseg])
    | ((with_reducible refine GWp.draws (base := 0) hM ?ho ?_); (case ho => rfl); intro K hK; cbv; try simp only [hseg])
    | ((with_reducible refine need_nil ?_))
    | ((with_reducible refine need_cons ?hp ?_); case hp => first | exact True.intro | with_reducible rfl | exact nn_ok hO (by decide))
    | (fail)
  refine GWp.cond rfl (fun h3 => ?_) (fun h3 => ?_)
  · repeat' first
      | ((with_reducible refine hK _ ?_); clear hK K)
      | ((with_reducible refine thenA_n ?_))
      | ((with_reducible refine thenA_r ?_))
      | ((with_reducible refine thenA_e ?_))
      | ((with_reducible refine block_n ?_))
      | ((with_reducible refine block_r ?_))
      | ((with_reducible refine block_hit ?_))
      | ((with_reducible refine GWp.seq ?_))
      | ((with_reducible refine GWp.block ?_))
      | ((with_reducible refine GWp.skip ?_))
      | ((with_reducible refine GWp.ret ?_))
      | ((with_reducible refine GWp.exit ?_))
      | ((with_reducible refine block_miss ?hd ?_); case hd => rfl)
      | ((with_reducible refine gPost_r ?_); cbv; try simp only [hseg])
      | ((with_reducible refine gPost_n ?_); cbv; try simp only [hseg])
      | ((with_reducible refine fork_t ?_); cbv; try simp only [hseg])
      | ((with_reducible refine fork_f ?_); cbv; try simp only [hseg])
      | ((with_reducible refine GWp.cond_t ?hc ?_); case hc => rfl)
      | ((with_reducible refine GWp.cond_f ?hc ?_); case hc => rfl)
      | ((with_reducible refine GWp.region (base := 0) ?_); intro K hK; cbv; try simp only [hseg])
      | ((with_reducible refine GWp.draws (base := 0) hM ?ho ?_); (case ho => rfl); intro K hK; cbv; try simp only [hseg])
      | ((with_reducible refine need_nil ?_))
      | ((with_reducible refine need_cons ?hp ?_); case hp => first | exact True.intro | with_reducible rfl | exact nn_ok hO (by decide))
      | (fail)
    refine hR _ _ ⟨_, ?_, rfl, rfl⟩
    clear hM hP hC hR
    cases hO
    simp only [Ops.std, stdCmp, stdBin, scmp_eql, scmp_neq, stdUn, Int.ofNat_eq_natCast] at *
    simp at h3
    simp [fieldOf, h3]
  have h0 : i ≠ 0 := by
    try clear hK K
    clear hM hP hC hR; cases hO
    simp only [Ops.std, stdCmp, stdBin, scmp_eql, scmp_neq, stdUn, Int.ofNat_eq_natCast] at *
    simpa using h3
  repeat' first
    | ((with_reducible refine hK _ ?_); clear hK K)
    | ((with_reducible refine thenA_n ?_))
    | ((with_reducible refine thenA_r ?_))
    | ((with_reducible refine thenA_e ?_))
    | ((with_reducible refine block_n ?_))
    | ((with_reducible refine block_r ?_))
    | ((with_reducible refine block_hit ?_))
    | ((with_reducible refine GWp.seq ?_))
    | ((with_reducible refine GWp.block ?_))
    | ((with_reducible refine GWp.skip ?_))
    | ((with_reducible refine GWp.ret ?_))
    | ((with_reducible refine GWp.exit ?_))
    | ((with_reducible refine block_miss ?hd ?_); case hd => rfl)
    | ((with_reducible refine gPost_r ?_); cbv; try simp only [hseg])
    | ((with_reducible refine gPost_n ?_); cbv; try simp only [hseg])
    | ((with_reducible refine fork_t ?_); cbv; try simp only [hseg])
    | ((with_reducible refine fork_f ?_); cbv; try simp only [hseg])
    | ((with_reducible refine GWp.cond_t ?hc ?_); case hc => rfl)
    | ((with_reducible refine GWp.cond_f ?hc ?_); case hc => rfl)
    | ((with_reducible refine GWp.region (base := 0) ?_); intro K hK; cbv; try simp only [hseg])
    | ((with_reducible refine GWp.draws (base := 0) hM ?ho ?_); (case ho => rfl); intro K hK; cbv; try simp only [hseg])
    | ((with_reducible refine need_nil ?_))
    | ((with_reducible refine need_cons ?hp ?_); case hp => first | exact True.intro | with_reducible rfl | exact nn_ok hO (by decide))
    | (fail)
  refine GCall.by ⟨fun _ _ => false, fun _ _ => false, []⟩ ?_
  cbv
  try simp only [hseg]
  refine GCallD.by hP rfl (c_within _ _ _) ?_
  rintro res bx ⟨b, hb, rfl, rfl⟩
  cbv
  try simp only [hseg]
  repeat' first
    | ((with_reducible refine hK _ ?_); clear hK K)
    | ((with_reducible refine thenA_n ?_))
    | ((with_reducible refine thenA_r ?_))
    | ((with_reducible refine thenA_e ?_))
    | ((with_reducible refine block_n ?_))
    | ((with_reducible refine block_r ?_))
    | ((with_reducible refine block_hit ?_))
    | ((with_reducible refine GWp.seq ?_))
    | ((with_reducible refine GWp.block ?_))
    | ((with_reducible refine GWp.skip ?_))
    | ((with_reducible refine GWp.ret ?_))
    | ((with_reducible refine GWp.exit ?_))
    | ((with_reducible refine block_miss ?hd ?_); case hd => rfl)
    | ((with_reducible refine gPost_r ?_); cbv; try simp only [hseg])
    | ((with_reducible refine gPost_n ?_); cbv; try simp only [hseg])
    | ((with_reducible refine fork_t ?_); cbv; try simp only [hseg])
    | ((with_reducible refine fork_f ?_); cbv; try simp only [hseg])
    | ((with_reducible refine GWp.cond_t ?hc ?_); case hc => rfl)
    | ((with_reducible refine GWp.cond_f ?hc ?_); case hc => rfl)
    | ((with_reducible refine GWp.region (base := 0) ?_); intro K hK; cbv; try simp only [hseg])
    | ((with_reducible refine GWp.draws (base := 0) hM ?ho ?_); (case ho => rfl); intro K hK; cbv; try simp only [hseg])
    | ((with_reducible refine need_nil ?_))
    | ((with_reducible refine need_cons ?hp ?_); case hp => first | exact True.intro | with_reducible rfl | exact nn_ok hO (by decide))
    | (fail)
  refine GWp.cond rfl (fun h4 => ?_) (fun h4 => ?_)
  · subst h4
    have h1 : 1 ≤ i ∧ i ≤ Int.ofNat fields.length := by
      try clear hK K
      clear hM hP hC hR; cases hO
      simp only [Ops.std, stdCmp, stdBin, scmp_eql, scmp_neq, stdUn, Int.ofNat_eq_natCast] at *
      subst he; simpa using hb
    have e0 : bin .sub .i64 i 1 = i - 1 := by
      cases hO
      refine i64_id ?_
      clear hR; try clear hK
      simp only [Int.ofNat_eq_natCast] at *
      omega
    have e1 : get els (nat (i - 1)) = _ := strs_atI hO he (x := i - 1) (by omega) (by omega)
    generalize hv : fields.getD (i - 1).toNat ⟨#[]⟩ = v at e1
    repeat' first
      | ((with_reducible refine hK _ ?_); clear hK K)
      | ((with_reducible refine thenA_n ?_))
      | ((with_reducible refine thenA_r ?_))
      | ((with_reducible refine thenA_e ?_))
      | ((with_reducible refine block_n ?_))
      | ((with_reducible refine block_r ?_))
      | ((with_reducible refine block_hit ?_))
      | ((with_reducible refine GWp.seq ?_))
      | ((with_reducible refine GWp.block ?_))
      | ((with_reducible refine GWp.skip ?_))
      | ((with_reducible refine GWp.ret ?_))
      | ((with_reducible refine GWp.exit ?_))
      | ((with_reducible refine block_miss ?hd ?_); case hd => rfl)
      | ((with_reducible refine gPost_r ?_); cbv; try simp only [hseg])
      | ((with_reducible refine gPost_n ?_); cbv; try simp only [hseg])
      | ((with_reducible refine fork_t ?_); cbv; try simp only [hseg])
      | ((with_reducible refine fork_f ?_); cbv; try simp only [hseg])
      | ((with_reducible refine GWp.cond_t ?hc ?_); case hc => rfl)
      | ((with_reducible refine GWp.cond_f ?hc ?_); case hc => rfl)
      | ((with_reducible refine GWp.region (base := 0) ?_); intro K hK; cbv; try simp only [hseg])
      | ((with_reducible refine GWp.draws (base := 0) hM ?ho ?_); (case ho => rfl); intro K hK; cbv; try simp only [hseg])
      | ((with_reducible refine need_nil ?_))
      | ((with_reducible refine need_cons ?hp ?_); case hp => first | exact True.intro | with_reducible rfl | exact nn_ok hO (by decide))
      | (fail)
    simp only [e0]
    repeat (simp only [e1]; cbv)
    refine need_cons (by
      try clear hK K
      clear hM hP hC hR; cases hO
      simp only [Ops.std, stdCmp, stdBin, scmp_eql, scmp_neq, stdUn, Int.ofNat_eq_natCast] at *
      subst he; simp; omega) ?_
    refine need_cons (by
      try clear hK K
      clear hM hP hC hR; cases hO
      simp only [Ops.std, stdCmp, stdBin, scmp_eql, scmp_neq, stdUn, Int.ofNat_eq_natCast] at *
      subst he; exact strs_all _) ?_
    repeat' first
      | ((with_reducible refine hK _ ?_); clear hK K)
      | ((with_reducible refine thenA_n ?_))
      | ((with_reducible refine thenA_r ?_))
      | ((with_reducible refine thenA_e ?_))
      | ((with_reducible refine block_n ?_))
      | ((with_reducible refine block_r ?_))
      | ((with_reducible refine block_hit ?_))
      | ((with_reducible refine GWp.seq ?_))
      | ((with_reducible refine GWp.block ?_))
      | ((with_reducible refine GWp.skip ?_))
      | ((with_reducible refine GWp.ret ?_))
      | ((with_reducible refine GWp.exit ?_))
      | ((with_reducible refine block_miss ?hd ?_); case hd => rfl)
      | ((with_reducible refine gPost_r ?_); cbv; try simp only [hseg])
      | ((with_reducible refine gPost_n ?_); cbv; try simp only [hseg])
      | ((with_reducible refine fork_t ?_); cbv; try simp only [hseg])
      | ((with_reducible refine fork_f ?_); cbv; try simp only [hseg])
      | ((with_reducible refine GWp.cond_t ?hc ?_); case hc => rfl)
      | ((with_reducible refine GWp.cond_f ?hc ?_); case hc => rfl)
      | ((with_reducible refine GWp.region (base := 0) ?_); intro K hK; cbv; try simp only [hseg])
      | ((with_reducible refine GWp.draws (base := 0) hM ?ho ?_); (case ho => rfl); intro K hK; cbv; try simp only [hseg])
      | ((with_reducible refine need_nil ?_))
      | ((with_reducible refine need_cons ?hp ?_); case hp => first | exact True.intro | with_reducible rfl | exact nn_ok hO (by decide))
      | (fail)
    refine hR _ _ ⟨_, ?_, rfl, rfl⟩
    rw [fieldOf, if_neg h0, if_pos h1, hv]
  · subst h4
    have h1 : ¬ (1 ≤ i ∧ i ≤ Int.ofNat fields.length) := by
      try clear hK K
      clear hM hP hC hR; cases hO
      simp only [Ops.std, stdCmp, stdBin, scmp_eql, scmp_neq, stdUn, Int.ofNat_eq_natCast] at *
      subst he; simpa using hb
    repeat' first
      | ((with_reducible refine hK _ ?_); clear hK K)
      | ((with_reducible refine thenA_n ?_))
      | ((with_reducible refine thenA_r ?_))
      | ((with_reducible refine thenA_e ?_))
      | ((with_reducible refine block_n ?_))
      | ((with_reducible refine block_r ?_))
      | ((with_reducible refine block_hit ?_))
      | ((with_reducible refine GWp.seq ?_))
      | ((with_reducible refine GWp.block ?_))
      | ((with_reducible refine GWp.skip ?_))
      | ((with_reducible refine GWp.ret ?_))
      | ((with_reducible refine GWp.exit ?_))
      | ((with_reducible refine block_miss ?hd ?_); case hd => rfl)
      | ((with_reducible refine gPost_r ?_); cbv; try simp only [hseg])
      | ((with_reducible refine gPost_n ?_); cbv; try simp only [hseg])
      | ((with_reducible refine fork_t ?_); cbv; try simp only [hseg])
      | ((with_reducible refine fork_f ?_); cbv; try simp only [hseg])
      | ((with_reducible refine GWp.cond_t ?hc ?_); case hc => rfl)
      | ((with_reducible refine GWp.cond_f ?hc ?_); case hc => rfl)
      | ((with_reducible refine GWp.region (base := 0) ?_); intro K hK; cbv; try simp only [hseg])
      | ((with_reducible refine GWp.draws (base := 0) hM ?ho ?_); (case ho => rfl); intro K hK; cbv; try simp only [hseg])
      | ((with_reducible refine need_nil ?_))
      | ((with_reducible refine need_cons ?hp ?_); case hp => first | exact True.intro | with_reducible rfl | exact nn_ok hO (by decide))
      | (fail)
    refine hR _ _ ⟨_, ?_, rfl, rfl⟩
    rw [fieldOf, if_neg h0, if_neg h1]

theorem c_FieldOf' (line : ByteArray) (els : List (List T)) (fields : List ByteArray) (he : els = strs fields) (hl : fields.length ≤ 4611686018427387904) (i : Int) :
    ACalls Try.prog 13 [recA line els, litI i] [] (fun res bx => ∃ v, v = fieldOf line fields i ∧ res = litS v ∧ bx = []) := by
  refine gcalls_by tys_ok 24 [.tmp 4] (fn := Try.f13) rfl rfl rfl rfl ?_ ?_ ?_
  · simp [stampFree, recA, litI, A.stamp, A.rstamp, stampIn]
  · simp
  intro O hO P hP C hC R hR
  have hM : P.follows .mixedOrders = true := by rw [hP]; rfl
  obtain ⟨bin, cmp, sadd, scmp, beq, bnot, un, wrap, size, byte, sub, len, seg, app, get, set, nat, nadd, nsub, repl, text, bytes, mn, mx, nz, nn, idx, bnd, le, all, one, lits, isB, sOk, aOk, mOk⟩ := O
  have hseg : ∀ e, seg 0 (len e) e = e := by intro e; cases hO; simp
  repeat' first
    | ((with_reducible refine hK _ ?_); clear hK K)
    | ((with_reducible refine thenA_n ?_))
    | ((with_reducible refine thenA_r ?_))
    | ((with_reducible refine thenA_e ?_))
    | ((with_reducible refine block_n ?_))
    | ((with_reducible refine block_r ?_))
    | ((with_reducible refine block_hit ?_))
    | ((with_reducible refine GWp.seq ?_))
    | ((with_reducible refine GWp.block ?_))
    | ((with_reducible refine GWp.skip ?_))
    | ((with_reducible refine GWp.ret ?_))
    | ((with_reducible refine GWp.exit ?_))
    | ((with_reducible refine block_miss ?hd ?_); case hd => rfl)
    | ((with_reducible refine gPost_r ?_); cbv; try simp only [hseg])
    | ((with_reducible refine gPost_n ?_); cbv; try simp only [hseg])
    | ((with_reducible refine fork_t ?_); cbv; try simp only [hseg])
    | ((with_reducible refine fork_f ?_); cbv; try simp only [hseg])
    | ((with_reducible refine GWp.cond_t ?hc ?_); case hc => rfl)
    | ((with_reducible refine GWp.cond_f ?hc ?_); case hc => rfl)
    | ((with_reducible refine GWp.region (base := 0) ?_); intro K hK; cbv; try simp only [hseg])
    | ((with_reducible refine GWp.draws (base := 0) hM ?ho ?_); (case ho => rfl); intro K hK; cbv; try simp only [hseg])
    | ((with_reducible refine need_nil ?_))
    | ((with_reducible refine need_cons ?hp ?_); case hp => first | exact True.intro | with_reducible rfl | exact nn_ok hO (by decide))
    | (fail)
  refine GWp.cond rfl (fun h3 => ?_) (fun h3 => ?_)
  · repeat' first
      | ((with_reducible refine hK _ ?_); clear hK K)
      | ((with_reducible refine thenA_n ?_))
      | ((with_reducible refine thenA_r ?_))
      | ((with_reducible refine thenA_e ?_))
      | ((with_reducible refine block_n ?_))
      | ((with_reducible refine block_r ?_))
      | ((with_reducible refine block_hit ?_))
      | ((with_reducible refine GWp.seq ?_))
      | ((with_reducible refine GWp.block ?_))
      | ((with_reducible refine GWp.skip ?_))
      | ((with_reducible refine GWp.ret ?_))
      | ((with_reducible refine GWp.exit ?_))
      | ((with_reducible refine block_miss ?hd ?_); case hd => rfl)
      | ((with_reducible refine gPost_r ?_); cbv; try simp only [hseg])
      | ((with_reducible refine gPost_n ?_); cbv; try simp only [hseg])
      | ((with_reducible refine fork_t ?_); cbv; try simp only [hseg])
      | ((with_reducible refine fork_f ?_); cbv; try simp only [hseg])
      | ((with_reducible refine GWp.cond_t ?hc ?_); case hc => rfl)
      | ((with_reducible refine GWp.cond_f ?hc ?_); case hc => rfl)
      | ((with_reducible refine GWp.region (base := 0) ?_); intro K hK; cbv; try simp only [hseg])
      | ((with_reducible refine GWp.draws (base := 0) hM ?ho ?_); (case ho => rfl); intro K hK; cbv; try simp only [hseg])
      | ((with_reducible refine need_nil ?_))
      | ((with_reducible refine need_cons ?hp ?_); case hp => first | exact True.intro | with_reducible rfl | exact nn_ok hO (by decide))
      | (fail)
    refine hR _ _ ⟨_, ?_, rfl, rfl⟩
    clear hM hP hC hR
    cases hO
    simp only [Ops.std, stdCmp, stdBin, scmp_eql, scmp_neq, stdUn, Int.ofNat_eq_natCast] at *
    simp at h3
    simp [fieldOf, h3]
  have h0 : i ≠ 0 := by
    try clear hK K
    clear hM hP hC hR; cases hO
    simp only [Ops.std, stdCmp, stdBin, scmp_eql, scmp_neq, stdUn, Int.ofNat_eq_natCast] at *
    simpa using h3
  repeat' first
    | ((with_reducible refine hK _ ?_); clear hK K)
    | ((with_reducible refine thenA_n ?_))
    | ((with_reducible refine thenA_r ?_))
    | ((with_reducible refine thenA_e ?_))
    | ((with_reducible refine block_n ?_))
    | ((with_reducible refine block_r ?_))
    | ((with_reducible refine block_hit ?_))
    | ((with_reducible refine GWp.seq ?_))
    | ((with_reducible refine GWp.block ?_))
    | ((with_reducible refine GWp.skip ?_))
    | ((with_reducible refine GWp.ret ?_))
    | ((with_reducible refine GWp.exit ?_))
    | ((with_reducible refine block_miss ?hd ?_); case hd => rfl)
    | ((with_reducible refine gPost_r ?_); cbv; try simp only [hseg])
    | ((with_reducible refine gPost_n ?_); cbv; try simp only [hseg])
    | ((with_reducible refine fork_t ?_); cbv; try simp only [hseg])
    | ((with_reducible refine fork_f ?_); cbv; try simp only [hseg])
    | ((with_reducible refine GWp.cond_t ?hc ?_); case hc => rfl)
    | ((with_reducible refine GWp.cond_f ?hc ?_); case hc => rfl)
    | ((with_reducible refine GWp.region (base := 0) ?_); intro K hK; cbv; try simp only [hseg])
    | ((with_reducible refine GWp.draws (base := 0) hM ?ho ?_); (case ho => rfl); intro K hK; cbv; try simp only [hseg])
    | ((with_reducible refine need_nil ?_))
    | ((with_reducible refine need_cons ?hp ?_); case hp => first | exact True.intro | with_reducible rfl | exact nn_ok hO (by decide))
    | (fail)
  refine GFork.mk (fun hf => ?_) (fun hf => ?_) <;> cbv
  · repeat' first
      | ((with_reducible refine hK _ ?_); clear hK K)
      | ((with_reducible refine thenA_n ?_))
      | ((with_reducible refine thenA_r ?_))
      | ((with_reducible refine thenA_e ?_))
      | ((with_reducible refine block_n ?_))
      | ((with_reducible refine block_r ?_))
      | ((with_reducible refine block_hit ?_))
      | ((with_reducible refine GWp.seq ?_))
      | ((with_reducible refine GWp.block ?_))
      | ((with_reducible refine GWp.skip ?_))
      | ((with_reducible refine GWp.ret ?_))
      | ((with_reducible refine GWp.exit ?_))
      | ((with_reducible refine block_miss ?hd ?_); case hd => rfl)
      | ((with_reducible refine gPost_r ?_); cbv; try simp only [hseg])
      | ((with_reducible refine gPost_n ?_); cbv; try simp only [hseg])
      | ((with_reducible refine fork_t ?_); cbv; try simp only [hseg])
      | ((with_reducible refine fork_f ?_); cbv; try simp only [hseg])
      | ((with_reducible refine GWp.cond_t ?hc ?_); case hc => rfl)
      | ((with_reducible refine GWp.cond_f ?hc ?_); case hc => rfl)
      | ((with_reducible refine GWp.region (base := 0) ?_); intro K hK; cbv; try simp only [hseg])
      | ((with_reducible refine GWp.draws (base := 0) hM ?ho ?_); (case ho => rfl); intro K hK; cbv; try simp only [hseg])
      | ((with_reducible refine need_nil ?_))
      | ((with_reducible refine need_cons ?hp ?_); case hp => first | exact True.intro | with_reducible rfl | exact nn_ok hO (by decide))
      | (fail)
    refine hR _ _ ⟨_, ?_, rfl, rfl⟩
    have h1 : ¬ (1 ≤ i ∧ i ≤ Int.ofNat fields.length) := by
      try clear hK K
      clear hM hP hC hR; cases hO
      simp only [Ops.std, stdCmp, stdBin, scmp_eql, scmp_neq, stdUn, Int.ofNat_eq_natCast] at *
      simp at hf; omega
    rw [fieldOf, if_neg h0, if_neg h1]
  · repeat' first
      | ((with_reducible refine hK _ ?_); clear hK K)
      | ((with_reducible refine thenA_n ?_))
      | ((with_reducible refine thenA_r ?_))
      | ((with_reducible refine thenA_e ?_))
      | ((with_reducible refine block_n ?_))
      | ((with_reducible refine block_r ?_))
      | ((with_reducible refine block_hit ?_))
      | ((with_reducible refine GWp.seq ?_))
      | ((with_reducible refine GWp.block ?_))
      | ((with_reducible refine GWp.skip ?_))
      | ((with_reducible refine GWp.ret ?_))
      | ((with_reducible refine GWp.exit ?_))
      | ((with_reducible refine block_miss ?hd ?_); case hd => rfl)
      | ((with_reducible refine gPost_r ?_); cbv; try simp only [hseg])
      | ((with_reducible refine gPost_n ?_); cbv; try simp only [hseg])
      | ((with_reducible refine fork_t ?_); cbv; try simp only [hseg])
      | ((with_reducible refine fork_f ?_); cbv; try simp only [hseg])
      | ((with_reducible refine GWp.cond_t ?hc ?_); case hc => rfl)
      | ((with_reducible refine GWp.cond_f ?hc ?_); case hc => rfl)
      | ((with_reducible refine GWp.region (base := 0) ?_); intro K hK; cbv; try simp only [hseg])
      | ((with_reducible refine GWp.draws (base := 0) hM ?ho ?_); (case ho => rfl); intro K hK; cbv; try simp only [hseg])
      | ((with_reducible refine need_nil ?_))
      | ((with_reducible refine need_cons ?hp ?_); case hp => first | exact True.intro | with_reducible rfl | exact nn_ok hO (by decide))
      | (fail)
    refine GWp.cond rfl (fun h4 => ?_) (fun h4 => ?_)
    · repeat' first
        | ((with_reducible refine hK _ ?_); clear hK K)
        | ((with_reducible refine thenA_n ?_))
        | ((with_reducible refine thenA_r ?_))
        | ((with_reducible refine thenA_e ?_))
        | ((with_reducible refine block_n ?_))
        | ((with_reducible refine block_r ?_))
        | ((with_reducible refine block_hit ?_))
        | ((with_reducible refine GWp.seq ?_))
        | ((with_reducible refine GWp.block ?_))
        | ((with_reducible refine GWp.skip ?_))
        | ((with_reducible refine GWp.ret ?_))
        | ((with_reducible refine GWp.exit ?_))
        | ((with_reducible refine block_miss ?hd ?_); case hd => rfl)
        | ((with_reducible refine gPost_r ?_); cbv; try simp only [hseg])
        | ((with_reducible refine gPost_n ?_); cbv; try simp only [hseg])
        | ((with_reducible refine fork_t ?_); cbv; try simp only [hseg])
        | ((with_reducible refine fork_f ?_); cbv; try simp only [hseg])
        | ((with_reducible refine GWp.cond_t ?hc ?_); case hc => rfl)
        | ((with_reducible refine GWp.cond_f ?hc ?_); case hc => rfl)
        | ((with_reducible refine GWp.region (base := 0) ?_); intro K hK; cbv; try simp only [hseg])
        | ((with_reducible refine GWp.draws (base := 0) hM ?ho ?_); (case ho => rfl); intro K hK; cbv; try simp only [hseg])
        | ((with_reducible refine need_nil ?_))
        | ((with_reducible refine need_cons ?hp ?_); case hp => first | exact True.intro | with_reducible rfl | exact nn_ok hO (by decide))
        | (fail)
      refine hR _ _ ⟨_, ?_, rfl, rfl⟩
      have h1 : ¬ (1 ≤ i ∧ i ≤ Int.ofNat fields.length) := by
        try clear hK K
        clear hM hP hC hR; cases hO
        simp only [Ops.std, stdCmp, stdBin, scmp_eql, scmp_neq, stdUn, Int.ofNat_eq_natCast] at *
        subst he; simp at hf h4; omega
      rw [fieldOf, if_neg h0, if_neg h1]
    · have h1 : 1 ≤ i ∧ i ≤ Int.ofNat fields.length := by
        try clear hK K
        clear hM hP hC hR; cases hO
        simp only [Ops.std, stdCmp, stdBin, scmp_eql, scmp_neq, stdUn, Int.ofNat_eq_natCast] at *
        subst he; simp at hf h4; omega
      have e0 : bin .sub .i64 i 1 = i - 1 := by
        cases hO
        refine i64_id ?_
        clear hR; try clear hK
        simp only [Int.ofNat_eq_natCast] at *
        omega
      have e1 : get els (nat (i - 1)) = _ := strs_atI hO he (x := i - 1) (by omega) (by omega)
      generalize hv : fields.getD (i - 1).toNat ⟨#[]⟩ = v at e1
      repeat' first
        | ((with_reducible refine hK _ ?_); clear hK K)
        | ((with_reducible refine thenA_n ?_))
        | ((with_reducible refine thenA_r ?_))
        | ((with_reducible refine thenA_e ?_))
        | ((with_reducible refine block_n ?_))
        | ((with_reducible refine block_r ?_))
        | ((with_reducible refine block_hit ?_))
        | ((with_reducible refine GWp.seq ?_))
        | ((with_reducible refine GWp.block ?_))
        | ((with_reducible refine GWp.skip ?_))
        | ((with_reducible refine GWp.ret ?_))
        | ((with_reducible refine GWp.exit ?_))
        | ((with_reducible refine block_miss ?hd ?_); case hd => rfl)
        | ((with_reducible refine gPost_r ?_); cbv; try simp only [hseg])
        | ((with_reducible refine gPost_n ?_); cbv; try simp only [hseg])
        | ((with_reducible refine fork_t ?_); cbv; try simp only [hseg])
        | ((with_reducible refine fork_f ?_); cbv; try simp only [hseg])
        | ((with_reducible refine GWp.cond_t ?hc ?_); case hc => rfl)
        | ((with_reducible refine GWp.cond_f ?hc ?_); case hc => rfl)
        | ((with_reducible refine GWp.region (base := 0) ?_); intro K hK; cbv; try simp only [hseg])
        | ((with_reducible refine GWp.draws (base := 0) hM ?ho ?_); (case ho => rfl); intro K hK; cbv; try simp only [hseg])
        | ((with_reducible refine need_nil ?_))
        | ((with_reducible refine need_cons ?hp ?_); case hp => first | exact True.intro | with_reducible rfl | exact nn_ok hO (by decide))
        | (fail)
      simp only [e0]
      repeat (simp only [e1]; cbv)
      refine need_cons (by
        try clear hK K
        clear hM hP hC hR; cases hO
        simp only [Ops.std, stdCmp, stdBin, scmp_eql, scmp_neq, stdUn, Int.ofNat_eq_natCast] at *
        subst he; simp; omega) ?_
      refine need_cons (by
        try clear hK K
        clear hM hP hC hR; cases hO
        simp only [Ops.std, stdCmp, stdBin, scmp_eql, scmp_neq, stdUn, Int.ofNat_eq_natCast] at *
        subst he; exact strs_all _) ?_
      repeat' first
        | ((with_reducible refine hK _ ?_); clear hK K)
        | ((with_reducible refine thenA_n ?_))
        | ((with_reducible refine thenA_r ?_))
        | ((with_reducible refine thenA_e ?_))
        | ((with_reducible refine block_n ?_))
        | ((with_reducible refine block_r ?_))
        | ((with_reducible refine block_hit ?_))
        | ((with_reducible refine GWp.seq ?_))
        | ((with_reducible refine GWp.block ?_))
        | ((with_reducible refine GWp.skip ?_))
        | ((with_reducible refine GWp.ret ?_))
        | ((with_reducible refine GWp.exit ?_))
        | ((with_reducible refine block_miss ?hd ?_); case hd => rfl)
        | ((with_reducible refine gPost_r ?_); cbv; try simp only [hseg])
        | ((with_reducible refine gPost_n ?_); cbv; try simp only [hseg])
        | ((with_reducible refine fork_t ?_); cbv; try simp only [hseg])
        | ((with_reducible refine fork_f ?_); cbv; try simp only [hseg])
        | ((with_reducible refine GWp.cond_t ?hc ?_); case hc => rfl)
        | ((with_reducible refine GWp.cond_f ?hc ?_); case hc => rfl)
        | ((with_reducible refine GWp.region (base := 0) ?_); intro K hK; cbv; try simp only [hseg])
        | ((with_reducible refine GWp.draws (base := 0) hM ?ho ?_); (case ho => rfl); intro K hK; cbv; try simp only [hseg])
        | ((with_reducible refine need_nil ?_))
        | ((with_reducible refine need_cons ?hp ?_); case hp => first | exact True.intro | with_reducible rfl | exact nn_ok hO (by decide))
        | (fail)
      refine hR _ _ ⟨_, ?_, rfl, rfl⟩
      rw [fieldOf, if_neg h0, if_pos h1, hv]

theorem c_sameRec (l1 l2 : ByteArray) (els1 els2 : List (List T)) (f1 f2 : List ByteArray) (h1 : els1 = strs f1) (h2 : els2 = strs f2) (hb : f1.length ≤ 4611686018427387904) :
    ACalls Try.prog 11 [recA l1 els1, recA l2 els2] [] (fun res bx => ∃ b, b = decide (l1 = l2 ∧ f1 = f2) ∧ res = litB b ∧ bx = []) := by
  refine gcalls_by tys_ok 17 [.tmp 4] (fn := Try.f11) rfl rfl rfl rfl ?_ ?_ ?_
  · simp [stampFree, recA, A.stamp, A.rstamp, stampIn]
  · simp
  intro O hO P hP C hC R hR
  have hM : P.follows .mixedOrders = true := by rw [hP]; rfl
  obtain ⟨bin, cmp, sadd, scmp, beq, bnot, un, wrap, size, byte, sub, len, seg, app, get, set, nat, nadd, nsub, repl, text, bytes, mn, mx, nz, nn, idx, bnd, le, all, one, lits, isB, sOk, aOk, mOk⟩ := O
  have hseg : ∀ e, seg 0 (len e) e = e := by intro e; cases hO; simp
  repeat' first
    | ((with_reducible refine hK _ ?_); clear hK K)
    | ((with_reducible refine thenA_n ?_))
    | ((with_reducible refine thenA_r ?_))
    | ((with_reducible refine thenA_e ?_))
    | ((with_reducible refine block_n ?_))
    | ((with_reducible refine block_r ?_))
    | ((with_reducible refine block_hit ?_))
    | ((with_reducible refine GWp.seq ?_))
    | ((with_reducible refine GWp.block ?_))
    | ((with_reducible refine GWp.skip ?_))
    | ((with_reducible refine GWp.ret ?_))
    | ((with_reducible refine GWp.exit ?_))
    | ((with_reducible refine block_miss ?hd ?_); case hd => rfl)
    | ((with_reducible refine gPost_r ?_); cbv; try simp only [hseg])
    | ((with_reducible refine gPost_n ?_); cbv; try simp only [hseg])
    | ((with_reducible refine fork_t ?_); cbv; try simp only [hseg])
    | ((with_reducible refine fork_f ?_); cbv; try simp only [hseg])
    | ((with_reducible refine GWp.cond_t ?hc ?_); case hc => rfl)
    | ((with_reducible refine GWp.cond_f ?hc ?_); case hc => rfl)
    | ((with_reducible refine GWp.region (base := 0) ?_); intro K hK; cbv; try simp only [hseg])
    | ((with_reducible refine GWp.draws (base := 0) hM ?ho ?_); (case ho => rfl); intro K hK; cbv; try simp only [hseg])
    | ((with_reducible refine need_nil ?_))
    | ((with_reducible refine need_cons ?hp ?_); case hp => first | exact True.intro | with_reducible rfl | exact nn_ok hO (by decide))
    | (fail)
  refine GFork.mk (fun hf => ?_) (fun hf => ?_) <;> cbv
  · refine GCall.by ⟨fun _ _ => false, fun _ _ => false, []⟩ ?_
    cbv
    try simp only [hseg]
    refine GCallD.by hP rfl (c_sameTexts els1 els2 f1 f2 h1 h2 hb) ?_
    rintro res bx ⟨b, hb', rfl, rfl⟩
    cbv
    try simp only [hseg]
    repeat' first
      | ((with_reducible refine hK _ ?_); clear hK K)
      | ((with_reducible refine thenA_n ?_))
      | ((with_reducible refine thenA_r ?_))
      | ((with_reducible refine thenA_e ?_))
      | ((with_reducible refine block_n ?_))
      | ((with_reducible refine block_r ?_))
      | ((with_reducible refine block_hit ?_))
      | ((with_reducible refine GWp.seq ?_))
      | ((with_reducible refine GWp.block ?_))
      | ((with_reducible refine GWp.skip ?_))
      | ((with_reducible refine GWp.ret ?_))
      | ((with_reducible refine GWp.exit ?_))
      | ((with_reducible refine block_miss ?hd ?_); case hd => rfl)
      | ((with_reducible refine gPost_r ?_); cbv; try simp only [hseg])
      | ((with_reducible refine gPost_n ?_); cbv; try simp only [hseg])
      | ((with_reducible refine fork_t ?_); cbv; try simp only [hseg])
      | ((with_reducible refine fork_f ?_); cbv; try simp only [hseg])
      | ((with_reducible refine GWp.cond_t ?hc ?_); case hc => rfl)
      | ((with_reducible refine GWp.cond_f ?hc ?_); case hc => rfl)
      | ((with_reducible refine GWp.region (base := 0) ?_); intro K hK; cbv; try simp only [hseg])
      | ((with_reducible refine GWp.draws (base := 0) hM ?ho ?_); (case ho => rfl); intro K hK; cbv; try simp only [hseg])
      | ((with_reducible refine need_nil ?_))
      | ((with_reducible refine need_cons ?hp ?_); case hp => first | exact True.intro | with_reducible rfl | exact nn_ok hO (by decide))
      | (fail)
    refine hR _ _ ⟨_, ?_, rfl, rfl⟩
    clear hM hP hC hR
    cases hO
    simp only [Ops.std, stdCmp, stdBin, scmp_eql, scmp_neq, stdUn, Int.ofNat_eq_natCast] at *
    simp_all
  · repeat' first
      | ((with_reducible refine hK _ ?_); clear hK K)
      | ((with_reducible refine thenA_n ?_))
      | ((with_reducible refine thenA_r ?_))
      | ((with_reducible refine thenA_e ?_))
      | ((with_reducible refine block_n ?_))
      | ((with_reducible refine block_r ?_))
      | ((with_reducible refine block_hit ?_))
      | ((with_reducible refine GWp.seq ?_))
      | ((with_reducible refine GWp.block ?_))
      | ((with_reducible refine GWp.skip ?_))
      | ((with_reducible refine GWp.ret ?_))
      | ((with_reducible refine GWp.exit ?_))
      | ((with_reducible refine block_miss ?hd ?_); case hd => rfl)
      | ((with_reducible refine gPost_r ?_); cbv; try simp only [hseg])
      | ((with_reducible refine gPost_n ?_); cbv; try simp only [hseg])
      | ((with_reducible refine fork_t ?_); cbv; try simp only [hseg])
      | ((with_reducible refine fork_f ?_); cbv; try simp only [hseg])
      | ((with_reducible refine GWp.cond_t ?hc ?_); case hc => rfl)
      | ((with_reducible refine GWp.cond_f ?hc ?_); case hc => rfl)
      | ((with_reducible refine GWp.region (base := 0) ?_); intro K hK; cbv; try simp only [hseg])
      | ((with_reducible refine GWp.draws (base := 0) hM ?ho ?_); (case ho => rfl); intro K hK; cbv; try simp only [hseg])
      | ((with_reducible refine need_nil ?_))
      | ((with_reducible refine need_cons ?hp ?_); case hp => first | exact True.intro | with_reducible rfl | exact nn_ok hO (by decide))
      | (fail)
    refine hR _ _ ⟨_, ?_, rfl, rfl⟩
    clear hM hP hC hR
    cases hO
    simp only [Ops.std, stdCmp, stdBin, scmp_eql, scmp_neq, stdUn, Int.ofNat_eq_natCast] at *
    simp_all

theorem c_big (els : List (List T)) (l : List Int) (he : els = byts l) :
    ACalls Try.prog 5 [⟨.one, [.ro true els]⟩] [] (fun res bx => ∃ b, b = decide (1048576 < l.length) ∧ res = litB b ∧ bx = []) := by
  refine gcalls_by tys_ok 6 [.tmp 2] (fn := Try.f5) rfl rfl rfl rfl ?_ ?_ ?_
  · simp [stampFree, A.stamp, A.rstamp, stampIn]
  · simp
  intro O hO P hP C hC R hR
  have hM : P.follows .mixedOrders = true := by rw [hP]; rfl
  obtain ⟨bin, cmp, sadd, scmp, beq, bnot, un, wrap, size, byte, sub, len, seg, app, get, set, nat, nadd, nsub, repl, text, bytes, mn, mx, nz, nn, idx, bnd, le, all, one, lits, isB, sOk, aOk, mOk⟩ := O
  have hseg : ∀ e, seg 0 (len e) e = e := by intro e; cases hO; simp
  repeat' first
    | ((with_reducible refine hK _ ?_); clear hK K)
    | ((with_reducible refine thenA_n ?_))
    | ((with_reducible refine thenA_r ?_))
    | ((with_reducible refine thenA_e ?_))
    | ((with_reducible refine block_n ?_))
    | ((with_reducible refine block_r ?_))
    | ((with_reducible refine block_hit ?_))
    | ((with_reducible refine GWp.seq ?_))
    | ((with_reducible refine GWp.block ?_))
    | ((with_reducible refine GWp.skip ?_))
    | ((with_reducible refine GWp.ret ?_))
    | ((with_reducible refine GWp.exit ?_))
    | ((with_reducible refine block_miss ?hd ?_); case hd => rfl)
    | ((with_reducible refine gPost_r ?_); cbv; try simp only [hseg])
    | ((with_reducible refine gPost_n ?_); cbv; try simp only [hseg])
    | ((with_reducible refine fork_t ?_); cbv; try simp only [hseg])
    | ((with_reducible refine fork_f ?_); cbv; try simp only [hseg])
    | ((with_reducible refine GWp.cond_t ?hc ?_); case hc => rfl)
    | ((with_reducible refine GWp.cond_f ?hc ?_); case hc => rfl)
    | ((with_reducible refine GWp.region (base := 0) ?_); intro K hK; cbv; try simp only [hseg])
    | ((with_reducible refine GWp.draws (base := 0) hM ?ho ?_); (case ho => rfl); intro K hK; cbv; try simp only [hseg])
    | ((with_reducible refine need_nil ?_))
    | ((with_reducible refine need_cons ?hp ?_); case hp => first | exact True.intro | with_reducible rfl | exact nn_ok hO (by decide))
    | (fail)
  refine hR _ _ ⟨_, ?_, rfl, rfl⟩
  clear hM hP hC hR
  cases hO
  simp only [Ops.std, stdCmp, stdBin, scmp_eql, scmp_neq, stdUn, Int.ofNat_eq_natCast] at *
  subst he
  simp [byts_len]
  omega
end Go.Gv

namespace Go.Gv
open Go.Av Go.Proofs
set_option maxRecDepth 10000
set_option linter.unusedSimpArgs false

def recOk (line : ByteArray) (fields : List ByteArray) : Bool := fields.all (fun f => decide (f.size ≤ 200)) && decide (line.size ≤ 200) && decide (fields.length ≤ 20)

theorem take_all_succ {α : Type} (d : α) {p : α → Bool} {l : List α} {i : Nat} (h : (l.take i).all p = true) (hi : i < l.length) (hp : p (l.getD i d) = true) : (l.take (i + 1)).all p = true := by
  rw [List.take_succ_eq_append_getElem hi, List.all_append, h]
  rw [List.getD_eq_getElem?_getD, List.getElem?_eq_getElem hi] at hp
  simpa using hp

theorem not_all_of {α : Type} (d : α) {p : α → Bool} {l : List α} {i : Nat} (hi : i < l.length) (hp : p (l.getD i d) = false) : l.all p = false := by
  rw [List.all_eq_false]
  rw [List.getD_eq_getElem?_getD, List.getElem?_eq_getElem hi] at hp
  exact ⟨l[i], List.getElem_mem hi, by simpa using hp⟩

def inv12 (line : ByteArray) (els : List (List T)) (fields : List ByteArray) (n : Nat) (σ : AS) : Prop := ∃ (i m : Nat), σ = ⟨vag 26 [(1, ⟨.one, [.ptr 0 0]⟩), (6, roA els), (7, litI (Int.ofNat m)), (8, litI (Int.ofNat i))], [some [.lit (.string line), .ro false els]], 1⟩ ∧
  m = fields.length ∧ i ≤ m ∧ (fields.take i).all (fun f => decide (f.size ≤ 200)) = true ∧ n = m - i

theorem c_RecOk (line : ByteArray) (els : List (List T)) (fields : List ByteArray) (he : els = strs fields) (hl : fields.length ≤ 4611686018427387904) :
    ACalls Try.prog 12 [recA line els] [] (fun res bx => ∃ b, b = recOk line fields ∧ res = litB b ∧ bx = []) := by
  refine gcalls_by tys_ok 26 [.tmp 2] (fn := Try.f12) rfl rfl rfl rfl ?_ ?_ ?_
  · simp [stampFree, recA, A.stamp, A.rstamp, stampIn]
  · simp
  intro O hO P hP C hC R hR
  have hM : P.follows .mixedOrders = true := by rw [hP]; rfl
  obtain ⟨bin, cmp, sadd, scmp, beq, bnot, un, wrap, size, byte, sub, len, seg, app, get, set, nat, nadd, nsub, repl, text, bytes, mn, mx, nz, nn, idx, bnd, le, all, one, lits, isB, sOk, aOk, mOk⟩ := O
  have hseg : ∀ e, seg 0 (len e) e = e := by intro e; cases hO; simp
  have hlen : len els = fields.length := by cases hO; subst he; simp
  repeat' first
    | ((with_reducible refine hK _ ?_); clear hK K)
    | ((with_reducible refine thenA_n ?_))
    | ((with_reducible refine thenA_r ?_))
    | ((with_reducible refine thenA_e ?_))
    | ((with_reducible refine block_n ?_))
    | ((with_reducible refine block_r ?_))
    | ((with_reducible refine block_hit ?_))
    | ((with_reducible refine GWp.seq ?_))
    | ((with_reducible refine GWp.block ?_))
    | ((with_reducible refine GWp.skip ?_))
    | ((with_reducible refine GWp.ret ?_))
    | ((with_reducible refine GWp.exit ?_))
    | ((with_reducible refine block_miss ?hd ?_); case hd => rfl)
    | ((with_reducible refine gPost_r ?_); cbv; try simp only [hseg])
    | ((with_reducible refine gPost_n ?_); cbv; try simp only [hseg])
    | ((with_reducible refine fork_t ?_); cbv; try simp only [hseg])
    | ((with_reducible refine fork_f ?_); cbv; try simp only [hseg])
    | ((with_reducible refine GWp.cond_t ?hc ?_); case hc => rfl)
    | ((with_reducible refine GWp.cond_f ?hc ?_); case hc => rfl)
    | ((with_reducible refine GWp.region (base := 0) ?_); intro K hK; cbv; try simp only [hseg])
    | ((with_reducible refine GWp.draws (base := 0) hM ?ho ?_); (case ho => rfl); intro K hK; cbv; try simp only [hseg])
    | ((with_reducible refine need_nil ?_))
    | ((with_reducible refine need_cons ?hp ?_); case hp => first | exact True.intro | with_reducible rfl | exact nn_ok hO (by decide))
    | (fail)
  refine GWp.loop (nb := 1) (keep := fun t => t == 1 || t == 6 || t == 7 || t == 8) (kk := fun _ _ => none) (inv12 line els fields) (by simp at hC; simp [hC]) ?_ ?_
  · cbv
    exact ⟨_, 0, _, by cbv, hlen, by omega, rfl, rfl⟩
  rintro n σ ⟨i, m, rfl, hm, g1, g2, rfl⟩
  repeat' first
    | ((with_reducible refine hK _ ?_); clear hK K)
    | ((with_reducible refine thenA_n ?_))
    | ((with_reducible refine thenA_r ?_))
    | ((with_reducible refine thenA_e ?_))
    | ((with_reducible refine block_n ?_))
    | ((with_reducible refine block_r ?_))
    | ((with_reducible refine block_hit ?_))
    | ((with_reducible refine GWp.seq ?_))
    | ((with_reducible refine GWp.block ?_))
    | ((with_reducible refine GWp.skip ?_))
    | ((with_reducible refine GWp.ret ?_))
    | ((with_reducible refine GWp.exit ?_))
    | ((with_reducible refine block_miss ?hd ?_); case hd => rfl)
    | ((with_reducible refine gPost_r ?_); cbv; try simp only [hseg])
    | ((with_reducible refine gPost_n ?_); cbv; try simp only [hseg])
    | ((with_reducible refine fork_t ?_); cbv; try simp only [hseg])
    | ((with_reducible refine fork_f ?_); cbv; try simp only [hseg])
    | ((with_reducible refine GWp.cond_t ?hc ?_); case hc => rfl)
    | ((with_reducible refine GWp.cond_f ?hc ?_); case hc => rfl)
    | ((with_reducible refine GWp.region (base := 0) ?_); intro K hK; cbv; try simp only [hseg])
    | ((with_reducible refine GWp.draws (base := 0) hM ?ho ?_); (case ho => rfl); intro K hK; cbv; try simp only [hseg])
    | ((with_reducible refine need_nil ?_))
    | ((with_reducible refine need_cons ?hp ?_); case hp => first | exact True.intro | with_reducible rfl | exact nn_ok hO (by decide))
    | (fail)
  refine GWp.cond rfl (fun h3 => ?_) (fun h3 => ?_)
  · have hi : i < m := by
      try clear hK K
      clear hM hP hC hR; cases hO
      simp only [Ops.std, stdCmp, stdBin, scmp_eql, scmp_neq, stdUn, Int.ofNat_eq_natCast] at *
      first | done | omega | (simp_all; done) | (simp_all; omega)
    have e1 : get els (nat (Int.ofNat i)) = _ := strs_at hO he (i := i) (by omega)
    generalize hv : fields.getD i ⟨#[]⟩ = v at e1
    repeat' first
      | ((with_reducible refine hK _ ?_); clear hK K)
      | ((with_reducible refine thenA_n ?_))
      | ((with_reducible refine thenA_r ?_))
      | ((with_reducible refine thenA_e ?_))
      | ((with_reducible refine block_n ?_))
      | ((with_reducible refine block_r ?_))
      | ((with_reducible refine block_hit ?_))
      | ((with_reducible refine GWp.seq ?_))
      | ((with_reducible refine GWp.block ?_))
      | ((with_reducible refine GWp.skip ?_))
      | ((with_reducible refine GWp.ret ?_))
      | ((with_reducible refine GWp.exit ?_))
      | ((with_reducible refine block_miss ?hd ?_); case hd => rfl)
      | ((with_reducible refine gPost_r ?_); cbv; try simp only [hseg])
      | ((with_reducible refine gPost_n ?_); cbv; try simp only [hseg])
      | ((with_reducible refine fork_t ?_); cbv; try simp only [hseg])
      | ((with_reducible refine fork_f ?_); cbv; try simp only [hseg])
      | ((with_reducible refine GWp.cond_t ?hc ?_); case hc => rfl)
      | ((with_reducible refine GWp.cond_f ?hc ?_); case hc => rfl)
      | ((with_reducible refine GWp.region (base := 0) ?_); intro K hK; cbv; try simp only [hseg])
      | ((with_reducible refine GWp.draws (base := 0) hM ?ho ?_); (case ho => rfl); intro K hK; cbv; try simp only [hseg])
      | ((with_reducible refine need_nil ?_))
      | ((with_reducible refine need_cons ?hp ?_); case hp => first | exact True.intro | with_reducible rfl | exact nn_ok hO (by decide))
      | (fail)
    repeat (simp only [e1]; cbv)
    refine need_cons (by
      try clear hK K
      clear hM hP hC hR; cases hO
      simp only [Ops.std, stdCmp, stdBin, scmp_eql, scmp_neq, stdUn, Int.ofNat_eq_natCast] at *
      subst he; simp; omega) ?_
    refine need_cons (by
      try clear hK K
      clear hM hP hC hR; cases hO
      simp only [Ops.std, stdCmp, stdBin, scmp_eql, scmp_neq, stdUn, Int.ofNat_eq_natCast] at *
      subst he; exact strs_all _) ?_
    repeat' first
      | ((with_reducible refine hK _ ?_); clear hK K)
      | ((with_reducible refine thenA_n ?_))
      | ((with_reducible refine thenA_r ?_))
      | ((with_reducible refine thenA_e ?_))
      | ((with_reducible refine block_n ?_))
      | ((with_reducible refine block_r ?_))
      | ((with_reducible refine block_hit ?_))
      | ((with_reducible refine GWp.seq ?_))
      | ((with_reducible refine GWp.block ?_))
      | ((with_reducible refine GWp.skip ?_))
      | ((with_reducible refine GWp.ret ?_))
      | ((with_reducible refine GWp.exit ?_))
      | ((with_reducible refine block_miss ?hd ?_); case hd => rfl)
      | ((with_reducible refine gPost_r ?_); cbv; try simp only [hseg])
      | ((with_reducible refine gPost_n ?_); cbv; try simp only [hseg])
      | ((with_reducible refine fork_t ?_); cbv; try simp only [hseg])
      | ((with_reducible refine fork_f ?_); cbv; try simp only [hseg])
      | ((with_reducible refine GWp.cond_t ?hc ?_); case hc => rfl)
      | ((with_reducible refine GWp.cond_f ?hc ?_); case hc => rfl)
      | ((with_reducible refine GWp.region (base := 0) ?_); intro K hK; cbv; try simp only [hseg])
      | ((with_reducible refine GWp.draws (base := 0) hM ?ho ?_); (case ho => rfl); intro K hK; cbv; try simp only [hseg])
      | ((with_reducible refine need_nil ?_))
      | ((with_reducible refine need_cons ?hp ?_); case hp => first | exact True.intro | with_reducible rfl | exact nn_ok hO (by decide))
      | (fail)
    refine GWp.cond rfl (fun h4 => ?_) (fun h4 => ?_)
    · repeat' first
        | ((with_reducible refine hK _ ?_); clear hK K)
        | ((with_reducible refine thenA_n ?_))
        | ((with_reducible refine thenA_r ?_))
        | ((with_reducible refine thenA_e ?_))
        | ((with_reducible refine block_n ?_))
        | ((with_reducible refine block_r ?_))
        | ((with_reducible refine block_hit ?_))
        | ((with_reducible refine GWp.seq ?_))
        | ((with_reducible refine GWp.block ?_))
        | ((with_reducible refine GWp.skip ?_))
        | ((with_reducible refine GWp.ret ?_))
        | ((with_reducible refine GWp.exit ?_))
        | ((with_reducible refine block_miss ?hd ?_); case hd => rfl)
        | ((with_reducible refine gPost_r ?_); cbv; try simp only [hseg])
        | ((with_reducible refine gPost_n ?_); cbv; try simp only [hseg])
        | ((with_reducible refine fork_t ?_); cbv; try simp only [hseg])
        | ((with_reducible refine fork_f ?_); cbv; try simp only [hseg])
        | ((with_reducible refine GWp.cond_t ?hc ?_); case hc => rfl)
        | ((with_reducible refine GWp.cond_f ?hc ?_); case hc => rfl)
        | ((with_reducible refine GWp.region (base := 0) ?_); intro K hK; cbv; try simp only [hseg])
        | ((with_reducible refine GWp.draws (base := 0) hM ?ho ?_); (case ho => rfl); intro K hK; cbv; try simp only [hseg])
        | ((with_reducible refine need_nil ?_))
        | ((with_reducible refine need_cons ?hp ?_); case hp => first | exact True.intro | with_reducible rfl | exact nn_ok hO (by decide))
        | (fail)
      refine hR _ _ ⟨_, ?_, rfl, rfl⟩
      have hbig : ¬ v.size ≤ 200 := by
        try clear hK K
        clear hM hP hC hR; cases hO
        simp only [Ops.std, stdCmp, stdBin, scmp_eql, scmp_neq, stdUn, Int.ofNat_eq_natCast] at *
        first | done | omega | (simp_all; done) | (simp_all; omega)
      have := not_all_of (⟨#[]⟩ : ByteArray) (p := fun f => decide (f.size ≤ 200)) (i := i) (l := fields) (by omega) (by rw [hv]; simpa using hbig)
      simp only [recOk, this, Bool.false_and]
    · have hsm : v.size ≤ 200 := by
        try clear hK K
        clear hM hP hC hR; cases hO
        simp only [Ops.std, stdCmp, stdBin, scmp_eql, scmp_neq, stdUn, Int.ofNat_eq_natCast] at *
        first | done | omega | (simp_all; done) | (simp_all; omega)
      repeat' first
        | ((with_reducible refine hK _ ?_); clear hK K)
        | ((with_reducible refine thenA_n ?_))
        | ((with_reducible refine thenA_r ?_))
        | ((with_reducible refine thenA_e ?_))
        | ((with_reducible refine block_n ?_))
        | ((with_reducible refine block_r ?_))
        | ((with_reducible refine block_hit ?_))
        | ((with_reducible refine GWp.seq ?_))
        | ((with_reducible refine GWp.block ?_))
        | ((with_reducible refine GWp.skip ?_))
        | ((with_reducible refine GWp.ret ?_))
        | ((with_reducible refine GWp.exit ?_))
        | ((with_reducible refine block_miss ?hd ?_); case hd => rfl)
        | ((with_reducible refine gPost_r ?_); cbv; try simp only [hseg])
        | ((with_reducible refine gPost_n ?_); cbv; try simp only [hseg])
        | ((with_reducible refine fork_t ?_); cbv; try simp only [hseg])
        | ((with_reducible refine fork_f ?_); cbv; try simp only [hseg])
        | ((with_reducible refine GWp.cond_t ?hc ?_); case hc => rfl)
        | ((with_reducible refine GWp.cond_f ?hc ?_); case hc => rfl)
        | ((with_reducible refine GWp.region (base := 0) ?_); intro K hK; cbv; try simp only [hseg])
        | ((with_reducible refine GWp.draws (base := 0) hM ?ho ?_); (case ho => rfl); intro K hK; cbv; try simp only [hseg])
        | ((with_reducible refine need_nil ?_))
        | ((with_reducible refine need_cons ?hp ?_); case hp => first | exact True.intro | with_reducible rfl | exact nn_ok hO (by decide))
        | (fail)
      cbv
      have e : bin .add .i64 (Int.ofNat i) 1 = _ := i_succ hO (by omega)
      rw [e]
      exact ⟨_, by omega, i + 1, m, by cbv, hm, by omega, take_all_succ ⟨#[]⟩ g2 (by omega) (by rw [hv]; simpa using hsm), rfl⟩
  · have hi : i = m := by
      try clear hK K
      clear hM hP hC hR; cases hO
      simp only [Ops.std, stdCmp, stdBin, scmp_eql, scmp_neq, stdUn, Int.ofNat_eq_natCast] at *
      first | done | omega | (simp_all; done) | (simp_all; omega)
    have hall : fields.all (fun f => decide (f.size ≤ 200)) = true := by
      rw [hi, hm, List.take_length] at g2; exact g2
    repeat' first
      | ((with_reducible refine hK _ ?_); clear hK K)
      | ((with_reducible refine thenA_n ?_))
      | ((with_reducible refine thenA_r ?_))
      | ((with_reducible refine thenA_e ?_))
      | ((with_reducible refine block_n ?_))
      | ((with_reducible refine block_r ?_))
      | ((with_reducible refine block_hit ?_))
      | ((with_reducible refine GWp.seq ?_))
      | ((with_reducible refine GWp.block ?_))
      | ((with_reducible refine GWp.skip ?_))
      | ((with_reducible refine GWp.ret ?_))
      | ((with_reducible refine GWp.exit ?_))
      | ((with_reducible refine block_miss ?hd ?_); case hd => rfl)
      | ((with_reducible refine gPost_r ?_); cbv; try simp only [hseg])
      | ((with_reducible refine gPost_n ?_); cbv; try simp only [hseg])
      | ((with_reducible refine fork_t ?_); cbv; try simp only [hseg])
      | ((with_reducible refine fork_f ?_); cbv; try simp only [hseg])
      | ((with_reducible refine GWp.cond_t ?hc ?_); case hc => rfl)
      | ((with_reducible refine GWp.cond_f ?hc ?_); case hc => rfl)
      | ((with_reducible refine GWp.region (base := 0) ?_); intro K hK; cbv; try simp only [hseg])
      | ((with_reducible refine GWp.draws (base := 0) hM ?ho ?_); (case ho => rfl); intro K hK; cbv; try simp only [hseg])
      | ((with_reducible refine need_nil ?_))
      | ((with_reducible refine need_cons ?hp ?_); case hp => first | exact True.intro | with_reducible rfl | exact nn_ok hO (by decide))
      | (fail)
    refine GFork.mk (fun hf => ?_) (fun hf => ?_) <;> cbv
    · repeat' first
        | ((with_reducible refine hK _ ?_); clear hK K)
        | ((with_reducible refine thenA_n ?_))
        | ((with_reducible refine thenA_r ?_))
        | ((with_reducible refine thenA_e ?_))
        | ((with_reducible refine block_n ?_))
        | ((with_reducible refine block_r ?_))
        | ((with_reducible refine block_hit ?_))
        | ((with_reducible refine GWp.seq ?_))
        | ((with_reducible refine GWp.block ?_))
        | ((with_reducible refine GWp.skip ?_))
        | ((with_reducible refine GWp.ret ?_))
        | ((with_reducible refine GWp.exit ?_))
        | ((with_reducible refine block_miss ?hd ?_); case hd => rfl)
        | ((with_reducible refine gPost_r ?_); cbv; try simp only [hseg])
        | ((with_reducible refine gPost_n ?_); cbv; try simp only [hseg])
        | ((with_reducible refine fork_t ?_); cbv; try simp only [hseg])
        | ((with_reducible refine fork_f ?_); cbv; try simp only [hseg])
        | ((with_reducible refine GWp.cond_t ?hc ?_); case hc => rfl)
        | ((with_reducible refine GWp.cond_f ?hc ?_); case hc => rfl)
        | ((with_reducible refine GWp.region (base := 0) ?_); intro K hK; cbv; try simp only [hseg])
        | ((with_reducible refine GWp.draws (base := 0) hM ?ho ?_); (case ho => rfl); intro K hK; cbv; try simp only [hseg])
        | ((with_reducible refine need_nil ?_))
        | ((with_reducible refine need_cons ?hp ?_); case hp => first | exact True.intro | with_reducible rfl | exact nn_ok hO (by decide))
        | (fail)
      refine hR _ _ ⟨_, ?_, rfl, rfl⟩
      clear hM hP hC hR
      cases hO
      simp only [Ops.std, stdCmp, stdBin, scmp_eql, scmp_neq, stdUn, Int.ofNat_eq_natCast] at *
      simp only [recOk, hall, Bool.true_and]
      simp at hf ⊢
      have h5 : line.size ≤ 200 := by omega
      simp only [h5, decide_true, Bool.true_and]
      rw [decide_eq_decide]
      omega
    · repeat' first
        | ((with_reducible refine hK _ ?_); clear hK K)
        | ((with_reducible refine thenA_n ?_))
        | ((with_reducible refine thenA_r ?_))
        | ((with_reducible refine thenA_e ?_))
        | ((with_reducible refine block_n ?_))
        | ((with_reducible refine block_r ?_))
        | ((with_reducible refine block_hit ?_))
        | ((with_reducible refine GWp.seq ?_))
        | ((with_reducible refine GWp.block ?_))
        | ((with_reducible refine GWp.skip ?_))
        | ((with_reducible refine GWp.ret ?_))
        | ((with_reducible refine GWp.exit ?_))
        | ((with_reducible refine block_miss ?hd ?_); case hd => rfl)
        | ((with_reducible refine gPost_r ?_); cbv; try simp only [hseg])
        | ((with_reducible refine gPost_n ?_); cbv; try simp only [hseg])
        | ((with_reducible refine fork_t ?_); cbv; try simp only [hseg])
        | ((with_reducible refine fork_f ?_); cbv; try simp only [hseg])
        | ((with_reducible refine GWp.cond_t ?hc ?_); case hc => rfl)
        | ((with_reducible refine GWp.cond_f ?hc ?_); case hc => rfl)
        | ((with_reducible refine GWp.region (base := 0) ?_); intro K hK; cbv; try simp only [hseg])
        | ((with_reducible refine GWp.draws (base := 0) hM ?ho ?_); (case ho => rfl); intro K hK; cbv; try simp only [hseg])
        | ((with_reducible refine need_nil ?_))
        | ((with_reducible refine need_cons ?hp ?_); case hp => first | exact True.intro | with_reducible rfl | exact nn_ok hO (by decide))
        | (fail)
      refine hR _ _ ⟨_, ?_, rfl, rfl⟩
      clear hM hP hC hR
      cases hO
      simp only [Ops.std, stdCmp, stdBin, scmp_eql, scmp_neq, stdUn, Int.ofNat_eq_natCast] at *
      simp at hf
      simp only [recOk, hall, Bool.true_and]
      simp
      omega

def inv14 (line : ByteArray) (els : List (List T)) (fields : List ByteArray) (n : Nat) (σ : AS) : Prop := ∃ (i : Nat), σ = ⟨vag 28 [(1, ⟨.one, [.ptr 0 0]⟩), (3, litI (Int.ofNat i))], [some [.lit (.string line), .ro false els]], 1⟩ ∧
  i ≤ fields.length ∧ (fields.take i).all (fun f => decide (f.size ≤ 200)) = true ∧ n = fields.length - i

theorem c_RecOk' (line : ByteArray) (els : List (List T)) (fields : List ByteArray) (he : els = strs fields) (hl : fields.length ≤ 4611686018427387904) :
    ACalls Try.prog 14 [recA line els] [] (fun res bx => ∃ b, b = recOk line fields ∧ res = litB b ∧ bx = []) := by
  refine gcalls_by tys_ok 28 [.tmp 2] (fn := Try.f14) rfl rfl rfl rfl ?_ ?_ ?_
  · simp [stampFree, recA, A.stamp, A.rstamp, stampIn]
  · simp
  intro O hO P hP C hC R hR
  have hM : P.follows .mixedOrders = true := by rw [hP]; rfl
  obtain ⟨bin, cmp, sadd, scmp, beq, bnot, un, wrap, size, byte, sub, len, seg, app, get, set, nat, nadd, nsub, repl, text, bytes, mn, mx, nz, nn, idx, bnd, le, all, one, lits, isB, sOk, aOk, mOk⟩ := O
  have hseg : ∀ e, seg 0 (len e) e = e := by intro e; cases hO; simp
  have hlen : len els = fields.length := by cases hO; subst he; simp
  repeat' first
    | ((with_reducible refine hK _ ?_); clear hK K)
    | ((with_reducible refine thenA_n ?_))
    | ((with_reducible refine thenA_r ?_))
    | ((with_reducible refine thenA_e ?_))
    | ((with_reducible refine block_n ?_))
    | ((with_reducible refine block_r ?_))
    | ((with_reducible refine block_hit ?_))
    | ((with_reducible refine GWp.seq ?_))
    | ((with_reducible refine GWp.block ?_))
    | ((with_reducible refine GWp.skip ?_))
    | ((with_reducible refine GWp.ret ?_))
    | ((with_reducible refine GWp.exit ?_))
    | ((with_reducible refine block_miss ?hd ?_); case hd => rfl)
    | ((with_reducible refine gPost_r ?_); cbv; try simp only [hseg])
    | ((with_reducible refine gPost_n ?_); cbv; try simp only [hseg])
    | ((with_reducible refine fork_t ?_); cbv; try simp only [hseg])
    | ((with_reducible refine fork_f ?_); cbv; try simp only [hseg])
    | ((with_reducible refine GWp.cond_t ?hc ?_); case hc => rfl)
    | ((with_reducible refine GWp.cond_f ?hc ?_); case hc => rfl)
    | ((with_reducible refine GWp.region (base := 0) ?_); intro K hK; cbv; try simp only [hseg])
    | ((with_reducible refine GWp.draws (base := 0) hM ?ho ?_); (case ho => rfl); intro K hK; cbv; try simp only [hseg])
    | ((with_reducible refine need_nil ?_))
    | ((with_reducible refine need_cons ?hp ?_); case hp => first | exact True.intro | with_reducible rfl | exact nn_ok hO (by decide))
    | (fail)
  refine GWp.loop (nb := 1) (keep := fun t => t == 1 || t == 3) (kk := fun _ _ => none) (inv14 line els fields) (by simp at hC; simp [hC]) ?_ ?_
  · cbv
    exact ⟨_, 0, by cbv, by omega, rfl, rfl⟩
  rintro n σ ⟨i, rfl, g1, g2, rfl⟩
  repeat' first
    | ((with_reducible refine hK _ ?_); clear hK K)
    | ((with_reducible refine thenA_n ?_))
    | ((with_reducible refine thenA_r ?_))
    | ((with_reducible refine thenA_e ?_))
    | ((with_reducible refine block_n ?_))
    | ((with_reducible refine block_r ?_))
    | ((with_reducible refine block_hit ?_))
    | ((with_reducible refine GWp.seq ?_))
    | ((with_reducible refine GWp.block ?_))
    | ((with_reducible refine GWp.skip ?_))
    | ((with_reducible refine GWp.ret ?_))
    | ((with_reducible refine GWp.exit ?_))
    | ((with_reducible refine block_miss ?hd ?_); case hd => rfl)
    | ((with_reducible refine gPost_r ?_); cbv; try simp only [hseg])
    | ((with_reducible refine gPost_n ?_); cbv; try simp only [hseg])
    | ((with_reducible refine fork_t ?_); cbv; try simp only [hseg])
    | ((with_reducible refine fork_f ?_); cbv; try simp only [hseg])
    | ((with_reducible refine GWp.cond_t ?hc ?_); case hc => rfl)
    | ((with_reducible refine GWp.cond_f ?hc ?_); case hc => rfl)
    | ((with_reducible refine GWp.region (base := 0) ?_); intro K hK; cbv; try simp only [hseg])
    | ((with_reducible refine GWp.draws (base := 0) hM ?ho ?_); (case ho => rfl); intro K hK; cbv; try simp only [hseg])
    | ((with_reducible refine need_nil ?_))
    | ((with_reducible refine need_cons ?hp ?_); case hp => first | exact True.intro | with_reducible rfl | exact nn_ok hO (by decide))
    | (fail)
  refine GWp.cond rfl (fun h3 => ?_) (fun h3 => ?_)
  · have hi : i < fields.length := by
      try clear hK K
      clear hM hP hC hR; cases hO
      simp only [Ops.std, stdCmp, stdBin, scmp_eql, scmp_neq, stdUn, Int.ofNat_eq_natCast] at *
      first | done | omega | (simp_all; done) | (simp_all; omega)
    have e1 : get els (nat (Int.ofNat i)) = _ := strs_at hO he (i := i) (by omega)
    generalize hv : fields.getD i ⟨#[]⟩ = v at e1
    repeat' first
      | ((with_reducible refine hK _ ?_); clear hK K)
      | ((with_reducible refine thenA_n ?_))
      | ((with_reducible refine thenA_r ?_))
      | ((with_reducible refine thenA_e ?_))
      | ((with_reducible refine block_n ?_))
      | ((with_reducible refine block_r ?_))
      | ((with_reducible refine block_hit ?_))
      | ((with_reducible refine GWp.seq ?_))
      | ((with_reducible refine GWp.block ?_))
      | ((with_reducible refine GWp.skip ?_))
      | ((with_reducible refine GWp.ret ?_))
      | ((with_reducible refine GWp.exit ?_))
      | ((with_reducible refine block_miss ?hd ?_); case hd => rfl)
      | ((with_reducible refine gPost_r ?_); cbv; try simp only [hseg])
      | ((with_reducible refine gPost_n ?_); cbv; try simp only [hseg])
      | ((with_reducible refine fork_t ?_); cbv; try simp only [hseg])
      | ((with_reducible refine fork_f ?_); cbv; try simp only [hseg])
      | ((with_reducible refine GWp.cond_t ?hc ?_); case hc => rfl)
      | ((with_reducible refine GWp.cond_f ?hc ?_); case hc => rfl)
      | ((with_reducible refine GWp.region (base := 0) ?_); intro K hK; cbv; try simp only [hseg])
      | ((with_reducible refine GWp.draws (base := 0) hM ?ho ?_); (case ho => rfl); intro K hK; cbv; try simp only [hseg])
      | ((with_reducible refine need_nil ?_))
      | ((with_reducible refine need_cons ?hp ?_); case hp => first | exact True.intro | with_reducible rfl | exact nn_ok hO (by decide))
      | (fail)
    repeat (simp only [e1]; cbv)
    refine need_cons (by
      try clear hK K
      clear hM hP hC hR; cases hO
      simp only [Ops.std, stdCmp, stdBin, scmp_eql, scmp_neq, stdUn, Int.ofNat_eq_natCast] at *
      subst he; simp; omega) ?_
    refine need_cons (by
      try clear hK K
      clear hM hP hC hR; cases hO
      simp only [Ops.std, stdCmp, stdBin, scmp_eql, scmp_neq, stdUn, Int.ofNat_eq_natCast] at *
      subst he; exact strs_all _) ?_
    repeat' first
      | ((with_reducible refine hK _ ?_); clear hK K)
      | ((with_reducible refine thenA_n ?_))
      | ((with_reducible refine thenA_r ?_))
      | ((with_reducible refine thenA_e ?_))
      | ((with_reducible refine block_n ?_))
      | ((with_reducible refine block_r ?_))
      | ((with_reducible refine block_hit ?_))
      | ((with_reducible refine GWp.seq ?_))
      | ((with_reducible refine GWp.block ?_))
      | ((with_reducible refine GWp.skip ?_))
      | ((with_reducible refine GWp.ret ?_))
      | ((with_reducible refine GWp.exit ?_))
      | ((with_reducible refine block_miss ?hd ?_); case hd => rfl)
      | ((with_reducible refine gPost_r ?_); cbv; try simp only [hseg])
      | ((with_reducible refine gPost_n ?_); cbv; try simp only [hseg])
      | ((with_reducible refine fork_t ?_); cbv; try simp only [hseg])
      | ((with_reducible refine fork_f ?_); cbv; try simp only [hseg])
      | ((with_reducible refine GWp.cond_t ?hc ?_); case hc => rfl)
      | ((with_reducible refine GWp.cond_f ?hc ?_); case hc => rfl)
      | ((with_reducible refine GWp.region (base := 0) ?_); intro K hK; cbv; try simp only [hseg])
      | ((with_reducible refine GWp.draws (base := 0) hM ?ho ?_); (case ho => rfl); intro K hK; cbv; try simp only [hseg])
      | ((with_reducible refine need_nil ?_))
      | ((with_reducible refine need_cons ?hp ?_); case hp => first | exact True.intro | with_reducible rfl | exact nn_ok hO (by decide))
      | (fail)
    refine GWp.cond rfl (fun h4 => ?_) (fun h4 => ?_)
    · repeat' first
        | ((with_reducible refine hK _ ?_); clear hK K)
        | ((with_reducible refine thenA_n ?_))
        | ((with_reducible refine thenA_r ?_))
        | ((with_reducible refine thenA_e ?_))
        | ((with_reducible refine block_n ?_))
        | ((with_reducible refine block_r ?_))
        | ((with_reducible refine block_hit ?_))
        | ((with_reducible refine GWp.seq ?_))
        | ((with_reducible refine GWp.block ?_))
        | ((with_reducible refine GWp.skip ?_))
        | ((with_reducible refine GWp.ret ?_))
        | ((with_reducible refine GWp.exit ?_))
        | ((with_reducible refine block_miss ?hd ?_); case hd => rfl)
        | ((with_reducible refine gPost_r ?_); cbv; try simp only [hseg])
        | ((with_reducible refine gPost_n ?_); cbv; try simp only [hseg])
        | ((with_reducible refine fork_t ?_); cbv; try simp only [hseg])
        | ((with_reducible refine fork_f ?_); cbv; try simp only [hseg])
        | ((with_reducible refine GWp.cond_t ?hc ?_); case hc => rfl)
        | ((with_reducible refine GWp.cond_f ?hc ?_); case hc => rfl)
        | ((with_reducible refine GWp.region (base := 0) ?_); intro K hK; cbv; try simp only [hseg])
        | ((with_reducible refine GWp.draws (base := 0) hM ?ho ?_); (case ho => rfl); intro K hK; cbv; try simp only [hseg])
        | ((with_reducible refine need_nil ?_))
        | ((with_reducible refine need_cons ?hp ?_); case hp => first | exact True.intro | with_reducible rfl | exact nn_ok hO (by decide))
        | (fail)
      refine hR _ _ ⟨_, ?_, rfl, rfl⟩
      have hbig : ¬ v.size ≤ 200 := by
        try clear hK K
        clear hM hP hC hR; cases hO
        simp only [Ops.std, stdCmp, stdBin, scmp_eql, scmp_neq, stdUn, Int.ofNat_eq_natCast] at *
        first | done | omega | (simp_all; done) | (simp_all; omega)
      have := not_all_of (⟨#[]⟩ : ByteArray) (p := fun f => decide (f.size ≤ 200)) (i := i) (l := fields) (by omega) (by rw [hv]; simpa using hbig)
      simp only [recOk, this, Bool.false_and]
    · have hsm : v.size ≤ 200 := by
        try clear hK K
        clear hM hP hC hR; cases hO
        simp only [Ops.std, stdCmp, stdBin, scmp_eql, scmp_neq, stdUn, Int.ofNat_eq_natCast] at *
        first | done | omega | (simp_all; done) | (simp_all; omega)
      repeat' first
        | ((with_reducible refine hK _ ?_); clear hK K)
        | ((with_reducible refine thenA_n ?_))
        | ((with_reducible refine thenA_r ?_))
        | ((with_reducible refine thenA_e ?_))
        | ((with_reducible refine block_n ?_))
        | ((with_reducible refine block_r ?_))
        | ((with_reducible refine block_hit ?_))
        | ((with_reducible refine GWp.seq ?_))
        | ((with_reducible refine GWp.block ?_))
        | ((with_reducible refine GWp.skip ?_))
        | ((with_reducible refine GWp.ret ?_))
        | ((with_reducible refine GWp.exit ?_))
        | ((with_reducible refine block_miss ?hd ?_); case hd => rfl)
        | ((with_reducible refine gPost_r ?_); cbv; try simp only [hseg])
        | ((with_reducible refine gPost_n ?_); cbv; try simp only [hseg])
        | ((with_reducible refine fork_t ?_); cbv; try simp only [hseg])
        | ((with_reducible refine fork_f ?_); cbv; try simp only [hseg])
        | ((with_reducible refine GWp.cond_t ?hc ?_); case hc => rfl)
        | ((with_reducible refine GWp.cond_f ?hc ?_); case hc => rfl)
        | ((with_reducible refine GWp.region (base := 0) ?_); intro K hK; cbv; try simp only [hseg])
        | ((with_reducible refine GWp.draws (base := 0) hM ?ho ?_); (case ho => rfl); intro K hK; cbv; try simp only [hseg])
        | ((with_reducible refine need_nil ?_))
        | ((with_reducible refine need_cons ?hp ?_); case hp => first | exact True.intro | with_reducible rfl | exact nn_ok hO (by decide))
        | (fail)
      cbv
      have e : bin .add .i64 (Int.ofNat i) 1 = _ := i_succ hO (by omega)
      rw [e]
      exact ⟨_, by omega, i + 1, by cbv, by omega, take_all_succ ⟨#[]⟩ g2 (by omega) (by rw [hv]; simpa using hsm), rfl⟩
  · have hi : i = fields.length := by
      try clear hK K
      clear hM hP hC hR; cases hO
      simp only [Ops.std, stdCmp, stdBin, scmp_eql, scmp_neq, stdUn, Int.ofNat_eq_natCast] at *
      first | done | omega | (simp_all; done) | (simp_all; omega)
    have hall : fields.all (fun f => decide (f.size ≤ 200)) = true := by
      rw [hi, List.take_length] at g2; exact g2
    repeat' first
      | ((with_reducible refine hK _ ?_); clear hK K)
      | ((with_reducible refine thenA_n ?_))
      | ((with_reducible refine thenA_r ?_))
      | ((with_reducible refine thenA_e ?_))
      | ((with_reducible refine block_n ?_))
      | ((with_reducible refine block_r ?_))
      | ((with_reducible refine block_hit ?_))
      | ((with_reducible refine GWp.seq ?_))
      | ((with_reducible refine GWp.block ?_))
      | ((with_reducible refine GWp.skip ?_))
      | ((with_reducible refine GWp.ret ?_))
      | ((with_reducible refine GWp.exit ?_))
      | ((with_reducible refine block_miss ?hd ?_); case hd => rfl)
      | ((with_reducible refine gPost_r ?_); cbv; try simp only [hseg])
      | ((with_reducible refine gPost_n ?_); cbv; try simp only [hseg])
      | ((with_reducible refine fork_t ?_); cbv; try simp only [hseg])
      | ((with_reducible refine fork_f ?_); cbv; try simp only [hseg])
      | ((with_reducible refine GWp.cond_t ?hc ?_); case hc => rfl)
      | ((with_reducible refine GWp.cond_f ?hc ?_); case hc => rfl)
      | ((with_reducible refine GWp.region (base := 0) ?_); intro K hK; cbv; try simp only [hseg])
      | ((with_reducible refine GWp.draws (base := 0) hM ?ho ?_); (case ho => rfl); intro K hK; cbv; try simp only [hseg])
      | ((with_reducible refine need_nil ?_))
      | ((with_reducible refine need_cons ?hp ?_); case hp => first | exact True.intro | with_reducible rfl | exact nn_ok hO (by decide))
      | (fail)
    refine GFork.mk (fun hf => ?_) (fun hf => ?_) <;> cbv
    · repeat' first
        | ((with_reducible refine hK _ ?_); clear hK K)
        | ((with_reducible refine thenA_n ?_))
        | ((with_reducible refine thenA_r ?_))
        | ((with_reducible refine thenA_e ?_))
        | ((with_reducible refine block_n ?_))
        | ((with_reducible refine block_r ?_))
        | ((with_reducible refine block_hit ?_))
        | ((with_reducible refine GWp.seq ?_))
        | ((with_reducible refine GWp.block ?_))
        | ((with_reducible refine GWp.skip ?_))
        | ((with_reducible refine GWp.ret ?_))
        | ((with_reducible refine GWp.exit ?_))
        | ((with_reducible refine block_miss ?hd ?_); case hd => rfl)
        | ((with_reducible refine gPost_r ?_); cbv; try simp only [hseg])
        | ((with_reducible refine gPost_n ?_); cbv; try simp only [hseg])
        | ((with_reducible refine fork_t ?_); cbv; try simp only [hseg])
        | ((with_reducible refine fork_f ?_); cbv; try simp only [hseg])
        | ((with_reducible refine GWp.cond_t ?hc ?_); case hc => rfl)
        | ((with_reducible refine GWp.cond_f ?hc ?_); case hc => rfl)
        | ((with_reducible refine GWp.region (base := 0) ?_); intro K hK; cbv; try simp only [hseg])
        | ((with_reducible refine GWp.draws (base := 0) hM ?ho ?_); (case ho => rfl); intro K hK; cbv; try simp only [hseg])
        | ((with_reducible refine need_nil ?_))
        | ((with_reducible refine need_cons ?hp ?_); case hp => first | exact True.intro | with_reducible rfl | exact nn_ok hO (by decide))
        | (fail)
      refine hR _ _ ⟨_, ?_, rfl, rfl⟩
      clear hM hP hC hR
      cases hO
      simp only [Ops.std, stdCmp, stdBin, scmp_eql, scmp_neq, stdUn, Int.ofNat_eq_natCast] at *
      simp only [recOk, hall, Bool.true_and]
      simp at hf ⊢
      have h5 : line.size ≤ 200 := by omega
      simp only [h5, decide_true, Bool.true_and]
      rw [decide_eq_decide]
      omega
    · repeat' first
        | ((with_reducible refine hK _ ?_); clear hK K)
        | ((with_reducible refine thenA_n ?_))
        | ((with_reducible refine thenA_r ?_))
        | ((with_reducible refine thenA_e ?_))
        | ((with_reducible refine block_n ?_))
        | ((with_reducible refine block_r ?_))
        | ((with_reducible refine block_hit ?_))
        | ((with_reducible refine GWp.seq ?_))
        | ((with_reducible refine GWp.block ?_))
        | ((with_reducible refine GWp.skip ?_))
        | ((with_reducible refine GWp.ret ?_))
        | ((with_reducible refine GWp.exit ?_))
        | ((with_reducible refine block_miss ?hd ?_); case hd => rfl)
        | ((with_reducible refine gPost_r ?_); cbv; try simp only [hseg])
        | ((with_reducible refine gPost_n ?_); cbv; try simp only [hseg])
        | ((with_reducible refine fork_t ?_); cbv; try simp only [hseg])
        | ((with_reducible refine fork_f ?_); cbv; try simp only [hseg])
        | ((with_reducible refine GWp.cond_t ?hc ?_); case hc => rfl)
        | ((with_reducible refine GWp.cond_f ?hc ?_); case hc => rfl)
        | ((with_reducible refine GWp.region (base := 0) ?_); intro K hK; cbv; try simp only [hseg])
        | ((with_reducible refine GWp.draws (base := 0) hM ?ho ?_); (case ho => rfl); intro K hK; cbv; try simp only [hseg])
        | ((with_reducible refine need_nil ?_))
        | ((with_reducible refine need_cons ?hp ?_); case hp => first | exact True.intro | with_reducible rfl | exact nn_ok hO (by decide))
        | (fail)
      refine hR _ _ ⟨_, ?_, rfl, rfl⟩
      clear hM hP hC hR
      cases hO
      simp only [Ops.std, stdCmp, stdBin, scmp_eql, scmp_neq, stdUn, Int.ofNat_eq_natCast] at *
      simp at hf
      simp only [recOk, hall, Bool.true_and]
      simp
      omega
end Go.Gv
