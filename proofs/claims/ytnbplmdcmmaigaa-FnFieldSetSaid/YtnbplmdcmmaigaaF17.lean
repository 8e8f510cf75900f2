/- Part F17 of the proof: contracts of functions of the program, each walked once. -/
import Derived.Test.YtnbplmdcmmaigaaP2
import Derived.Test.YtnbplmdcmmaigaaF12

namespace Go.Gv
open Go.Av Go.Proofs
set_option maxRecDepth 10000
set_option maxHeartbeats 8000000
set_option linter.unusedSimpArgs false

theorem c_copyRec (line : ByteArray) (els : List (List T)) (fields : List ByteArray) (he : els = strs fields) (hl : fields.length ≤ 1048576) :
    ACalls Try.prog 30 [recA line els] [] (fun res bx => res = recOw line els ∧ bx = []) := by
  refine gcalls_by tys_ok 8 [.cell 2 27] (fn := Try.f30) rfl rfl rfl rfl ?_ ?_ ?_
  · simp [stampFree, recA, A.stamp, A.rstamp, stampIn]
  · simp
  intro O hO P hP C hC R hR
  have hM : P.follows .mixedOrders = true := by rw [hP]; rfl
  obtain ⟨bin, cmp, sadd, scmp, beq, bnot, un, wrap, size, byte, sub, len, seg, app, get, set, nat, nadd, nsub, repl, text, bytes, mn, mx, nz, nn, idx, bnd, le, all, one, lits, isB, sOk, aOk, mOk⟩ := O
  have hseg : ∀ e, seg 0 (len e) e = e := by intro e; cases hO; simp
  have ea : ∀ e, app [] e = e := by intro e; cases hO; rfl
  repeat' first
    | ((with_reducible refine hK _ ?_); clear hK K)
    | ((with_reducible refine thenA_n ?_))
    | ((with_reducible refine thenA_r ?_))
    | ((with_reducible refine thenA_e ?_))
    | ((with_reducible refine block_n ?_))
    | ((with_reducible refine block_r ?_))
    | ((with_reducible refine block_hit ?_))
    | ((with_reducible refine GWp.seq ?_))
    | ((with_reducible refine GWp.block ?_))
    | ((with_reducible refine GWp.skip ?_))
    | ((with_reducible refine GWp.ret ?_))
    | ((with_reducible refine GWp.exit ?_))
    | ((with_reducible refine block_miss ?hd ?_); case hd => rfl)
    | ((with_reducible refine gPost_r ?_); cbv; try simp only [hseg])
    | ((with_reducible refine gPost_n ?_); cbv; try simp only [hseg])
    | ((with_reducible refine fork_t ?_); cbv; try simp only [hseg])
    | ((with_reducible refine fork_f ?_); cbv; try simp only [hseg])
    | ((with_reducible refine GWp.cond_t ?hc ?_); case hc => rfl)
    | ((with_reducible refine GWp.cond_f ?hc ?_); case hc => rfl)
    | ((with_reducible refine GWp.region (base := 0) ?_); intro K hK; cbv; try simp only [hseg])
    | ((with_reducible refine GWp.draws (base := 0) hM ?ho ?_); (case ho => rfl); intro K hK; cbv; try simp only [hseg])
    | ((with_reducible refine need_nil ?_))
    | ((with_reducible refine need_cons ?hp ?_); case hp => first | exact True.intro | with_reducible rfl | exact nn_ok hO (by decide))
    | (fail)
  simp only [ea]
  refine need_cons (by
    try clear hK K
    clear hM hP hC hR; cases hO
    simp only [Ops.std, stdCmp, stdBin, scmp_eql, scmp_neq, stdUn, Int.ofNat_eq_natCast] at *
    subst he; exact strs_all _) ?_
  refine need_cons (by
    try clear hK K
    clear hM hP hC hR; cases hO
    simp only [Ops.std, stdCmp, stdBin, scmp_eql, scmp_neq, stdUn, Int.ofNat_eq_natCast] at *
    subst he; exact strs_lits _) ?_
  refine need_cons (aOk_of hO ?_ ?_) (need_nil ?_)
  · subst he; simp; omega
  · subst he; simp; omega
  repeat' first
    | ((with_reducible refine hK _ ?_); clear hK K)
    | ((with_reducible refine thenA_n ?_))
    | ((with_reducible refine thenA_r ?_))
    | ((with_reducible refine thenA_e ?_))
    | ((with_reducible refine block_n ?_))
    | ((with_reducible refine block_r ?_))
    | ((with_reducible refine block_hit ?_))
    | ((with_reducible refine GWp.seq ?_))
    | ((with_reducible refine GWp.block ?_))
    | ((with_reducible refine GWp.skip ?_))
    | ((with_reducible refine GWp.ret ?_))
    | ((with_reducible refine GWp.exit ?_))
    | ((with_reducible refine block_miss ?hd ?_); case hd => rfl)
    | ((with_reducible refine gPost_r ?_); cbv; try simp only [hseg])
    | ((with_reducible refine gPost_n ?_); cbv; try simp only [hseg])
    | ((with_reducible refine fork_t ?_); cbv; try simp only [hseg])
    | ((with_reducible refine fork_f ?_); cbv; try simp only [hseg])
    | ((with_reducible refine GWp.cond_t ?hc ?_); case hc => rfl)
    | ((with_reducible refine GWp.cond_f ?hc ?_); case hc => rfl)
    | ((with_reducible refine GWp.region (base := 0) ?_); intro K hK; cbv; try simp only [hseg])
    | ((with_reducible refine GWp.draws (base := 0) hM ?ho ?_); (case ho => rfl); intro K hK; cbv; try simp only [hseg])
    | ((with_reducible refine need_nil ?_))
    | ((with_reducible refine need_cons ?hp ?_); case hp => first | exact True.intro | with_reducible rfl | exact nn_ok hO (by decide))
    | (fail)
  exact hR _ _ ⟨rfl, rfl⟩

theorem c_l13Copy (line : ByteArray) (els : List (List T)) (fields : List ByteArray) (he : els = strs fields) (hl : fields.length ≤ 1048576) :
    ACalls Try.prog 32 [recA line els] [] (fun res bx => res = recOw line els ∧ bx = []) := by
  refine gcalls_by tys_ok 10 [.cell 2 27] (fn := Try.f32) rfl rfl rfl rfl ?_ ?_ ?_
  · simp [stampFree, recA, A.stamp, A.rstamp, stampIn]
  · simp
  intro O hO P hP C hC R hR
  have hM : P.follows .mixedOrders = true := by rw [hP]; rfl
  obtain ⟨bin, cmp, sadd, scmp, beq, bnot, un, wrap, size, byte, sub, len, seg, app, get, set, nat, nadd, nsub, repl, text, bytes, mn, mx, nz, nn, idx, bnd, le, all, one, lits, isB, sOk, aOk, mOk⟩ := O
  have hseg : ∀ e, seg 0 (len e) e = e := by intro e; cases hO; simp
  have ea : ∀ e, app [] e = e := by intro e; cases hO; rfl
  repeat' first
    | ((with_reducible refine hK _ ?_); clear hK K)
    | ((with_reducible refine thenA_n ?_))
    | ((with_reducible refine thenA_r ?_))
    | ((with_reducible refine thenA_e ?_))
    | ((with_reducible refine block_n ?_))
    | ((with_reducible refine block_r ?_))
    | ((with_reducible refine block_hit ?_))
    | ((with_reducible refine GWp.seq ?_))
    | ((with_reducible refine GWp.block ?_))
    | ((with_reducible refine GWp.skip ?_))
    | ((with_reducible refine GWp.ret ?_))
    | ((with_reducible refine GWp.exit ?_))
    | ((with_reducible refine block_miss ?hd ?_); case hd => rfl)
    | ((with_reducible refine gPost_r ?_); cbv; try simp only [hseg])
    | ((with_reducible refine gPost_n ?_); cbv; try simp only [hseg])
    | ((with_reducible refine fork_t ?_); cbv; try simp only [hseg])
    | ((with_reducible refine fork_f ?_); cbv; try simp only [hseg])
    | ((with_reducible refine GWp.cond_t ?hc ?_); case hc => rfl)
    | ((with_reducible refine GWp.cond_f ?hc ?_); case hc => rfl)
    | ((with_reducible refine GWp.region (base := 0) ?_); intro K hK; cbv; try simp only [hseg])
    | ((with_reducible refine GWp.draws (base := 0) hM ?ho ?_); (case ho => rfl); intro K hK; cbv; try simp only [hseg])
    | ((with_reducible refine need_nil ?_))
    | ((with_reducible refine need_cons ?hp ?_); case hp => first | exact True.intro | with_reducible rfl | exact nn_ok hO (by decide))
    | (fail)
  simp only [ea]
  refine need_cons (by
    try clear hK K
    clear hM hP hC hR; cases hO
    simp only [Ops.std, stdCmp, stdBin, scmp_eql, scmp_neq, stdUn, Int.ofNat_eq_natCast] at *
    subst he; exact strs_all _) ?_
  refine need_cons (by
    try clear hK K
    clear hM hP hC hR; cases hO
    simp only [Ops.std, stdCmp, stdBin, scmp_eql, scmp_neq, stdUn, Int.ofNat_eq_natCast] at *
    subst he; exact strs_lits _) ?_
  refine need_cons (aOk_of hO ?_ ?_) ?_
  · subst he; simp; omega
  · subst he; simp; omega
  repeat' first
    | ((with_reducible refine hK _ ?_); clear hK K)
    | ((with_reducible refine thenA_n ?_))
    | ((with_reducible refine thenA_r ?_))
    | ((with_reducible refine thenA_e ?_))
    | ((with_reducible refine block_n ?_))
    | ((with_reducible refine block_r ?_))
    | ((with_reducible refine block_hit ?_))
    | ((with_reducible refine GWp.seq ?_))
    | ((with_reducible refine GWp.block ?_))
    | ((with_reducible refine GWp.skip ?_))
    | ((with_reducible refine GWp.ret ?_))
    | ((with_reducible refine GWp.exit ?_))
    | ((with_reducible refine block_miss ?hd ?_); case hd => rfl)
    | ((with_reducible refine gPost_r ?_); cbv; try simp only [hseg])
    | ((with_reducible refine gPost_n ?_); cbv; try simp only [hseg])
    | ((with_reducible refine fork_t ?_); cbv; try simp only [hseg])
    | ((with_reducible refine fork_f ?_); cbv; try simp only [hseg])
    | ((with_reducible refine GWp.cond_t ?hc ?_); case hc => rfl)
    | ((with_reducible refine GWp.cond_f ?hc ?_); case hc => rfl)
    | ((with_reducible refine GWp.region (base := 0) ?_); intro K hK; cbv; try simp only [hseg])
    | ((with_reducible refine GWp.draws (base := 0) hM ?ho ?_); (case ho => rfl); intro K hK; cbv; try simp only [hseg])
    | ((with_reducible refine need_nil ?_))
    | ((with_reducible refine need_cons ?hp ?_); case hp => first | exact True.intro | with_reducible rfl | exact nn_ok hO (by decide))
    | (fail)
  exact hR _ _ ⟨rfl, rfl⟩

theorem c_l1In (x y z : Int) : ACalls Try.prog 31 [litI x, litI y, litI z] [] (fun res bx => ∃ b, b = (decide (y ≤ x) && decide (x ≤ z)) ∧ res = litB b ∧ bx = []) := by
  refine gcalls_by tys_ok 15 [.tmp 6] (fn := Try.f31) rfl rfl rfl rfl ?_ ?_ ?_
  · simp [stampFree, litI, A.stamp, A.rstamp, stampIn]
  · simp
  intro O hO P hP C hC R hR
  have hM : P.follows .mixedOrders = true := by rw [hP]; rfl
  obtain ⟨bin, cmp, sadd, scmp, beq, bnot, un, wrap, size, byte, sub, len, seg, app, get, set, nat, nadd, nsub, repl, text, bytes, mn, mx, nz, nn, idx, bnd, le, all, one, lits, isB, sOk, aOk, mOk⟩ := O
  have hseg : ∀ e, seg 0 (len e) e = e := by intro e; cases hO; simp
  repeat' first
    | ((with_reducible refine hK _ ?_); clear hK K)
    | ((with_reducible refine thenA_n ?_))
    | ((with_reducible refine thenA_r ?_))
    | ((with_reducible refine thenA_e ?_))
    | ((with_reducible refine block_n ?_))
    | ((with_reducible refine block_r ?_))
    | ((with_reducible refine block_hit ?_))
    | ((with_reducible refine GWp.seq ?_))
    | ((with_reducible refine GWp.block ?_))
    | ((with_reducible refine GWp.skip ?_))
    | ((with_reducible refine GWp.ret ?_))
    | ((with_reducible refine GWp.exit ?_))
    | ((with_reducible refine block_miss ?hd ?_); case hd => rfl)
    | ((with_reducible refine gPost_r ?_); cbv; try simp only [hseg])
    | ((with_reducible refine gPost_n ?_); cbv; try simp only [hseg])
    | ((with_reducible refine fork_t ?_); cbv; try simp only [hseg])
    | ((with_reducible refine fork_f ?_); cbv; try simp only [hseg])
    | ((with_reducible refine GWp.cond_t ?hc ?_); case hc => rfl)
    | ((with_reducible refine GWp.cond_f ?hc ?_); case hc => rfl)
    | ((with_reducible refine GWp.region (base := 0) ?_); intro K hK; cbv; try simp only [hseg])
    | ((with_reducible refine GWp.draws (base := 0) hM ?ho ?_); (case ho => rfl); intro K hK; cbv; try simp only [hseg])
    | ((with_reducible refine need_nil ?_))
    | ((with_reducible refine need_cons ?hp ?_); case hp => first | exact True.intro | with_reducible rfl | exact nn_ok hO (by decide))
    | (fail)
  refine GFork.mk (fun hf => ?_) (fun hf => ?_) <;> cbv
  · repeat' first
      | ((with_reducible refine hK _ ?_); clear hK K)
      | ((with_reducible refine thenA_n ?_))
      | ((with_reducible refine thenA_r ?_))
      | ((with_reducible refine thenA_e ?_))
      | ((with_reducible refine block_n ?_))
      | ((with_reducible refine block_r ?_))
      | ((with_reducible refine block_hit ?_))
      | ((with_reducible refine GWp.seq ?_))
      | ((with_reducible refine GWp.block ?_))
      | ((with_reducible refine GWp.skip ?_))
      | ((with_reducible refine GWp.ret ?_))
      | ((with_reducible refine GWp.exit ?_))
      | ((with_reducible refine block_miss ?hd ?_); case hd => rfl)
      | ((with_reducible refine gPost_r ?_); cbv; try simp only [hseg])
      | ((with_reducible refine gPost_n ?_); cbv; try simp only [hseg])
      | ((with_reducible refine fork_t ?_); cbv; try simp only [hseg])
      | ((with_reducible refine fork_f ?_); cbv; try simp only [hseg])
      | ((with_reducible refine GWp.cond_t ?hc ?_); case hc => rfl)
      | ((with_reducible refine GWp.cond_f ?hc ?_); case hc => rfl)
      | ((with_reducible refine GWp.region (base := 0) ?_); intro K hK; cbv; try simp only [hseg])
      | ((with_reducible refine GWp.draws (base := 0) hM ?ho ?_); (case ho => rfl); intro K hK; cbv; try simp only [hseg])
      | ((with_reducible refine need_nil ?_))
      | ((with_reducible refine need_cons ?hp ?_); case hp => first | exact True.intro | with_reducible rfl | exact nn_ok hO (by decide))
      | (fail)
    refine hR _ _ ⟨_, ?_, rfl, rfl⟩
    clear hM hP hC hR
    cases hO
    simp only [Ops.std, stdCmp, stdBin, scmp_eql, scmp_neq, stdUn, Int.ofNat_eq_natCast] at *
    simp_all
  · repeat' first
      | ((with_reducible refine hK _ ?_); clear hK K)
      | ((with_reducible refine thenA_n ?_))
      | ((with_reducible refine thenA_r ?_))
      | ((with_reducible refine thenA_e ?_))
      | ((with_reducible refine block_n ?_))
      | ((with_reducible refine block_r ?_))
      | ((with_reducible refine block_hit ?_))
      | ((with_reducible refine GWp.seq ?_))
      | ((with_reducible refine GWp.block ?_))
      | ((with_reducible refine GWp.skip ?_))
      | ((with_reducible refine GWp.ret ?_))
      | ((with_reducible refine GWp.exit ?_))
      | ((with_reducible refine block_miss ?hd ?_); case hd => rfl)
      | ((with_reducible refine gPost_r ?_); cbv; try simp only [hseg])
      | ((with_reducible refine gPost_n ?_); cbv; try simp only [hseg])
      | ((with_reducible refine fork_t ?_); cbv; try simp only [hseg])
      | ((with_reducible refine fork_f ?_); cbv; try simp only [hseg])
      | ((with_reducible refine GWp.cond_t ?hc ?_); case hc => rfl)
      | ((with_reducible refine GWp.cond_f ?hc ?_); case hc => rfl)
      | ((with_reducible refine GWp.region (base := 0) ?_); intro K hK; cbv; try simp only [hseg])
      | ((with_reducible refine GWp.draws (base := 0) hM ?ho ?_); (case ho => rfl); intro K hK; cbv; try simp only [hseg])
      | ((with_reducible refine need_nil ?_))
      | ((with_reducible refine need_cons ?hp ?_); case hp => first | exact True.intro | with_reducible rfl | exact nn_ok hO (by decide))
      | (fail)
    refine hR _ _ ⟨_, ?_, rfl, rfl⟩
    clear hM hP hC hR
    cases hO
    simp only [Ops.std, stdCmp, stdBin, scmp_eql, scmp_neq, stdUn, Int.ofNat_eq_natCast] at *
    simp_all
    omega

def setsT : List ByteArray := [⟨#[120]⟩, ⟨#[]⟩, ⟨#[97, 32, 98]⟩, ⟨#[119, 111, 114, 100]⟩]
def setsN : List Int := [0, 1, 2, 5, 20, 21, -1]
theorem setsT_size : ∀ v ∈ setsT, v.size ≤ 300 := by decide
theorem text_repl_size {O : Ops} (hO : O = Ops.std) (n : Nat) : (O.text (O.repl n [T.lit (.int .u8 0)])).size = n := by
  subst hO
  have h1 : ∀ n, bytesOf (List.replicate n [T.lit (.int .u8 0)]) = some (List.replicate n 0) := by
    intro n
    induction n with
    | zero => rfl
    | succ n ih => rw [List.replicate_succ, List.replicate_succ]; simp only [bytesOf, ih]; rfl
  have h2 : ∀ (l : List Int) (b : ByteArray), (l.foldl (fun r n => r.push (UInt8.ofNat n.toNat)) b).size = b.size + l.length := by
    intro l
    induction l with
    | nil => simp
    | cons a l ih => intro b; simp only [List.foldl_cons, ih, ByteArray.size_push, List.length_cons]; omega
  show (match bytesOf (List.replicate n [T.lit (.int .u8 0)]) with | some ns => textOf ns | none => ByteArray.empty).size = n
  rw [h1]
  simp only [textOf, h2]
  simp

theorem c_DrawSetField (cs : List (List T)) (l : List Int) (hc : cs = byts l) (hl : l.length ≤ 1048576) :
    ACalls Try.prog 15 [⟨.one, [.ro true cs]⟩] [] (fun res bx => ∃ line els fields n s, els = strs fields ∧ fields.length ≤ 100 ∧ s.size ≤ 300 ∧ res = ⟨.tup [(true, 2), (false, 1), (false, 1)], [.lit (.string line), .ow (0, 0) 1 els, .lit (.int .i64 n), .lit (.string s)]⟩ ∧ bx = []) := by
  refine gcalls_by tys_ok 25 [.cell 2 27, .tmp 3, .tmp 4] (fn := Try.f15) rfl rfl rfl rfl ?_ ?_ ?_
  · simp [stampFree, A.stamp, A.rstamp, stampIn]
  · simp
  intro O hO P hP C hC R hR
  have hM : P.follows .mixedOrders = true := by rw [hP]; rfl
  obtain ⟨bin, cmp, sadd, scmp, beq, bnot, un, wrap, size, byte, sub, len, seg, app, get, set, nat, nadd, nsub, repl, text, bytes, mn, mx, nz, nn, idx, bnd, le, all, one, lits, isB, sOk, aOk, mOk⟩ := O
  have hseg : ∀ e, seg 0 (len e) e = e := by intro e; cases hO; simp
  repeat' first
    | ((with_reducible refine hK _ ?_); clear hK K)
    | ((with_reducible refine thenA_n ?_))
    | ((with_reducible refine thenA_r ?_))
    | ((with_reducible refine thenA_e ?_))
    | ((with_reducible refine block_n ?_))
    | ((with_reducible refine block_r ?_))
    | ((with_reducible refine block_hit ?_))
    | ((with_reducible refine GWp.seq ?_))
    | ((with_reducible refine GWp.block ?_))
    | ((with_reducible refine GWp.skip ?_))
    | ((with_reducible refine GWp.ret ?_))
    | ((with_reducible refine GWp.exit ?_))
    | ((with_reducible refine block_miss ?hd ?_); case hd => rfl)
    | ((with_reducible refine gPost_r ?_); cbv; try simp only [hseg])
    | ((with_reducible refine gPost_n ?_); cbv; try simp only [hseg])
    | ((with_reducible refine fork_t ?_); cbv; try simp only [hseg])
    | ((with_reducible refine fork_f ?_); cbv; try simp only [hseg])
    | ((with_reducible refine GWp.cond_t ?hc ?_); case hc => rfl)
    | ((with_reducible refine GWp.cond_f ?hc ?_); case hc => rfl)
    | ((with_reducible refine GWp.region (base := 0) ?_); intro K hK; cbv; try simp only [hseg])
    | ((with_reducible refine GWp.draws (base := 0) hM ?ho ?_); (case ho => rfl); intro K hK; cbv; try simp only [hseg])
    | ((with_reducible refine need_nil ?_))
    | ((with_reducible refine need_cons ?hp ?_); case hp => first | exact True.intro | with_reducible rfl | exact nn_ok hO (by decide))
    | (fail)
  refine GCall.by ⟨fun _ _ => false, fun _ _ => false, []⟩ ?_
  cbv
  try simp only [hseg]
  refine GCallD.by hP rfl (c_l1New cs l hc hl) ?_
  rintro res bx ⟨h, rfl, rfl⟩
  cbv
  try simp only [hseg]
  repeat' first
    | ((with_reducible refine hK _ ?_); clear hK K)
    | ((with_reducible refine thenA_n ?_))
    | ((with_reducible refine thenA_r ?_))
    | ((with_reducible refine thenA_e ?_))
    | ((with_reducible refine block_n ?_))
    | ((with_reducible refine block_r ?_))
    | ((with_reducible refine block_hit ?_))
    | ((with_reducible refine GWp.seq ?_))
    | ((with_reducible refine GWp.block ?_))
    | ((with_reducible refine GWp.skip ?_))
    | ((with_reducible refine GWp.ret ?_))
    | ((with_reducible refine GWp.exit ?_))
    | ((with_reducible refine block_miss ?hd ?_); case hd => rfl)
    | ((with_reducible refine gPost_r ?_); cbv; try simp only [hseg])
    | ((with_reducible refine gPost_n ?_); cbv; try simp only [hseg])
    | ((with_reducible refine fork_t ?_); cbv; try simp only [hseg])
    | ((with_reducible refine fork_f ?_); cbv; try simp only [hseg])
    | ((with_reducible refine GWp.cond_t ?hc ?_); case hc => rfl)
    | ((with_reducible refine GWp.cond_f ?hc ?_); case hc => rfl)
    | ((with_reducible refine GWp.region (base := 0) ?_); intro K hK; cbv; try simp only [hseg])
    | ((with_reducible refine GWp.draws (base := 0) hM ?ho ?_); (case ho => rfl); intro K hK; cbv; try simp only [hseg])
    | ((with_reducible refine need_nil ?_))
    | ((with_reducible refine need_cons ?hp ?_); case hp => first | exact True.intro | with_reducible rfl | exact nn_ok hO (by decide))
    | (fail)
  refine GCall.by ⟨fun _ _ => false, fun _ _ => false, [1]⟩ ?_
  cbv
  try simp only [hseg]
  refine GCallD.by hP rfl (c_l1Str cs l hc hl 0 h ⟨by omega, Int.natCast_nonneg _⟩ setsT _ rfl (by simp [setsT])) ?_
  rintro res bx ⟨s, rfl, hs, ⟨i1, h1, rfl, hi1⟩⟩
  cbv
  try simp only [hseg]
  have hs3 := setsT_size s hs
  clear hs
  repeat' first
    | ((with_reducible refine hK _ ?_); clear hK K)
    | ((with_reducible refine thenA_n ?_))
    | ((with_reducible refine thenA_r ?_))
    | ((with_reducible refine thenA_e ?_))
    | ((with_reducible refine block_n ?_))
    | ((with_reducible refine block_r ?_))
    | ((with_reducible refine block_hit ?_))
    | ((with_reducible refine GWp.seq ?_))
    | ((with_reducible refine GWp.block ?_))
    | ((with_reducible refine GWp.skip ?_))
    | ((with_reducible refine GWp.ret ?_))
    | ((with_reducible refine GWp.exit ?_))
    | ((with_reducible refine block_miss ?hd ?_); case hd => rfl)
    | ((with_reducible refine gPost_r ?_); cbv; try simp only [hseg])
    | ((with_reducible refine gPost_n ?_); cbv; try simp only [hseg])
    | ((with_reducible refine fork_t ?_); cbv; try simp only [hseg])
    | ((with_reducible refine fork_f ?_); cbv; try simp only [hseg])
    | ((with_reducible refine GWp.cond_t ?hc ?_); case hc => rfl)
    | ((with_reducible refine GWp.cond_f ?hc ?_); case hc => rfl)
    | ((with_reducible refine GWp.region (base := 0) ?_); intro K hK; cbv; try simp only [hseg])
    | ((with_reducible refine GWp.draws (base := 0) hM ?ho ?_); (case ho => rfl); intro K hK; cbv; try simp only [hseg])
    | ((with_reducible refine need_nil ?_))
    | ((with_reducible refine need_cons ?hp ?_); case hp => first | exact True.intro | with_reducible rfl | exact nn_ok hO (by decide))
    | (fail)
  refine GCall.by ⟨fun _ _ => false, fun _ _ => false, [1]⟩ ?_
  cbv
  try simp only [hseg]
  refine GCallD.by hP rfl (c_l1Once cs l hc hl i1 h1 hi1 _) ?_
  rintro res bx ⟨b, rfl, ⟨i2, h2, rfl, hi2⟩⟩
  cbv
  try simp only [hseg]
  repeat' first
    | ((with_reducible refine hK _ ?_); clear hK K)
    | ((with_reducible refine thenA_n ?_))
    | ((with_reducible refine thenA_r ?_))
    | ((with_reducible refine thenA_e ?_))
    | ((with_reducible refine block_n ?_))
    | ((with_reducible refine block_r ?_))
    | ((with_reducible refine block_hit ?_))
    | ((with_reducible refine GWp.seq ?_))
    | ((with_reducible refine GWp.block ?_))
    | ((with_reducible refine GWp.skip ?_))
    | ((with_reducible refine GWp.ret ?_))
    | ((with_reducible refine GWp.exit ?_))
    | ((with_reducible refine block_miss ?hd ?_); case hd => rfl)
    | ((with_reducible refine gPost_r ?_); cbv; try simp only [hseg])
    | ((with_reducible refine gPost_n ?_); cbv; try simp only [hseg])
    | ((with_reducible refine fork_t ?_); cbv; try simp only [hseg])
    | ((with_reducible refine fork_f ?_); cbv; try simp only [hseg])
    | ((with_reducible refine GWp.cond_t ?hc ?_); case hc => rfl)
    | ((with_reducible refine GWp.cond_f ?hc ?_); case hc => rfl)
    | ((with_reducible refine GWp.region (base := 0) ?_); intro K hK; cbv; try simp only [hseg])
    | ((with_reducible refine GWp.draws (base := 0) hM ?ho ?_); (case ho => rfl); intro K hK; cbv; try simp only [hseg])
    | ((with_reducible refine need_nil ?_))
    | ((with_reducible refine need_cons ?hp ?_); case hp => first | exact True.intro | with_reducible rfl | exact nn_ok hO (by decide))
    | (fail)
  refine GWp.cond rfl (fun h3 => ?_) (fun h3 => ?_)
  · repeat' first
      | ((with_reducible refine hK _ ?_); clear hK K)
      | ((with_reducible refine thenA_n ?_))
      | ((with_reducible refine thenA_r ?_))
      | ((with_reducible refine thenA_e ?_))
      | ((with_reducible refine block_n ?_))
      | ((with_reducible refine block_r ?_))
      | ((with_reducible refine block_hit ?_))
      | ((with_reducible refine GWp.seq ?_))
      | ((with_reducible refine GWp.block ?_))
      | ((with_reducible refine GWp.skip ?_))
      | ((with_reducible refine GWp.ret ?_))
      | ((with_reducible refine GWp.exit ?_))
      | ((with_reducible refine block_miss ?hd ?_); case hd => rfl)
      | ((with_reducible refine gPost_r ?_); cbv; try simp only [hseg])
      | ((with_reducible refine gPost_n ?_); cbv; try simp only [hseg])
      | ((with_reducible refine fork_t ?_); cbv; try simp only [hseg])
      | ((with_reducible refine fork_f ?_); cbv; try simp only [hseg])
      | ((with_reducible refine GWp.cond_t ?hc ?_); case hc => rfl)
      | ((with_reducible refine GWp.cond_f ?hc ?_); case hc => rfl)
      | ((with_reducible refine GWp.region (base := 0) ?_); intro K hK; cbv; try simp only [hseg])
      | ((with_reducible refine GWp.draws (base := 0) hM ?ho ?_); (case ho => rfl); intro K hK; cbv; try simp only [hseg])
      | ((with_reducible refine need_nil ?_))
      | ((with_reducible refine need_cons ?hp ?_); case hp => first | exact True.intro | with_reducible rfl | exact nn_ok hO (by decide))
      | (fail)
    refine GCall.by ⟨fun _ _ => false, fun _ _ => false, [1]⟩ ?_
    cbv
    try simp only [hseg]
    refine GCallD.by hP rfl (c_l1Below cs l hc hl i2 h2 hi2 _) ?_
    rintro res bx ⟨y, rfl, ⟨i3, h3', rfl, hi3⟩, hy, hy'⟩
    cbv
    try simp only [hseg]
    have hy2 := hy' (by decide)
    have em : bin .add .i64 195 y = 195 + y := by cases hO; exact i64_id (by omega)
    rw [em]
    generalize hmm : 195 + y = m
    have hz : (text (repl (nat m) [T.lit (.int .u8 0)])).size = nat m := text_repl_size hO _
    have hm : nat m = m.toNat := by cases hO; rfl
    generalize htx : text (repl (nat m) [T.lit (.int .u8 0)]) = tx at hz ⊢
    clear hs3
    have hs3 : tx.size ≤ 300 := by omega
    refine need_cons (mOk_of hO (by omega)) (need_cons (isB_repl hO) ?_)
    repeat' first
      | ((with_reducible refine hK _ ?_); clear hK K)
      | ((with_reducible refine thenA_n ?_))
      | ((with_reducible refine thenA_r ?_))
      | ((with_reducible refine thenA_e ?_))
      | ((with_reducible refine block_n ?_))
      | ((with_reducible refine block_r ?_))
      | ((with_reducible refine block_hit ?_))
      | ((with_reducible refine GWp.seq ?_))
      | ((with_reducible refine GWp.block ?_))
      | ((with_reducible refine GWp.skip ?_))
      | ((with_reducible refine GWp.ret ?_))
      | ((with_reducible refine GWp.exit ?_))
      | ((with_reducible refine block_miss ?hd ?_); case hd => rfl)
      | ((with_reducible refine gPost_r ?_); cbv; try simp only [hseg])
      | ((with_reducible refine gPost_n ?_); cbv; try simp only [hseg])
      | ((with_reducible refine fork_t ?_); cbv; try simp only [hseg])
      | ((with_reducible refine fork_f ?_); cbv; try simp only [hseg])
      | ((with_reducible refine GWp.cond_t ?hc ?_); case hc => rfl)
      | ((with_reducible refine GWp.cond_f ?hc ?_); case hc => rfl)
      | ((with_reducible refine GWp.region (base := 0) ?_); intro K hK; cbv; try simp only [hseg])
      | ((with_reducible refine GWp.draws (base := 0) hM ?ho ?_); (case ho => rfl); intro K hK; cbv; try simp only [hseg])
      | ((with_reducible refine need_nil ?_))
      | ((with_reducible refine need_cons ?hp ?_); case hp => first | exact True.intro | with_reducible rfl | exact nn_ok hO (by decide))
      | (fail)
    refine GCall.by ⟨fun _ _ => false, fun _ _ => false, [1]⟩ ?_
    cbv
    try simp only [hseg]
    refine GCallD.by hP rfl (c_l13Any cs l hc hl _ _ hi3) ?_
    rintro res bx ⟨line, els, fields, he, hf, rfl, ⟨i4, h4, rfl, hi4⟩⟩
    cbv
    try simp only [hseg]
    refine GCall.by ⟨fun _ _ => false, fun _ _ => false, [1]⟩ ?_
    cbv
    try simp only [hseg]
    refine GCallD.by hP rfl (c_l1Int cs l hc hl i4 h4 hi4 setsN _ rfl (by simp [setsN])) ?_
    rintro res bx ⟨n, rfl, hn, ⟨i5, h5, rfl, hi5⟩⟩
    cbv
    try simp only [hseg]
    repeat' first
      | ((with_reducible refine hK _ ?_); clear hK K)
      | ((with_reducible refine thenA_n ?_))
      | ((with_reducible refine thenA_r ?_))
      | ((with_reducible refine thenA_e ?_))
      | ((with_reducible refine block_n ?_))
      | ((with_reducible refine block_r ?_))
      | ((with_reducible refine block_hit ?_))
      | ((with_reducible refine GWp.seq ?_))
      | ((with_reducible refine GWp.block ?_))
      | ((with_reducible refine GWp.skip ?_))
      | ((with_reducible refine GWp.ret ?_))
      | ((with_reducible refine GWp.exit ?_))
      | ((with_reducible refine block_miss ?hd ?_); case hd => rfl)
      | ((with_reducible refine gPost_r ?_); cbv; try simp only [hseg])
      | ((with_reducible refine gPost_n ?_); cbv; try simp only [hseg])
      | ((with_reducible refine fork_t ?_); cbv; try simp only [hseg])
      | ((with_reducible refine fork_f ?_); cbv; try simp only [hseg])
      | ((with_reducible refine GWp.cond_t ?hc ?_); case hc => rfl)
      | ((with_reducible refine GWp.cond_f ?hc ?_); case hc => rfl)
      | ((with_reducible refine GWp.region (base := 0) ?_); intro K hK; cbv; try simp only [hseg])
      | ((with_reducible refine GWp.draws (base := 0) hM ?ho ?_); (case ho => rfl); intro K hK; cbv; try simp only [hseg])
      | ((with_reducible refine need_nil ?_))
      | ((with_reducible refine need_cons ?hp ?_); case hp => first | exact True.intro | with_reducible rfl | exact nn_ok hO (by decide))
      | (fail)
    exact hR _ _ ⟨line, els, fields, n, _, he, hf, hs3, rfl, rfl⟩
  · have hi3 := hi2
    repeat' first
      | ((with_reducible refine hK _ ?_); clear hK K)
      | ((with_reducible refine thenA_n ?_))
      | ((with_reducible refine thenA_r ?_))
      | ((with_reducible refine thenA_e ?_))
      | ((with_reducible refine block_n ?_))
      | ((with_reducible refine block_r ?_))
      | ((with_reducible refine block_hit ?_))
      | ((with_reducible refine GWp.seq ?_))
      | ((with_reducible refine GWp.block ?_))
      | ((with_reducible refine GWp.skip ?_))
      | ((with_reducible refine GWp.ret ?_))
      | ((with_reducible refine GWp.exit ?_))
      | ((with_reducible refine block_miss ?hd ?_); case hd => rfl)
      | ((with_reducible refine gPost_r ?_); cbv; try simp only [hseg])
      | ((with_reducible refine gPost_n ?_); cbv; try simp only [hseg])
      | ((with_reducible refine fork_t ?_); cbv; try simp only [hseg])
      | ((with_reducible refine fork_f ?_); cbv; try simp only [hseg])
      | ((with_reducible refine GWp.cond_t ?hc ?_); case hc => rfl)
      | ((with_reducible refine GWp.cond_f ?hc ?_); case hc => rfl)
      | ((with_reducible refine GWp.region (base := 0) ?_); intro K hK; cbv; try simp only [hseg])
      | ((with_reducible refine GWp.draws (base := 0) hM ?ho ?_); (case ho => rfl); intro K hK; cbv; try simp only [hseg])
      | ((with_reducible refine need_nil ?_))
      | ((with_reducible refine need_cons ?hp ?_); case hp => first | exact True.intro | with_reducible rfl | exact nn_ok hO (by decide))
      | (fail)
    refine GCall.by ⟨fun _ _ => false, fun _ _ => false, [1]⟩ ?_
    cbv
    try simp only [hseg]
    refine GCallD.by hP rfl (c_l13Any cs l hc hl _ _ hi3) ?_
    rintro res bx ⟨line, els, fields, he, hf, rfl, ⟨i4, h4, rfl, hi4⟩⟩
    cbv
    try simp only [hseg]
    refine GCall.by ⟨fun _ _ => false, fun _ _ => false, [1]⟩ ?_
    cbv
    try simp only [hseg]
    refine GCallD.by hP rfl (c_l1Int cs l hc hl i4 h4 hi4 setsN _ rfl (by simp [setsN])) ?_
    rintro res bx ⟨n, rfl, hn, ⟨i5, h5, rfl, hi5⟩⟩
    cbv
    try simp only [hseg]
    repeat' first
      | ((with_reducible refine hK _ ?_); clear hK K)
      | ((with_reducible refine thenA_n ?_))
      | ((with_reducible refine thenA_r ?_))
      | ((with_reducible refine thenA_e ?_))
      | ((with_reducible refine block_n ?_))
      | ((with_reducible refine block_r ?_))
      | ((with_reducible refine block_hit ?_))
      | ((with_reducible refine GWp.seq ?_))
      | ((with_reducible refine GWp.block ?_))
      | ((with_reducible refine GWp.skip ?_))
      | ((with_reducible refine GWp.ret ?_))
      | ((with_reducible refine GWp.exit ?_))
      | ((with_reducible refine block_miss ?hd ?_); case hd => rfl)
      | ((with_reducible refine gPost_r ?_); cbv; try simp only [hseg])
      | ((with_reducible refine gPost_n ?_); cbv; try simp only [hseg])
      | ((with_reducible refine fork_t ?_); cbv; try simp only [hseg])
      | ((with_reducible refine fork_f ?_); cbv; try simp only [hseg])
      | ((with_reducible refine GWp.cond_t ?hc ?_); case hc => rfl)
      | ((with_reducible refine GWp.cond_f ?hc ?_); case hc => rfl)
      | ((with_reducible refine GWp.region (base := 0) ?_); intro K hK; cbv; try simp only [hseg])
      | ((with_reducible refine GWp.draws (base := 0) hM ?ho ?_); (case ho => rfl); intro K hK; cbv; try simp only [hseg])
      | ((with_reducible refine need_nil ?_))
      | ((with_reducible refine need_cons ?hp ?_); case hp => first | exact True.intro | with_reducible rfl | exact nn_ok hO (by decide))
      | (fail)
    exact hR _ _ ⟨line, els, fields, n, _, he, hf, hs3, rfl, rfl⟩
end Go.Gv

namespace Go.Gv
open Go.Av Go.Proofs
set_option maxRecDepth 10000
set_option maxHeartbeats 8000000
set_option linter.unusedSimpArgs false

def padTo (fields : List ByteArray) (n : Nat) : List ByteArray := fields ++ List.replicate (n - fields.length) ⟨#[]⟩
def setField (line : ByteArray) (fields : List ByteArray) (n : Int) (s : ByteArray) : ByteArray × List ByteArray × Bool :=
  if recOk line fields = false ∨ ¬ (0 ≤ n ∧ n ≤ 20) ∨ 200 < s.size then (line, fields, false)
  else if n = 0 then (recLine s, recFields s, true)
  else if 200 < (joinT ((padTo fields n.toNat).set (n.toNat - 1) s)).size then (line, fields, false)
  else (joinT ((padTo fields n.toNat).set (n.toNat - 1) s), (padTo fields n.toNat).set (n.toNat - 1) s, true)

theorem setField_bad {line : ByteArray} {fields : List ByteArray} {n : Int} {s : ByteArray} (h : recOk line fields = false ∨ ¬ (0 ≤ n ∧ n ≤ 20) ∨ 200 < s.size) : setField line fields n s = (line, fields, false) := if_pos h
theorem setField_zero {line : ByteArray} {fields : List ByteArray} {n : Int} {s : ByteArray} (h1 : recOk line fields = true) (h2 : n = 0) (h3 : s.size ≤ 200) : setField line fields n s = (recLine s, recFields s, true) := by
  unfold setField
  rw [if_neg (by rw [h1, h2]; simp; omega), if_pos h2]
theorem setField_long {line : ByteArray} {fields : List ByteArray} {n : Int} {s : ByteArray} (h1 : recOk line fields = true) (h2 : 0 ≤ n ∧ n ≤ 20) (h3 : s.size ≤ 200) (h0 : n ≠ 0) (hj : 200 < (joinT ((padTo fields n.toNat).set (n.toNat - 1) s)).size) : setField line fields n s = (line, fields, false) := by
  unfold setField
  rw [if_neg (by rw [h1]; simp; omega), if_neg h0, if_pos hj]
theorem setField_done {line : ByteArray} {fields : List ByteArray} {n : Int} {s : ByteArray} (h1 : recOk line fields = true) (h2 : 0 ≤ n ∧ n ≤ 20) (h3 : s.size ≤ 200) (h0 : n ≠ 0) (hj : ¬ 200 < (joinT ((padTo fields n.toNat).set (n.toNat - 1) s)).size) :
    setField line fields n s = (joinT ((padTo fields n.toNat).set (n.toNat - 1) s), (padTo fields n.toNat).set (n.toNat - 1) s, true) := by
  unfold setField
  rw [if_neg (by rw [h1]; simp; omega), if_neg h0, if_neg hj]
theorem recOk_len {line : ByteArray} {fields : List ByteArray} (h : recOk line fields = true) : fields.length ≤ 20 := by
  simp only [recOk, Bool.and_eq_true, decide_eq_true_eq] at h; exact h.2
theorem recOk_size {line : ByteArray} {fields : List ByteArray} (h : recOk line fields = true) : ∀ f ∈ fields, f.size ≤ 200 := by
  simp only [recOk, Bool.and_eq_true, List.all_eq_true, decide_eq_true_eq] at h; exact h.1.1
theorem pad_done {fields : List ByteArray} {k n : Nat} (hk : k = 0 ∨ fields.length + k ≤ n) (h : n ≤ fields.length + k) : fields ++ List.replicate k ⟨#[]⟩ = padTo fields n := by
  unfold padTo
  have : k = n - fields.length := by omega
  rw [← this]
theorem pad_mem {fields : List ByteArray} {n i : Nat} {s f : ByteArray} (h : f ∈ (padTo fields n).set i s) : f ∈ fields ∨ f = ⟨#[]⟩ ∨ f = s := by
  rcases List.mem_or_eq_of_mem_set h with h | h
  · rcases List.mem_append.1 h with h | h
    · exact .inl h
    · exact .inr (.inl (List.eq_of_mem_replicate h))
  · exact .inr (.inr h)
theorem pad_size {line : ByteArray} {fields : List ByteArray} {n i : Nat} {s : ByteArray} (hok : recOk line fields = true) (hs : s.size ≤ 200) : ∀ f ∈ (padTo fields n).set i s, f.size ≤ 1048576 := by
  intro f hf
  rcases pad_mem hf with h | rfl | rfl
  · have := recOk_size hok f h; omega
  · exact Nat.zero_le _
  · omega

def inv16 (line : ByteArray) (els : List (List T)) (fields : List ByteArray) (x : Int) (s : ByteArray) (n : Nat) (σ : AS) : Prop := ∃ (els3 : List (List T)) (k : Nat),
  σ = ⟨vag 57 [(1, litI x), (2, litS s), (3, ⟨.one, [.ptr 0 0]⟩), (6, ⟨.one, [.ptr 1 0]⟩), (8, ⟨.one, [.ptr 2 0]⟩)], [some [.lit (.string line), .ro false els], some [.lit (.string ⟨#[]⟩), .nil], some [.lit (.string line), .ow (0, 0) 1 els3]], 1⟩ ∧
  els3 = strs (fields ++ List.replicate k ⟨#[]⟩) ∧ (k = 0 ∨ fields.length + k ≤ x.toNat) ∧ n = x.toNat - (fields.length + k)

theorem c_SetField16 (line : ByteArray) (els : List (List T)) (fields : List ByteArray) (he : els = strs fields) (hl : fields.length ≤ 1048576) (x : Int) (s : ByteArray) (hs : s.size ≤ 1048576) :
    ACalls Try.prog 16 [recA line els, litI x, litS s] [] (fun res bx => ∃ line2 els2 fs2 b, (line2, fs2, b) = setField line fields x s ∧ els2 = strs fs2 ∧ res = ⟨.tup [(true, 2), (false, 1)], [.lit (.string line2), .ow (0, 0) 1 els2, .lit (.bool b)]⟩ ∧ bx = []) := by
  refine gcalls_by tys_ok 57 [.cell 6 27, .tmp 7] (fn := Try.f16) rfl rfl rfl rfl ?_ ?_ ?_
  · simp [stampFree, recA, litI, litS, A.stamp, A.rstamp, stampIn]
  · simp
  intro O hO P hP C hC R hR
  have hM : P.follows .mixedOrders = true := by rw [hP]; rfl
  obtain ⟨bin, cmp, sadd, scmp, beq, bnot, un, wrap, size, byte, sub, len, seg, app, get, set, nat, nadd, nsub, repl, text, bytes, mn, mx, nz, nn, idx, bnd, le, all, one, lits, isB, sOk, aOk, mOk⟩ := O
  have hseg : ∀ e, seg 0 (len e) e = e := by intro e; cases hO; simp
  have ebn : ∀ b, bnot b = !b := by intro b; cases hO; rfl
  repeat' first
    | ((with_reducible refine hK _ ?_); clear hK K)
    | ((with_reducible refine thenA_n ?_))
    | ((with_reducible refine thenA_r ?_))
    | ((with_reducible refine thenA_e ?_))
    | ((with_reducible refine block_n ?_))
    | ((with_reducible refine block_r ?_))
    | ((with_reducible refine block_hit ?_))
    | ((with_reducible refine GWp.seq ?_))
    | ((with_reducible refine GWp.block ?_))
    | ((with_reducible refine GWp.skip ?_))
    | ((with_reducible refine GWp.ret ?_))
    | ((with_reducible refine GWp.exit ?_))
    | ((with_reducible refine block_miss ?hd ?_); case hd => rfl)
    | ((with_reducible refine gPost_r ?_); cbv; try simp only [hseg])
    | ((with_reducible refine gPost_n ?_); cbv; try simp only [hseg])
    | ((with_reducible refine fork_t ?_); cbv; try simp only [hseg])
    | ((with_reducible refine fork_f ?_); cbv; try simp only [hseg])
    | ((with_reducible refine GWp.cond_t ?hc ?_); case hc => rfl)
    | ((with_reducible refine GWp.cond_f ?hc ?_); case hc => rfl)
    | ((with_reducible refine GWp.region (base := 0) ?_); intro K hK; cbv; try simp only [hseg])
    | ((with_reducible refine GWp.draws (base := 0) hM ?ho ?_); (case ho => rfl); intro K hK; cbv; try simp only [hseg])
    | ((with_reducible refine need_nil ?_))
    | ((with_reducible refine need_cons ?hp ?_); case hp => first | exact True.intro | with_reducible rfl | exact nn_ok hO (by decide))
    | (fail)
  refine GCall.by ⟨fun _ _ => false, fun _ _ => false, []⟩ ?_
  cbv
  try simp only [hseg]
  refine GCallD.by hP rfl (c_RecOk line els fields he (by omega)) ?_
  rintro res bx ⟨b1, hb1, rfl, rfl⟩
  cbv
  try simp only [hseg]
  cases hbb : b1 with
  | false =>
    simp only [ebn, Bool.not_false]
    repeat' first
      | ((with_reducible refine hK _ ?_); clear hK K)
      | ((with_reducible refine thenA_n ?_))
      | ((with_reducible refine thenA_r ?_))
      | ((with_reducible refine thenA_e ?_))
      | ((with_reducible refine block_n ?_))
      | ((with_reducible refine block_r ?_))
      | ((with_reducible refine block_hit ?_))
      | ((with_reducible refine GWp.seq ?_))
      | ((with_reducible refine GWp.block ?_))
      | ((with_reducible refine GWp.skip ?_))
      | ((with_reducible refine GWp.ret ?_))
      | ((with_reducible refine GWp.exit ?_))
      | ((with_reducible refine block_miss ?hd ?_); case hd => rfl)
      | ((with_reducible refine gPost_r ?_); cbv; try simp only [hseg])
      | ((with_reducible refine gPost_n ?_); cbv; try simp only [hseg])
      | ((with_reducible refine fork_t ?_); cbv; try simp only [hseg])
      | ((with_reducible refine fork_f ?_); cbv; try simp only [hseg])
      | ((with_reducible refine GWp.cond_t ?hc ?_); case hc => rfl)
      | ((with_reducible refine GWp.cond_f ?hc ?_); case hc => rfl)
      | ((with_reducible refine GWp.region (base := 0) ?_); intro K hK; cbv; try simp only [hseg])
      | ((with_reducible refine GWp.draws (base := 0) hM ?ho ?_); (case ho => rfl); intro K hK; cbv; try simp only [hseg])
      | ((with_reducible refine need_nil ?_))
      | ((with_reducible refine need_cons ?hp ?_); case hp => first | exact True.intro | with_reducible rfl | exact nn_ok hO (by decide))
      | (fail)
    refine GCall.by ⟨fun _ _ => false, fun _ _ => false, []⟩ ?_
    cbv
    try simp only [hseg]
    refine GCallD.by hP rfl (c_copyRec line els fields he hl) ?_
    rintro res bx ⟨rfl, rfl⟩
    cbv
    try simp only [hseg]
    repeat' first
      | ((with_reducible refine hK _ ?_); clear hK K)
      | ((with_reducible refine thenA_n ?_))
      | ((with_reducible refine thenA_r ?_))
      | ((with_reducible refine thenA_e ?_))
      | ((with_reducible refine block_n ?_))
      | ((with_reducible refine block_r ?_))
      | ((with_reducible refine block_hit ?_))
      | ((with_reducible refine GWp.seq ?_))
      | ((with_reducible refine GWp.block ?_))
      | ((with_reducible refine GWp.skip ?_))
      | ((with_reducible refine GWp.ret ?_))
      | ((with_reducible refine GWp.exit ?_))
      | ((with_reducible refine block_miss ?hd ?_); case hd => rfl)
      | ((with_reducible refine gPost_r ?_); cbv; try simp only [hseg])
      | ((with_reducible refine gPost_n ?_); cbv; try simp only [hseg])
      | ((with_reducible refine fork_t ?_); cbv; try simp only [hseg])
      | ((with_reducible refine fork_f ?_); cbv; try simp only [hseg])
      | ((with_reducible refine GWp.cond_t ?hc ?_); case hc => rfl)
      | ((with_reducible refine GWp.cond_f ?hc ?_); case hc => rfl)
      | ((with_reducible refine GWp.region (base := 0) ?_); intro K hK; cbv; try simp only [hseg])
      | ((with_reducible refine GWp.draws (base := 0) hM ?ho ?_); (case ho => rfl); intro K hK; cbv; try simp only [hseg])
      | ((with_reducible refine need_nil ?_))
      | ((with_reducible refine need_cons ?hp ?_); case hp => first | exact True.intro | with_reducible rfl | exact nn_ok hO (by decide))
      | (fail)
    refine hR _ _ ⟨line, els, fields, false, ?_, he, rfl, rfl⟩
    rw [setField_bad (.inl (hb1.symm.trans hbb))]
  | true =>
    have hok : recOk line fields = true := hb1.symm.trans hbb
    simp only [ebn, Bool.not_true]
    repeat' first
      | ((with_reducible refine hK _ ?_); clear hK K)
      | ((with_reducible refine thenA_n ?_))
      | ((with_reducible refine thenA_r ?_))
      | ((with_reducible refine thenA_e ?_))
      | ((with_reducible refine block_n ?_))
      | ((with_reducible refine block_r ?_))
      | ((with_reducible refine block_hit ?_))
      | ((with_reducible refine GWp.seq ?_))
      | ((with_reducible refine GWp.block ?_))
      | ((with_reducible refine GWp.skip ?_))
      | ((with_reducible refine GWp.ret ?_))
      | ((with_reducible refine GWp.exit ?_))
      | ((with_reducible refine block_miss ?hd ?_); case hd => rfl)
      | ((with_reducible refine gPost_r ?_); cbv; try simp only [hseg])
      | ((with_reducible refine gPost_n ?_); cbv; try simp only [hseg])
      | ((with_reducible refine fork_t ?_); cbv; try simp only [hseg])
      | ((with_reducible refine fork_f ?_); cbv; try simp only [hseg])
      | ((with_reducible refine GWp.cond_t ?hc ?_); case hc => rfl)
      | ((with_reducible refine GWp.cond_f ?hc ?_); case hc => rfl)
      | ((with_reducible refine GWp.region (base := 0) ?_); intro K hK; cbv; try simp only [hseg])
      | ((with_reducible refine GWp.draws (base := 0) hM ?ho ?_); (case ho => rfl); intro K hK; cbv; try simp only [hseg])
      | ((with_reducible refine need_nil ?_))
      | ((with_reducible refine need_cons ?hp ?_); case hp => first | exact True.intro | with_reducible rfl | exact nn_ok hO (by decide))
      | (fail)
    refine GCall.by ⟨fun _ _ => false, fun _ _ => false, []⟩ ?_
    cbv
    try simp only [hseg]
    refine GCallD.by hP rfl (c_within _ _ _) ?_
    rintro res bx ⟨b2, hb2, rfl, rfl⟩
    cbv
    try simp only [hseg]
    cases hbb2 : b2 with
    | false =>
      simp only [ebn, Bool.not_false]
      repeat' first
        | ((with_reducible refine hK _ ?_); clear hK K)
        | ((with_reducible refine thenA_n ?_))
        | ((with_reducible refine thenA_r ?_))
        | ((with_reducible refine thenA_e ?_))
        | ((with_reducible refine block_n ?_))
        | ((with_reducible refine block_r ?_))
        | ((with_reducible refine block_hit ?_))
        | ((with_reducible refine GWp.seq ?_))
        | ((with_reducible refine GWp.block ?_))
        | ((with_reducible refine GWp.skip ?_))
        | ((with_reducible refine GWp.ret ?_))
        | ((with_reducible refine GWp.exit ?_))
        | ((with_reducible refine block_miss ?hd ?_); case hd => rfl)
        | ((with_reducible refine gPost_r ?_); cbv; try simp only [hseg])
        | ((with_reducible refine gPost_n ?_); cbv; try simp only [hseg])
        | ((with_reducible refine fork_t ?_); cbv; try simp only [hseg])
        | ((with_reducible refine fork_f ?_); cbv; try simp only [hseg])
        | ((with_reducible refine GWp.cond_t ?hc ?_); case hc => rfl)
        | ((with_reducible refine GWp.cond_f ?hc ?_); case hc => rfl)
        | ((with_reducible refine GWp.region (base := 0) ?_); intro K hK; cbv; try simp only [hseg])
        | ((with_reducible refine GWp.draws (base := 0) hM ?ho ?_); (case ho => rfl); intro K hK; cbv; try simp only [hseg])
        | ((with_reducible refine need_nil ?_))
        | ((with_reducible refine need_cons ?hp ?_); case hp => first | exact True.intro | with_reducible rfl | exact nn_ok hO (by decide))
        | (fail)
      refine GCall.by ⟨fun _ _ => false, fun _ _ => false, []⟩ ?_
      cbv
      try simp only [hseg]
      refine GCallD.by hP rfl (c_copyRec line els fields he hl) ?_
      rintro res bx ⟨rfl, rfl⟩
      cbv
      try simp only [hseg]
      repeat' first
        | ((with_reducible refine hK _ ?_); clear hK K)
        | ((with_reducible refine thenA_n ?_))
        | ((with_reducible refine thenA_r ?_))
        | ((with_reducible refine thenA_e ?_))
        | ((with_reducible refine block_n ?_))
        | ((with_reducible refine block_r ?_))
        | ((with_reducible refine block_hit ?_))
        | ((with_reducible refine GWp.seq ?_))
        | ((with_reducible refine GWp.block ?_))
        | ((with_reducible refine GWp.skip ?_))
        | ((with_reducible refine GWp.ret ?_))
        | ((with_reducible refine GWp.exit ?_))
        | ((with_reducible refine block_miss ?hd ?_); case hd => rfl)
        | ((with_reducible refine gPost_r ?_); cbv; try simp only [hseg])
        | ((with_reducible refine gPost_n ?_); cbv; try simp only [hseg])
        | ((with_reducible refine fork_t ?_); cbv; try simp only [hseg])
        | ((with_reducible refine fork_f ?_); cbv; try simp only [hseg])
        | ((with_reducible refine GWp.cond_t ?hc ?_); case hc => rfl)
        | ((with_reducible refine GWp.cond_f ?hc ?_); case hc => rfl)
        | ((with_reducible refine GWp.region (base := 0) ?_); intro K hK; cbv; try simp only [hseg])
        | ((with_reducible refine GWp.draws (base := 0) hM ?ho ?_); (case ho => rfl); intro K hK; cbv; try simp only [hseg])
        | ((with_reducible refine need_nil ?_))
        | ((with_reducible refine need_cons ?hp ?_); case hp => first | exact True.intro | with_reducible rfl | exact nn_ok hO (by decide))
        | (fail)
      refine hR _ _ ⟨line, els, fields, false, ?_, he, rfl, rfl⟩
      rw [setField_bad (.inr (.inl ?_))]
      rw [hbb2] at hb2
      simpa using hb2
    | true =>
      have hin : 0 ≤ x ∧ x ≤ 20 := by rw [hbb2] at hb2; simpa using hb2
      simp only [ebn, Bool.not_true]
      repeat' first
        | ((with_reducible refine hK _ ?_); clear hK K)
        | ((with_reducible refine thenA_n ?_))
        | ((with_reducible refine thenA_r ?_))
        | ((with_reducible refine thenA_e ?_))
        | ((with_reducible refine block_n ?_))
        | ((with_reducible refine block_r ?_))
        | ((with_reducible refine block_hit ?_))
        | ((with_reducible refine GWp.seq ?_))
        | ((with_reducible refine GWp.block ?_))
        | ((with_reducible refine GWp.skip ?_))
        | ((with_reducible refine GWp.ret ?_))
        | ((with_reducible refine GWp.exit ?_))
        | ((with_reducible refine block_miss ?hd ?_); case hd => rfl)
        | ((with_reducible refine gPost_r ?_); cbv; try simp only [hseg])
        | ((with_reducible refine gPost_n ?_); cbv; try simp only [hseg])
        | ((with_reducible refine fork_t ?_); cbv; try simp only [hseg])
        | ((with_reducible refine fork_f ?_); cbv; try simp only [hseg])
        | ((with_reducible refine GWp.cond_t ?hc ?_); case hc => rfl)
        | ((with_reducible refine GWp.cond_f ?hc ?_); case hc => rfl)
        | ((with_reducible refine GWp.region (base := 0) ?_); intro K hK; cbv; try simp only [hseg])
        | ((with_reducible refine GWp.draws (base := 0) hM ?ho ?_); (case ho => rfl); intro K hK; cbv; try simp only [hseg])
        | ((with_reducible refine need_nil ?_))
        | ((with_reducible refine need_cons ?hp ?_); case hp => first | exact True.intro | with_reducible rfl | exact nn_ok hO (by decide))
        | (fail)
      refine GWp.cond rfl (fun h3 => ?_) (fun h3 => ?_)
      · have h200 : 200 < s.size := by
          try clear hK K
          clear hM hP hC hR; cases hO
          simp only [Ops.std, stdCmp, stdBin, scmp_eql, scmp_neq, stdUn, Int.ofNat_eq_natCast] at *
          simp at h3; omega
        repeat' first
          | ((with_reducible refine hK _ ?_); clear hK K)
          | ((with_reducible refine thenA_n ?_))
          | ((with_reducible refine thenA_r ?_))
          | ((with_reducible refine thenA_e ?_))
          | ((with_reducible refine block_n ?_))
          | ((with_reducible refine block_r ?_))
          | ((with_reducible refine block_hit ?_))
          | ((with_reducible refine GWp.seq ?_))
          | ((with_reducible refine GWp.block ?_))
          | ((with_reducible refine GWp.skip ?_))
          | ((with_reducible refine GWp.ret ?_))
          | ((with_reducible refine GWp.exit ?_))
          | ((with_reducible refine block_miss ?hd ?_); case hd => rfl)
          | ((with_reducible refine gPost_r ?_); cbv; try simp only [hseg])
          | ((with_reducible refine gPost_n ?_); cbv; try simp only [hseg])
          | ((with_reducible refine fork_t ?_); cbv; try simp only [hseg])
          | ((with_reducible refine fork_f ?_); cbv; try simp only [hseg])
          | ((with_reducible refine GWp.cond_t ?hc ?_); case hc => rfl)
          | ((with_reducible refine GWp.cond_f ?hc ?_); case hc => rfl)
          | ((with_reducible refine GWp.region (base := 0) ?_); intro K hK; cbv; try simp only [hseg])
          | ((with_reducible refine GWp.draws (base := 0) hM ?ho ?_); (case ho => rfl); intro K hK; cbv; try simp only [hseg])
          | ((with_reducible refine need_nil ?_))
          | ((with_reducible refine need_cons ?hp ?_); case hp => first | exact True.intro | with_reducible rfl | exact nn_ok hO (by decide))
          | (fail)
        refine GCall.by ⟨fun _ _ => false, fun _ _ => false, []⟩ ?_
        cbv
        try simp only [hseg]
        refine GCallD.by hP rfl (c_copyRec line els fields he hl) ?_
        rintro res bx ⟨rfl, rfl⟩
        cbv
        try simp only [hseg]
        repeat' first
          | ((with_reducible refine hK _ ?_); clear hK K)
          | ((with_reducible refine thenA_n ?_))
          | ((with_reducible refine thenA_r ?_))
          | ((with_reducible refine thenA_e ?_))
          | ((with_reducible refine block_n ?_))
          | ((with_reducible refine block_r ?_))
          | ((with_reducible refine block_hit ?_))
          | ((with_reducible refine GWp.seq ?_))
          | ((with_reducible refine GWp.block ?_))
          | ((with_reducible refine GWp.skip ?_))
          | ((with_reducible refine GWp.ret ?_))
          | ((with_reducible refine GWp.exit ?_))
          | ((with_reducible refine block_miss ?hd ?_); case hd => rfl)
          | ((with_reducible refine gPost_r ?_); cbv; try simp only [hseg])
          | ((with_reducible refine gPost_n ?_); cbv; try simp only [hseg])
          | ((with_reducible refine fork_t ?_); cbv; try simp only [hseg])
          | ((with_reducible refine fork_f ?_); cbv; try simp only [hseg])
          | ((with_reducible refine GWp.cond_t ?hc ?_); case hc => rfl)
          | ((with_reducible refine GWp.cond_f ?hc ?_); case hc => rfl)
          | ((with_reducible refine GWp.region (base := 0) ?_); intro K hK; cbv; try simp only [hseg])
          | ((with_reducible refine GWp.draws (base := 0) hM ?ho ?_); (case ho => rfl); intro K hK; cbv; try simp only [hseg])
          | ((with_reducible refine need_nil ?_))
          | ((with_reducible refine need_cons ?hp ?_); case hp => first | exact True.intro | with_reducible rfl | exact nn_ok hO (by decide))
          | (fail)
        refine hR _ _ ⟨line, els, fields, false, ?_, he, rfl, rfl⟩
        rw [setField_bad (.inr (.inr h200))]
      have h200 : s.size ≤ 200 := by
        try clear hK K
        clear hM hP hC hR; cases hO
        simp only [Ops.std, stdCmp, stdBin, scmp_eql, scmp_neq, stdUn, Int.ofNat_eq_natCast] at *
        simp at h3; omega
      repeat' first
        | ((with_reducible refine hK _ ?_); clear hK K)
        | ((with_reducible refine thenA_n ?_))
        | ((with_reducible refine thenA_r ?_))
        | ((with_reducible refine thenA_e ?_))
        | ((with_reducible refine block_n ?_))
        | ((with_reducible refine block_r ?_))
        | ((with_reducible refine block_hit ?_))
        | ((with_reducible refine GWp.seq ?_))
        | ((with_reducible refine GWp.block ?_))
        | ((with_reducible refine GWp.skip ?_))
        | ((with_reducible refine GWp.ret ?_))
        | ((with_reducible refine GWp.exit ?_))
        | ((with_reducible refine block_miss ?hd ?_); case hd => rfl)
        | ((with_reducible refine gPost_r ?_); cbv; try simp only [hseg])
        | ((with_reducible refine gPost_n ?_); cbv; try simp only [hseg])
        | ((with_reducible refine fork_t ?_); cbv; try simp only [hseg])
        | ((with_reducible refine fork_f ?_); cbv; try simp only [hseg])
        | ((with_reducible refine GWp.cond_t ?hc ?_); case hc => rfl)
        | ((with_reducible refine GWp.cond_f ?hc ?_); case hc => rfl)
        | ((with_reducible refine GWp.region (base := 0) ?_); intro K hK; cbv; try simp only [hseg])
        | ((with_reducible refine GWp.draws (base := 0) hM ?ho ?_); (case ho => rfl); intro K hK; cbv; try simp only [hseg])
        | ((with_reducible refine need_nil ?_))
        | ((with_reducible refine need_cons ?hp ?_); case hp => first | exact True.intro | with_reducible rfl | exact nn_ok hO (by decide))
        | (fail)
      refine GWp.cond rfl (fun h4 => ?_) (fun h4 => ?_)
      · have hx0 : x = 0 := by
          try clear hK K
          clear hM hP hC hR; cases hO
          simp only [Ops.std, stdCmp, stdBin, scmp_eql, scmp_neq, stdUn, Int.ofNat_eq_natCast] at *
          simpa using h4
        repeat' first
          | ((with_reducible refine hK _ ?_); clear hK K)
          | ((with_reducible refine thenA_n ?_))
          | ((with_reducible refine thenA_r ?_))
          | ((with_reducible refine thenA_e ?_))
          | ((with_reducible refine block_n ?_))
          | ((with_reducible refine block_r ?_))
          | ((with_reducible refine block_hit ?_))
          | ((with_reducible refine GWp.seq ?_))
          | ((with_reducible refine GWp.block ?_))
          | ((with_reducible refine GWp.skip ?_))
          | ((with_reducible refine GWp.ret ?_))
          | ((with_reducible refine GWp.exit ?_))
          | ((with_reducible refine block_miss ?hd ?_); case hd => rfl)
          | ((with_reducible refine gPost_r ?_); cbv; try simp only [hseg])
          | ((with_reducible refine gPost_n ?_); cbv; try simp only [hseg])
          | ((with_reducible refine fork_t ?_); cbv; try simp only [hseg])
          | ((with_reducible refine fork_f ?_); cbv; try simp only [hseg])
          | ((with_reducible refine GWp.cond_t ?hc ?_); case hc => rfl)
          | ((with_reducible refine GWp.cond_f ?hc ?_); case hc => rfl)
          | ((with_reducible refine GWp.region (base := 0) ?_); intro K hK; cbv; try simp only [hseg])
          | ((with_reducible refine GWp.draws (base := 0) hM ?ho ?_); (case ho => rfl); intro K hK; cbv; try simp only [hseg])
          | ((with_reducible refine need_nil ?_))
          | ((with_reducible refine need_cons ?hp ?_); case hp => first | exact True.intro | with_reducible rfl | exact nn_ok hO (by decide))
          | (fail)
        refine GCall.by ⟨fun _ _ => false, fun _ _ => false, []⟩ ?_
        cbv
        try simp only [hseg]
        refine GCallD.by hP rfl (c_RecOf s hs) ?_
        rintro res bx ⟨line2, els2, hl2, he2, rfl, rfl⟩
        cbv
        try simp only [hseg]
        repeat' first
          | ((with_reducible refine hK _ ?_); clear hK K)
          | ((with_reducible refine thenA_n ?_))
          | ((with_reducible refine thenA_r ?_))
          | ((with_reducible refine thenA_e ?_))
          | ((with_reducible refine block_n ?_))
          | ((with_reducible refine block_r ?_))
          | ((with_reducible refine block_hit ?_))
          | ((with_reducible refine GWp.seq ?_))
          | ((with_reducible refine GWp.block ?_))
          | ((with_reducible refine GWp.skip ?_))
          | ((with_reducible refine GWp.ret ?_))
          | ((with_reducible refine GWp.exit ?_))
          | ((with_reducible refine block_miss ?hd ?_); case hd => rfl)
          | ((with_reducible refine gPost_r ?_); cbv; try simp only [hseg])
          | ((with_reducible refine gPost_n ?_); cbv; try simp only [hseg])
          | ((with_reducible refine fork_t ?_); cbv; try simp only [hseg])
          | ((with_reducible refine fork_f ?_); cbv; try simp only [hseg])
          | ((with_reducible refine GWp.cond_t ?hc ?_); case hc => rfl)
          | ((with_reducible refine GWp.cond_f ?hc ?_); case hc => rfl)
          | ((with_reducible refine GWp.region (base := 0) ?_); intro K hK; cbv; try simp only [hseg])
          | ((with_reducible refine GWp.draws (base := 0) hM ?ho ?_); (case ho => rfl); intro K hK; cbv; try simp only [hseg])
          | ((with_reducible refine need_nil ?_))
          | ((with_reducible refine need_cons ?hp ?_); case hp => first | exact True.intro | with_reducible rfl | exact nn_ok hO (by decide))
          | (fail)
        refine hR _ _ ⟨line2, els2, recFields s, true, ?_, he2, rfl, rfl⟩
        rw [setField_zero hok hx0 h200, hl2]
      have hx0 : x ≠ 0 := by
        try clear hK K
        clear hM hP hC hR; cases hO
        simp only [Ops.std, stdCmp, stdBin, scmp_eql, scmp_neq, stdUn, Int.ofNat_eq_natCast] at *
        simpa using h4
      repeat' first
        | ((with_reducible refine hK _ ?_); clear hK K)
        | ((with_reducible refine thenA_n ?_))
        | ((with_reducible refine thenA_r ?_))
        | ((with_reducible refine thenA_e ?_))
        | ((with_reducible refine block_n ?_))
        | ((with_reducible refine block_r ?_))
        | ((with_reducible refine block_hit ?_))
        | ((with_reducible refine GWp.seq ?_))
        | ((with_reducible refine GWp.block ?_))
        | ((with_reducible refine GWp.skip ?_))
        | ((with_reducible refine GWp.ret ?_))
        | ((with_reducible refine GWp.exit ?_))
        | ((with_reducible refine block_miss ?hd ?_); case hd => rfl)
        | ((with_reducible refine gPost_r ?_); cbv; try simp only [hseg])
        | ((with_reducible refine gPost_n ?_); cbv; try simp only [hseg])
        | ((with_reducible refine fork_t ?_); cbv; try simp only [hseg])
        | ((with_reducible refine fork_f ?_); cbv; try simp only [hseg])
        | ((with_reducible refine GWp.cond_t ?hc ?_); case hc => rfl)
        | ((with_reducible refine GWp.cond_f ?hc ?_); case hc => rfl)
        | ((with_reducible refine GWp.region (base := 0) ?_); intro K hK; cbv; try simp only [hseg])
        | ((with_reducible refine GWp.draws (base := 0) hM ?ho ?_); (case ho => rfl); intro K hK; cbv; try simp only [hseg])
        | ((with_reducible refine need_nil ?_))
        | ((with_reducible refine need_cons ?hp ?_); case hp => first | exact True.intro | with_reducible rfl | exact nn_ok hO (by decide))
        | (fail)
      refine GCall.by ⟨fun _ _ => false, fun _ _ => false, []⟩ ?_
      cbv
      try simp only [hseg]
      refine GCallD.by hP rfl (c_copyRec line els fields he hl) ?_
      rintro res bx ⟨rfl, rfl⟩
      cbv
      try simp only [hseg]
      repeat' first
        | ((with_reducible refine hK _ ?_); clear hK K)
        | ((with_reducible refine thenA_n ?_))
        | ((with_reducible refine thenA_r ?_))
        | ((with_reducible refine thenA_e ?_))
        | ((with_reducible refine block_n ?_))
        | ((with_reducible refine block_r ?_))
        | ((with_reducible refine block_hit ?_))
        | ((with_reducible refine GWp.seq ?_))
        | ((with_reducible refine GWp.block ?_))
        | ((with_reducible refine GWp.skip ?_))
        | ((with_reducible refine GWp.ret ?_))
        | ((with_reducible refine GWp.exit ?_))
        | ((with_reducible refine block_miss ?hd ?_); case hd => rfl)
        | ((with_reducible refine gPost_r ?_); cbv; try simp only [hseg])
        | ((with_reducible refine gPost_n ?_); cbv; try simp only [hseg])
        | ((with_reducible refine fork_t ?_); cbv; try simp only [hseg])
        | ((with_reducible refine fork_f ?_); cbv; try simp only [hseg])
        | ((with_reducible refine GWp.cond_t ?hc ?_); case hc => rfl)
        | ((with_reducible refine GWp.cond_f ?hc ?_); case hc => rfl)
        | ((with_reducible refine GWp.region (base := 0) ?_); intro K hK; cbv; try simp only [hseg])
        | ((with_reducible refine GWp.draws (base := 0) hM ?ho ?_); (case ho => rfl); intro K hK; cbv; try simp only [hseg])
        | ((with_reducible refine need_nil ?_))
        | ((with_reducible refine need_cons ?hp ?_); case hp => first | exact True.intro | with_reducible rfl | exact nn_ok hO (by decide))
        | (fail)
      refine GWp.loop (nb := 3) (keep := fun t => t == 1 || t == 2 || t == 3 || t == 6 || t == 8) (kk := fun _ _ => none) (inv16 line els fields x s) (by simp at hC; simp [hC]) ?_ ?_
      · cbv
        exact ⟨_, els, 0, by cbv, by rw [he]; simp, .inl rfl, rfl⟩
      rintro n σ ⟨els3, k, rfl, he3, hk, rfl⟩
      have hf20 := recOk_len hok
      have hlen : len els3 = fields.length + k := by cases hO; subst he3; simp
      repeat' first
        | ((with_reducible refine hK _ ?_); clear hK K)
        | ((with_reducible refine thenA_n ?_))
        | ((with_reducible refine thenA_r ?_))
        | ((with_reducible refine thenA_e ?_))
        | ((with_reducible refine block_n ?_))
        | ((with_reducible refine block_r ?_))
        | ((with_reducible refine block_hit ?_))
        | ((with_reducible refine GWp.seq ?_))
        | ((with_reducible refine GWp.block ?_))
        | ((with_reducible refine GWp.skip ?_))
        | ((with_reducible refine GWp.ret ?_))
        | ((with_reducible refine GWp.exit ?_))
        | ((with_reducible refine block_miss ?hd ?_); case hd => rfl)
        | ((with_reducible refine gPost_r ?_); cbv; try simp only [hseg])
        | ((with_reducible refine gPost_n ?_); cbv; try simp only [hseg])
        | ((with_reducible refine fork_t ?_); cbv; try simp only [hseg])
        | ((with_reducible refine fork_f ?_); cbv; try simp only [hseg])
        | ((with_reducible refine GWp.cond_t ?hc ?_); case hc => rfl)
        | ((with_reducible refine GWp.cond_f ?hc ?_); case hc => rfl)
        | ((with_reducible refine GWp.region (base := 0) ?_); intro K hK; cbv; try simp only [hseg])
        | ((with_reducible refine GWp.draws (base := 0) hM ?ho ?_); (case ho => rfl); intro K hK; cbv; try simp only [hseg])
        | ((with_reducible refine need_nil ?_))
        | ((with_reducible refine need_cons ?hp ?_); case hp => first | exact True.intro | with_reducible rfl | exact nn_ok hO (by decide))
        | (fail)
      refine GWp.cond rfl (fun h5 => ?_) (fun h5 => ?_)
      · have hlt : Int.ofNat (fields.length + k) < x := by
          try clear hK K
          clear hM hP hC hR; cases hO
          simp only [Ops.std, stdCmp, stdBin, scmp_eql, scmp_neq, stdUn, Int.ofNat_eq_natCast] at *
          simp at h5; omega
        have hlt2 : fields.length + k < x.toNat := by simp only [Int.ofNat_eq_natCast] at hlt; omega
        repeat' first
          | ((with_reducible refine hK _ ?_); clear hK K)
          | ((with_reducible refine thenA_n ?_))
          | ((with_reducible refine thenA_r ?_))
          | ((with_reducible refine thenA_e ?_))
          | ((with_reducible refine block_n ?_))
          | ((with_reducible refine block_r ?_))
          | ((with_reducible refine block_hit ?_))
          | ((with_reducible refine GWp.seq ?_))
          | ((with_reducible refine GWp.block ?_))
          | ((with_reducible refine GWp.skip ?_))
          | ((with_reducible refine GWp.ret ?_))
          | ((with_reducible refine GWp.exit ?_))
          | ((with_reducible refine block_miss ?hd ?_); case hd => rfl)
          | ((with_reducible refine gPost_r ?_); cbv; try simp only [hseg])
          | ((with_reducible refine gPost_n ?_); cbv; try simp only [hseg])
          | ((with_reducible refine fork_t ?_); cbv; try simp only [hseg])
          | ((with_reducible refine fork_f ?_); cbv; try simp only [hseg])
          | ((with_reducible refine GWp.cond_t ?hc ?_); case hc => rfl)
          | ((with_reducible refine GWp.cond_f ?hc ?_); case hc => rfl)
          | ((with_reducible refine GWp.region (base := 0) ?_); intro K hK; cbv; try simp only [hseg])
          | ((with_reducible refine GWp.draws (base := 0) hM ?ho ?_); (case ho => rfl); intro K hK; cbv; try simp only [hseg])
          | ((with_reducible refine need_nil ?_))
          | ((with_reducible refine need_cons ?hp ?_); case hp => first | exact True.intro | with_reducible rfl | exact nn_ok hO (by decide))
          | (fail)
        refine need_cons (by
          try clear hK K
          clear hM hP hC hR; cases hO
          simp only [Ops.std, stdCmp, stdBin, scmp_eql, scmp_neq, stdUn, Int.ofNat_eq_natCast] at *
          simp) ?_
        refine need_cons (aOk_of hO ?_ ?_) (need_nil ?_)
        · subst he3; simp; omega
        · subst he3; simp; omega
        have ea : app els3 [[T.lit (.string ⟨#[]⟩)]] = strs (fields ++ List.replicate (k + 1) ⟨#[]⟩) := by
          rw [List.replicate_succ', ← List.append_assoc]
          exact app_strs hO he3 _
        generalize app els3 [[T.lit (.string ⟨#[]⟩)]] = els4 at ea ⊢
        repeat' first
          | ((with_reducible refine hK _ ?_); clear hK K)
          | ((with_reducible refine thenA_n ?_))
          | ((with_reducible refine thenA_r ?_))
          | ((with_reducible refine thenA_e ?_))
          | ((with_reducible refine block_n ?_))
          | ((with_reducible refine block_r ?_))
          | ((with_reducible refine block_hit ?_))
          | ((with_reducible refine GWp.seq ?_))
          | ((with_reducible refine GWp.block ?_))
          | ((with_reducible refine GWp.skip ?_))
          | ((with_reducible refine GWp.ret ?_))
          | ((with_reducible refine GWp.exit ?_))
          | ((with_reducible refine block_miss ?hd ?_); case hd => rfl)
          | ((with_reducible refine gPost_r ?_); cbv; try simp only [hseg])
          | ((with_reducible refine gPost_n ?_); cbv; try simp only [hseg])
          | ((with_reducible refine fork_t ?_); cbv; try simp only [hseg])
          | ((with_reducible refine fork_f ?_); cbv; try simp only [hseg])
          | ((with_reducible refine GWp.cond_t ?hc ?_); case hc => rfl)
          | ((with_reducible refine GWp.cond_f ?hc ?_); case hc => rfl)
          | ((with_reducible refine GWp.region (base := 0) ?_); intro K hK; cbv; try simp only [hseg])
          | ((with_reducible refine GWp.draws (base := 0) hM ?ho ?_); (case ho => rfl); intro K hK; cbv; try simp only [hseg])
          | ((with_reducible refine need_nil ?_))
          | ((with_reducible refine need_cons ?hp ?_); case hp => first | exact True.intro | with_reducible rfl | exact nn_ok hO (by decide))
          | (fail)
        cbv
        exact ⟨x.toNat - (fields.length + (k + 1)), by omega, els4, k + 1, by cbv, ea, .inr (by omega), rfl⟩
      · have hge : x ≤ Int.ofNat (fields.length + k) := by
          try clear hK K
          clear hM hP hC hR; cases hO
          simp only [Ops.std, stdCmp, stdBin, scmp_eql, scmp_neq, stdUn, Int.ofNat_eq_natCast] at *
          simp at h5; omega
        have hge2 : x.toNat ≤ fields.length + k := by simp only [Int.ofNat_eq_natCast] at hge; omega
        have hpad : fields ++ List.replicate k ⟨#[]⟩ = padTo fields x.toNat := pad_done hk hge2
        rw [hpad] at he3
        have hpl : (padTo fields x.toNat).length = fields.length + k := by rw [← hpad]; simp
        have esub : bin .sub .i64 x 1 = x - 1 := by cases hO; exact i64_id (by omega)
        have eidx : nadd 0 (nat (x - 1)) = x.toNat - 1 := by cases hO; simp only [Ops.std]; omega
        have eset : set els3 (x.toNat - 1) [T.lit (.string s)] = strs ((padTo fields x.toNat).set (x.toNat - 1) s) := by cases hO; subst he3; simp [Ops.std, strs, List.map_set]
        have hone : one els3 (x.toNat - 1) 1 := by
          cases hO; subst he3
          refine ⟨by simp; omega, ?_⟩
          rw [strs_get _ _ (by omega)]; rfl
        have hsz : ∀ f ∈ (padTo fields x.toNat).set (x.toNat - 1) s, f.size ≤ 1048576 := pad_size hok h200
        have hlong := setField_long (n := x) (s := s) hok hin h200 hx0
        have hdone := setField_done (n := x) (s := s) hok hin h200 hx0
        generalize hout : (padTo fields x.toNat).set (x.toNat - 1) s = out at eset hsz hlong hdone
        have hol : out.length = fields.length + k := by rw [← hout]; simp [hpl]
        have hk20 : fields.length + k ≤ 40 := by omega
        have hidx : 0 ≤ x - 1 ∧ x - 1 < Int.ofNat (len els3) := by rw [hlen]; simp only [Int.ofNat_eq_natCast]; omega
        clear hout hpl
        generalize hxm : x - 1 = xm at esub eidx hidx
        generalize hix : x.toNat - 1 = ix at eidx eset hone
        generalize hset : set els3 ix [T.lit (.string s)] = els4 at eset
        repeat' first
          | ((with_reducible refine hK _ ?_); clear hK K)
          | ((with_reducible refine thenA_n ?_))
          | ((with_reducible refine thenA_r ?_))
          | ((with_reducible refine thenA_e ?_))
          | ((with_reducible refine block_n ?_))
          | ((with_reducible refine block_r ?_))
          | ((with_reducible refine block_hit ?_))
          | ((with_reducible refine GWp.seq ?_))
          | ((with_reducible refine GWp.block ?_))
          | ((with_reducible refine GWp.skip ?_))
          | ((with_reducible refine GWp.ret ?_))
          | ((with_reducible refine GWp.exit ?_))
          | ((with_reducible refine block_miss ?hd ?_); case hd => rfl)
          | ((with_reducible refine gPost_r ?_); cbv; try simp only [hseg])
          | ((with_reducible refine gPost_n ?_); cbv; try simp only [hseg])
          | ((with_reducible refine fork_t ?_); cbv; try simp only [hseg])
          | ((with_reducible refine fork_f ?_); cbv; try simp only [hseg])
          | ((with_reducible refine GWp.cond_t ?hc ?_); case hc => rfl)
          | ((with_reducible refine GWp.cond_f ?hc ?_); case hc => rfl)
          | ((with_reducible refine GWp.region (base := 0) ?_); intro K hK; cbv; try simp only [hseg])
          | ((with_reducible refine GWp.draws (base := 0) hM ?ho ?_); (case ho => rfl); intro K hK; cbv; try simp only [hseg])
          | ((with_reducible refine need_nil ?_))
          | ((with_reducible refine need_cons ?hp ?_); case hp => first | exact True.intro | with_reducible rfl | exact nn_ok hO (by decide))
          | (fail)
        simp only [esub, eidx, hset]
        refine need_cons (idx_of hO hidx) (need_cons hone (need_nil ?_))
        repeat' first
          | ((with_reducible refine hK _ ?_); clear hK K)
          | ((with_reducible refine thenA_n ?_))
          | ((with_reducible refine thenA_r ?_))
          | ((with_reducible refine thenA_e ?_))
          | ((with_reducible refine block_n ?_))
          | ((with_reducible refine block_r ?_))
          | ((with_reducible refine block_hit ?_))
          | ((with_reducible refine GWp.seq ?_))
          | ((with_reducible refine GWp.block ?_))
          | ((with_reducible refine GWp.skip ?_))
          | ((with_reducible refine GWp.ret ?_))
          | ((with_reducible refine GWp.exit ?_))
          | ((with_reducible refine block_miss ?hd ?_); case hd => rfl)
          | ((with_reducible refine gPost_r ?_); cbv; try simp only [hseg])
          | ((with_reducible refine gPost_n ?_); cbv; try simp only [hseg])
          | ((with_reducible refine fork_t ?_); cbv; try simp only [hseg])
          | ((with_reducible refine fork_f ?_); cbv; try simp only [hseg])
          | ((with_reducible refine GWp.cond_t ?hc ?_); case hc => rfl)
          | ((with_reducible refine GWp.cond_f ?hc ?_); case hc => rfl)
          | ((with_reducible refine GWp.region (base := 0) ?_); intro K hK; cbv; try simp only [hseg])
          | ((with_reducible refine GWp.draws (base := 0) hM ?ho ?_); (case ho => rfl); intro K hK; cbv; try simp only [hseg])
          | ((with_reducible refine need_nil ?_))
          | ((with_reducible refine need_cons ?hp ?_); case hp => first | exact True.intro | with_reducible rfl | exact nn_ok hO (by decide))
          | (fail)
        refine GCall.by ⟨fun _ _ => false, fun _ _ => false, []⟩ ?_
        cbv
        try simp only [hseg]
        refine GCallD.by hP rfl (c_JoinTexts els4 out eset (by omega) hsz) ?_
        rintro res bx ⟨j, hj, rfl, rfl⟩
        cbv
        try simp only [hseg]
        repeat' first
          | ((with_reducible refine hK _ ?_); clear hK K)
          | ((with_reducible refine thenA_n ?_))
          | ((with_reducible refine thenA_r ?_))
          | ((with_reducible refine thenA_e ?_))
          | ((with_reducible refine block_n ?_))
          | ((with_reducible refine block_r ?_))
          | ((with_reducible refine block_hit ?_))
          | ((with_reducible refine GWp.seq ?_))
          | ((with_reducible refine GWp.block ?_))
          | ((with_reducible refine GWp.skip ?_))
          | ((with_reducible refine GWp.ret ?_))
          | ((with_reducible refine GWp.exit ?_))
          | ((with_reducible refine block_miss ?hd ?_); case hd => rfl)
          | ((with_reducible refine gPost_r ?_); cbv; try simp only [hseg])
          | ((with_reducible refine gPost_n ?_); cbv; try simp only [hseg])
          | ((with_reducible refine fork_t ?_); cbv; try simp only [hseg])
          | ((with_reducible refine fork_f ?_); cbv; try simp only [hseg])
          | ((with_reducible refine GWp.cond_t ?hc ?_); case hc => rfl)
          | ((with_reducible refine GWp.cond_f ?hc ?_); case hc => rfl)
          | ((with_reducible refine GWp.region (base := 0) ?_); intro K hK; cbv; try simp only [hseg])
          | ((with_reducible refine GWp.draws (base := 0) hM ?ho ?_); (case ho => rfl); intro K hK; cbv; try simp only [hseg])
          | ((with_reducible refine need_nil ?_))
          | ((with_reducible refine need_cons ?hp ?_); case hp => first | exact True.intro | with_reducible rfl | exact nn_ok hO (by decide))
          | (fail)
        refine GWp.cond rfl (fun h6 => ?_) (fun h6 => ?_)
        · have h7 : 200 < j.size := by
            try clear hK K
            clear hM hP hC hR; cases hO
            simp only [Ops.std, stdCmp, stdBin, scmp_eql, scmp_neq, stdUn, Int.ofNat_eq_natCast] at *
            simp at h6; omega
          repeat' first
            | ((with_reducible refine hK _ ?_); clear hK K)
            | ((with_reducible refine thenA_n ?_))
            | ((with_reducible refine thenA_r ?_))
            | ((with_reducible refine thenA_e ?_))
            | ((with_reducible refine block_n ?_))
            | ((with_reducible refine block_r ?_))
            | ((with_reducible refine block_hit ?_))
            | ((with_reducible refine GWp.seq ?_))
            | ((with_reducible refine GWp.block ?_))
            | ((with_reducible refine GWp.skip ?_))
            | ((with_reducible refine GWp.ret ?_))
            | ((with_reducible refine GWp.exit ?_))
            | ((with_reducible refine block_miss ?hd ?_); case hd => rfl)
            | ((with_reducible refine gPost_r ?_); cbv; try simp only [hseg])
            | ((with_reducible refine gPost_n ?_); cbv; try simp only [hseg])
            | ((with_reducible refine fork_t ?_); cbv; try simp only [hseg])
            | ((with_reducible refine fork_f ?_); cbv; try simp only [hseg])
            | ((with_reducible refine GWp.cond_t ?hc ?_); case hc => rfl)
            | ((with_reducible refine GWp.cond_f ?hc ?_); case hc => rfl)
            | ((with_reducible refine GWp.region (base := 0) ?_); intro K hK; cbv; try simp only [hseg])
            | ((with_reducible refine GWp.draws (base := 0) hM ?ho ?_); (case ho => rfl); intro K hK; cbv; try simp only [hseg])
            | ((with_reducible refine need_nil ?_))
            | ((with_reducible refine need_cons ?hp ?_); case hp => first | exact True.intro | with_reducible rfl | exact nn_ok hO (by decide))
            | (fail)
          refine GCall.by ⟨fun _ _ => false, fun _ _ => false, []⟩ ?_
          cbv
          try simp only [hseg]
          refine GCallD.by hP rfl (c_copyRec line els fields he hl) ?_
          rintro res bx ⟨rfl, rfl⟩
          cbv
          try simp only [hseg]
          repeat' first
            | ((with_reducible refine hK _ ?_); clear hK K)
            | ((with_reducible refine thenA_n ?_))
            | ((with_reducible refine thenA_r ?_))
            | ((with_reducible refine thenA_e ?_))
            | ((with_reducible refine block_n ?_))
            | ((with_reducible refine block_r ?_))
            | ((with_reducible refine block_hit ?_))
            | ((with_reducible refine GWp.seq ?_))
            | ((with_reducible refine GWp.block ?_))
            | ((with_reducible refine GWp.skip ?_))
            | ((with_reducible refine GWp.ret ?_))
            | ((with_reducible refine GWp.exit ?_))
            | ((with_reducible refine block_miss ?hd ?_); case hd => rfl)
            | ((with_reducible refine gPost_r ?_); cbv; try simp only [hseg])
            | ((with_reducible refine gPost_n ?_); cbv; try simp only [hseg])
            | ((with_reducible refine fork_t ?_); cbv; try simp only [hseg])
            | ((with_reducible refine fork_f ?_); cbv; try simp only [hseg])
            | ((with_reducible refine GWp.cond_t ?hc ?_); case hc => rfl)
            | ((with_reducible refine GWp.cond_f ?hc ?_); case hc => rfl)
            | ((with_reducible refine GWp.region (base := 0) ?_); intro K hK; cbv; try simp only [hseg])
            | ((with_reducible refine GWp.draws (base := 0) hM ?ho ?_); (case ho => rfl); intro K hK; cbv; try simp only [hseg])
            | ((with_reducible refine need_nil ?_))
            | ((with_reducible refine need_cons ?hp ?_); case hp => first | exact True.intro | with_reducible rfl | exact nn_ok hO (by decide))
            | (fail)
          refine hR _ _ ⟨line, els, fields, false, ?_, he, rfl, rfl⟩
          rw [hlong (by rw [← hj]; exact h7)]
        · have h7 : ¬ 200 < j.size := by
            try clear hK K
            clear hM hP hC hR; cases hO
            simp only [Ops.std, stdCmp, stdBin, scmp_eql, scmp_neq, stdUn, Int.ofNat_eq_natCast] at *
            simp at h6; omega
          repeat' first
            | ((with_reducible refine hK _ ?_); clear hK K)
            | ((with_reducible refine thenA_n ?_))
            | ((with_reducible refine thenA_r ?_))
            | ((with_reducible refine thenA_e ?_))
            | ((with_reducible refine block_n ?_))
            | ((with_reducible refine block_r ?_))
            | ((with_reducible refine block_hit ?_))
            | ((with_reducible refine GWp.seq ?_))
            | ((with_reducible refine GWp.block ?_))
            | ((with_reducible refine GWp.skip ?_))
            | ((with_reducible refine GWp.ret ?_))
            | ((with_reducible refine GWp.exit ?_))
            | ((with_reducible refine block_miss ?hd ?_); case hd => rfl)
            | ((with_reducible refine gPost_r ?_); cbv; try simp only [hseg])
            | ((with_reducible refine gPost_n ?_); cbv; try simp only [hseg])
            | ((with_reducible refine fork_t ?_); cbv; try simp only [hseg])
            | ((with_reducible refine fork_f ?_); cbv; try simp only [hseg])
            | ((with_reducible refine GWp.cond_t ?hc ?_); case hc => rfl)
            | ((with_reducible refine GWp.cond_f ?hc ?_); case hc => rfl)
            | ((with_reducible refine GWp.region (base := 0) ?_); intro K hK; cbv; try simp only [hseg])
            | ((with_reducible refine GWp.draws (base := 0) hM ?ho ?_); (case ho => rfl); intro K hK; cbv; try simp only [hseg])
            | ((with_reducible refine need_nil ?_))
            | ((with_reducible refine need_cons ?hp ?_); case hp => first | exact True.intro | with_reducible rfl | exact nn_ok hO (by decide))
            | (fail)
          refine hR _ _ ⟨j, els4, out, true, ?_, eset, rfl, rfl⟩
          rw [hdone (by rw [← hj]; exact h7), hj]

def inv17 (line : ByteArray) (els : List (List T)) (fields : List ByteArray) (x : Int) (s : ByteArray) (n : Nat) (σ : AS) : Prop := ∃ (els3 : List (List T)) (k : Nat),
  σ = ⟨vag 57 [(1, litI x), (2, litS s), (3, ⟨.one, [.ptr 0 0]⟩), (6, ⟨.one, [.ptr 1 0]⟩), (8, ⟨.one, [.ptr 2 0]⟩)], [some [.lit (.string line), .ro false els], some [.lit (.string ⟨#[]⟩), .nil], some [.lit (.string line), .ow (0, 0) 1 els3]], 1⟩ ∧
  els3 = strs (fields ++ List.replicate k ⟨#[]⟩) ∧ (k = 0 ∨ fields.length + k ≤ x.toNat) ∧ n = x.toNat - (fields.length + k)

theorem c_SetField17 (line : ByteArray) (els : List (List T)) (fields : List ByteArray) (he : els = strs fields) (hl : fields.length ≤ 1048576) (x : Int) (s : ByteArray) (hs : s.size ≤ 1048576) :
    ACalls Try.prog 17 [recA line els, litI x, litS s] [] (fun res bx => ∃ line2 els2 fs2 b, (line2, fs2, b) = setField line fields x s ∧ els2 = strs fs2 ∧ res = ⟨.tup [(true, 2), (false, 1)], [.lit (.string line2), .ow (0, 0) 1 els2, .lit (.bool b)]⟩ ∧ bx = []) := by
  refine gcalls_by tys_ok 57 [.cell 6 27, .tmp 7] (fn := Try.f17) rfl rfl rfl rfl ?_ ?_ ?_
  · simp [stampFree, recA, litI, litS, A.stamp, A.rstamp, stampIn]
  · simp
  intro O hO P hP C hC R hR
  have hM : P.follows .mixedOrders = true := by rw [hP]; rfl
  obtain ⟨bin, cmp, sadd, scmp, beq, bnot, un, wrap, size, byte, sub, len, seg, app, get, set, nat, nadd, nsub, repl, text, bytes, mn, mx, nz, nn, idx, bnd, le, all, one, lits, isB, sOk, aOk, mOk⟩ := O
  have hseg : ∀ e, seg 0 (len e) e = e := by intro e; cases hO; simp
  have ebn : ∀ b, bnot b = !b := by intro b; cases hO; rfl
  repeat' first
    | ((with_reducible refine hK _ ?_); clear hK K)
    | ((with_reducible refine thenA_n ?_))
    | ((with_reducible refine thenA_r ?_))
    | ((with_reducible refine thenA_e ?_))
    | ((with_reducible refine block_n ?_))
    | ((with_reducible refine block_r ?_))
    | ((with_reducible refine block_hit ?_))
    | ((with_reducible refine GWp.seq ?_))
    | ((with_reducible refine GWp.block ?_))
    | ((with_reducible refine GWp.skip ?_))
    | ((with_reducible refine GWp.ret ?_))
    | ((with_reducible refine GWp.exit ?_))
    | ((with_reducible refine block_miss ?hd ?_); case hd => rfl)
    | ((with_reducible refine gPost_r ?_); cbv; try simp only [hseg])
    | ((with_reducible refine gPost_n ?_); cbv; try simp only [hseg])
    | ((with_reducible refine fork_t ?_); cbv; try simp only [hseg])
    | ((with_reducible refine fork_f ?_); cbv; try simp only [hseg])
    | ((with_reducible refine GWp.cond_t ?hc ?_); case hc => rfl)
    | ((with_reducible refine GWp.cond_f ?hc ?_); case hc => rfl)
    | ((with_reducible refine GWp.region (base := 0) ?_); intro K hK; cbv; try simp only [hseg])
    | ((with_reducible refine GWp.draws (base := 0) hM ?ho ?_); (case ho => rfl); intro K hK; cbv; try simp only [hseg])
    | ((with_reducible refine need_nil ?_))
    | ((with_reducible refine need_cons ?hp ?_); case hp => first | exact True.intro | with_reducible rfl | exact nn_ok hO (by decide))
    | (fail)
  refine GCall.by ⟨fun _ _ => false, fun _ _ => false, []⟩ ?_
  cbv
  try simp only [hseg]
  refine GCallD.by hP rfl (c_RecOk' line els fields he (by omega)) ?_
  rintro res bx ⟨b1, hb1, rfl, rfl⟩
  cbv
  try simp only [hseg]
  cases hbb : b1 with
  | false =>
    simp only [ebn, Bool.not_false]
    repeat' first
      | ((with_reducible refine hK _ ?_); clear hK K)
      | ((with_reducible refine thenA_n ?_))
      | ((with_reducible refine thenA_r ?_))
      | ((with_reducible refine thenA_e ?_))
      | ((with_reducible refine block_n ?_))
      | ((with_reducible refine block_r ?_))
      | ((with_reducible refine block_hit ?_))
      | ((with_reducible refine GWp.seq ?_))
      | ((with_reducible refine GWp.block ?_))
      | ((with_reducible refine GWp.skip ?_))
      | ((with_reducible refine GWp.ret ?_))
      | ((with_reducible refine GWp.exit ?_))
      | ((with_reducible refine block_miss ?hd ?_); case hd => rfl)
      | ((with_reducible refine gPost_r ?_); cbv; try simp only [hseg])
      | ((with_reducible refine gPost_n ?_); cbv; try simp only [hseg])
      | ((with_reducible refine fork_t ?_); cbv; try simp only [hseg])
      | ((with_reducible refine fork_f ?_); cbv; try simp only [hseg])
      | ((with_reducible refine GWp.cond_t ?hc ?_); case hc => rfl)
      | ((with_reducible refine GWp.cond_f ?hc ?_); case hc => rfl)
      | ((with_reducible refine GWp.region (base := 0) ?_); intro K hK; cbv; try simp only [hseg])
      | ((with_reducible refine GWp.draws (base := 0) hM ?ho ?_); (case ho => rfl); intro K hK; cbv; try simp only [hseg])
      | ((with_reducible refine need_nil ?_))
      | ((with_reducible refine need_cons ?hp ?_); case hp => first | exact True.intro | with_reducible rfl | exact nn_ok hO (by decide))
      | (fail)
    refine GCall.by ⟨fun _ _ => false, fun _ _ => false, []⟩ ?_
    cbv
    try simp only [hseg]
    refine GCallD.by hP rfl (c_l13Copy line els fields he hl) ?_
    rintro res bx ⟨rfl, rfl⟩
    cbv
    try simp only [hseg]
    repeat' first
      | ((with_reducible refine hK _ ?_); clear hK K)
      | ((with_reducible refine thenA_n ?_))
      | ((with_reducible refine thenA_r ?_))
      | ((with_reducible refine thenA_e ?_))
      | ((with_reducible refine block_n ?_))
      | ((with_reducible refine block_r ?_))
      | ((with_reducible refine block_hit ?_))
      | ((with_reducible refine GWp.seq ?_))
      | ((with_reducible refine GWp.block ?_))
      | ((with_reducible refine GWp.skip ?_))
      | ((with_reducible refine GWp.ret ?_))
      | ((with_reducible refine GWp.exit ?_))
      | ((with_reducible refine block_miss ?hd ?_); case hd => rfl)
      | ((with_reducible refine gPost_r ?_); cbv; try simp only [hseg])
      | ((with_reducible refine gPost_n ?_); cbv; try simp only [hseg])
      | ((with_reducible refine fork_t ?_); cbv; try simp only [hseg])
      | ((with_reducible refine fork_f ?_); cbv; try simp only [hseg])
      | ((with_reducible refine GWp.cond_t ?hc ?_); case hc => rfl)
      | ((with_reducible refine GWp.cond_f ?hc ?_); case hc => rfl)
      | ((with_reducible refine GWp.region (base := 0) ?_); intro K hK; cbv; try simp only [hseg])
      | ((with_reducible refine GWp.draws (base := 0) hM ?ho ?_); (case ho => rfl); intro K hK; cbv; try simp only [hseg])
      | ((with_reducible refine need_nil ?_))
      | ((with_reducible refine need_cons ?hp ?_); case hp => first | exact True.intro | with_reducible rfl | exact nn_ok hO (by decide))
      | (fail)
    refine hR _ _ ⟨line, els, fields, false, ?_, he, rfl, rfl⟩
    rw [setField_bad (.inl (hb1.symm.trans hbb))]
  | true =>
    have hok : recOk line fields = true := hb1.symm.trans hbb
    simp only [ebn, Bool.not_true]
    repeat' first
      | ((with_reducible refine hK _ ?_); clear hK K)
      | ((with_reducible refine thenA_n ?_))
      | ((with_reducible refine thenA_r ?_))
      | ((with_reducible refine thenA_e ?_))
      | ((with_reducible refine block_n ?_))
      | ((with_reducible refine block_r ?_))
      | ((with_reducible refine block_hit ?_))
      | ((with_reducible refine GWp.seq ?_))
      | ((with_reducible refine GWp.block ?_))
      | ((with_reducible refine GWp.skip ?_))
      | ((with_reducible refine GWp.ret ?_))
      | ((with_reducible refine GWp.exit ?_))
      | ((with_reducible refine block_miss ?hd ?_); case hd => rfl)
      | ((with_reducible refine gPost_r ?_); cbv; try simp only [hseg])
      | ((with_reducible refine gPost_n ?_); cbv; try simp only [hseg])
      | ((with_reducible refine fork_t ?_); cbv; try simp only [hseg])
      | ((with_reducible refine fork_f ?_); cbv; try simp only [hseg])
      | ((with_reducible refine GWp.cond_t ?hc ?_); case hc => rfl)
      | ((with_reducible refine GWp.cond_f ?hc ?_); case hc => rfl)
      | ((with_reducible refine GWp.region (base := 0) ?_); intro K hK; cbv; try simp only [hseg])
      | ((with_reducible refine GWp.draws (base := 0) hM ?ho ?_); (case ho => rfl); intro K hK; cbv; try simp only [hseg])
      | ((with_reducible refine need_nil ?_))
      | ((with_reducible refine need_cons ?hp ?_); case hp => first | exact True.intro | with_reducible rfl | exact nn_ok hO (by decide))
      | (fail)
    refine GCall.by ⟨fun _ _ => false, fun _ _ => false, []⟩ ?_
    cbv
    try simp only [hseg]
    refine GCallD.by hP rfl (c_l1In _ _ _) ?_
    rintro res bx ⟨b2, hb2, rfl, rfl⟩
    cbv
    try simp only [hseg]
    cases hbb2 : b2 with
    | false =>
      simp only [ebn, Bool.not_false]
      repeat' first
        | ((with_reducible refine hK _ ?_); clear hK K)
        | ((with_reducible refine thenA_n ?_))
        | ((with_reducible refine thenA_r ?_))
        | ((with_reducible refine thenA_e ?_))
        | ((with_reducible refine block_n ?_))
        | ((with_reducible refine block_r ?_))
        | ((with_reducible refine block_hit ?_))
        | ((with_reducible refine GWp.seq ?_))
        | ((with_reducible refine GWp.block ?_))
        | ((with_reducible refine GWp.skip ?_))
        | ((with_reducible refine GWp.ret ?_))
        | ((with_reducible refine GWp.exit ?_))
        | ((with_reducible refine block_miss ?hd ?_); case hd => rfl)
        | ((with_reducible refine gPost_r ?_); cbv; try simp only [hseg])
        | ((with_reducible refine gPost_n ?_); cbv; try simp only [hseg])
        | ((with_reducible refine fork_t ?_); cbv; try simp only [hseg])
        | ((with_reducible refine fork_f ?_); cbv; try simp only [hseg])
        | ((with_reducible refine GWp.cond_t ?hc ?_); case hc => rfl)
        | ((with_reducible refine GWp.cond_f ?hc ?_); case hc => rfl)
        | ((with_reducible refine GWp.region (base := 0) ?_); intro K hK; cbv; try simp only [hseg])
        | ((with_reducible refine GWp.draws (base := 0) hM ?ho ?_); (case ho => rfl); intro K hK; cbv; try simp only [hseg])
        | ((with_reducible refine need_nil ?_))
        | ((with_reducible refine need_cons ?hp ?_); case hp => first | exact True.intro | with_reducible rfl | exact nn_ok hO (by decide))
        | (fail)
      refine GCall.by ⟨fun _ _ => false, fun _ _ => false, []⟩ ?_
      cbv
      try simp only [hseg]
      refine GCallD.by hP rfl (c_l13Copy line els fields he hl) ?_
      rintro res bx ⟨rfl, rfl⟩
      cbv
      try simp only [hseg]
      repeat' first
        | ((with_reducible refine hK _ ?_); clear hK K)
        | ((with_reducible refine thenA_n ?_))
        | ((with_reducible refine thenA_r ?_))
        | ((with_reducible refine thenA_e ?_))
        | ((with_reducible refine block_n ?_))
        | ((with_reducible refine block_r ?_))
        | ((with_reducible refine block_hit ?_))
        | ((with_reducible refine GWp.seq ?_))
        | ((with_reducible refine GWp.block ?_))
        | ((with_reducible refine GWp.skip ?_))
        | ((with_reducible refine GWp.ret ?_))
        | ((with_reducible refine GWp.exit ?_))
        | ((with_reducible refine block_miss ?hd ?_); case hd => rfl)
        | ((with_reducible refine gPost_r ?_); cbv; try simp only [hseg])
        | ((with_reducible refine gPost_n ?_); cbv; try simp only [hseg])
        | ((with_reducible refine fork_t ?_); cbv; try simp only [hseg])
        | ((with_reducible refine fork_f ?_); cbv; try simp only [hseg])
        | ((with_reducible refine GWp.cond_t ?hc ?_); case hc => rfl)
        | ((with_reducible refine GWp.cond_f ?hc ?_); case hc => rfl)
        | ((with_reducible refine GWp.region (base := 0) ?_); intro K hK; cbv; try simp only [hseg])
        | ((with_reducible refine GWp.draws (base := 0) hM ?ho ?_); (case ho => rfl); intro K hK; cbv; try simp only [hseg])
        | ((with_reducible refine need_nil ?_))
        | ((with_reducible refine need_cons ?hp ?_); case hp => first | exact True.intro | with_reducible rfl | exact nn_ok hO (by decide))
        | (fail)
      refine hR _ _ ⟨line, els, fields, false, ?_, he, rfl, rfl⟩
      rw [setField_bad (.inr (.inl ?_))]
      rw [hbb2] at hb2
      simpa using hb2
    | true =>
      have hin : 0 ≤ x ∧ x ≤ 20 := by rw [hbb2] at hb2; simpa using hb2
      simp only [ebn, Bool.not_true]
      repeat' first
        | ((with_reducible refine hK _ ?_); clear hK K)
        | ((with_reducible refine thenA_n ?_))
        | ((with_reducible refine thenA_r ?_))
        | ((with_reducible refine thenA_e ?_))
        | ((with_reducible refine block_n ?_))
        | ((with_reducible refine block_r ?_))
        | ((with_reducible refine block_hit ?_))
        | ((with_reducible refine GWp.seq ?_))
        | ((with_reducible refine GWp.block ?_))
        | ((with_reducible refine GWp.skip ?_))
        | ((with_reducible refine GWp.ret ?_))
        | ((with_reducible refine GWp.exit ?_))
        | ((with_reducible refine block_miss ?hd ?_); case hd => rfl)
        | ((with_reducible refine gPost_r ?_); cbv; try simp only [hseg])
        | ((with_reducible refine gPost_n ?_); cbv; try simp only [hseg])
        | ((with_reducible refine fork_t ?_); cbv; try simp only [hseg])
        | ((with_reducible refine fork_f ?_); cbv; try simp only [hseg])
        | ((with_reducible refine GWp.cond_t ?hc ?_); case hc => rfl)
        | ((with_reducible refine GWp.cond_f ?hc ?_); case hc => rfl)
        | ((with_reducible refine GWp.region (base := 0) ?_); intro K hK; cbv; try simp only [hseg])
        | ((with_reducible refine GWp.draws (base := 0) hM ?ho ?_); (case ho => rfl); intro K hK; cbv; try simp only [hseg])
        | ((with_reducible refine need_nil ?_))
        | ((with_reducible refine need_cons ?hp ?_); case hp => first | exact True.intro | with_reducible rfl | exact nn_ok hO (by decide))
        | (fail)
      refine GWp.cond rfl (fun h3 => ?_) (fun h3 => ?_)
      · have h200 : 200 < s.size := by
          try clear hK K
          clear hM hP hC hR; cases hO
          simp only [Ops.std, stdCmp, stdBin, scmp_eql, scmp_neq, stdUn, Int.ofNat_eq_natCast] at *
          simp at h3; omega
        repeat' first
          | ((with_reducible refine hK _ ?_); clear hK K)
          | ((with_reducible refine thenA_n ?_))
          | ((with_reducible refine thenA_r ?_))
          | ((with_reducible refine thenA_e ?_))
          | ((with_reducible refine block_n ?_))
          | ((with_reducible refine block_r ?_))
          | ((with_reducible refine block_hit ?_))
          | ((with_reducible refine GWp.seq ?_))
          | ((with_reducible refine GWp.block ?_))
          | ((with_reducible refine GWp.skip ?_))
          | ((with_reducible refine GWp.ret ?_))
          | ((with_reducible refine GWp.exit ?_))
          | ((with_reducible refine block_miss ?hd ?_); case hd => rfl)
          | ((with_reducible refine gPost_r ?_); cbv; try simp only [hseg])
          | ((with_reducible refine gPost_n ?_); cbv; try simp only [hseg])
          | ((with_reducible refine fork_t ?_); cbv; try simp only [hseg])
          | ((with_reducible refine fork_f ?_); cbv; try simp only [hseg])
          | ((with_reducible refine GWp.cond_t ?hc ?_); case hc => rfl)
          | ((with_reducible refine GWp.cond_f ?hc ?_); case hc => rfl)
          | ((with_reducible refine GWp.region (base := 0) ?_); intro K hK; cbv; try simp only [hseg])
          | ((with_reducible refine GWp.draws (base := 0) hM ?ho ?_); (case ho => rfl); intro K hK; cbv; try simp only [hseg])
          | ((with_reducible refine need_nil ?_))
          | ((with_reducible refine need_cons ?hp ?_); case hp => first | exact True.intro | with_reducible rfl | exact nn_ok hO (by decide))
          | (fail)
        refine GCall.by ⟨fun _ _ => false, fun _ _ => false, []⟩ ?_
        cbv
        try simp only [hseg]
        refine GCallD.by hP rfl (c_l13Copy line els fields he hl) ?_
        rintro res bx ⟨rfl, rfl⟩
        cbv
        try simp only [hseg]
        repeat' first
          | ((with_reducible refine hK _ ?_); clear hK K)
          | ((with_reducible refine thenA_n ?_))
          | ((with_reducible refine thenA_r ?_))
          | ((with_reducible refine thenA_e ?_))
          | ((with_reducible refine block_n ?_))
          | ((with_reducible refine block_r ?_))
          | ((with_reducible refine block_hit ?_))
          | ((with_reducible refine GWp.seq ?_))
          | ((with_reducible refine GWp.block ?_))
          | ((with_reducible refine GWp.skip ?_))
          | ((with_reducible refine GWp.ret ?_))
          | ((with_reducible refine GWp.exit ?_))
          | ((with_reducible refine block_miss ?hd ?_); case hd => rfl)
          | ((with_reducible refine gPost_r ?_); cbv; try simp only [hseg])
          | ((with_reducible refine gPost_n ?_); cbv; try simp only [hseg])
          | ((with_reducible refine fork_t ?_); cbv; try simp only [hseg])
          | ((with_reducible refine fork_f ?_); cbv; try simp only [hseg])
          | ((with_reducible refine GWp.cond_t ?hc ?_); case hc => rfl)
          | ((with_reducible refine GWp.cond_f ?hc ?_); case hc => rfl)
          | ((with_reducible refine GWp.region (base := 0) ?_); intro K hK; cbv; try simp only [hseg])
          | ((with_reducible refine GWp.draws (base := 0) hM ?ho ?_); (case ho => rfl); intro K hK; cbv; try simp only [hseg])
          | ((with_reducible refine need_nil ?_))
          | ((with_reducible refine need_cons ?hp ?_); case hp => first | exact True.intro | with_reducible rfl | exact nn_ok hO (by decide))
          | (fail)
        refine hR _ _ ⟨line, els, fields, false, ?_, he, rfl, rfl⟩
        rw [setField_bad (.inr (.inr h200))]
      have h200 : s.size ≤ 200 := by
        try clear hK K
        clear hM hP hC hR; cases hO
        simp only [Ops.std, stdCmp, stdBin, scmp_eql, scmp_neq, stdUn, Int.ofNat_eq_natCast] at *
        simp at h3; omega
      repeat' first
        | ((with_reducible refine hK _ ?_); clear hK K)
        | ((with_reducible refine thenA_n ?_))
        | ((with_reducible refine thenA_r ?_))
        | ((with_reducible refine thenA_e ?_))
        | ((with_reducible refine block_n ?_))
        | ((with_reducible refine block_r ?_))
        | ((with_reducible refine block_hit ?_))
        | ((with_reducible refine GWp.seq ?_))
        | ((with_reducible refine GWp.block ?_))
        | ((with_reducible refine GWp.skip ?_))
        | ((with_reducible refine GWp.ret ?_))
        | ((with_reducible refine GWp.exit ?_))
        | ((with_reducible refine block_miss ?hd ?_); case hd => rfl)
        | ((with_reducible refine gPost_r ?_); cbv; try simp only [hseg])
        | ((with_reducible refine gPost_n ?_); cbv; try simp only [hseg])
        | ((with_reducible refine fork_t ?_); cbv; try simp only [hseg])
        | ((with_reducible refine fork_f ?_); cbv; try simp only [hseg])
        | ((with_reducible refine GWp.cond_t ?hc ?_); case hc => rfl)
        | ((with_reducible refine GWp.cond_f ?hc ?_); case hc => rfl)
        | ((with_reducible refine GWp.region (base := 0) ?_); intro K hK; cbv; try simp only [hseg])
        | ((with_reducible refine GWp.draws (base := 0) hM ?ho ?_); (case ho => rfl); intro K hK; cbv; try simp only [hseg])
        | ((with_reducible refine need_nil ?_))
        | ((with_reducible refine need_cons ?hp ?_); case hp => first | exact True.intro | with_reducible rfl | exact nn_ok hO (by decide))
        | (fail)
      refine GWp.cond rfl (fun h4 => ?_) (fun h4 => ?_)
      · have hx0 : x = 0 := by
          try clear hK K
          clear hM hP hC hR; cases hO
          simp only [Ops.std, stdCmp, stdBin, scmp_eql, scmp_neq, stdUn, Int.ofNat_eq_natCast] at *
          simpa using h4
        repeat' first
          | ((with_reducible refine hK _ ?_); clear hK K)
          | ((with_reducible refine thenA_n ?_))
          | ((with_reducible refine thenA_r ?_))
          | ((with_reducible refine thenA_e ?_))
          | ((with_reducible refine block_n ?_))
          | ((with_reducible refine block_r ?_))
          | ((with_reducible refine block_hit ?_))
          | ((with_reducible refine GWp.seq ?_))
          | ((with_reducible refine GWp.block ?_))
          | ((with_reducible refine GWp.skip ?_))
          | ((with_reducible refine GWp.ret ?_))
          | ((with_reducible refine GWp.exit ?_))
          | ((with_reducible refine block_miss ?hd ?_); case hd => rfl)
          | ((with_reducible refine gPost_r ?_); cbv; try simp only [hseg])
          | ((with_reducible refine gPost_n ?_); cbv; try simp only [hseg])
          | ((with_reducible refine fork_t ?_); cbv; try simp only [hseg])
          | ((with_reducible refine fork_f ?_); cbv; try simp only [hseg])
          | ((with_reducible refine GWp.cond_t ?hc ?_); case hc => rfl)
          | ((with_reducible refine GWp.cond_f ?hc ?_); case hc => rfl)
          | ((with_reducible refine GWp.region (base := 0) ?_); intro K hK; cbv; try simp only [hseg])
          | ((with_reducible refine GWp.draws (base := 0) hM ?ho ?_); (case ho => rfl); intro K hK; cbv; try simp only [hseg])
          | ((with_reducible refine need_nil ?_))
          | ((with_reducible refine need_cons ?hp ?_); case hp => first | exact True.intro | with_reducible rfl | exact nn_ok hO (by decide))
          | (fail)
        refine GCall.by ⟨fun _ _ => false, fun _ _ => false, []⟩ ?_
        cbv
        try simp only [hseg]
        refine GCallD.by hP rfl (c_RecOf' s hs) ?_
        rintro res bx ⟨line2, els2, hl2, he2, rfl, rfl⟩
        cbv
        try simp only [hseg]
        repeat' first
          | ((with_reducible refine hK _ ?_); clear hK K)
          | ((with_reducible refine thenA_n ?_))
          | ((with_reducible refine thenA_r ?_))
          | ((with_reducible refine thenA_e ?_))
          | ((with_reducible refine block_n ?_))
          | ((with_reducible refine block_r ?_))
          | ((with_reducible refine block_hit ?_))
          | ((with_reducible refine GWp.seq ?_))
          | ((with_reducible refine GWp.block ?_))
          | ((with_reducible refine GWp.skip ?_))
          | ((with_reducible refine GWp.ret ?_))
          | ((with_reducible refine GWp.exit ?_))
          | ((with_reducible refine block_miss ?hd ?_); case hd => rfl)
          | ((with_reducible refine gPost_r ?_); cbv; try simp only [hseg])
          | ((with_reducible refine gPost_n ?_); cbv; try simp only [hseg])
          | ((with_reducible refine fork_t ?_); cbv; try simp only [hseg])
          | ((with_reducible refine fork_f ?_); cbv; try simp only [hseg])
          | ((with_reducible refine GWp.cond_t ?hc ?_); case hc => rfl)
          | ((with_reducible refine GWp.cond_f ?hc ?_); case hc => rfl)
          | ((with_reducible refine GWp.region (base := 0) ?_); intro K hK; cbv; try simp only [hseg])
          | ((with_reducible refine GWp.draws (base := 0) hM ?ho ?_); (case ho => rfl); intro K hK; cbv; try simp only [hseg])
          | ((with_reducible refine need_nil ?_))
          | ((with_reducible refine need_cons ?hp ?_); case hp => first | exact True.intro | with_reducible rfl | exact nn_ok hO (by decide))
          | (fail)
        refine hR _ _ ⟨line2, els2, recFields s, true, ?_, he2, rfl, rfl⟩
        rw [setField_zero hok hx0 h200, hl2]
      have hx0 : x ≠ 0 := by
        try clear hK K
        clear hM hP hC hR; cases hO
        simp only [Ops.std, stdCmp, stdBin, scmp_eql, scmp_neq, stdUn, Int.ofNat_eq_natCast] at *
        simpa using h4
      repeat' first
        | ((with_reducible refine hK _ ?_); clear hK K)
        | ((with_reducible refine thenA_n ?_))
        | ((with_reducible refine thenA_r ?_))
        | ((with_reducible refine thenA_e ?_))
        | ((with_reducible refine block_n ?_))
        | ((with_reducible refine block_r ?_))
        | ((with_reducible refine block_hit ?_))
        | ((with_reducible refine GWp.seq ?_))
        | ((with_reducible refine GWp.block ?_))
        | ((with_reducible refine GWp.skip ?_))
        | ((with_reducible refine GWp.ret ?_))
        | ((with_reducible refine GWp.exit ?_))
        | ((with_reducible refine block_miss ?hd ?_); case hd => rfl)
        | ((with_reducible refine gPost_r ?_); cbv; try simp only [hseg])
        | ((with_reducible refine gPost_n ?_); cbv; try simp only [hseg])
        | ((with_reducible refine fork_t ?_); cbv; try simp only [hseg])
        | ((with_reducible refine fork_f ?_); cbv; try simp only [hseg])
        | ((with_reducible refine GWp.cond_t ?hc ?_); case hc => rfl)
        | ((with_reducible refine GWp.cond_f ?hc ?_); case hc => rfl)
        | ((with_reducible refine GWp.region (base := 0) ?_); intro K hK; cbv; try simp only [hseg])
        | ((with_reducible refine GWp.draws (base := 0) hM ?ho ?_); (case ho => rfl); intro K hK; cbv; try simp only [hseg])
        | ((with_reducible refine need_nil ?_))
        | ((with_reducible refine need_cons ?hp ?_); case hp => first | exact True.intro | with_reducible rfl | exact nn_ok hO (by decide))
        | (fail)
      refine GCall.by ⟨fun _ _ => false, fun _ _ => false, []⟩ ?_
      cbv
      try simp only [hseg]
      refine GCallD.by hP rfl (c_l13Copy line els fields he hl) ?_
      rintro res bx ⟨rfl, rfl⟩
      cbv
      try simp only [hseg]
      repeat' first
        | ((with_reducible refine hK _ ?_); clear hK K)
        | ((with_reducible refine thenA_n ?_))
        | ((with_reducible refine thenA_r ?_))
        | ((with_reducible refine thenA_e ?_))
        | ((with_reducible refine block_n ?_))
        | ((with_reducible refine block_r ?_))
        | ((with_reducible refine block_hit ?_))
        | ((with_reducible refine GWp.seq ?_))
        | ((with_reducible refine GWp.block ?_))
        | ((with_reducible refine GWp.skip ?_))
        | ((with_reducible refine GWp.ret ?_))
        | ((with_reducible refine GWp.exit ?_))
        | ((with_reducible refine block_miss ?hd ?_); case hd => rfl)
        | ((with_reducible refine gPost_r ?_); cbv; try simp only [hseg])
        | ((with_reducible refine gPost_n ?_); cbv; try simp only [hseg])
        | ((with_reducible refine fork_t ?_); cbv; try simp only [hseg])
        | ((with_reducible refine fork_f ?_); cbv; try simp only [hseg])
        | ((with_reducible refine GWp.cond_t ?hc ?_); case hc => rfl)
        | ((with_reducible refine GWp.cond_f ?hc ?_); case hc => rfl)
        | ((with_reducible refine GWp.region (base := 0) ?_); intro K hK; cbv; try simp only [hseg])
        | ((with_reducible refine GWp.draws (base := 0) hM ?ho ?_); (case ho => rfl); intro K hK; cbv; try simp only [hseg])
        | ((with_reducible refine need_nil ?_))
        | ((with_reducible refine need_cons ?hp ?_); case hp => first | exact True.intro | with_reducible rfl | exact nn_ok hO (by decide))
        | (fail)
      refine GWp.loop (nb := 3) (keep := fun t => t == 1 || t == 2 || t == 3 || t == 6 || t == 8) (kk := fun _ _ => none) (inv17 line els fields x s) (by simp at hC; simp [hC]) ?_ ?_
      · cbv
        exact ⟨_, els, 0, by cbv, by rw [he]; simp, .inl rfl, rfl⟩
      rintro n σ ⟨els3, k, rfl, he3, hk, rfl⟩
      have hf20 := recOk_len hok
      have hlen : len els3 = fields.length + k := by cases hO; subst he3; simp
      repeat' first
        | ((with_reducible refine hK _ ?_); clear hK K)
        | ((with_reducible refine thenA_n ?_))
        | ((with_reducible refine thenA_r ?_))
        | ((with_reducible refine thenA_e ?_))
        | ((with_reducible refine block_n ?_))
        | ((with_reducible refine block_r ?_))
        | ((with_reducible refine block_hit ?_))
        | ((with_reducible refine GWp.seq ?_))
        | ((with_reducible refine GWp.block ?_))
        | ((with_reducible refine GWp.skip ?_))
        | ((with_reducible refine GWp.ret ?_))
        | ((with_reducible refine GWp.exit ?_))
        | ((with_reducible refine block_miss ?hd ?_); case hd => rfl)
        | ((with_reducible refine gPost_r ?_); cbv; try simp only [hseg])
        | ((with_reducible refine gPost_n ?_); cbv; try simp only [hseg])
        | ((with_reducible refine fork_t ?_); cbv; try simp only [hseg])
        | ((with_reducible refine fork_f ?_); cbv; try simp only [hseg])
        | ((with_reducible refine GWp.cond_t ?hc ?_); case hc => rfl)
        | ((with_reducible refine GWp.cond_f ?hc ?_); case hc => rfl)
        | ((with_reducible refine GWp.region (base := 0) ?_); intro K hK; cbv; try simp only [hseg])
        | ((with_reducible refine GWp.draws (base := 0) hM ?ho ?_); (case ho => rfl); intro K hK; cbv; try simp only [hseg])
        | ((with_reducible refine need_nil ?_))
        | ((with_reducible refine need_cons ?hp ?_); case hp => first | exact True.intro | with_reducible rfl | exact nn_ok hO (by decide))
        | (fail)
      refine GWp.cond rfl (fun h5 => ?_) (fun h5 => ?_)
      · have hlt : Int.ofNat (fields.length + k) < x := by
          try clear hK K
          clear hM hP hC hR; cases hO
          simp only [Ops.std, stdCmp, stdBin, scmp_eql, scmp_neq, stdUn, Int.ofNat_eq_natCast] at *
          simp at h5; omega
        have hlt2 : fields.length + k < x.toNat := by simp only [Int.ofNat_eq_natCast] at hlt; omega
        repeat' first
          | ((with_reducible refine hK _ ?_); clear hK K)
          | ((with_reducible refine thenA_n ?_))
          | ((with_reducible refine thenA_r ?_))
          | ((with_reducible refine thenA_e ?_))
          | ((with_reducible refine block_n ?_))
          | ((with_reducible refine block_r ?_))
          | ((with_reducible refine block_hit ?_))
          | ((with_reducible refine GWp.seq ?_))
          | ((with_reducible refine GWp.block ?_))
          | ((with_reducible refine GWp.skip ?_))
          | ((with_reducible refine GWp.ret ?_))
          | ((with_reducible refine GWp.exit ?_))
          | ((with_reducible refine block_miss ?hd ?_); case hd => rfl)
          | ((with_reducible refine gPost_r ?_); cbv; try simp only [hseg])
          | ((with_reducible refine gPost_n ?_); cbv; try simp only [hseg])
          | ((with_reducible refine fork_t ?_); cbv; try simp only [hseg])
          | ((with_reducible refine fork_f ?_); cbv; try simp only [hseg])
          | ((with_reducible refine GWp.cond_t ?hc ?_); case hc => rfl)
          | ((with_reducible refine GWp.cond_f ?hc ?_); case hc => rfl)
          | ((with_reducible refine GWp.region (base := 0) ?_); intro K hK; cbv; try simp only [hseg])
          | ((with_reducible refine GWp.draws (base := 0) hM ?ho ?_); (case ho => rfl); intro K hK; cbv; try simp only [hseg])
          | ((with_reducible refine need_nil ?_))
          | ((with_reducible refine need_cons ?hp ?_); case hp => first | exact True.intro | with_reducible rfl | exact nn_ok hO (by decide))
          | (fail)
        refine need_cons (by
          try clear hK K
          clear hM hP hC hR; cases hO
          simp only [Ops.std, stdCmp, stdBin, scmp_eql, scmp_neq, stdUn, Int.ofNat_eq_natCast] at *
          simp) ?_
        refine need_cons (aOk_of hO ?_ ?_) (need_nil ?_)
        · subst he3; simp; omega
        · subst he3; simp; omega
        have ea : app els3 [[T.lit (.string ⟨#[]⟩)]] = strs (fields ++ List.replicate (k + 1) ⟨#[]⟩) := by
          rw [List.replicate_succ', ← List.append_assoc]
          exact app_strs hO he3 _
        generalize app els3 [[T.lit (.string ⟨#[]⟩)]] = els4 at ea ⊢
        repeat' first
          | ((with_reducible refine hK _ ?_); clear hK K)
          | ((with_reducible refine thenA_n ?_))
          | ((with_reducible refine thenA_r ?_))
          | ((with_reducible refine thenA_e ?_))
          | ((with_reducible refine block_n ?_))
          | ((with_reducible refine block_r ?_))
          | ((with_reducible refine block_hit ?_))
          | ((with_reducible refine GWp.seq ?_))
          | ((with_reducible refine GWp.block ?_))
          | ((with_reducible refine GWp.skip ?_))
          | ((with_reducible refine GWp.ret ?_))
          | ((with_reducible refine GWp.exit ?_))
          | ((with_reducible refine block_miss ?hd ?_); case hd => rfl)
          | ((with_reducible refine gPost_r ?_); cbv; try simp only [hseg])
          | ((with_reducible refine gPost_n ?_); cbv; try simp only [hseg])
          | ((with_reducible refine fork_t ?_); cbv; try simp only [hseg])
          | ((with_reducible refine fork_f ?_); cbv; try simp only [hseg])
          | ((with_reducible refine GWp.cond_t ?hc ?_); case hc => rfl)
          | ((with_reducible refine GWp.cond_f ?hc ?_); case hc => rfl)
          | ((with_reducible refine GWp.region (base := 0) ?_); intro K hK; cbv; try simp only [hseg])
          | ((with_reducible refine GWp.draws (base := 0) hM ?ho ?_); (case ho => rfl); intro K hK; cbv; try simp only [hseg])
          | ((with_reducible refine need_nil ?_))
          | ((with_reducible refine need_cons ?hp ?_); case hp => first | exact True.intro | with_reducible rfl | exact nn_ok hO (by decide))
          | (fail)
        cbv
        exact ⟨x.toNat - (fields.length + (k + 1)), by omega, els4, k + 1, by cbv, ea, .inr (by omega), rfl⟩
      · have hge : x ≤ Int.ofNat (fields.length + k) := by
          try clear hK K
          clear hM hP hC hR; cases hO
          simp only [Ops.std, stdCmp, stdBin, scmp_eql, scmp_neq, stdUn, Int.ofNat_eq_natCast] at *
          simp at h5; omega
        have hge2 : x.toNat ≤ fields.length + k := by simp only [Int.ofNat_eq_natCast] at hge; omega
        have hpad : fields ++ List.replicate k ⟨#[]⟩ = padTo fields x.toNat := pad_done hk hge2
        rw [hpad] at he3
        have hpl : (padTo fields x.toNat).length = fields.length + k := by rw [← hpad]; simp
        have esub : bin .sub .i64 x 1 = x - 1 := by cases hO; exact i64_id (by omega)
        have eidx : nadd 0 (nat (x - 1)) = x.toNat - 1 := by cases hO; simp only [Ops.std]; omega
        have eset : set els3 (x.toNat - 1) [T.lit (.string s)] = strs ((padTo fields x.toNat).set (x.toNat - 1) s) := by cases hO; subst he3; simp [Ops.std, strs, List.map_set]
        have hone : one els3 (x.toNat - 1) 1 := by
          cases hO; subst he3
          refine ⟨by simp; omega, ?_⟩
          rw [strs_get _ _ (by omega)]; rfl
        have hsz : ∀ f ∈ (padTo fields x.toNat).set (x.toNat - 1) s, f.size ≤ 1048576 := pad_size hok h200
        have hlong := setField_long (n := x) (s := s) hok hin h200 hx0
        have hdone := setField_done (n := x) (s := s) hok hin h200 hx0
        generalize hout : (padTo fields x.toNat).set (x.toNat - 1) s = out at eset hsz hlong hdone
        have hol : out.length = fields.length + k := by rw [← hout]; simp [hpl]
        have hk20 : fields.length + k ≤ 40 := by omega
        have hidx : 0 ≤ x - 1 ∧ x - 1 < Int.ofNat (len els3) := by rw [hlen]; simp only [Int.ofNat_eq_natCast]; omega
        clear hout hpl
        generalize hxm : x - 1 = xm at esub eidx hidx
        generalize hix : x.toNat - 1 = ix at eidx eset hone
        generalize hset : set els3 ix [T.lit (.string s)] = els4 at eset
        repeat' first
          | ((with_reducible refine hK _ ?_); clear hK K)
          | ((with_reducible refine thenA_n ?_))
          | ((with_reducible refine thenA_r ?_))
          | ((with_reducible refine thenA_e ?_))
          | ((with_reducible refine block_n ?_))
          | ((with_reducible refine block_r ?_))
          | ((with_reducible refine block_hit ?_))
          | ((with_reducible refine GWp.seq ?_))
          | ((with_reducible refine GWp.block ?_))
          | ((with_reducible refine GWp.skip ?_))
          | ((with_reducible refine GWp.ret ?_))
          | ((with_reducible refine GWp.exit ?_))
          | ((with_reducible refine block_miss ?hd ?_); case hd => rfl)
          | ((with_reducible refine gPost_r ?_); cbv; try simp only [hseg])
          | ((with_reducible refine gPost_n ?_); cbv; try simp only [hseg])
          | ((with_reducible refine fork_t ?_); cbv; try simp only [hseg])
          | ((with_reducible refine fork_f ?_); cbv; try simp only [hseg])
          | ((with_reducible refine GWp.cond_t ?hc ?_); case hc => rfl)
          | ((with_reducible refine GWp.cond_f ?hc ?_); case hc => rfl)
          | ((with_reducible refine GWp.region (base := 0) ?_); intro K hK; cbv; try simp only [hseg])
          | ((with_reducible refine GWp.draws (base := 0) hM ?ho ?_); (case ho => rfl); intro K hK; cbv; try simp only [hseg])
          | ((with_reducible refine need_nil ?_))
          | ((with_reducible refine need_cons ?hp ?_); case hp => first | exact True.intro | with_reducible rfl | exact nn_ok hO (by decide))
          | (fail)
        simp only [esub, eidx, hset]
        refine need_cons (idx_of hO hidx) (need_cons hone (need_nil ?_))
        repeat' first
          | ((with_reducible refine hK _ ?_); clear hK K)
          | ((with_reducible refine thenA_n ?_))
          | ((with_reducible refine thenA_r ?_))
          | ((with_reducible refine thenA_e ?_))
          | ((with_reducible refine block_n ?_))
          | ((with_reducible refine block_r ?_))
          | ((with_reducible refine block_hit ?_))
          | ((with_reducible refine GWp.seq ?_))
          | ((with_reducible refine GWp.block ?_))
          | ((with_reducible refine GWp.skip ?_))
          | ((with_reducible refine GWp.ret ?_))
          | ((with_reducible refine GWp.exit ?_))
          | ((with_reducible refine block_miss ?hd ?_); case hd => rfl)
          | ((with_reducible refine gPost_r ?_); cbv; try simp only [hseg])
          | ((with_reducible refine gPost_n ?_); cbv; try simp only [hseg])
          | ((with_reducible refine fork_t ?_); cbv; try simp only [hseg])
          | ((with_reducible refine fork_f ?_); cbv; try simp only [hseg])
          | ((with_reducible refine GWp.cond_t ?hc ?_); case hc => rfl)
          | ((with_reducible refine GWp.cond_f ?hc ?_); case hc => rfl)
          | ((with_reducible refine GWp.region (base := 0) ?_); intro K hK; cbv; try simp only [hseg])
          | ((with_reducible refine GWp.draws (base := 0) hM ?ho ?_); (case ho => rfl); intro K hK; cbv; try simp only [hseg])
          | ((with_reducible refine need_nil ?_))
          | ((with_reducible refine need_cons ?hp ?_); case hp => first | exact True.intro | with_reducible rfl | exact nn_ok hO (by decide))
          | (fail)
        refine GCall.by ⟨fun _ _ => false, fun _ _ => false, []⟩ ?_
        cbv
        try simp only [hseg]
        refine GCallD.by hP rfl (c_JoinTexts' els4 out eset (by omega) hsz) ?_
        rintro res bx ⟨j, hj, rfl, rfl⟩
        cbv
        try simp only [hseg]
        repeat' first
          | ((with_reducible refine hK _ ?_); clear hK K)
          | ((with_reducible refine thenA_n ?_))
          | ((with_reducible refine thenA_r ?_))
          | ((with_reducible refine thenA_e ?_))
          | ((with_reducible refine block_n ?_))
          | ((with_reducible refine block_r ?_))
          | ((with_reducible refine block_hit ?_))
          | ((with_reducible refine GWp.seq ?_))
          | ((with_reducible refine GWp.block ?_))
          | ((with_reducible refine GWp.skip ?_))
          | ((with_reducible refine GWp.ret ?_))
          | ((with_reducible refine GWp.exit ?_))
          | ((with_reducible refine block_miss ?hd ?_); case hd => rfl)
          | ((with_reducible refine gPost_r ?_); cbv; try simp only [hseg])
          | ((with_reducible refine gPost_n ?_); cbv; try simp only [hseg])
          | ((with_reducible refine fork_t ?_); cbv; try simp only [hseg])
          | ((with_reducible refine fork_f ?_); cbv; try simp only [hseg])
          | ((with_reducible refine GWp.cond_t ?hc ?_); case hc => rfl)
          | ((with_reducible refine GWp.cond_f ?hc ?_); case hc => rfl)
          | ((with_reducible refine GWp.region (base := 0) ?_); intro K hK; cbv; try simp only [hseg])
          | ((with_reducible refine GWp.draws (base := 0) hM ?ho ?_); (case ho => rfl); intro K hK; cbv; try simp only [hseg])
          | ((with_reducible refine need_nil ?_))
          | ((with_reducible refine need_cons ?hp ?_); case hp => first | exact True.intro | with_reducible rfl | exact nn_ok hO (by decide))
          | (fail)
        refine GWp.cond rfl (fun h6 => ?_) (fun h6 => ?_)
        · have h7 : 200 < j.size := by
            try clear hK K
            clear hM hP hC hR; cases hO
            simp only [Ops.std, stdCmp, stdBin, scmp_eql, scmp_neq, stdUn, Int.ofNat_eq_natCast] at *
            simp at h6; omega
          repeat' first
            | ((with_reducible refine hK _ ?_); clear hK K)
            | ((with_reducible refine thenA_n ?_))
            | ((with_reducible refine thenA_r ?_))
            | ((with_reducible refine thenA_e ?_))
            | ((with_reducible refine block_n ?_))
            | ((with_reducible refine block_r ?_))
            | ((with_reducible refine block_hit ?_))
            | ((with_reducible refine GWp.seq ?_))
            | ((with_reducible refine GWp.block ?_))
            | ((with_reducible refine GWp.skip ?_))
            | ((with_reducible refine GWp.ret ?_))
            | ((with_reducible refine GWp.exit ?_))
            | ((with_reducible refine block_miss ?hd ?_); case hd => rfl)
            | ((with_reducible refine gPost_r ?_); cbv; try simp only [hseg])
            | ((with_reducible refine gPost_n ?_); cbv; try simp only [hseg])
            | ((with_reducible refine fork_t ?_); cbv; try simp only [hseg])
            | ((with_reducible refine fork_f ?_); cbv; try simp only [hseg])
            | ((with_reducible refine GWp.cond_t ?hc ?_); case hc => rfl)
            | ((with_reducible refine GWp.cond_f ?hc ?_); case hc => rfl)
            | ((with_reducible refine GWp.region (base := 0) ?_); intro K hK; cbv; try simp only [hseg])
            | ((with_reducible refine GWp.draws (base := 0) hM ?ho ?_); (case ho => rfl); intro K hK; cbv; try simp only [hseg])
            | ((with_reducible refine need_nil ?_))
            | ((with_reducible refine need_cons ?hp ?_); case hp => first | exact True.intro | with_reducible rfl | exact nn_ok hO (by decide))
            | (fail)
          refine GCall.by ⟨fun _ _ => false, fun _ _ => false, []⟩ ?_
          cbv
          try simp only [hseg]
          refine GCallD.by hP rfl (c_l13Copy line els fields he hl) ?_
          rintro res bx ⟨rfl, rfl⟩
          cbv
          try simp only [hseg]
          repeat' first
            | ((with_reducible refine hK _ ?_); clear hK K)
            | ((with_reducible refine thenA_n ?_))
            | ((with_reducible refine thenA_r ?_))
            | ((with_reducible refine thenA_e ?_))
            | ((with_reducible refine block_n ?_))
            | ((with_reducible refine block_r ?_))
            | ((with_reducible refine block_hit ?_))
            | ((with_reducible refine GWp.seq ?_))
            | ((with_reducible refine GWp.block ?_))
            | ((with_reducible refine GWp.skip ?_))
            | ((with_reducible refine GWp.ret ?_))
            | ((with_reducible refine GWp.exit ?_))
            | ((with_reducible refine block_miss ?hd ?_); case hd => rfl)
            | ((with_reducible refine gPost_r ?_); cbv; try simp only [hseg])
            | ((with_reducible refine gPost_n ?_); cbv; try simp only [hseg])
            | ((with_reducible refine fork_t ?_); cbv; try simp only [hseg])
            | ((with_reducible refine fork_f ?_); cbv; try simp only [hseg])
            | ((with_reducible refine GWp.cond_t ?hc ?_); case hc => rfl)
            | ((with_reducible refine GWp.cond_f ?hc ?_); case hc => rfl)
            | ((with_reducible refine GWp.region (base := 0) ?_); intro K hK; cbv; try simp only [hseg])
            | ((with_reducible refine GWp.draws (base := 0) hM ?ho ?_); (case ho => rfl); intro K hK; cbv; try simp only [hseg])
            | ((with_reducible refine need_nil ?_))
            | ((with_reducible refine need_cons ?hp ?_); case hp => first | exact True.intro | with_reducible rfl | exact nn_ok hO (by decide))
            | (fail)
          refine hR _ _ ⟨line, els, fields, false, ?_, he, rfl, rfl⟩
          rw [hlong (by rw [← hj]; exact h7)]
        · have h7 : ¬ 200 < j.size := by
            try clear hK K
            clear hM hP hC hR; cases hO
            simp only [Ops.std, stdCmp, stdBin, scmp_eql, scmp_neq, stdUn, Int.ofNat_eq_natCast] at *
            simp at h6; omega
          repeat' first
            | ((with_reducible refine hK _ ?_); clear hK K)
            | ((with_reducible refine thenA_n ?_))
            | ((with_reducible refine thenA_r ?_))
            | ((with_reducible refine thenA_e ?_))
            | ((with_reducible refine block_n ?_))
            | ((with_reducible refine block_r ?_))
            | ((with_reducible refine block_hit ?_))
            | ((with_reducible refine GWp.seq ?_))
            | ((with_reducible refine GWp.block ?_))
            | ((with_reducible refine GWp.skip ?_))
            | ((with_reducible refine GWp.ret ?_))
            | ((with_reducible refine GWp.exit ?_))
            | ((with_reducible refine block_miss ?hd ?_); case hd => rfl)
            | ((with_reducible refine gPost_r ?_); cbv; try simp only [hseg])
            | ((with_reducible refine gPost_n ?_); cbv; try simp only [hseg])
            | ((with_reducible refine fork_t ?_); cbv; try simp only [hseg])
            | ((with_reducible refine fork_f ?_); cbv; try simp only [hseg])
            | ((with_reducible refine GWp.cond_t ?hc ?_); case hc => rfl)
            | ((with_reducible refine GWp.cond_f ?hc ?_); case hc => rfl)
            | ((with_reducible refine GWp.region (base := 0) ?_); intro K hK; cbv; try simp only [hseg])
            | ((with_reducible refine GWp.draws (base := 0) hM ?ho ?_); (case ho => rfl); intro K hK; cbv; try simp only [hseg])
            | ((with_reducible refine need_nil ?_))
            | ((with_reducible refine need_cons ?hp ?_); case hp => first | exact True.intro | with_reducible rfl | exact nn_ok hO (by decide))
            | (fail)
          refine hR _ _ ⟨j, els4, out, true, ?_, eset, rfl, rfl⟩
          rw [hdone (by rw [← hj]; exact h7), hj]
end Go.Gv
