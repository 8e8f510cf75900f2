/- Part P2 of the proof: Plain: texts joined with blanks. -/
import Derived.Test.YtnbplmdcmmaigaaF5
import Derived.Lib.Join
import Derived.Test.YtnbplmdcmmaigaaF8
import Derived.Shelf.Strings.OnBuilder

/- Plain: texts joined with blanks. -/
namespace Go.Gv
open Go.Av

def joinT (l : List ByteArray) : ByteArray := ⟨(Lib.join (l.map (·.data.toList)) [32]).toArray⟩

theorem joinT_nil : joinT [] = ⟨#[]⟩ := rfl

theorem ba_ext {a b : ByteArray} (h : a.data.toList = b.data.toList) : a = b := by
  cases a; cases b
  congr
  exact Array.ext' h

theorem joinT_snoc (l : List ByteArray) (x : ByteArray) : joinT (l ++ [x]) = if l.length = 0 then x else joinT l ++ ⟨#[32]⟩ ++ x := by
  cases l with
  | nil =>
    simp only [List.nil_append, List.length_nil, if_true]
    apply ba_ext
    simp [joinT, Lib.join_one]
  | cons a r =>
    rw [if_neg (by simp)]
    apply ba_ext
    simp only [joinT, List.cons_append, List.map_cons, List.map_append, List.map_nil, Lib.join_cons, Lib.joinTail, ByteArray.toList_data_append]
    simp

theorem joinT_take (l : List ByteArray) {i : Nat} (hi : i < l.length) : joinT (l.take (i + 1)) = if i = 0 then l.getD i ⟨#[]⟩ else joinT (l.take i) ++ ⟨#[32]⟩ ++ l.getD i ⟨#[]⟩ := by
  rw [List.take_succ_eq_append_getElem hi, joinT_snoc]
  have h1 : (l.take i).length = i := by simp; omega
  have h2 : l.getD i ⟨#[]⟩ = l[i] := by rw [List.getD_eq_getElem?_getD, List.getElem?_eq_getElem hi]; rfl
  rw [h1, h2]

theorem joinT_size {M : Nat} (l : List ByteArray) (hM : ∀ f ∈ l, f.size ≤ M) : ∀ i, i ≤ l.length → (joinT (l.take i)).size ≤ i * (M + 1)
  | 0, _ => by rw [List.take_zero]; exact Nat.zero_le _
  | i + 1, h => by
    have ih := joinT_size l hM i (by omega)
    rw [joinT_take l (by omega)]
    have hx : (l.getD i ⟨#[]⟩).size ≤ M := by
      have h2 : l.getD i ⟨#[]⟩ = l[i] := by rw [List.getD_eq_getElem?_getD, List.getElem?_eq_getElem (by omega : i < l.length)]; rfl
      rw [h2]; exact hM _ (List.getElem_mem _)
    rw [Nat.succ_mul]
    split
    · omega
    · rw [ByteArray.size_append, ByteArray.size_append]
      have : (⟨#[32]⟩ : ByteArray).size = 1 := rfl
      omega

theorem joinT_size_all {M : Nat} (l : List ByteArray) (hM : ∀ f ∈ l, f.size ≤ M) : (joinT l).size ≤ l.length * (M + 1) := by
  have := joinT_size l hM l.length (Nat.le_refl _)
  rwa [List.take_length] at this
end Go.Gv

namespace Go.Gv
open Go.Av Go.Proofs
set_option maxRecDepth 10000
set_option maxHeartbeats 4000000
set_option linter.unusedSimpArgs false

def inv33 (els : List (List T)) (fields : List ByteArray) (n : Nat) (σ : AS) : Prop := ∃ (s : ByteArray) (i : Nat), σ = ⟨vag 22 [(0, roA els), (3, litS s), (4, litI (Int.ofNat i))], [], 1⟩ ∧ i ≤ fields.length ∧ s = joinT (fields.take i) ∧ n = fields.length - i

theorem c_JoinTexts' (els : List (List T)) (fields : List ByteArray) (he : els = strs fields) (hl : fields.length ≤ 1048576) (hF : ∀ f ∈ fields, f.size ≤ 1048576) :
    ACalls Try.prog 33 [roA els] [] (fun res bx => ∃ s, s = joinT fields ∧ res = litS s ∧ bx = []) := by
  refine gcalls_by tys_ok 22 [.tmp 2] (fn := Try.f33) rfl rfl rfl rfl ?_ ?_ ?_
  · simp [stampFree, roA, A.stamp, A.rstamp, stampIn]
  · simp
  intro O hO P hP C hC R hR
  have hM : P.follows .mixedOrders = true := by rw [hP]; rfl
  obtain ⟨bin, cmp, sadd, scmp, beq, bnot, un, wrap, size, byte, sub, len, seg, app, get, set, nat, nadd, nsub, repl, text, bytes, mn, mx, nz, nn, idx, bnd, le, all, one, lits, isB, sOk, aOk, mOk⟩ := O
  have hseg : ∀ e, seg 0 (len e) e = e := by intro e; cases hO; simp
  have hlen : len els = fields.length := by cases hO; subst he; simp
  repeat' first
    | ((with_reducible refine hK _ ?_); clear hK K)
    | ((with_reducible refine thenA_n ?_))
    | ((with_reducible refine thenA_r ?_))
    | ((with_reducible refine thenA_e ?_))
    | ((with_reducible refine block_n ?_))
    | ((with_reducible refine block_r ?_))
    | ((with_reducible refine block_hit ?_))
    | ((with_reducible refine GWp.seq ?_))
    | ((with_reducible refine GWp.block ?_))
    | ((with_reducible refine GWp.skip ?_))
    | ((with_reducible refine GWp.ret ?_))
    | ((with_reducible refine GWp.exit ?_))
    | ((with_reducible refine block_miss ?hd ?_); case hd => rfl)
    | ((with_reducible refine gPost_r ?_); cbv; try simp only [hseg])
    | ((with_reducible refine gPost_n ?_); cbv; try simp only [hseg])
    | ((with_reducible refine fork_t ?_); cbv; try simp only [hseg])
    | ((with_reducible refine fork_f ?_); cbv; try simp only [hseg])
    | ((with_reducible refine GWp.cond_t ?hc ?_); case hc => rfl)
    | ((with_reducible refine GWp.cond_f ?hc ?_); case hc => rfl)
    | ((with_reducible refine GWp.region (base := 0) ?_); intro K hK; cbv; try simp only [hseg])
    | ((with_reducible refine GWp.draws (base := 0) hM ?ho ?_); (case ho => rfl); intro K hK; cbv; try simp only [hseg])
    | ((with_reducible refine need_nil ?_))
    | ((with_reducible refine need_cons ?hp ?_); case hp => first | exact True.intro | with_reducible rfl | exact nn_ok hO (by decide))
    | (fail)
  refine GWp.loop (nb := 0) (keep := fun t => t == 0 || t == 3 || t == 4) (kk := fun _ _ => none) (inv33 els fields) (by simp at hC; simp [hC]) ?_ ?_
  · cbv
    exact ⟨_, _, 0, by cbv, by omega, rfl, rfl⟩
  rintro n σ ⟨s, i, rfl, g1, g2, rfl⟩
  repeat' first
    | ((with_reducible refine hK _ ?_); clear hK K)
    | ((with_reducible refine thenA_n ?_))
    | ((with_reducible refine thenA_r ?_))
    | ((with_reducible refine thenA_e ?_))
    | ((with_reducible refine block_n ?_))
    | ((with_reducible refine block_r ?_))
    | ((with_reducible refine block_hit ?_))
    | ((with_reducible refine GWp.seq ?_))
    | ((with_reducible refine GWp.block ?_))
    | ((with_reducible refine GWp.skip ?_))
    | ((with_reducible refine GWp.ret ?_))
    | ((with_reducible refine GWp.exit ?_))
    | ((with_reducible refine block_miss ?hd ?_); case hd => rfl)
    | ((with_reducible refine gPost_r ?_); cbv; try simp only [hseg])
    | ((with_reducible refine gPost_n ?_); cbv; try simp only [hseg])
    | ((with_reducible refine fork_t ?_); cbv; try simp only [hseg])
    | ((with_reducible refine fork_f ?_); cbv; try simp only [hseg])
    | ((with_reducible refine GWp.cond_t ?hc ?_); case hc => rfl)
    | ((with_reducible refine GWp.cond_f ?hc ?_); case hc => rfl)
    | ((with_reducible refine GWp.region (base := 0) ?_); intro K hK; cbv; try simp only [hseg])
    | ((with_reducible refine GWp.draws (base := 0) hM ?ho ?_); (case ho => rfl); intro K hK; cbv; try simp only [hseg])
    | ((with_reducible refine need_nil ?_))
    | ((with_reducible refine need_cons ?hp ?_); case hp => first | exact True.intro | with_reducible rfl | exact nn_ok hO (by decide))
    | (fail)
  refine GWp.cond rfl (fun h3 => ?_) (fun h3 => ?_)
  · have hi : i < fields.length := by
      try clear hK K
      clear hM hP hC hR; cases hO
      simp only [Ops.std, stdCmp, stdBin, scmp_eql, scmp_neq, stdUn, Int.ofNat_eq_natCast] at *
      simp at h3 hlen; omega
    have e1 : bin .add .i64 (Int.ofNat i) 1 = _ := i_succ hO (by omega)
    have e2 : get els (nat (Int.ofNat i)) = _ := strs_at hO he hi
    have hs := joinT_size fields hF i g1
    have hj := joinT_take fields hi
    have hv : (fields.getD i ⟨#[]⟩).size ≤ 1048576 := by
      have h2 : fields.getD i ⟨#[]⟩ = fields[i] := by rw [List.getD_eq_getElem?_getD, List.getElem?_eq_getElem hi]; rfl
      rw [h2]; exact hF _ (List.getElem_mem _)
    generalize fields.getD i ⟨#[]⟩ = v at e2 hj hv
    rw [← g2] at hs hj
    have hbig : i * (1048576 + 1) ≤ 1048576 * (1048576 + 1) := Nat.mul_le_mul_right _ (by omega)
    repeat' first
      | ((with_reducible refine hK _ ?_); clear hK K)
      | ((with_reducible refine thenA_n ?_))
      | ((with_reducible refine thenA_r ?_))
      | ((with_reducible refine thenA_e ?_))
      | ((with_reducible refine block_n ?_))
      | ((with_reducible refine block_r ?_))
      | ((with_reducible refine block_hit ?_))
      | ((with_reducible refine GWp.seq ?_))
      | ((with_reducible refine GWp.block ?_))
      | ((with_reducible refine GWp.skip ?_))
      | ((with_reducible refine GWp.ret ?_))
      | ((with_reducible refine GWp.exit ?_))
      | ((with_reducible refine block_miss ?hd ?_); case hd => rfl)
      | ((with_reducible refine gPost_r ?_); cbv; try simp only [hseg])
      | ((with_reducible refine gPost_n ?_); cbv; try simp only [hseg])
      | ((with_reducible refine fork_t ?_); cbv; try simp only [hseg])
      | ((with_reducible refine fork_f ?_); cbv; try simp only [hseg])
      | ((with_reducible refine GWp.cond_t ?hc ?_); case hc => rfl)
      | ((with_reducible refine GWp.cond_f ?hc ?_); case hc => rfl)
      | ((with_reducible refine GWp.region (base := 0) ?_); intro K hK; cbv; try simp only [hseg])
      | ((with_reducible refine GWp.draws (base := 0) hM ?ho ?_); (case ho => rfl); intro K hK; cbv; try simp only [hseg])
      | ((with_reducible refine need_nil ?_))
      | ((with_reducible refine need_cons ?hp ?_); case hp => first | exact True.intro | with_reducible rfl | exact nn_ok hO (by decide))
      | (fail)
    refine GWp.cond rfl (fun h4 => ?_) (fun h4 => ?_)
    · have hi0 : i ≠ 0 := by
        try clear hK K
        clear hM hP hC hR; cases hO
        simp only [Ops.std, stdCmp, stdBin, scmp_eql, scmp_neq, stdUn, Int.ofNat_eq_natCast] at *
        simp at h4; omega
      rw [if_neg hi0] at hj
      repeat' first
        | ((with_reducible refine hK _ ?_); clear hK K)
        | ((with_reducible refine thenA_n ?_))
        | ((with_reducible refine thenA_r ?_))
        | ((with_reducible refine thenA_e ?_))
        | ((with_reducible refine block_n ?_))
        | ((with_reducible refine block_r ?_))
        | ((with_reducible refine block_hit ?_))
        | ((with_reducible refine GWp.seq ?_))
        | ((with_reducible refine GWp.block ?_))
        | ((with_reducible refine GWp.skip ?_))
        | ((with_reducible refine GWp.ret ?_))
        | ((with_reducible refine GWp.exit ?_))
        | ((with_reducible refine block_miss ?hd ?_); case hd => rfl)
        | ((with_reducible refine gPost_r ?_); cbv; try simp only [hseg])
        | ((with_reducible refine gPost_n ?_); cbv; try simp only [hseg])
        | ((with_reducible refine fork_t ?_); cbv; try simp only [hseg])
        | ((with_reducible refine fork_f ?_); cbv; try simp only [hseg])
        | ((with_reducible refine GWp.cond_t ?hc ?_); case hc => rfl)
        | ((with_reducible refine GWp.cond_f ?hc ?_); case hc => rfl)
        | ((with_reducible refine GWp.region (base := 0) ?_); intro K hK; cbv; try simp only [hseg])
        | ((with_reducible refine GWp.draws (base := 0) hM ?ho ?_); (case ho => rfl); intro K hK; cbv; try simp only [hseg])
        | ((with_reducible refine need_nil ?_))
        | ((with_reducible refine need_cons ?hp ?_); case hp => first | exact True.intro | with_reducible rfl | exact nn_ok hO (by decide))
        | (fail)
      refine need_cons (sOk_of hO (by show _ + 1 ≤ _; omega)) (need_nil ?_)
      have hz : (sadd s ⟨#[32]⟩).size = s.size + 1 := sadd_size hO s _
      have hz3 : sadd (sadd s ⟨#[32]⟩) v = joinT (fields.take (i + 1)) := by rw [hj]; cases hO; rfl
      repeat' first
        | ((with_reducible refine hK _ ?_); clear hK K)
        | ((with_reducible refine thenA_n ?_))
        | ((with_reducible refine thenA_r ?_))
        | ((with_reducible refine thenA_e ?_))
        | ((with_reducible refine block_n ?_))
        | ((with_reducible refine block_r ?_))
        | ((with_reducible refine block_hit ?_))
        | ((with_reducible refine GWp.seq ?_))
        | ((with_reducible refine GWp.block ?_))
        | ((with_reducible refine GWp.skip ?_))
        | ((with_reducible refine GWp.ret ?_))
        | ((with_reducible refine GWp.exit ?_))
        | ((with_reducible refine block_miss ?hd ?_); case hd => rfl)
        | ((with_reducible refine gPost_r ?_); cbv; try simp only [hseg])
        | ((with_reducible refine gPost_n ?_); cbv; try simp only [hseg])
        | ((with_reducible refine fork_t ?_); cbv; try simp only [hseg])
        | ((with_reducible refine fork_f ?_); cbv; try simp only [hseg])
        | ((with_reducible refine GWp.cond_t ?hc ?_); case hc => rfl)
        | ((with_reducible refine GWp.cond_f ?hc ?_); case hc => rfl)
        | ((with_reducible refine GWp.region (base := 0) ?_); intro K hK; cbv; try simp only [hseg])
        | ((with_reducible refine GWp.draws (base := 0) hM ?ho ?_); (case ho => rfl); intro K hK; cbv; try simp only [hseg])
        | ((with_reducible refine need_nil ?_))
        | ((with_reducible refine need_cons ?hp ?_); case hp => first | exact True.intro | with_reducible rfl | exact nn_ok hO (by decide))
        | (fail)
      repeat (simp only [e2]; cbv)
      refine need_cons (by
        try clear hK K
        clear hM hP hC hR; cases hO
        simp only [Ops.std, stdCmp, stdBin, scmp_eql, scmp_neq, stdUn, Int.ofNat_eq_natCast] at *
        subst he; simp; omega) ?_
      refine need_cons (by
        try clear hK K
        clear hM hP hC hR; cases hO
        simp only [Ops.std, stdCmp, stdBin, scmp_eql, scmp_neq, stdUn, Int.ofNat_eq_natCast] at *
        subst he; exact strs_all _) ?_
      refine need_cons (sOk_of hO (by rw [hz]; omega)) (need_nil ?_)
      generalize sadd (sadd s ⟨#[32]⟩) v = s2 at hz3 ⊢
      repeat' first
        | ((with_reducible refine hK _ ?_); clear hK K)
        | ((with_reducible refine thenA_n ?_))
        | ((with_reducible refine thenA_r ?_))
        | ((with_reducible refine thenA_e ?_))
        | ((with_reducible refine block_n ?_))
        | ((with_reducible refine block_r ?_))
        | ((with_reducible refine block_hit ?_))
        | ((with_reducible refine GWp.seq ?_))
        | ((with_reducible refine GWp.block ?_))
        | ((with_reducible refine GWp.skip ?_))
        | ((with_reducible refine GWp.ret ?_))
        | ((with_reducible refine GWp.exit ?_))
        | ((with_reducible refine block_miss ?hd ?_); case hd => rfl)
        | ((with_reducible refine gPost_r ?_); cbv; try simp only [hseg])
        | ((with_reducible refine gPost_n ?_); cbv; try simp only [hseg])
        | ((with_reducible refine fork_t ?_); cbv; try simp only [hseg])
        | ((with_reducible refine fork_f ?_); cbv; try simp only [hseg])
        | ((with_reducible refine GWp.cond_t ?hc ?_); case hc => rfl)
        | ((with_reducible refine GWp.cond_f ?hc ?_); case hc => rfl)
        | ((with_reducible refine GWp.region (base := 0) ?_); intro K hK; cbv; try simp only [hseg])
        | ((with_reducible refine GWp.draws (base := 0) hM ?ho ?_); (case ho => rfl); intro K hK; cbv; try simp only [hseg])
        | ((with_reducible refine need_nil ?_))
        | ((with_reducible refine need_cons ?hp ?_); case hp => first | exact True.intro | with_reducible rfl | exact nn_ok hO (by decide))
        | (fail)
      cbv
      rw [e1]
      exact ⟨fields.length - (i + 1), by omega, s2, i + 1, by cbv, by omega, hz3, rfl⟩
    · have hi0 : i = 0 := by
        try clear hK K
        clear hM hP hC hR; cases hO
        simp only [Ops.std, stdCmp, stdBin, scmp_eql, scmp_neq, stdUn, Int.ofNat_eq_natCast] at *
        simp at h4; omega
      rw [if_pos hi0] at hj
      have hs0 : s = ⟨#[]⟩ := by rw [g2, hi0]; rfl
      have hz3 : sadd s v = joinT (fields.take (i + 1)) := by
        rw [hj, hs0]; cases hO; exact ByteArray.empty_append
      repeat' first
        | ((with_reducible refine hK _ ?_); clear hK K)
        | ((with_reducible refine thenA_n ?_))
        | ((with_reducible refine thenA_r ?_))
        | ((with_reducible refine thenA_e ?_))
        | ((with_reducible refine block_n ?_))
        | ((with_reducible refine block_r ?_))
        | ((with_reducible refine block_hit ?_))
        | ((with_reducible refine GWp.seq ?_))
        | ((with_reducible refine GWp.block ?_))
        | ((with_reducible refine GWp.skip ?_))
        | ((with_reducible refine GWp.ret ?_))
        | ((with_reducible refine GWp.exit ?_))
        | ((with_reducible refine block_miss ?hd ?_); case hd => rfl)
        | ((with_reducible refine gPost_r ?_); cbv; try simp only [hseg])
        | ((with_reducible refine gPost_n ?_); cbv; try simp only [hseg])
        | ((with_reducible refine fork_t ?_); cbv; try simp only [hseg])
        | ((with_reducible refine fork_f ?_); cbv; try simp only [hseg])
        | ((with_reducible refine GWp.cond_t ?hc ?_); case hc => rfl)
        | ((with_reducible refine GWp.cond_f ?hc ?_); case hc => rfl)
        | ((with_reducible refine GWp.region (base := 0) ?_); intro K hK; cbv; try simp only [hseg])
        | ((with_reducible refine GWp.draws (base := 0) hM ?ho ?_); (case ho => rfl); intro K hK; cbv; try simp only [hseg])
        | ((with_reducible refine need_nil ?_))
        | ((with_reducible refine need_cons ?hp ?_); case hp => first | exact True.intro | with_reducible rfl | exact nn_ok hO (by decide))
        | (fail)
      repeat (simp only [e2]; cbv)
      refine need_cons (by
        try clear hK K
        clear hM hP hC hR; cases hO
        simp only [Ops.std, stdCmp, stdBin, scmp_eql, scmp_neq, stdUn, Int.ofNat_eq_natCast] at *
        subst he; simp; omega) ?_
      refine need_cons (by
        try clear hK K
        clear hM hP hC hR; cases hO
        simp only [Ops.std, stdCmp, stdBin, scmp_eql, scmp_neq, stdUn, Int.ofNat_eq_natCast] at *
        subst he; exact strs_all _) ?_
      refine need_cons (sOk_of hO (by omega)) (need_nil ?_)
      generalize sadd s v = s2 at hz3 ⊢
      repeat' first
        | ((with_reducible refine hK _ ?_); clear hK K)
        | ((with_reducible refine thenA_n ?_))
        | ((with_reducible refine thenA_r ?_))
        | ((with_reducible refine thenA_e ?_))
        | ((with_reducible refine block_n ?_))
        | ((with_reducible refine block_r ?_))
        | ((with_reducible refine block_hit ?_))
        | ((with_reducible refine GWp.seq ?_))
        | ((with_reducible refine GWp.block ?_))
        | ((with_reducible refine GWp.skip ?_))
        | ((with_reducible refine GWp.ret ?_))
        | ((with_reducible refine GWp.exit ?_))
        | ((with_reducible refine block_miss ?hd ?_); case hd => rfl)
        | ((with_reducible refine gPost_r ?_); cbv; try simp only [hseg])
        | ((with_reducible refine gPost_n ?_); cbv; try simp only [hseg])
        | ((with_reducible refine fork_t ?_); cbv; try simp only [hseg])
        | ((with_reducible refine fork_f ?_); cbv; try simp only [hseg])
        | ((with_reducible refine GWp.cond_t ?hc ?_); case hc => rfl)
        | ((with_reducible refine GWp.cond_f ?hc ?_); case hc => rfl)
        | ((with_reducible refine GWp.region (base := 0) ?_); intro K hK; cbv; try simp only [hseg])
        | ((with_reducible refine GWp.draws (base := 0) hM ?ho ?_); (case ho => rfl); intro K hK; cbv; try simp only [hseg])
        | ((with_reducible refine need_nil ?_))
        | ((with_reducible refine need_cons ?hp ?_); case hp => first | exact True.intro | with_reducible rfl | exact nn_ok hO (by decide))
        | (fail)
      cbv
      rw [e1]
      exact ⟨fields.length - (i + 1), by omega, s2, i + 1, by cbv, by omega, hz3, rfl⟩
  · have hi : i = fields.length := by
      try clear hK K
      clear hM hP hC hR; cases hO
      simp only [Ops.std, stdCmp, stdBin, scmp_eql, scmp_neq, stdUn, Int.ofNat_eq_natCast] at *
      simp at h3 hlen; omega
    repeat' first
      | ((with_reducible refine hK _ ?_); clear hK K)
      | ((with_reducible refine thenA_n ?_))
      | ((with_reducible refine thenA_r ?_))
      | ((with_reducible refine thenA_e ?_))
      | ((with_reducible refine block_n ?_))
      | ((with_reducible refine block_r ?_))
      | ((with_reducible refine block_hit ?_))
      | ((with_reducible refine GWp.seq ?_))
      | ((with_reducible refine GWp.block ?_))
      | ((with_reducible refine GWp.skip ?_))
      | ((with_reducible refine GWp.ret ?_))
      | ((with_reducible refine GWp.exit ?_))
      | ((with_reducible refine block_miss ?hd ?_); case hd => rfl)
      | ((with_reducible refine gPost_r ?_); cbv; try simp only [hseg])
      | ((with_reducible refine gPost_n ?_); cbv; try simp only [hseg])
      | ((with_reducible refine fork_t ?_); cbv; try simp only [hseg])
      | ((with_reducible refine fork_f ?_); cbv; try simp only [hseg])
      | ((with_reducible refine GWp.cond_t ?hc ?_); case hc => rfl)
      | ((with_reducible refine GWp.cond_f ?hc ?_); case hc => rfl)
      | ((with_reducible refine GWp.region (base := 0) ?_); intro K hK; cbv; try simp only [hseg])
      | ((with_reducible refine GWp.draws (base := 0) hM ?ho ?_); (case ho => rfl); intro K hK; cbv; try simp only [hseg])
      | ((with_reducible refine need_nil ?_))
      | ((with_reducible refine need_cons ?hp ?_); case hp => first | exact True.intro | with_reducible rfl | exact nn_ok hO (by decide))
      | (fail)
    refine hR _ _ ⟨s, ?_, rfl, rfl⟩
    rw [g2, hi, List.take_length]
end Go.Gv

namespace Go.Gv
open Go.Av Go.Proofs Go.Shelf Go.RowKit
set_option maxRecDepth 100000
set_option maxHeartbeats 4000000
set_option linter.unusedSimpArgs false

def joinRen : Go.Shelf.Ren := ⟨fun n => match n with | 156 => 34 | 165 => 38 | 166 => 39 | 169 => 40 | 240 => 41 | 241 => 42 | 276 => 43 | 277 => 44 | n => n,
  fun n => match n with | 31 => 25 | 37 => 22 | 70 => 58 | 72 => 60 | 75 => 63 | 76 => 64 | 80 => 66 | 127 => 71 | 164 => 72 | n => n, fun n => n⟩

theorem joinLays : Lays.n156 Try.prog joinRen := by
  constructor
  all_goals first | rfl | (intro w; rfl)

theorem joinX : Builder.Extra Try.prog joinRen where
  sizeBuilder := rfl
  liesBuilder := by kernel_rfl
  t5 := rfl
  a5 := fun _ => rfl
  z5 := fun _ => rfl
  v5 := fun _ => rfl
  infoByte := rfl
  cellsByte := by kernel_rfl
  sizeByte := rfl
  neB5 := by decide

theorem strs_cells {S : Nat → Prop} {w : World} {b : Nat} : ∀ {l : List ByteArray} {o : Nat}, RepSE S w b o (strs l) → ∀ j x, l[j]? = some x → w.cell? ⟨b, o + j, none⟩ = some (.string x)
  | [], o, _, j, x, hj => by simp at hj
  | y :: l, o, h, j, x, hj => by
    simp only [strs, List.map_cons, RepSE, RepSC, List.length_singleton] at h
    obtain ⟨⟨⟨u, h1, h2⟩, _⟩, h3⟩ := h
    cases j with
    | zero =>
      simp at hj; subst hj
      simp only [RepS] at h2
      rw [Nat.add_zero, h1, h2.1]
    | succ j =>
      simp at hj
      have := strs_cells h3 j x hj
      rwa [show o + 1 + j = o + (j + 1) by omega] at this

theorem c_Join (els : List (List T)) (fields : List ByteArray) (he : els = strs fields) (hl : fields.length ≤ 1048576) (hF : ∀ f ∈ fields, f.size ≤ 1048576) :
    ACalls Try.prog 34 [roA els, litS ⟨#[32]⟩] [] (fun res bx => ∃ s, s = joinT fields ∧ res = litS s ∧ bx = []) := by
  intro w vals S L bl O1 O2 h1 h2 hn hsl hst
  obtain ⟨v1, us1, o1, o2, e1, rfl, ⟨g1, g2⟩, h1⟩ := h1
  obtain ⟨v2, us2, o3, o4, e2, rfl, ⟨g3, g4⟩, h1⟩ := h1
  obtain ⟨rfl, rfl⟩ := h1
  obtain ⟨rfl, rfl⟩ := h2
  rw [flat_one g1] at g2
  rw [flat_one g3] at g4
  obtain ⟨u, us, p1, p2, k1, rfl, ⟨hr, rfl⟩, ⟨_, rfl⟩⟩ := g2
  obtain ⟨u', us', p3, p4, k2, rfl, ⟨rfl, _, rfl⟩, ⟨_, rfl⟩⟩ := g4
  simp at k1 k2
  obtain ⟨rfl, _⟩ := k1
  obtain ⟨rfl, _⟩ := k2
  subst e2
  simp only [RepS] at hr
  obtain ⟨ad, cap, rfl, hcap, hne⟩ := hr
  have hv : vals = #[.slice ad els.length cap, .string ⟨#[32]⟩] := by
    apply Array.ext'
    simpa using e1
  subst hv
  have main : Calls Try.prog 34 #[.slice ad els.length cap, .string ⟨#[32]⟩] w fun e w' => e = .returned (.string (joinT fields)) ∧ Below w.heap.size w w' := by
    by_cases h0 : els = []
    · have hf0 : fields = [] := by
        cases fields with
        | nil => rfl
        | cons a r => rw [he] at h0; simp [strs] at h0
      subst h0
      subst hf0
      exact (Any.strings_Join_none joinLays joinX ad cap ⟨#[32]⟩ w).mono fun e w' ⟨he, hw⟩ => ⟨he, hw ▸ Below.refl _ _⟩
    · obtain ⟨b, o, rfl, hLb, hrep⟩ := hne h0
      subst he
      have hcells := strs_cells hrep
      have hj : (Lib.join (fields.map (·.data.toList)) [32]).length ≤ 140737488355328 := by
        have h1 := joinT_size_all fields hF
        have h2 : (joinT fields).size = (Lib.join (fields.map (·.data.toList)) [32]).length := by simp [joinT, ByteArray.size]
        have h3 : fields.length * (1048576 + 1) ≤ 1048576 * (1048576 + 1) := Nat.mul_le_mul_right _ hl
        omega
      rw [strs_len] at hcap ⊢
      exact Any.strings_Join joinLays joinX b o cap fields ⟨#[32]⟩ w hcells (hst b hLb).1 (by omega) hcap hj
  refine Calls.mono main ?_
  rintro e w' ⟨rfl, hbel⟩
  refine ⟨_, rfl, litS (joinT fields), [], S, [], [], [], ⟨_, rfl, rfl, rfl⟩, ⟨⟨rfl, rfl⟩, _, [], [], [], rfl, rfl, ⟨rfl, rfl, rfl⟩, rfl, rfl⟩, ⟨rfl, rfl⟩, by simp, ?_, fun _ h => h, fun _ h => .inl h, Keeps.of_below hbel, by simp, List.prefix_rfl⟩
  intro b hb
  have := hst b (hsl b hb)
  exact ⟨by have := hbel.size; omega, by simp⟩

theorem c_JoinTexts (els : List (List T)) (fields : List ByteArray) (he : els = strs fields) (hl : fields.length ≤ 1048576) (hF : ∀ f ∈ fields, f.size ≤ 1048576) :
    ACalls Try.prog 18 [roA els] [] (fun res bx => ∃ s, s = joinT fields ∧ res = litS s ∧ bx = []) := by
  refine gcalls_by tys_ok 5 [.tmp 2] (fn := Try.f18) rfl rfl rfl rfl ?_ ?_ ?_
  · simp [stampFree, roA, A.stamp, A.rstamp, stampIn]
  · simp
  intro O hO P hP C hC R hR
  have hM : P.follows .mixedOrders = true := by rw [hP]; rfl
  obtain ⟨bin, cmp, sadd, scmp, beq, bnot, un, wrap, size, byte, sub, len, seg, app, get, set, nat, nadd, nsub, repl, text, bytes, mn, mx, nz, nn, idx, bnd, le, all, one, lits, isB, sOk, aOk, mOk⟩ := O
  have hseg : ∀ e, seg 0 (len e) e = e := by intro e; cases hO; simp
  repeat' first
    | ((with_reducible refine hK _ ?_); clear hK K)
    | ((with_reducible refine thenA_n ?_))
    | ((with_reducible refine thenA_r ?_))
    | ((with_reducible refine thenA_e ?_))
    | ((with_reducible refine block_n ?_))
    | ((with_reducible refine block_r ?_))
    | ((with_reducible refine block_hit ?_))
    | ((with_reducible refine GWp.seq ?_))
    | ((with_reducible refine GWp.block ?_))
    | ((with_reducible refine GWp.skip ?_))
    | ((with_reducible refine GWp.ret ?_))
    | ((with_reducible refine GWp.exit ?_))
    | ((with_reducible refine block_miss ?hd ?_); case hd => rfl)
    | ((with_reducible refine gPost_r ?_); cbv; try simp only [hseg])
    | ((with_reducible refine gPost_n ?_); cbv; try simp only [hseg])
    | ((with_reducible refine fork_t ?_); cbv; try simp only [hseg])
    | ((with_reducible refine fork_f ?_); cbv; try simp only [hseg])
    | ((with_reducible refine GWp.cond_t ?hc ?_); case hc => rfl)
    | ((with_reducible refine GWp.cond_f ?hc ?_); case hc => rfl)
    | ((with_reducible refine GWp.region (base := 0) ?_); intro K hK; cbv; try simp only [hseg])
    | ((with_reducible refine GWp.draws (base := 0) hM ?ho ?_); (case ho => rfl); intro K hK; cbv; try simp only [hseg])
    | ((with_reducible refine need_nil ?_))
    | ((with_reducible refine need_cons ?hp ?_); case hp => first | exact True.intro | with_reducible rfl | exact nn_ok hO (by decide))
    | (fail)
  refine GCall.by ⟨fun _ _ => false, fun _ _ => false, []⟩ ?_
  cbv
  try simp only [hseg]
  refine GCallD.by hP rfl (c_Join els fields he hl hF) ?_
  rintro res bx ⟨s, hs, rfl, rfl⟩
  cbv
  try simp only [hseg]
  repeat' first
    | ((with_reducible refine hK _ ?_); clear hK K)
    | ((with_reducible refine thenA_n ?_))
    | ((with_reducible refine thenA_r ?_))
    | ((with_reducible refine thenA_e ?_))
    | ((with_reducible refine block_n ?_))
    | ((with_reducible refine block_r ?_))
    | ((with_reducible refine block_hit ?_))
    | ((with_reducible refine GWp.seq ?_))
    | ((with_reducible refine GWp.block ?_))
    | ((with_reducible refine GWp.skip ?_))
    | ((with_reducible refine GWp.ret ?_))
    | ((with_reducible refine GWp.exit ?_))
    | ((with_reducible refine block_miss ?hd ?_); case hd => rfl)
    | ((with_reducible refine gPost_r ?_); cbv; try simp only [hseg])
    | ((with_reducible refine gPost_n ?_); cbv; try simp only [hseg])
    | ((with_reducible refine fork_t ?_); cbv; try simp only [hseg])
    | ((with_reducible refine fork_f ?_); cbv; try simp only [hseg])
    | ((with_reducible refine GWp.cond_t ?hc ?_); case hc => rfl)
    | ((with_reducible refine GWp.cond_f ?hc ?_); case hc => rfl)
    | ((with_reducible refine GWp.region (base := 0) ?_); intro K hK; cbv; try simp only [hseg])
    | ((with_reducible refine GWp.draws (base := 0) hM ?ho ?_); (case ho => rfl); intro K hK; cbv; try simp only [hseg])
    | ((with_reducible refine need_nil ?_))
    | ((with_reducible refine need_cons ?hp ?_); case hp => first | exact True.intro | with_reducible rfl | exact nn_ok hO (by decide))
    | (fail)
  exact hR _ _ ⟨s, hs, rfl, rfl⟩
end Go.Gv
