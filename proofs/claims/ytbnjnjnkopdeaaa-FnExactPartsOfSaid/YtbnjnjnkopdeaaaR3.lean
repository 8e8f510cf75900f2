/- Part R3 of the proof: contracts of functions of the program, each walked once. -/
import Derived.Test.YtbnjnjnkopdeaaaR1

namespace Go.Gv
open Go.Av Go.Proofs
set_option maxRecDepth 10000
set_option linter.unusedSimpArgs false

def invC (els : List (List T)) (l : List Sm) (N : Nat) (σ : AS) : Prop :=
  ∃ (i m : Nat), σ = ⟨vag 49 [(0, ⟨.one, [.ro true els]⟩), (3, litI (Int.ofNat m)), (4, litI (Int.ofNat i))], [], 1⟩ ∧ i ≤ l.length ∧ m = Sm.partss (l.take i) ∧ N = l.length - i
def invC2 (els : List (List T)) (i m0 : Nat) (x : List Ex) (N : Nat) (σ : AS) : Prop :=
  ∃ (k m : Nat), σ = ⟨vag 49 [(0, ⟨.one, [.ro true els]⟩), (3, litI (Int.ofNat m)), (4, litI (Int.ofNat i)), (5, litI (Int.ofNat k))], [], 1⟩ ∧ k ≤ x.length ∧ m = m0 + Ex.partss (x.take k) ∧ N = x.length - k

theorem c_l28CountS (l : List Sm) (els : List (List T)) (he : els = l.map Sm.t) (hb : l.length + Sm.szs l ≤ 1048576)
    (ih : ∀ k s t x a b, Sm.mk k s t x a b ∈ l → NumOk 12 [roT (a.map Sm.t)] (Sm.partss a) ∧ NumOk 12 [roT (b.map Sm.t)] (Sm.partss b)) : NumOk 12 [roT els] (Sm.partss l) := by
  refine gcalls_by tys_ok 49 [.tmp 2] (fn := Try.f12) rfl rfl rfl rfl ?_ ?_ ?_
  · simp [stampFree, litI, A.stamp, A.rstamp, stampIn]
  · simp
  intro O hO P hP C hC R hR
  have hM : P.follows .mixedOrders = true := by rw [hP]; rfl
  obtain ⟨bin, cmp, sadd, scmp, beq, bnot, un, wrap, size, byte, sub, len, seg, app, get, set, nat, nadd, nsub, repl, text, bytes, mn, mx, nz, nn, idx, bnd, le, all, one, lits, isB, sOk, aOk, mOk⟩ := O
  have hseg : ∀ e, seg 0 (len e) e = e := by intro e; cases hO; simp
  obtain ⟨N, hN⟩ : ∃ N, N = l.length := ⟨_, rfl⟩
  have hNe : els.length = N := by simp [he, hN]
  have hlen : len els = N := len_of hO hNe
  have ha : all els 6 := all_of hO (by subst he; simp [Sm.t_len])
  have hp := Sm.partss_le l
  repeat' (first
   | (with_reducible first | (refine hK _ ?_; clear hK K) | refine thenA_n ?_ | refine thenA_r ?_ | refine thenA_e ?_ | refine block_n ?_ | refine block_r ?_ | refine block_hit ?_ | refine GWp.seq ?_ | refine GWp.block ?_ | refine GWp.skip ?_ | refine GWp.ret ?_ | refine GWp.exit ?_ | refine need_nil ?_ | refine need_cons True.intro ?_)
   | ((with_reducible first | refine gPost_r ?_ | refine gPost_n ?_ | refine fork_t ?_ | refine fork_f ?_ | (refine GWp.region (base := 0) ?_; intro K hK)); cbv; try simp only [hseg])
   | ((with_reducible refine GWp.cond_t ?hh ?_); (case hh => rfl)) | ((with_reducible refine GWp.cond_f ?hh ?_); (case hh => rfl)) | ((with_reducible refine block_miss ?hh ?_); (case hh => rfl))
   | ((with_reducible refine GWp.draws (base := 0) hM ?hh ?_); (case hh => rfl); intro K hK; cbv; try simp only [hseg])
   | ((with_reducible refine need_cons ?hh ?_); (case hh => first | with_reducible rfl | exact nn_ok hO (by decide))) | fail)
  refine GWp.loop (nb := 0) (keep := fun t => t == 0 || t == 3 || t == 4) (kk := fun _ _ => none) (invC els l) (by simp at hC; simp [hC]) ?_ ?_
  · cbv
    exact ⟨_, 0, 0, by cbv, by simp, by simp [Sm.partss], rfl⟩
  rintro n σ ⟨i, m, rfl, g1, g2, rfl⟩
  repeat' (first
   | (with_reducible first | (refine hK _ ?_; clear hK K) | refine thenA_n ?_ | refine thenA_r ?_ | refine thenA_e ?_ | refine block_n ?_ | refine block_r ?_ | refine block_hit ?_ | refine GWp.seq ?_ | refine GWp.block ?_ | refine GWp.skip ?_ | refine GWp.ret ?_ | refine GWp.exit ?_ | refine need_nil ?_ | refine need_cons True.intro ?_)
   | ((with_reducible first | refine gPost_r ?_ | refine gPost_n ?_ | refine fork_t ?_ | refine fork_f ?_ | (refine GWp.region (base := 0) ?_; intro K hK)); cbv; try simp only [hseg])
   | ((with_reducible refine GWp.cond_t ?hh ?_); (case hh => rfl)) | ((with_reducible refine GWp.cond_f ?hh ?_); (case hh => rfl)) | ((with_reducible refine block_miss ?hh ?_); (case hh => rfl))
   | ((with_reducible refine GWp.draws (base := 0) hM ?hh ?_); (case hh => rfl); intro K hK; cbv; try simp only [hseg])
   | ((with_reducible refine need_cons ?hh ?_); (case hh => first | with_reducible rfl | exact nn_ok hO (by decide))) | fail)
  simp only [hlen]
  refine GWp.cond rfl (fun h4 => ?_) (fun h4 => ?_)
  · have hlt : i < N := by
      try clear hK K
      clear hM hP hC hR; cases hO
      simp only [Ops.std, stdCmp, stdBin, scmp_eql, scmp_neq, stdUn, Int.ofNat_eq_natCast] at *
      simpa using h4
    obtain ⟨y, hy, hy', ht, e1⟩ := map_at hO he (hN ▸ hlt)
    have hz : Sm.partss (l.take (i + 1)) = Sm.partss (l.take i) + y.parts := by rw [ht, Sm.partss_app, Sm.partss_one]
    have hzl : Sm.partss (l.take (i + 1)) ≤ Sm.partss l := by
      have := Sm.partss_app (l.take (i + 1)) (l.drop (i + 1))
      rw [List.take_append_drop] at this
      omega
    have hys := Sm.sz_mem hy
    obtain ⟨k, s, t, x, a, b⟩ := y
    rw [Sm.parts] at hz
    rw [Sm.sz] at hys
    obtain ⟨hca, hcb⟩ := ih k s t x a b hy
    simp only [Sm.t_mk] at e1
    obtain ⟨xx, hxx⟩ : ∃ xx, xx = x.map Ex.t := ⟨_, rfl⟩
    rw [← hxx] at e1
    generalize a.map Sm.t = xa at hca e1
    generalize b.map Sm.t = xb at hcb e1
    have hi : idx (Int.ofNat i) (len els) := hlen ▸ idx_nat hO hlt
    obtain ⟨M, hM2⟩ : ∃ M, M = x.length := ⟨_, rfl⟩
    have hlx : len xx = M := len_of hO (by simp [hxx, hM2])
    have hax : all xx 4 := all_of hO (by subst hxx; simp [Ex.t_len])
    repeat' (first
     | (with_reducible first | (refine hK _ ?_; clear hK K) | refine thenA_n ?_ | refine thenA_r ?_ | refine thenA_e ?_ | refine block_n ?_ | refine block_r ?_ | refine block_hit ?_ | refine GWp.seq ?_ | refine GWp.block ?_ | refine GWp.skip ?_ | refine GWp.ret ?_ | refine GWp.exit ?_ | refine need_nil ?_ | refine need_cons True.intro ?_)
     | ((with_reducible first | refine gPost_r ?_ | refine gPost_n ?_ | refine fork_t ?_ | refine fork_f ?_ | (refine GWp.region (base := 0) ?_; intro K hK)); cbv; try simp only [hseg])
     | ((with_reducible refine GWp.cond_t ?hh ?_); (case hh => rfl)) | ((with_reducible refine GWp.cond_f ?hh ?_); (case hh => rfl)) | ((with_reducible refine block_miss ?hh ?_); (case hh => rfl))
     | ((with_reducible refine GWp.draws (base := 0) hM ?hh ?_); (case hh => rfl); intro K hK; cbv; try simp only [hseg])
     | ((with_reducible refine need_cons ?hh ?_); (case hh => first | with_reducible rfl | exact nn_ok hO (by decide))) | fail)
    refine GWp.loop (nb := 0) (keep := fun t => t == 0 || t == 3 || t == 4 || t == 5) (kk := fun _ _ => none) (invC2 els i m x) (by simp at hC; simp [hC]) ?_ ?_
    · cbv
      exact ⟨_, 0, m, by cbv, by simp, by simp [Ex.partss], rfl⟩
    rintro n σ ⟨j, m1, rfl, j1, j2, rfl⟩
    repeat' (first
     | (with_reducible first | (refine hK _ ?_; clear hK K) | refine thenA_n ?_ | refine thenA_r ?_ | refine thenA_e ?_ | refine block_n ?_ | refine block_r ?_ | refine block_hit ?_ | refine GWp.seq ?_ | refine GWp.block ?_ | refine GWp.skip ?_ | refine GWp.ret ?_ | refine GWp.exit ?_ | refine need_nil ?_ | refine need_cons True.intro ?_)
     | ((with_reducible first | refine gPost_r ?_ | refine gPost_n ?_ | refine fork_t ?_ | refine fork_f ?_ | (refine GWp.region (base := 0) ?_; intro K hK)); cbv; try simp only [hseg])
     | ((with_reducible refine GWp.cond_t ?hh ?_); (case hh => rfl)) | ((with_reducible refine GWp.cond_f ?hh ?_); (case hh => rfl)) | ((with_reducible refine block_miss ?hh ?_); (case hh => rfl))
     | ((with_reducible refine GWp.draws (base := 0) hM ?hh ?_); (case hh => rfl); intro K hK; cbv; try simp only [hseg])
     | ((with_reducible refine need_cons ?hh ?_); (case hh => first | with_reducible rfl | exact nn_ok hO (by decide))) | fail)
    repeat (simp only [e1]; cbv)
    refine need_cons hi (need_cons ha (need_nil ?_))
    simp only [hlx]
    repeat' (first
     | (with_reducible first | (refine hK _ ?_; clear hK K) | refine thenA_n ?_ | refine thenA_r ?_ | refine thenA_e ?_ | refine block_n ?_ | refine block_r ?_ | refine block_hit ?_ | refine GWp.seq ?_ | refine GWp.block ?_ | refine GWp.skip ?_ | refine GWp.ret ?_ | refine GWp.exit ?_ | refine need_nil ?_ | refine need_cons True.intro ?_)
     | ((with_reducible first | refine gPost_r ?_ | refine gPost_n ?_ | refine fork_t ?_ | refine fork_f ?_ | (refine GWp.region (base := 0) ?_; intro K hK)); cbv; try simp only [hseg])
     | ((with_reducible refine GWp.cond_t ?hh ?_); (case hh => rfl)) | ((with_reducible refine GWp.cond_f ?hh ?_); (case hh => rfl)) | ((with_reducible refine block_miss ?hh ?_); (case hh => rfl))
     | ((with_reducible refine GWp.draws (base := 0) hM ?hh ?_); (case hh => rfl); intro K hK; cbv; try simp only [hseg])
     | ((with_reducible refine need_cons ?hh ?_); (case hh => first | with_reducible rfl | exact nn_ok hO (by decide))) | fail)
    refine GWp.cond rfl (fun h5 => ?_) (fun h5 => ?_)
    · have hjt : j < M := by
        try clear hK K
        clear hM hP hC hR; cases hO
        simp only [Ops.std, stdCmp, stdBin, scmp_eql, scmp_neq, stdUn, Int.ofNat_eq_natCast] at *
        simpa using h5
      obtain ⟨z, hz', hz'', htz, e2⟩ := map_at hO hxx (hM2 ▸ hjt)
      have hzs := Ex.sz_mem hz'
      have hc := c_l28Parts z (by omega)
      have hq : Ex.partss (x.take (j + 1)) = Ex.partss (x.take j) + z.parts := by rw [htz, Ex.partss_app, Ex.partss_one]
      have hql : Ex.partss (x.take (j + 1)) ≤ Ex.partss x := by
        have := Ex.partss_app (x.take (j + 1)) (x.drop (j + 1))
        rw [List.take_append_drop] at this
        omega
      obtain ⟨k1, v1, s1, q1⟩ := z
      simp only [agT, Ex.t_mk, List.map, tA] at hc e2
      generalize q1.map Ex.t = xq1 at hc e2
      repeat' (first
       | (with_reducible first | (refine hK _ ?_; clear hK K) | refine thenA_n ?_ | refine thenA_r ?_ | refine thenA_e ?_ | refine block_n ?_ | refine block_r ?_ | refine block_hit ?_ | refine GWp.seq ?_ | refine GWp.block ?_ | refine GWp.skip ?_ | refine GWp.ret ?_ | refine GWp.exit ?_ | refine need_nil ?_ | refine need_cons True.intro ?_)
       | ((with_reducible first | refine gPost_r ?_ | refine gPost_n ?_ | refine fork_t ?_ | refine fork_f ?_ | (refine GWp.region (base := 0) ?_; intro K hK)); cbv; try simp only [hseg])
       | ((with_reducible refine GWp.cond_t ?hh ?_); (case hh => rfl)) | ((with_reducible refine GWp.cond_f ?hh ?_); (case hh => rfl)) | ((with_reducible refine block_miss ?hh ?_); (case hh => rfl))
       | ((with_reducible refine GWp.draws (base := 0) hM ?hh ?_); (case hh => rfl); intro K hK; cbv; try simp only [hseg])
       | ((with_reducible refine need_cons ?hh ?_); (case hh => first | with_reducible rfl | exact nn_ok hO (by decide))) | fail)
      repeat (simp only [e1, e2]; cbv)
      refine need_cons hi (need_cons ha (need_cons (hlx ▸ idx_nat hO hjt) (need_cons hax (need_nil ?_))))
      refine GCall.by ⟨fun _ _ => false, fun _ _ => false, []⟩ ?_
      cbv
      try simp only [hseg]
      refine GCallD.by hP rfl (hc) ?_
      rintro res bx ⟨r, hr, rfl, rfl⟩
      cbv
      try simp only [hseg]
      rw [← hr] at hq
      have e3 : bin .add .i64 (Int.ofNat m1) (Int.ofNat r) = _ := add_nat hO (by omega)
      generalize hm2 : m1 + r = m2 at e3
      simp only [e3]
      repeat' (first
       | (with_reducible first | (refine hK _ ?_; clear hK K) | refine thenA_n ?_ | refine thenA_r ?_ | refine thenA_e ?_ | refine block_n ?_ | refine block_r ?_ | refine block_hit ?_ | refine GWp.seq ?_ | refine GWp.block ?_ | refine GWp.skip ?_ | refine GWp.ret ?_ | refine GWp.exit ?_ | refine need_nil ?_ | refine need_cons True.intro ?_)
       | ((with_reducible first | refine gPost_r ?_ | refine gPost_n ?_ | refine fork_t ?_ | refine fork_f ?_ | (refine GWp.region (base := 0) ?_; intro K hK)); cbv; try simp only [hseg])
       | ((with_reducible refine GWp.cond_t ?hh ?_); (case hh => rfl)) | ((with_reducible refine GWp.cond_f ?hh ?_); (case hh => rfl)) | ((with_reducible refine block_miss ?hh ?_); (case hh => rfl))
       | ((with_reducible refine GWp.draws (base := 0) hM ?hh ?_); (case hh => rfl); intro K hK; cbv; try simp only [hseg])
       | ((with_reducible refine need_cons ?hh ?_); (case hh => first | with_reducible rfl | exact nn_ok hO (by decide))) | fail)
      have e : bin .add .i64 (Int.ofNat j) 1 = _ := i_succ hO (by omega)
      cbv
      rw [e]
      exact ⟨_, by omega, j + 1, m2, by cbv, by omega, by omega, rfl⟩
    · have hje : j = M := by
        try clear hK K
        clear hM hP hC hR; cases hO
        simp only [Ops.std, stdCmp, stdBin, scmp_eql, scmp_neq, stdUn, Int.ofNat_eq_natCast] at *
        simp at h5; omega
      have e4 : x.take j = x := List.take_of_length_le (by omega)
      rw [e4] at j2
      repeat' (first
       | (with_reducible first | (refine hK _ ?_; clear hK K) | refine thenA_n ?_ | refine thenA_r ?_ | refine thenA_e ?_ | refine block_n ?_ | refine block_r ?_ | refine block_hit ?_ | refine GWp.seq ?_ | refine GWp.block ?_ | refine GWp.skip ?_ | refine GWp.ret ?_ | refine GWp.exit ?_ | refine need_nil ?_ | refine need_cons True.intro ?_)
       | ((with_reducible first | refine gPost_r ?_ | refine gPost_n ?_ | refine fork_t ?_ | refine fork_f ?_ | (refine GWp.region (base := 0) ?_; intro K hK)); cbv; try simp only [hseg])
       | ((with_reducible refine GWp.cond_t ?hh ?_); (case hh => rfl)) | ((with_reducible refine GWp.cond_f ?hh ?_); (case hh => rfl)) | ((with_reducible refine block_miss ?hh ?_); (case hh => rfl))
       | ((with_reducible refine GWp.draws (base := 0) hM ?hh ?_); (case hh => rfl); intro K hK; cbv; try simp only [hseg])
       | ((with_reducible refine need_cons ?hh ?_); (case hh => first | with_reducible rfl | exact nn_ok hO (by decide))) | fail)
      repeat (simp only [e1]; cbv)
      refine need_cons hi (need_cons ha (need_cons hi (need_cons ha (need_nil ?_))))
      refine GCall.by ⟨fun _ _ => false, fun _ _ => false, []⟩ ?_
      cbv
      try simp only [hseg]
      refine GCallD.by hP rfl (hca) ?_
      rintro res bx ⟨r1, hr1, rfl, rfl⟩
      cbv
      try simp only [hseg]
      repeat (simp only [e1]; cbv)
      repeat' (first
       | (with_reducible first | (refine hK _ ?_; clear hK K) | refine thenA_n ?_ | refine thenA_r ?_ | refine thenA_e ?_ | refine block_n ?_ | refine block_r ?_ | refine block_hit ?_ | refine GWp.seq ?_ | refine GWp.block ?_ | refine GWp.skip ?_ | refine GWp.ret ?_ | refine GWp.exit ?_ | refine need_nil ?_ | refine need_cons True.intro ?_)
       | ((with_reducible first | refine gPost_r ?_ | refine gPost_n ?_ | refine fork_t ?_ | refine fork_f ?_ | (refine GWp.region (base := 0) ?_; intro K hK)); cbv; try simp only [hseg])
       | ((with_reducible refine GWp.cond_t ?hh ?_); (case hh => rfl)) | ((with_reducible refine GWp.cond_f ?hh ?_); (case hh => rfl)) | ((with_reducible refine block_miss ?hh ?_); (case hh => rfl))
       | ((with_reducible refine GWp.draws (base := 0) hM ?hh ?_); (case hh => rfl); intro K hK; cbv; try simp only [hseg])
       | ((with_reducible refine need_cons ?hh ?_); (case hh => first | with_reducible rfl | exact nn_ok hO (by decide))) | fail)
      have e5 : bin .add .i64 (Int.ofNat m1) (Int.ofNat r1) = _ := add_nat hO (by omega)
      generalize hm2 : m1 + r1 = m2 at e5
      simp only [e5]
      refine need_cons hi (need_cons ha ?_)
      repeat' (first
       | (with_reducible first | (refine hK _ ?_; clear hK K) | refine thenA_n ?_ | refine thenA_r ?_ | refine thenA_e ?_ | refine block_n ?_ | refine block_r ?_ | refine block_hit ?_ | refine GWp.seq ?_ | refine GWp.block ?_ | refine GWp.skip ?_ | refine GWp.ret ?_ | refine GWp.exit ?_ | refine need_nil ?_ | refine need_cons True.intro ?_)
       | ((with_reducible first | refine gPost_r ?_ | refine gPost_n ?_ | refine fork_t ?_ | refine fork_f ?_ | (refine GWp.region (base := 0) ?_; intro K hK)); cbv; try simp only [hseg])
       | ((with_reducible refine GWp.cond_t ?hh ?_); (case hh => rfl)) | ((with_reducible refine GWp.cond_f ?hh ?_); (case hh => rfl)) | ((with_reducible refine block_miss ?hh ?_); (case hh => rfl))
       | ((with_reducible refine GWp.draws (base := 0) hM ?hh ?_); (case hh => rfl); intro K hK; cbv; try simp only [hseg])
       | ((with_reducible refine need_cons ?hh ?_); (case hh => first | with_reducible rfl | exact nn_ok hO (by decide))) | fail)
      refine GCall.by ⟨fun _ _ => false, fun _ _ => false, []⟩ ?_
      cbv
      try simp only [hseg]
      refine GCallD.by hP rfl (hcb) ?_
      rintro res bx ⟨r2, hr2, rfl, rfl⟩
      cbv
      try simp only [hseg]
      repeat (simp only [e1]; cbv)
      simp only [e5]
      have e6 : bin .add .i64 (Int.ofNat m2) (Int.ofNat r2) = _ := add_nat hO (by omega)
      generalize hm3 : m2 + r2 = m3 at e6
      repeat' (first
       | (with_reducible first | (refine hK _ ?_; clear hK K) | refine thenA_n ?_ | refine thenA_r ?_ | refine thenA_e ?_ | refine block_n ?_ | refine block_r ?_ | refine block_hit ?_ | refine GWp.seq ?_ | refine GWp.block ?_ | refine GWp.skip ?_ | refine GWp.ret ?_ | refine GWp.exit ?_ | refine need_nil ?_ | refine need_cons True.intro ?_)
       | ((with_reducible first | refine gPost_r ?_ | refine gPost_n ?_ | refine fork_t ?_ | refine fork_f ?_ | (refine GWp.region (base := 0) ?_; intro K hK)); cbv; try simp only [hseg])
       | ((with_reducible refine GWp.cond_t ?hh ?_); (case hh => rfl)) | ((with_reducible refine GWp.cond_f ?hh ?_); (case hh => rfl)) | ((with_reducible refine block_miss ?hh ?_); (case hh => rfl))
       | ((with_reducible refine GWp.draws (base := 0) hM ?hh ?_); (case hh => rfl); intro K hK; cbv; try simp only [hseg])
       | ((with_reducible refine need_cons ?hh ?_); (case hh => first | with_reducible rfl | exact nn_ok hO (by decide))) | fail)
      simp only [e6]
      have e : bin .add .i64 (Int.ofNat i) 1 = _ := i_succ hO (by omega)
      cbv
      rw [e]
      exact ⟨_, by omega, i + 1, m3, by cbv, by omega, by omega, rfl⟩
  · have hge : i = N := by
      try clear hK K
      clear hM hP hC hR; cases hO
      simp only [Ops.std, stdCmp, stdBin, scmp_eql, scmp_neq, stdUn, Int.ofNat_eq_natCast] at *
      simp at h4; omega
    repeat' (first
     | (with_reducible first | (refine hK _ ?_; clear hK K) | refine thenA_n ?_ | refine thenA_r ?_ | refine thenA_e ?_ | refine block_n ?_ | refine block_r ?_ | refine block_hit ?_ | refine GWp.seq ?_ | refine GWp.block ?_ | refine GWp.skip ?_ | refine GWp.ret ?_ | refine GWp.exit ?_ | refine need_nil ?_ | refine need_cons True.intro ?_)
     | ((with_reducible first | refine gPost_r ?_ | refine gPost_n ?_ | refine fork_t ?_ | refine fork_f ?_ | (refine GWp.region (base := 0) ?_; intro K hK)); cbv; try simp only [hseg])
     | ((with_reducible refine GWp.cond_t ?hh ?_); (case hh => rfl)) | ((with_reducible refine GWp.cond_f ?hh ?_); (case hh => rfl)) | ((with_reducible refine block_miss ?hh ?_); (case hh => rfl))
     | ((with_reducible refine GWp.draws (base := 0) hM ?hh ?_); (case hh => rfl); intro K hK; cbv; try simp only [hseg])
     | ((with_reducible refine need_cons ?hh ?_); (case hh => first | with_reducible rfl | exact nn_ok hO (by decide))) | fail)
    have e2 : l.take i = l := List.take_of_length_le (by omega)
    rw [e2] at g2
    exact hR _ _ ⟨_, g2, rfl, rfl⟩

theorem c_l28Count : ∀ (l : List Sm), l.length + Sm.szs l ≤ 1048576 → NumOk 12 [roT (l.map Sm.t)] (Sm.partss l)
  | l, hb => c_l28CountS l _ rfl hb fun k s t x a b hm => by
    have := Sm.sz_mem hm
    rw [Sm.sz] at this
    exact ⟨c_l28Count a (by omega), c_l28Count b (by omega)⟩
termination_by l => SizeOf.sizeOf l
decreasing_by all_goals (have := List.sizeOf_lt_of_mem hm; simp at this ⊢; omega)
end Go.Gv

namespace Go.Gv
open Go.Av Go.Proofs
set_option maxRecDepth 10000
set_option linter.unusedSimpArgs false

def pBox (xr xf : List (List T)) : List (Option (List A)) := [some [.ro true xr, .ro true xf]]
def inv5a (xr xf : List (List T)) (rules : List Ru) (N : Nat) (σ : AS) : Prop :=
  ∃ (i m : Nat), σ = ⟨vag 55 [(1, ⟨.one, [.ptr 0 0]⟩), (3, litI (Int.ofNat m)), (4, litI (Int.ofNat i))], [some [.ro true xr, .ro true xf]], 1⟩ ∧ i ≤ rules.length ∧ m = Ru.partss (rules.take i) ∧ N = rules.length - i
def inv5b (xr xf : List (List T)) (m0 : Nat) (fns : List Fu) (N : Nat) (σ : AS) : Prop :=
  ∃ (i m : Nat), σ = ⟨vag 55 [(1, ⟨.one, [.ptr 0 0]⟩), (3, litI (Int.ofNat m)), (5, litI (Int.ofNat i))], [some [.ro true xr, .ro true xf]], 1⟩ ∧ i ≤ fns.length ∧ m = m0 + Fu.partss (fns.take i) ∧ N = fns.length - i

theorem c_PartsOf (p : Pg) (hz : p.sz ≤ 1048576) : NumOk 5 [agT p.t] p.parts := by
  obtain ⟨rules, fns⟩ := p
  simp only [Pg.sz] at hz
  simp only [agT, Pg.t, List.map, tA, NumOk, Pg.parts]
  obtain ⟨xr, hxr⟩ : ∃ xr, xr = rules.map Ru.t := ⟨_, rfl⟩
  obtain ⟨xf, hxf⟩ : ∃ xf, xf = fns.map Fu.t := ⟨_, rfl⟩
  rw [← hxr, ← hxf]
  refine gcalls_by tys_ok 55 [.tmp 2] (fn := Try.f5) rfl rfl rfl rfl ?_ ?_ ?_
  · simp [stampFree, litI, A.stamp, A.rstamp, stampIn]
  · simp
  intro O hO P hP C hC R hR
  have hM : P.follows .mixedOrders = true := by rw [hP]; rfl
  obtain ⟨bin, cmp, sadd, scmp, beq, bnot, un, wrap, size, byte, sub, len, seg, app, get, set, nat, nadd, nsub, repl, text, bytes, mn, mx, nz, nn, idx, bnd, le, all, one, lits, isB, sOk, aOk, mOk⟩ := O
  have hseg : ∀ e, seg 0 (len e) e = e := by intro e; cases hO; simp
  obtain ⟨N, hN⟩ : ∃ N, N = rules.length := ⟨_, rfl⟩
  have hlr : len xr = N := len_of hO (by simp [hxr, hN])
  have har : all xr 6 := all_of hO (by subst hxr; simp [Ru.t_len])
  obtain ⟨M, hM2⟩ : ∃ M, M = fns.length := ⟨_, rfl⟩
  have hlf : len xf = M := len_of hO (by simp [hxf, hM2])
  have haf : all xf 3 := all_of hO (by subst hxf; simp [Fu.t_len])
  have hpr := Ru.partss_le rules
  have hpf := Fu.partss_le fns
  repeat' (first
   | (with_reducible first | (refine hK _ ?_; clear hK K) | refine thenA_n ?_ | refine thenA_r ?_ | refine thenA_e ?_ | refine block_n ?_ | refine block_r ?_ | refine block_hit ?_ | refine GWp.seq ?_ | refine GWp.block ?_ | refine GWp.skip ?_ | refine GWp.ret ?_ | refine GWp.exit ?_ | refine need_nil ?_ | refine need_cons True.intro ?_)
   | ((with_reducible first | refine gPost_r ?_ | refine gPost_n ?_ | refine fork_t ?_ | refine fork_f ?_ | (refine GWp.region (base := 0) ?_; intro K hK)); cbv; try simp only [hseg])
   | ((with_reducible refine GWp.cond_t ?hh ?_); (case hh => rfl)) | ((with_reducible refine GWp.cond_f ?hh ?_); (case hh => rfl)) | ((with_reducible refine block_miss ?hh ?_); (case hh => rfl))
   | ((with_reducible refine GWp.draws (base := 0) hM ?hh ?_); (case hh => rfl); intro K hK; cbv; try simp only [hseg])
   | ((with_reducible refine need_cons ?hh ?_); (case hh => first | with_reducible rfl | exact nn_ok hO (by decide))) | fail)
  refine GWp.loop (nb := 1) (keep := fun t => t == 1 || t == 3 || t == 4) (kk := fun _ _ => none) (inv5a xr xf rules) (by simp at hC; simp [hC]) ?_ ?_
  · cbv
    exact ⟨_, 0, 0, by cbv, by simp, by simp [Ru.partss], rfl⟩
  rintro n σ ⟨i, m, rfl, g1, g2, rfl⟩
  repeat' (first
   | (with_reducible first | (refine hK _ ?_; clear hK K) | refine thenA_n ?_ | refine thenA_r ?_ | refine thenA_e ?_ | refine block_n ?_ | refine block_r ?_ | refine block_hit ?_ | refine GWp.seq ?_ | refine GWp.block ?_ | refine GWp.skip ?_ | refine GWp.ret ?_ | refine GWp.exit ?_ | refine need_nil ?_ | refine need_cons True.intro ?_)
   | ((with_reducible first | refine gPost_r ?_ | refine gPost_n ?_ | refine fork_t ?_ | refine fork_f ?_ | (refine GWp.region (base := 0) ?_; intro K hK)); cbv; try simp only [hseg])
   | ((with_reducible refine GWp.cond_t ?hh ?_); (case hh => rfl)) | ((with_reducible refine GWp.cond_f ?hh ?_); (case hh => rfl)) | ((with_reducible refine block_miss ?hh ?_); (case hh => rfl))
   | ((with_reducible refine GWp.draws (base := 0) hM ?hh ?_); (case hh => rfl); intro K hK; cbv; try simp only [hseg])
   | ((with_reducible refine need_cons ?hh ?_); (case hh => first | with_reducible rfl | exact nn_ok hO (by decide))) | fail)
  simp only [hlr]
  refine GWp.cond rfl (fun h4 => ?_) (fun h4 => ?_)
  · have hlt : i < N := by
      try clear hK K
      clear hM hP hC hR; cases hO
      simp only [Ops.std, stdCmp, stdBin, scmp_eql, scmp_neq, stdUn, Int.ofNat_eq_natCast] at *
      simpa using h4
    obtain ⟨y, hy, hy', ht, e1⟩ := map_at hO hxr (hN ▸ hlt)
    have hz1 : Ru.partss (rules.take (i + 1)) = Ru.partss (rules.take i) + y.parts := by rw [ht, Ru.partss_app, Ru.partss_one]
    have hzl : Ru.partss (rules.take (i + 1)) ≤ Ru.partss rules := by
      have := Ru.partss_app (rules.take (i + 1)) (rules.drop (i + 1))
      rw [List.take_append_drop] at this
      omega
    have hys := sum_mem (f := Ru.sz) hy
    obtain ⟨k, ⟨pk, pn, ps, pl⟩, a⟩ := y
    simp only [Ru.parts] at hz1
    simp only [Ru.sz] at hys
    unfold Ru.szs at hz hpr
    have hca := c_l28Count a (by omega)
    have hce := c_l28Parts (.mk pk pn ps pl) (by omega)
    simp only [Ru.t, agT, Ex.t_mk, List.map, tA, List.cons_append, List.nil_append] at e1 hce
    generalize pl.map Ex.t = xpl at hce e1
    generalize a.map Sm.t = xa at hca e1
    generalize (Ex.mk pk pn ps pl).parts = np at hce hz1
    have hi : idx (Int.ofNat i) (len xr) := hlr ▸ idx_nat hO hlt
    repeat' (first
     | (with_reducible first | (refine hK _ ?_; clear hK K) | refine thenA_n ?_ | refine thenA_r ?_ | refine thenA_e ?_ | refine block_n ?_ | refine block_r ?_ | refine block_hit ?_ | refine GWp.seq ?_ | refine GWp.block ?_ | refine GWp.skip ?_ | refine GWp.ret ?_ | refine GWp.exit ?_ | refine need_nil ?_ | refine need_cons True.intro ?_)
     | ((with_reducible first | refine gPost_r ?_ | refine gPost_n ?_ | refine fork_t ?_ | refine fork_f ?_ | (refine GWp.region (base := 0) ?_; intro K hK)); cbv; try simp only [hseg])
     | ((with_reducible refine GWp.cond_t ?hh ?_); (case hh => rfl)) | ((with_reducible refine GWp.cond_f ?hh ?_); (case hh => rfl)) | ((with_reducible refine block_miss ?hh ?_); (case hh => rfl))
     | ((with_reducible refine GWp.draws (base := 0) hM ?hh ?_); (case hh => rfl); intro K hK; cbv; try simp only [hseg])
     | ((with_reducible refine need_cons ?hh ?_); (case hh => first | with_reducible rfl | exact nn_ok hO (by decide))) | fail)
    repeat (simp only [e1]; cbv)
    refine need_cons hi (need_cons har (need_nil ?_))
    repeat' (first
     | (with_reducible first | (refine hK _ ?_; clear hK K) | refine thenA_n ?_ | refine thenA_r ?_ | refine thenA_e ?_ | refine block_n ?_ | refine block_r ?_ | refine block_hit ?_ | refine GWp.seq ?_ | refine GWp.block ?_ | refine GWp.skip ?_ | refine GWp.ret ?_ | refine GWp.exit ?_ | refine need_nil ?_ | refine need_cons True.intro ?_)
     | ((with_reducible first | refine gPost_r ?_ | refine gPost_n ?_ | refine fork_t ?_ | refine fork_f ?_ | (refine GWp.region (base := 0) ?_; intro K hK)); cbv; try simp only [hseg])
     | ((with_reducible refine GWp.cond_t ?hh ?_); (case hh => rfl)) | ((with_reducible refine GWp.cond_f ?hh ?_); (case hh => rfl)) | ((with_reducible refine block_miss ?hh ?_); (case hh => rfl))
     | ((with_reducible refine GWp.draws (base := 0) hM ?hh ?_); (case hh => rfl); intro K hK; cbv; try simp only [hseg])
     | ((with_reducible refine need_cons ?hh ?_); (case hh => first | with_reducible rfl | exact nn_ok hO (by decide))) | fail)
    refine GWp.cond rfl (fun h5 => ?_) (fun h5 => ?_)
    · have hk : k = 4 := by
        try clear hK K
        clear hM hP hC hR; cases hO
        simp only [Ops.std, stdCmp, stdBin, scmp_eql, scmp_neq, stdUn, Int.ofNat_eq_natCast] at *
        simpa using h5
      rw [if_pos hk] at hz1
      repeat' (first
       | (with_reducible first | (refine hK _ ?_; clear hK K) | refine thenA_n ?_ | refine thenA_r ?_ | refine thenA_e ?_ | refine block_n ?_ | refine block_r ?_ | refine block_hit ?_ | refine GWp.seq ?_ | refine GWp.block ?_ | refine GWp.skip ?_ | refine GWp.ret ?_ | refine GWp.exit ?_ | refine need_nil ?_ | refine need_cons True.intro ?_)
       | ((with_reducible first | refine gPost_r ?_ | refine gPost_n ?_ | refine fork_t ?_ | refine fork_f ?_ | (refine GWp.region (base := 0) ?_; intro K hK)); cbv; try simp only [hseg])
       | ((with_reducible refine GWp.cond_t ?hh ?_); (case hh => rfl)) | ((with_reducible refine GWp.cond_f ?hh ?_); (case hh => rfl)) | ((with_reducible refine block_miss ?hh ?_); (case hh => rfl))
       | ((with_reducible refine GWp.draws (base := 0) hM ?hh ?_); (case hh => rfl); intro K hK; cbv; try simp only [hseg])
       | ((with_reducible refine need_cons ?hh ?_); (case hh => first | with_reducible rfl | exact nn_ok hO (by decide))) | fail)
      repeat (simp only [e1]; cbv)
      refine need_cons hi (need_cons har (need_nil ?_))
      refine GCall.by ⟨fun _ _ => false, fun _ _ => false, []⟩ ?_
      cbv
      try simp only [hseg]
      refine GCallD.by hP rfl (hce) ?_
      rintro res bx ⟨r2, hr2, rfl, rfl⟩
      cbv
      try simp only [hseg]
      have e6 : bin .add .i64 (Int.ofNat m) (Int.ofNat r2) = _ := add_nat hO (by omega)
      generalize hm1 : m + r2 = m1 at e6
      simp only [e6]
      repeat' (first
       | (with_reducible first | (refine hK _ ?_; clear hK K) | refine thenA_n ?_ | refine thenA_r ?_ | refine thenA_e ?_ | refine block_n ?_ | refine block_r ?_ | refine block_hit ?_ | refine GWp.seq ?_ | refine GWp.block ?_ | refine GWp.skip ?_ | refine GWp.ret ?_ | refine GWp.exit ?_ | refine need_nil ?_ | refine need_cons True.intro ?_)
       | ((with_reducible first | refine gPost_r ?_ | refine gPost_n ?_ | refine fork_t ?_ | refine fork_f ?_ | (refine GWp.region (base := 0) ?_; intro K hK)); cbv; try simp only [hseg])
       | ((with_reducible refine GWp.cond_t ?hh ?_); (case hh => rfl)) | ((with_reducible refine GWp.cond_f ?hh ?_); (case hh => rfl)) | ((with_reducible refine block_miss ?hh ?_); (case hh => rfl))
       | ((with_reducible refine GWp.draws (base := 0) hM ?hh ?_); (case hh => rfl); intro K hK; cbv; try simp only [hseg])
       | ((with_reducible refine need_cons ?hh ?_); (case hh => first | with_reducible rfl | exact nn_ok hO (by decide))) | fail)
      repeat (simp only [e1]; cbv)
      refine need_cons hi (need_cons har (need_nil ?_))
      refine GCall.by ⟨fun _ _ => false, fun _ _ => false, []⟩ ?_
      cbv
      try simp only [hseg]
      refine GCallD.by hP rfl (hca) ?_
      rintro res bx ⟨r1, hr1, rfl, rfl⟩
      cbv
      try simp only [hseg]
      have e5 : bin .add .i64 (Int.ofNat m1) (Int.ofNat r1) = _ := add_nat hO (by omega)
      generalize hm2 : m1 + r1 = m2 at e5
      simp only [e5]
      repeat' (first
       | (with_reducible first | (refine hK _ ?_; clear hK K) | refine thenA_n ?_ | refine thenA_r ?_ | refine thenA_e ?_ | refine block_n ?_ | refine block_r ?_ | refine block_hit ?_ | refine GWp.seq ?_ | refine GWp.block ?_ | refine GWp.skip ?_ | refine GWp.ret ?_ | refine GWp.exit ?_ | refine need_nil ?_ | refine need_cons True.intro ?_)
       | ((with_reducible first | refine gPost_r ?_ | refine gPost_n ?_ | refine fork_t ?_ | refine fork_f ?_ | (refine GWp.region (base := 0) ?_; intro K hK)); cbv; try simp only [hseg])
       | ((with_reducible refine GWp.cond_t ?hh ?_); (case hh => rfl)) | ((with_reducible refine GWp.cond_f ?hh ?_); (case hh => rfl)) | ((with_reducible refine block_miss ?hh ?_); (case hh => rfl))
       | ((with_reducible refine GWp.draws (base := 0) hM ?hh ?_); (case hh => rfl); intro K hK; cbv; try simp only [hseg])
       | ((with_reducible refine need_cons ?hh ?_); (case hh => first | with_reducible rfl | exact nn_ok hO (by decide))) | fail)
      have e : bin .add .i64 (Int.ofNat i) 1 = _ := i_succ hO (by omega)
      cbv
      rw [e]
      exact ⟨_, by omega, i + 1, m2, by cbv, by omega, by omega, rfl⟩
    · have hk : k ≠ 4 := by
        try clear hK K
        clear hM hP hC hR; cases hO
        simp only [Ops.std, stdCmp, stdBin, scmp_eql, scmp_neq, stdUn, Int.ofNat_eq_natCast] at *
        simpa using h5
      rw [if_neg hk] at hz1
      obtain ⟨m1, hm1⟩ : ∃ m1, m1 = m := ⟨_, rfl⟩
      rw [← hm1]
      repeat' (first
       | (with_reducible first | (refine hK _ ?_; clear hK K) | refine thenA_n ?_ | refine thenA_r ?_ | refine thenA_e ?_ | refine block_n ?_ | refine block_r ?_ | refine block_hit ?_ | refine GWp.seq ?_ | refine GWp.block ?_ | refine GWp.skip ?_ | refine GWp.ret ?_ | refine GWp.exit ?_ | refine need_nil ?_ | refine need_cons True.intro ?_)
       | ((with_reducible first | refine gPost_r ?_ | refine gPost_n ?_ | refine fork_t ?_ | refine fork_f ?_ | (refine GWp.region (base := 0) ?_; intro K hK)); cbv; try simp only [hseg])
       | ((with_reducible refine GWp.cond_t ?hh ?_); (case hh => rfl)) | ((with_reducible refine GWp.cond_f ?hh ?_); (case hh => rfl)) | ((with_reducible refine block_miss ?hh ?_); (case hh => rfl))
       | ((with_reducible refine GWp.draws (base := 0) hM ?hh ?_); (case hh => rfl); intro K hK; cbv; try simp only [hseg])
       | ((with_reducible refine need_cons ?hh ?_); (case hh => first | with_reducible rfl | exact nn_ok hO (by decide))) | fail)
      repeat (simp only [e1]; cbv)
      refine need_cons hi (need_cons har (need_nil ?_))
      refine GCall.by ⟨fun _ _ => false, fun _ _ => false, []⟩ ?_
      cbv
      try simp only [hseg]
      refine GCallD.by hP rfl (hca) ?_
      rintro res bx ⟨r1, hr1, rfl, rfl⟩
      cbv
      try simp only [hseg]
      have e5 : bin .add .i64 (Int.ofNat m1) (Int.ofNat r1) = _ := add_nat hO (by omega)
      generalize hm2 : m1 + r1 = m2 at e5
      simp only [e5]
      repeat' (first
       | (with_reducible first | (refine hK _ ?_; clear hK K) | refine thenA_n ?_ | refine thenA_r ?_ | refine thenA_e ?_ | refine block_n ?_ | refine block_r ?_ | refine block_hit ?_ | refine GWp.seq ?_ | refine GWp.block ?_ | refine GWp.skip ?_ | refine GWp.ret ?_ | refine GWp.exit ?_ | refine need_nil ?_ | refine need_cons True.intro ?_)
       | ((with_reducible first | refine gPost_r ?_ | refine gPost_n ?_ | refine fork_t ?_ | refine fork_f ?_ | (refine GWp.region (base := 0) ?_; intro K hK)); cbv; try simp only [hseg])
       | ((with_reducible refine GWp.cond_t ?hh ?_); (case hh => rfl)) | ((with_reducible refine GWp.cond_f ?hh ?_); (case hh => rfl)) | ((with_reducible refine block_miss ?hh ?_); (case hh => rfl))
       | ((with_reducible refine GWp.draws (base := 0) hM ?hh ?_); (case hh => rfl); intro K hK; cbv; try simp only [hseg])
       | ((with_reducible refine need_cons ?hh ?_); (case hh => first | with_reducible rfl | exact nn_ok hO (by decide))) | fail)
      have e : bin .add .i64 (Int.ofNat i) 1 = _ := i_succ hO (by omega)
      cbv
      rw [e]
      exact ⟨_, by omega, i + 1, m2, by cbv, by omega, by omega, rfl⟩
  · have hge : i = N := by
      try clear hK K
      clear hM hP hC hR; cases hO
      simp only [Ops.std, stdCmp, stdBin, scmp_eql, scmp_neq, stdUn, Int.ofNat_eq_natCast] at *
      simp at h4; omega
    have e2 : rules.take i = rules := List.take_of_length_le (by omega)
    rw [e2] at g2
    repeat' (first
     | (with_reducible first | (refine hK _ ?_; clear hK K) | refine thenA_n ?_ | refine thenA_r ?_ | refine thenA_e ?_ | refine block_n ?_ | refine block_r ?_ | refine block_hit ?_ | refine GWp.seq ?_ | refine GWp.block ?_ | refine GWp.skip ?_ | refine GWp.ret ?_ | refine GWp.exit ?_ | refine need_nil ?_ | refine need_cons True.intro ?_)
     | ((with_reducible first | refine gPost_r ?_ | refine gPost_n ?_ | refine fork_t ?_ | refine fork_f ?_ | (refine GWp.region (base := 0) ?_; intro K hK)); cbv; try simp only [hseg])
     | ((with_reducible refine GWp.cond_t ?hh ?_); (case hh => rfl)) | ((with_reducible refine GWp.cond_f ?hh ?_); (case hh => rfl)) | ((with_reducible refine block_miss ?hh ?_); (case hh => rfl))
     | ((with_reducible refine GWp.draws (base := 0) hM ?hh ?_); (case hh => rfl); intro K hK; cbv; try simp only [hseg])
     | ((with_reducible refine need_cons ?hh ?_); (case hh => first | with_reducible rfl | exact nn_ok hO (by decide))) | fail)
    refine GWp.loop (nb := 1) (keep := fun t => t == 1 || t == 3 || t == 5) (kk := fun _ _ => none) (inv5b xr xf m fns) (by simp at hC; simp [hC]) ?_ ?_
    · cbv
      exact ⟨_, 0, m, by cbv, by simp, by simp [Fu.partss], rfl⟩
    rintro n σ ⟨j, m1, rfl, j1, j2, rfl⟩
    repeat' (first
     | (with_reducible first | (refine hK _ ?_; clear hK K) | refine thenA_n ?_ | refine thenA_r ?_ | refine thenA_e ?_ | refine block_n ?_ | refine block_r ?_ | refine block_hit ?_ | refine GWp.seq ?_ | refine GWp.block ?_ | refine GWp.skip ?_ | refine GWp.ret ?_ | refine GWp.exit ?_ | refine need_nil ?_ | refine need_cons True.intro ?_)
     | ((with_reducible first | refine gPost_r ?_ | refine gPost_n ?_ | refine fork_t ?_ | refine fork_f ?_ | (refine GWp.region (base := 0) ?_; intro K hK)); cbv; try simp only [hseg])
     | ((with_reducible refine GWp.cond_t ?hh ?_); (case hh => rfl)) | ((with_reducible refine GWp.cond_f ?hh ?_); (case hh => rfl)) | ((with_reducible refine block_miss ?hh ?_); (case hh => rfl))
     | ((with_reducible refine GWp.draws (base := 0) hM ?hh ?_); (case hh => rfl); intro K hK; cbv; try simp only [hseg])
     | ((with_reducible refine need_cons ?hh ?_); (case hh => first | with_reducible rfl | exact nn_ok hO (by decide))) | fail)
    simp only [hlf]
    refine GWp.cond rfl (fun h6 => ?_) (fun h6 => ?_)
    · have hjt : j < M := by
        try clear hK K
        clear hM hP hC hR; cases hO
        simp only [Ops.std, stdCmp, stdBin, scmp_eql, scmp_neq, stdUn, Int.ofNat_eq_natCast] at *
        simpa using h6
      obtain ⟨y, hy, hy', ht, e1⟩ := map_at hO hxf (hM2 ▸ hjt)
      have hz1 : Fu.partss (fns.take (j + 1)) = Fu.partss (fns.take j) + Sm.partss y.a := by rw [ht, Fu.partss_app, Fu.partss_one]
      have hzl : Fu.partss (fns.take (j + 1)) ≤ Fu.partss fns := by
        have := Fu.partss_app (fns.take (j + 1)) (fns.drop (j + 1))
        rw [List.take_append_drop] at this
        omega
      have hys := sum_mem (f := Fu.sz) hy
      obtain ⟨name, params, a⟩ := y
      simp only [Fu.sz] at hys
      simp only at hz1
      unfold Fu.szs at hz hpf
      have hca := c_l28Count a (by omega)
      simp only [Fu.t] at e1
      generalize params.map strT = xp at e1
      generalize a.map Sm.t = xa at hca e1
      have hi : idx (Int.ofNat j) (len xf) := hlf ▸ idx_nat hO hjt
      repeat' (first
       | (with_reducible first | (refine hK _ ?_; clear hK K) | refine thenA_n ?_ | refine thenA_r ?_ | refine thenA_e ?_ | refine block_n ?_ | refine block_r ?_ | refine block_hit ?_ | refine GWp.seq ?_ | refine GWp.block ?_ | refine GWp.skip ?_ | refine GWp.ret ?_ | refine GWp.exit ?_ | refine need_nil ?_ | refine need_cons True.intro ?_)
       | ((with_reducible first | refine gPost_r ?_ | refine gPost_n ?_ | refine fork_t ?_ | refine fork_f ?_ | (refine GWp.region (base := 0) ?_; intro K hK)); cbv; try simp only [hseg])
       | ((with_reducible refine GWp.cond_t ?hh ?_); (case hh => rfl)) | ((with_reducible refine GWp.cond_f ?hh ?_); (case hh => rfl)) | ((with_reducible refine block_miss ?hh ?_); (case hh => rfl))
       | ((with_reducible refine GWp.draws (base := 0) hM ?hh ?_); (case hh => rfl); intro K hK; cbv; try simp only [hseg])
       | ((with_reducible refine need_cons ?hh ?_); (case hh => first | with_reducible rfl | exact nn_ok hO (by decide))) | fail)
      repeat (simp only [e1]; cbv)
      refine need_cons hi (need_cons haf (need_nil ?_))
      refine GCall.by ⟨fun _ _ => false, fun _ _ => false, []⟩ ?_
      cbv
      try simp only [hseg]
      refine GCallD.by hP rfl (hca) ?_
      rintro res bx ⟨r1, hr1, rfl, rfl⟩
      cbv
      try simp only [hseg]
      have e5 : bin .add .i64 (Int.ofNat m1) (Int.ofNat r1) = _ := add_nat hO (by omega)
      generalize hm2 : m1 + r1 = m2 at e5
      simp only [e5]
      repeat' (first
       | (with_reducible first | (refine hK _ ?_; clear hK K) | refine thenA_n ?_ | refine thenA_r ?_ | refine thenA_e ?_ | refine block_n ?_ | refine block_r ?_ | refine block_hit ?_ | refine GWp.seq ?_ | refine GWp.block ?_ | refine GWp.skip ?_ | refine GWp.ret ?_ | refine GWp.exit ?_ | refine need_nil ?_ | refine need_cons True.intro ?_)
       | ((with_reducible first | refine gPost_r ?_ | refine gPost_n ?_ | refine fork_t ?_ | refine fork_f ?_ | (refine GWp.region (base := 0) ?_; intro K hK)); cbv; try simp only [hseg])
       | ((with_reducible refine GWp.cond_t ?hh ?_); (case hh => rfl)) | ((with_reducible refine GWp.cond_f ?hh ?_); (case hh => rfl)) | ((with_reducible refine block_miss ?hh ?_); (case hh => rfl))
       | ((with_reducible refine GWp.draws (base := 0) hM ?hh ?_); (case hh => rfl); intro K hK; cbv; try simp only [hseg])
       | ((with_reducible refine need_cons ?hh ?_); (case hh => first | with_reducible rfl | exact nn_ok hO (by decide))) | fail)
      have e : bin .add .i64 (Int.ofNat j) 1 = _ := i_succ hO (by omega)
      cbv
      rw [e]
      exact ⟨_, by omega, j + 1, m2, by cbv, by omega, by omega, rfl⟩
    · have hge : j = M := by
        try clear hK K
        clear hM hP hC hR; cases hO
        simp only [Ops.std, stdCmp, stdBin, scmp_eql, scmp_neq, stdUn, Int.ofNat_eq_natCast] at *
        simp at h6; omega
      have e2 : fns.take j = fns := List.take_of_length_le (by omega)
      rw [e2] at j2
      repeat' (first
       | (with_reducible first | (refine hK _ ?_; clear hK K) | refine thenA_n ?_ | refine thenA_r ?_ | refine thenA_e ?_ | refine block_n ?_ | refine block_r ?_ | refine block_hit ?_ | refine GWp.seq ?_ | refine GWp.block ?_ | refine GWp.skip ?_ | refine GWp.ret ?_ | refine GWp.exit ?_ | refine need_nil ?_ | refine need_cons True.intro ?_)
       | ((with_reducible first | refine gPost_r ?_ | refine gPost_n ?_ | refine fork_t ?_ | refine fork_f ?_ | (refine GWp.region (base := 0) ?_; intro K hK)); cbv; try simp only [hseg])
       | ((with_reducible refine GWp.cond_t ?hh ?_); (case hh => rfl)) | ((with_reducible refine GWp.cond_f ?hh ?_); (case hh => rfl)) | ((with_reducible refine block_miss ?hh ?_); (case hh => rfl))
       | ((with_reducible refine GWp.draws (base := 0) hM ?hh ?_); (case hh => rfl); intro K hK; cbv; try simp only [hseg])
       | ((with_reducible refine need_cons ?hh ?_); (case hh => first | with_reducible rfl | exact nn_ok hO (by decide))) | fail)
      exact hR _ _ ⟨_, by omega, rfl, rfl⟩
end Go.Gv
