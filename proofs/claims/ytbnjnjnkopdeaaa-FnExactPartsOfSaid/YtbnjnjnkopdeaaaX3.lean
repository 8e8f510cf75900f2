/- Part X3 of the proof: contracts of functions of the program, each walked once. -/
import Derived.Test.YtbnjnjnkopdeaaaT1

namespace Go.Gv
open Go.Av Go.Proofs
set_option maxRecDepth 10000
set_option linter.unusedSimpArgs false

theorem c_szRuleS (l : List Ru) (els : List (List T)) (he : els = l.map Ru.t) (hl : l.length ≤ maxLen) (left : Int) (hleft : lefts left)
    (ih : ∀ e ∈ l, ∀ left, lefts left → ACalls Try.prog 19 [⟨.agg, e.t.map (tA true)⟩, litI left] [] (fun res bx => ∃ r, szR e.sz left r ∧ res = litI r ∧ bx = [])) :
    ACalls Try.prog 9 [⟨.one, [.ro true els]⟩, litI left] [] (fun res bx => ∃ r, szR (l.length + Ru.szs l) left r ∧ res = litI r ∧ bx = []) := by
  refine gcalls_by tys_ok 27 [.tmp 4] (fn := Try.f9) rfl rfl rfl rfl ?_ ?_ ?_
  · simp [stampFree, litI, A.stamp, A.rstamp, stampIn]
  · simp
  intro O hO P hP C hC R hR
  have hM : P.follows .mixedOrders = true := by rw [hP]; rfl
  obtain ⟨bin, cmp, sadd, scmp, beq, bnot, un, wrap, size, byte, sub, len, seg, app, get, set, nat, nadd, nsub, repl, text, bytes, mn, mx, nz, nn, idx, bnd, le, all, one, lits, isB, sOk, aOk, mOk⟩ := O
  have hseg : ∀ e, seg 0 (len e) e = e := by intro e; cases hO; simp
  obtain ⟨N, hN⟩ : ∃ N, N = l.length := ⟨_, rfl⟩
  have hNe : els.length = N := by simp [he, hN]
  have hlen : len els = N := len_of hO hNe
  have hk : ∀ e ∈ els, e.length = 6 := by subst he; simp [Ru.t_len]
  have ha : all els 6 := all_of hO hk
  rw [← hN] at hl hR
  repeat' (first
   | (with_reducible first | (refine hK _ ?_; clear hK K) | refine thenA_n ?_ | refine thenA_r ?_ | refine thenA_e ?_ | refine block_n ?_ | refine block_r ?_ | refine block_hit ?_ | refine GWp.seq ?_ | refine GWp.block ?_ | refine GWp.skip ?_ | refine GWp.ret ?_ | refine GWp.exit ?_ | refine need_nil ?_ | refine need_cons True.intro ?_)
   | ((with_reducible first | refine gPost_r ?_ | refine gPost_n ?_ | refine fork_t ?_ | refine fork_f ?_ | (refine GWp.region (base := 0) ?_; intro K hK)); cbv; try simp only [hseg])
   | ((with_reducible refine GWp.cond_t ?hh ?_); (case hh => rfl)) | ((with_reducible refine GWp.cond_f ?hh ?_); (case hh => rfl)) | ((with_reducible refine block_miss ?hh ?_); (case hh => rfl))
   | ((with_reducible refine GWp.draws (base := 0) hM ?hh ?_); (case hh => rfl); intro K hK; cbv; try simp only [hseg])
   | ((with_reducible refine need_cons ?hh ?_); (case hh => first | with_reducible rfl | exact nn_ok hO (by decide))) | fail)
  have e0 : bin .sub .i64 left (Int.ofNat N) = _ := sub_id hO hleft hl
  have hs := sub_le (b := N) hleft
  generalize hm : left - Int.ofNat N = m at e0 hs
  simp only [hlen, e0]
  refine GWp.cond rfl (fun h3 => ?_) (fun h3 => ?_)
  · repeat' (first
     | (with_reducible first | (refine hK _ ?_; clear hK K) | refine thenA_n ?_ | refine thenA_r ?_ | refine thenA_e ?_ | refine block_n ?_ | refine block_r ?_ | refine block_hit ?_ | refine GWp.seq ?_ | refine GWp.block ?_ | refine GWp.skip ?_ | refine GWp.ret ?_ | refine GWp.exit ?_ | refine need_nil ?_ | refine need_cons True.intro ?_)
     | ((with_reducible first | refine gPost_r ?_ | refine gPost_n ?_ | refine fork_t ?_ | refine fork_f ?_ | (refine GWp.region (base := 0) ?_; intro K hK)); cbv; try simp only [hseg])
     | ((with_reducible refine GWp.cond_t ?hh ?_); (case hh => rfl)) | ((with_reducible refine GWp.cond_f ?hh ?_); (case hh => rfl)) | ((with_reducible refine block_miss ?hh ?_); (case hh => rfl))
     | ((with_reducible refine GWp.draws (base := 0) hM ?hh ?_); (case hh => rfl); intro K hK; cbv; try simp only [hseg])
     | ((with_reducible refine need_cons ?hh ?_); (case hh => first | with_reducible rfl | exact nn_ok hO (by decide))) | fail)
    refine hR _ _ ⟨_, .inr ⟨?_, rfl⟩, rfl, rfl⟩
    have hm0 : m < 0 := by
      try clear hK K
      clear hM hP hC hR; cases hO
      simp only [Ops.std, stdCmp, stdBin, scmp_eql, scmp_neq, stdUn, Int.ofNat_eq_natCast] at *
      simpa using h3
    clear hR; try clear hK
    simp only [szR, lefts, Int.ofNat_eq_natCast] at *
    omega
  have hm0 : ¬ m < 0 := by
    try clear hK K
    clear hM hP hC hR; cases hO
    simp only [Ops.std, stdCmp, stdBin, scmp_eql, scmp_neq, stdUn, Int.ofNat_eq_natCast] at *
    simpa using h3
  have hs := hs hm0
  have hN2 : N ≤ 1048576 := by
    clear hR
    simp only [lefts, Int.ofNat_eq_natCast] at *
    omega
  repeat' (first
   | (with_reducible first | (refine hK _ ?_; clear hK K) | refine thenA_n ?_ | refine thenA_r ?_ | refine thenA_e ?_ | refine block_n ?_ | refine block_r ?_ | refine block_hit ?_ | refine GWp.seq ?_ | refine GWp.block ?_ | refine GWp.skip ?_ | refine GWp.ret ?_ | refine GWp.exit ?_ | refine need_nil ?_ | refine need_cons True.intro ?_)
   | ((with_reducible first | refine gPost_r ?_ | refine gPost_n ?_ | refine fork_t ?_ | refine fork_f ?_ | (refine GWp.region (base := 0) ?_; intro K hK)); cbv; try simp only [hseg])
   | ((with_reducible refine GWp.cond_t ?hh ?_); (case hh => rfl)) | ((with_reducible refine GWp.cond_f ?hh ?_); (case hh => rfl)) | ((with_reducible refine block_miss ?hh ?_); (case hh => rfl))
   | ((with_reducible refine GWp.draws (base := 0) hM ?hh ?_); (case hh => rfl); intro K hK; cbv; try simp only [hseg])
   | ((with_reducible refine need_cons ?hh ?_); (case hh => first | with_reducible rfl | exact nn_ok hO (by decide))) | fail)
  refine GWp.loop (nb := 0) (keep := fun t => t == 0 || t == 1 || t == 5) (kk := fun _ _ => none) (invSz 27 els N (fun i => Ru.szs (l.take i)) left) (by simp at hC; simp [hC]) ?_ ?_
  · cbv
    exact ⟨_, 0, m, by cbv, by simp, by simp [Ex.szs, Sm.szs, Ru.szs, Fu.szs, strsz]; exact hm.symm, hs, rfl⟩
  rintro n σ ⟨i, m1, rfl, g1, g2, g3, rfl⟩
  repeat' (first
   | (with_reducible first | (refine hK _ ?_; clear hK K) | refine thenA_n ?_ | refine thenA_r ?_ | refine thenA_e ?_ | refine block_n ?_ | refine block_r ?_ | refine block_hit ?_ | refine GWp.seq ?_ | refine GWp.block ?_ | refine GWp.skip ?_ | refine GWp.ret ?_ | refine GWp.exit ?_ | refine need_nil ?_ | refine need_cons True.intro ?_)
   | ((with_reducible first | refine gPost_r ?_ | refine gPost_n ?_ | refine fork_t ?_ | refine fork_f ?_ | (refine GWp.region (base := 0) ?_; intro K hK)); cbv; try simp only [hseg])
   | ((with_reducible refine GWp.cond_t ?hh ?_); (case hh => rfl)) | ((with_reducible refine GWp.cond_f ?hh ?_); (case hh => rfl)) | ((with_reducible refine block_miss ?hh ?_); (case hh => rfl))
   | ((with_reducible refine GWp.draws (base := 0) hM ?hh ?_); (case hh => rfl); intro K hK; cbv; try simp only [hseg])
   | ((with_reducible refine need_cons ?hh ?_); (case hh => first | with_reducible rfl | exact nn_ok hO (by decide))) | fail)
  simp only [hlen]
  refine GWp.cond rfl (fun h4 => ?_) (fun h4 => ?_)
  · have hlt : i < N := by
      try clear hK K
      clear hM hP hC hR; cases hO
      simp only [Ops.std, stdCmp, stdBin, scmp_eql, scmp_neq, stdUn, Int.ofNat_eq_natCast] at *
      simpa using h4
    obtain ⟨x, hx, hx', ht, e1⟩ := map_at hO he (hN ▸ hlt)
    have hc := ih x hx m1 g3
    obtain ⟨k, ⟨pk, pn, ps, pl⟩, a⟩ := x
    simp only [Ex.t_mk, Sm.t_mk, Ru.t, Fu.t, Pg.t, strT, Ex.ow_mk, Sm.ow_mk, Ru.ow, Fu.ow, Pg.ow, List.map, List.cons_append, List.nil_append, tA] at hc e1
    generalize pl.map Ex.t = xpl at hc e1
    generalize a.map Sm.t = xa at hc e1
    repeat' (first
     | (with_reducible first | (refine hK _ ?_; clear hK K) | refine thenA_n ?_ | refine thenA_r ?_ | refine thenA_e ?_ | refine block_n ?_ | refine block_r ?_ | refine block_hit ?_ | refine GWp.seq ?_ | refine GWp.block ?_ | refine GWp.skip ?_ | refine GWp.ret ?_ | refine GWp.exit ?_ | refine need_nil ?_ | refine need_cons True.intro ?_)
     | ((with_reducible first | refine gPost_r ?_ | refine gPost_n ?_ | refine fork_t ?_ | refine fork_f ?_ | (refine GWp.region (base := 0) ?_; intro K hK)); cbv; try simp only [hseg])
     | ((with_reducible refine GWp.cond_t ?hh ?_); (case hh => rfl)) | ((with_reducible refine GWp.cond_f ?hh ?_); (case hh => rfl)) | ((with_reducible refine block_miss ?hh ?_); (case hh => rfl))
     | ((with_reducible refine GWp.draws (base := 0) hM ?hh ?_); (case hh => rfl); intro K hK; cbv; try simp only [hseg])
     | ((with_reducible refine need_cons ?hh ?_); (case hh => first | with_reducible rfl | exact nn_ok hO (by decide))) | fail)
    repeat (simp only [e1]; cbv)
    refine need_cons (hlen ▸ idx_nat hO hlt) (need_cons ha (need_nil ?_))
    refine GCall.by ⟨fun _ _ => false, fun _ _ => false, []⟩ ?_
    cbv
    try simp only [hseg]
    refine GCallD.by hP rfl (hc) ?_
    rintro res bx ⟨r, hr, rfl, rfl⟩
    cbv
    try simp only [hseg]
    have hz : Ru.szs (l.take (i + 1)) = Ru.szs (l.take i) + (Ru.mk k (Ex.mk pk pn ps pl) a).sz := by rw [ht, Ru.szs_app, Ru.szs_one]
    generalize (Ru.mk k (Ex.mk pk pn ps pl) a).sz = z at hr hz
    repeat' (first
     | (with_reducible first | (refine hK _ ?_; clear hK K) | refine thenA_n ?_ | refine thenA_r ?_ | refine thenA_e ?_ | refine block_n ?_ | refine block_r ?_ | refine block_hit ?_ | refine GWp.seq ?_ | refine GWp.block ?_ | refine GWp.skip ?_ | refine GWp.ret ?_ | refine GWp.exit ?_ | refine need_nil ?_ | refine need_cons True.intro ?_)
     | ((with_reducible first | refine gPost_r ?_ | refine gPost_n ?_ | refine fork_t ?_ | refine fork_f ?_ | (refine GWp.region (base := 0) ?_; intro K hK)); cbv; try simp only [hseg])
     | ((with_reducible refine GWp.cond_t ?hh ?_); (case hh => rfl)) | ((with_reducible refine GWp.cond_f ?hh ?_); (case hh => rfl)) | ((with_reducible refine block_miss ?hh ?_); (case hh => rfl))
     | ((with_reducible refine GWp.draws (base := 0) hM ?hh ?_); (case hh => rfl); intro K hK; cbv; try simp only [hseg])
     | ((with_reducible refine need_cons ?hh ?_); (case hh => first | with_reducible rfl | exact nn_ok hO (by decide))) | fail)
    have hzl : Ru.szs (l.take (i + 1)) ≤ Ru.szs l := by
      have := Ru.szs_app (l.take (i + 1)) (l.drop (i + 1))
      rw [List.take_append_drop] at this
      omega
    refine GWp.cond rfl (fun h5 => ?_) (fun h5 => ?_)
    · repeat' (first
       | (with_reducible first | (refine hK _ ?_; clear hK K) | refine thenA_n ?_ | refine thenA_r ?_ | refine thenA_e ?_ | refine block_n ?_ | refine block_r ?_ | refine block_hit ?_ | refine GWp.seq ?_ | refine GWp.block ?_ | refine GWp.skip ?_ | refine GWp.ret ?_ | refine GWp.exit ?_ | refine need_nil ?_ | refine need_cons True.intro ?_)
       | ((with_reducible first | refine gPost_r ?_ | refine gPost_n ?_ | refine fork_t ?_ | refine fork_f ?_ | (refine GWp.region (base := 0) ?_; intro K hK)); cbv; try simp only [hseg])
       | ((with_reducible refine GWp.cond_t ?hh ?_); (case hh => rfl)) | ((with_reducible refine GWp.cond_f ?hh ?_); (case hh => rfl)) | ((with_reducible refine block_miss ?hh ?_); (case hh => rfl))
       | ((with_reducible refine GWp.draws (base := 0) hM ?hh ?_); (case hh => rfl); intro K hK; cbv; try simp only [hseg])
       | ((with_reducible refine need_cons ?hh ?_); (case hh => first | with_reducible rfl | exact nn_ok hO (by decide))) | fail)
      refine hR _ _ ⟨_, .inr ⟨?_, rfl⟩, rfl, rfl⟩
      have hr0 : r < 0 := by
        try clear hK K
        clear hM hP hC hR; cases hO
        simp only [Ops.std, stdCmp, stdBin, scmp_eql, scmp_neq, stdUn, Int.ofNat_eq_natCast] at *
        simpa using h5
      clear hR; try clear hK
      simp only [szR, lefts, Int.ofNat_eq_natCast] at *
      omega
    · have hr0 : ¬ r < 0 := by
        try clear hK K
        clear hM hP hC hR; cases hO
        simp only [Ops.std, stdCmp, stdBin, scmp_eql, scmp_neq, stdUn, Int.ofNat_eq_natCast] at *
        simpa using h5
      repeat' (first
       | (with_reducible first | (refine hK _ ?_; clear hK K) | refine thenA_n ?_ | refine thenA_r ?_ | refine thenA_e ?_ | refine block_n ?_ | refine block_r ?_ | refine block_hit ?_ | refine GWp.seq ?_ | refine GWp.block ?_ | refine GWp.skip ?_ | refine GWp.ret ?_ | refine GWp.exit ?_ | refine need_nil ?_ | refine need_cons True.intro ?_)
       | ((with_reducible first | refine gPost_r ?_ | refine gPost_n ?_ | refine fork_t ?_ | refine fork_f ?_ | (refine GWp.region (base := 0) ?_; intro K hK)); cbv; try simp only [hseg])
       | ((with_reducible refine GWp.cond_t ?hh ?_); (case hh => rfl)) | ((with_reducible refine GWp.cond_f ?hh ?_); (case hh => rfl)) | ((with_reducible refine block_miss ?hh ?_); (case hh => rfl))
       | ((with_reducible refine GWp.draws (base := 0) hM ?hh ?_); (case hh => rfl); intro K hK; cbv; try simp only [hseg])
       | ((with_reducible refine need_cons ?hh ?_); (case hh => first | with_reducible rfl | exact nn_ok hO (by decide))) | fail)
      have e : bin .add .i64 (Int.ofNat i) 1 = _ := i_succ hO (by omega)
      cbv
      rw [e]
      refine ⟨_, ?_, i + 1, r, by cbv, by omega, ?_, ?_, rfl⟩
      · omega
      · clear hR; try clear hK
        simp only [szR, lefts, Int.ofNat_eq_natCast] at *
        omega
      · clear hR; try clear hK
        simp only [szR, lefts, Int.ofNat_eq_natCast] at *
        omega
  · have hge : i = N := by
      try clear hK K
      clear hM hP hC hR; cases hO
      simp only [Ops.std, stdCmp, stdBin, scmp_eql, scmp_neq, stdUn, Int.ofNat_eq_natCast] at *
      simp at h4; omega
    repeat' (first
     | (with_reducible first | (refine hK _ ?_; clear hK K) | refine thenA_n ?_ | refine thenA_r ?_ | refine thenA_e ?_ | refine block_n ?_ | refine block_r ?_ | refine block_hit ?_ | refine GWp.seq ?_ | refine GWp.block ?_ | refine GWp.skip ?_ | refine GWp.ret ?_ | refine GWp.exit ?_ | refine need_nil ?_ | refine need_cons True.intro ?_)
     | ((with_reducible first | refine gPost_r ?_ | refine gPost_n ?_ | refine fork_t ?_ | refine fork_f ?_ | (refine GWp.region (base := 0) ?_; intro K hK)); cbv; try simp only [hseg])
     | ((with_reducible refine GWp.cond_t ?hh ?_); (case hh => rfl)) | ((with_reducible refine GWp.cond_f ?hh ?_); (case hh => rfl)) | ((with_reducible refine block_miss ?hh ?_); (case hh => rfl))
     | ((with_reducible refine GWp.draws (base := 0) hM ?hh ?_); (case hh => rfl); intro K hK; cbv; try simp only [hseg])
     | ((with_reducible refine need_cons ?hh ?_); (case hh => first | with_reducible rfl | exact nn_ok hO (by decide))) | fail)
    have e2 : l.take i = l := List.take_of_length_le (by omega)
    refine hR _ _ ⟨_, .inl ⟨?_, ?_⟩, rfl, rfl⟩
    · clear hR; try clear hK
      simp only [szR, lefts, Int.ofNat_eq_natCast, e2] at *
      omega
    · clear hR; try clear hK
      simp only [szR, lefts, Int.ofNat_eq_natCast, e2] at *
      omega

theorem st_szRule (k pk pn : Int) (ps : ByteArray) (pl : List Ex) (a : List Sm) (left : Int) (hleft : lefts left)
    (ihP : ∀ left, lefts left → ACalls Try.prog 27 [⟨.agg, (Ex.mk pk pn ps pl).t.map (tA true)⟩, litI left] [] (fun res bx => ∃ r, szR (Ex.mk pk pn ps pl).sz left r ∧ res = litI r ∧ bx = []))
    (ihA : ∀ left, lefts left → ACalls Try.prog 28 [⟨.one, [.ro true (a.map Sm.t)]⟩, litI left] [] (fun res bx => ∃ r, szR (a.length + Sm.szs a) left r ∧ res = litI r ∧ bx = [])) :
    ACalls Try.prog 19 [⟨.agg, (Ru.mk k (Ex.mk pk pn ps pl) a).t.map (tA true)⟩, litI left] [] (fun res bx => ∃ r, szR (Ru.mk k (Ex.mk pk pn ps pl) a).sz left r ∧ res = litI r ∧ bx = []) := by
  simp only [Ex.t_mk, Sm.t_mk, Ru.t, Fu.t, Pg.t, strT, Ex.ow_mk, Sm.ow_mk, Ru.ow, Fu.ow, Pg.ow, List.map, List.cons_append, List.nil_append, tA] at *
  generalize pl.map Ex.t = xpl at *
  generalize a.map Sm.t = xa at *
  refine gcalls_by tys_ok 18 [.tmp 4] (fn := Try.f19) rfl rfl rfl rfl ?_ ?_ ?_
  · simp [stampFree, litI, A.stamp, A.rstamp, stampIn]
  · simp
  intro O hO P hP C hC R hR
  have hM : P.follows .mixedOrders = true := by rw [hP]; rfl
  obtain ⟨bin, cmp, sadd, scmp, beq, bnot, un, wrap, size, byte, sub, len, seg, app, get, set, nat, nadd, nsub, repl, text, bytes, mn, mx, nz, nn, idx, bnd, le, all, one, lits, isB, sOk, aOk, mOk⟩ := O
  have hseg : ∀ e, seg 0 (len e) e = e := by intro e; cases hO; simp
  repeat' (first
   | (with_reducible first | (refine hK _ ?_; clear hK K) | refine thenA_n ?_ | refine thenA_r ?_ | refine thenA_e ?_ | refine block_n ?_ | refine block_r ?_ | refine block_hit ?_ | refine GWp.seq ?_ | refine GWp.block ?_ | refine GWp.skip ?_ | refine GWp.ret ?_ | refine GWp.exit ?_ | refine need_nil ?_ | refine need_cons True.intro ?_)
   | ((with_reducible first | refine gPost_r ?_ | refine gPost_n ?_ | refine fork_t ?_ | refine fork_f ?_ | (refine GWp.region (base := 0) ?_; intro K hK)); cbv; try simp only [hseg])
   | ((with_reducible refine GWp.cond_t ?hh ?_); (case hh => rfl)) | ((with_reducible refine GWp.cond_f ?hh ?_); (case hh => rfl)) | ((with_reducible refine block_miss ?hh ?_); (case hh => rfl))
   | ((with_reducible refine GWp.draws (base := 0) hM ?hh ?_); (case hh => rfl); intro K hK; cbv; try simp only [hseg])
   | ((with_reducible refine need_cons ?hh ?_); (case hh => first | with_reducible rfl | exact nn_ok hO (by decide))) | fail)
  refine GCall.by ⟨fun _ _ => false, fun _ _ => false, []⟩ ?_
  cbv
  try simp only [hseg]
  refine GCallD.by hP rfl (ihP left hleft) ?_
  rintro res bx ⟨m1, hr1, rfl, rfl⟩
  cbv
  try simp only [hseg]
  have hl1 := szR_le hleft hr1
  repeat' (first
   | (with_reducible first | (refine hK _ ?_; clear hK K) | refine thenA_n ?_ | refine thenA_r ?_ | refine thenA_e ?_ | refine block_n ?_ | refine block_r ?_ | refine block_hit ?_ | refine GWp.seq ?_ | refine GWp.block ?_ | refine GWp.skip ?_ | refine GWp.ret ?_ | refine GWp.exit ?_ | refine need_nil ?_ | refine need_cons True.intro ?_)
   | ((with_reducible first | refine gPost_r ?_ | refine gPost_n ?_ | refine fork_t ?_ | refine fork_f ?_ | (refine GWp.region (base := 0) ?_; intro K hK)); cbv; try simp only [hseg])
   | ((with_reducible refine GWp.cond_t ?hh ?_); (case hh => rfl)) | ((with_reducible refine GWp.cond_f ?hh ?_); (case hh => rfl)) | ((with_reducible refine block_miss ?hh ?_); (case hh => rfl))
   | ((with_reducible refine GWp.draws (base := 0) hM ?hh ?_); (case hh => rfl); intro K hK; cbv; try simp only [hseg])
   | ((with_reducible refine need_cons ?hh ?_); (case hh => first | with_reducible rfl | exact nn_ok hO (by decide))) | fail)
  refine GWp.cond rfl (fun h1 => ?_) (fun h1 => ?_)
  · repeat' (first
     | (with_reducible first | (refine hK _ ?_; clear hK K) | refine thenA_n ?_ | refine thenA_r ?_ | refine thenA_e ?_ | refine block_n ?_ | refine block_r ?_ | refine block_hit ?_ | refine GWp.seq ?_ | refine GWp.block ?_ | refine GWp.skip ?_ | refine GWp.ret ?_ | refine GWp.exit ?_ | refine need_nil ?_ | refine need_cons True.intro ?_)
     | ((with_reducible first | refine gPost_r ?_ | refine gPost_n ?_ | refine fork_t ?_ | refine fork_f ?_ | (refine GWp.region (base := 0) ?_; intro K hK)); cbv; try simp only [hseg])
     | ((with_reducible refine GWp.cond_t ?hh ?_); (case hh => rfl)) | ((with_reducible refine GWp.cond_f ?hh ?_); (case hh => rfl)) | ((with_reducible refine block_miss ?hh ?_); (case hh => rfl))
     | ((with_reducible refine GWp.draws (base := 0) hM ?hh ?_); (case hh => rfl); intro K hK; cbv; try simp only [hseg])
     | ((with_reducible refine need_cons ?hh ?_); (case hh => first | with_reducible rfl | exact nn_ok hO (by decide))) | fail)
    refine hR _ _ ⟨_, .inr ⟨?_, rfl⟩, rfl, rfl⟩
    have hg1 : m1 < 0 := by
      try clear hK K
      clear hM hP hC hR; cases hO
      simp only [Ops.std, stdCmp, stdBin, scmp_eql, scmp_neq, stdUn, Int.ofNat_eq_natCast] at *
      simpa using h1
    clear hR; try clear hK
    simp only [szR, lefts, Int.ofNat_eq_natCast, Ex.sz, Sm.sz, Ru.sz, Fu.sz, Pg.sz] at *
    omega
  have hg1 : ¬ m1 < 0 := by
    try clear hK K
    clear hM hP hC hR; cases hO
    simp only [Ops.std, stdCmp, stdBin, scmp_eql, scmp_neq, stdUn, Int.ofNat_eq_natCast] at *
    simpa using h1
  have hl1 := hl1 hg1
  repeat' (first
   | (with_reducible first | (refine hK _ ?_; clear hK K) | refine thenA_n ?_ | refine thenA_r ?_ | refine thenA_e ?_ | refine block_n ?_ | refine block_r ?_ | refine block_hit ?_ | refine GWp.seq ?_ | refine GWp.block ?_ | refine GWp.skip ?_ | refine GWp.ret ?_ | refine GWp.exit ?_ | refine need_nil ?_ | refine need_cons True.intro ?_)
   | ((with_reducible first | refine gPost_r ?_ | refine gPost_n ?_ | refine fork_t ?_ | refine fork_f ?_ | (refine GWp.region (base := 0) ?_; intro K hK)); cbv; try simp only [hseg])
   | ((with_reducible refine GWp.cond_t ?hh ?_); (case hh => rfl)) | ((with_reducible refine GWp.cond_f ?hh ?_); (case hh => rfl)) | ((with_reducible refine block_miss ?hh ?_); (case hh => rfl))
   | ((with_reducible refine GWp.draws (base := 0) hM ?hh ?_); (case hh => rfl); intro K hK; cbv; try simp only [hseg])
   | ((with_reducible refine need_cons ?hh ?_); (case hh => first | with_reducible rfl | exact nn_ok hO (by decide))) | fail)
  refine GCall.by ⟨fun _ _ => false, fun _ _ => false, []⟩ ?_
  cbv
  try simp only [hseg]
  refine GCallD.by hP rfl (ihA m1 hl1) ?_
  rintro res bx ⟨m2, hr2, rfl, rfl⟩
  cbv
  try simp only [hseg]
  have hl2 := szR_le hl1 hr2
  repeat' (first
   | (with_reducible first | (refine hK _ ?_; clear hK K) | refine thenA_n ?_ | refine thenA_r ?_ | refine thenA_e ?_ | refine block_n ?_ | refine block_r ?_ | refine block_hit ?_ | refine GWp.seq ?_ | refine GWp.block ?_ | refine GWp.skip ?_ | refine GWp.ret ?_ | refine GWp.exit ?_ | refine need_nil ?_ | refine need_cons True.intro ?_)
   | ((with_reducible first | refine gPost_r ?_ | refine gPost_n ?_ | refine fork_t ?_ | refine fork_f ?_ | (refine GWp.region (base := 0) ?_; intro K hK)); cbv; try simp only [hseg])
   | ((with_reducible refine GWp.cond_t ?hh ?_); (case hh => rfl)) | ((with_reducible refine GWp.cond_f ?hh ?_); (case hh => rfl)) | ((with_reducible refine block_miss ?hh ?_); (case hh => rfl))
   | ((with_reducible refine GWp.draws (base := 0) hM ?hh ?_); (case hh => rfl); intro K hK; cbv; try simp only [hseg])
   | ((with_reducible refine need_cons ?hh ?_); (case hh => first | with_reducible rfl | exact nn_ok hO (by decide))) | fail)
  refine GWp.cond rfl (fun h2 => ?_) (fun h2 => ?_)
  · repeat' (first
     | (with_reducible first | (refine hK _ ?_; clear hK K) | refine thenA_n ?_ | refine thenA_r ?_ | refine thenA_e ?_ | refine block_n ?_ | refine block_r ?_ | refine block_hit ?_ | refine GWp.seq ?_ | refine GWp.block ?_ | refine GWp.skip ?_ | refine GWp.ret ?_ | refine GWp.exit ?_ | refine need_nil ?_ | refine need_cons True.intro ?_)
     | ((with_reducible first | refine gPost_r ?_ | refine gPost_n ?_ | refine fork_t ?_ | refine fork_f ?_ | (refine GWp.region (base := 0) ?_; intro K hK)); cbv; try simp only [hseg])
     | ((with_reducible refine GWp.cond_t ?hh ?_); (case hh => rfl)) | ((with_reducible refine GWp.cond_f ?hh ?_); (case hh => rfl)) | ((with_reducible refine block_miss ?hh ?_); (case hh => rfl))
     | ((with_reducible refine GWp.draws (base := 0) hM ?hh ?_); (case hh => rfl); intro K hK; cbv; try simp only [hseg])
     | ((with_reducible refine need_cons ?hh ?_); (case hh => first | with_reducible rfl | exact nn_ok hO (by decide))) | fail)
    refine hR _ _ ⟨_, .inr ⟨?_, rfl⟩, rfl, rfl⟩
    have hg2 : m2 < 0 := by
      try clear hK K
      clear hM hP hC hR; cases hO
      simp only [Ops.std, stdCmp, stdBin, scmp_eql, scmp_neq, stdUn, Int.ofNat_eq_natCast] at *
      simpa using h2
    clear hR; try clear hK
    simp only [szR, lefts, Int.ofNat_eq_natCast, Ex.sz, Sm.sz, Ru.sz, Fu.sz, Pg.sz] at *
    omega
  have hg2 : ¬ m2 < 0 := by
    try clear hK K
    clear hM hP hC hR; cases hO
    simp only [Ops.std, stdCmp, stdBin, scmp_eql, scmp_neq, stdUn, Int.ofNat_eq_natCast] at *
    simpa using h2
  have hl2 := hl2 hg2
  repeat' (first
   | (with_reducible first | (refine hK _ ?_; clear hK K) | refine thenA_n ?_ | refine thenA_r ?_ | refine thenA_e ?_ | refine block_n ?_ | refine block_r ?_ | refine block_hit ?_ | refine GWp.seq ?_ | refine GWp.block ?_ | refine GWp.skip ?_ | refine GWp.ret ?_ | refine GWp.exit ?_ | refine need_nil ?_ | refine need_cons True.intro ?_)
   | ((with_reducible first | refine gPost_r ?_ | refine gPost_n ?_ | refine fork_t ?_ | refine fork_f ?_ | (refine GWp.region (base := 0) ?_; intro K hK)); cbv; try simp only [hseg])
   | ((with_reducible refine GWp.cond_t ?hh ?_); (case hh => rfl)) | ((with_reducible refine GWp.cond_f ?hh ?_); (case hh => rfl)) | ((with_reducible refine block_miss ?hh ?_); (case hh => rfl))
   | ((with_reducible refine GWp.draws (base := 0) hM ?hh ?_); (case hh => rfl); intro K hK; cbv; try simp only [hseg])
   | ((with_reducible refine need_cons ?hh ?_); (case hh => first | with_reducible rfl | exact nn_ok hO (by decide))) | fail)
  refine hR _ _ ⟨_, ?_, rfl, rfl⟩
  clear hR; try clear hK
  simp only [szR, lefts, Int.ofNat_eq_natCast, Ex.sz, Sm.sz, Ru.sz, Fu.sz, Pg.sz] at *
  omega

theorem c_toRuleS (l : List Ru) (els : List (List T)) (he : els = l.map Ru.t) (hl : l.length ≤ 1048576)
    (ih : ∀ e ∈ l, ACalls Try.prog 21 [⟨.agg, e.t.map (tA true)⟩] [] (fun res bx => res = ⟨.agg, e.ow⟩ ∧ bx = [])) :
    ACalls Try.prog 13 [⟨.one, [.ro true els]⟩] [] (fun res bx => res = ⟨.one, [.ow (0, 0) 6 els]⟩ ∧ bx = []) := by
  refine gcalls_by tys_ok 23 [.tmp 2] (fn := Try.f13) rfl rfl rfl rfl ?_ ?_ ?_
  · simp [stampFree, litI, A.stamp, A.rstamp, stampIn]
  · simp
  intro O hO P hP C hC R hR
  have hM : P.follows .mixedOrders = true := by rw [hP]; rfl
  obtain ⟨bin, cmp, sadd, scmp, beq, bnot, un, wrap, size, byte, sub, len, seg, app, get, set, nat, nadd, nsub, repl, text, bytes, mn, mx, nz, nn, idx, bnd, le, all, one, lits, isB, sOk, aOk, mOk⟩ := O
  have hseg : ∀ e, seg 0 (len e) e = e := by intro e; cases hO; simp
  obtain ⟨N, hN⟩ : ∃ N, N = l.length := ⟨_, rfl⟩
  have hNe : els.length = N := by simp [he, hN]
  have hlen : len els = N := len_of hO hNe
  have hk : ∀ e ∈ els, e.length = 6 := by subst he; simp [Ru.t_len]
  have ha : all els 6 := all_of hO hk
  rw [← hN] at hl
  repeat' (first
   | (with_reducible first | (refine hK _ ?_; clear hK K) | refine thenA_n ?_ | refine thenA_r ?_ | refine thenA_e ?_ | refine block_n ?_ | refine block_r ?_ | refine block_hit ?_ | refine GWp.seq ?_ | refine GWp.block ?_ | refine GWp.skip ?_ | refine GWp.ret ?_ | refine GWp.exit ?_ | refine need_nil ?_ | refine need_cons True.intro ?_)
   | ((with_reducible first | refine gPost_r ?_ | refine gPost_n ?_ | refine fork_t ?_ | refine fork_f ?_ | (refine GWp.region (base := 0) ?_; intro K hK)); cbv; try simp only [hseg])
   | ((with_reducible refine GWp.cond_t ?hh ?_); (case hh => rfl)) | ((with_reducible refine GWp.cond_f ?hh ?_); (case hh => rfl)) | ((with_reducible refine block_miss ?hh ?_); (case hh => rfl))
   | ((with_reducible refine GWp.draws (base := 0) hM ?hh ?_); (case hh => rfl); intro K hK; cbv; try simp only [hseg])
   | ((with_reducible refine need_cons ?hh ?_); (case hh => first | with_reducible rfl | exact nn_ok hO (by decide))) | fail)
  simp only [hlen]
  refine need_cons (mOk_of hO (by simp only [Int.ofNat_eq_natCast]; omega)) (need_nil ?_)
  generalize hR0 : repl (nat (Int.ofNat N)) [T.lit (.int .i64 0), T.lit (.int .i64 0), T.lit (.int .i64 0), T.lit (.string ⟨#[]⟩), T.sl [], T.sl []] = outs0
  have h0 : outs0.length = els.length ∧ ∀ e ∈ outs0, e.length = 6 := by
    subst hR0; cases hO
    refine ⟨?_, fun e he => ?_⟩
    · simp [Ops.std, hNe]
    · rw [List.eq_of_mem_replicate he]; rfl
  repeat' (first
   | (with_reducible first | (refine hK _ ?_; clear hK K) | refine thenA_n ?_ | refine thenA_r ?_ | refine thenA_e ?_ | refine block_n ?_ | refine block_r ?_ | refine block_hit ?_ | refine GWp.seq ?_ | refine GWp.block ?_ | refine GWp.skip ?_ | refine GWp.ret ?_ | refine GWp.exit ?_ | refine need_nil ?_ | refine need_cons True.intro ?_)
   | ((with_reducible first | refine gPost_r ?_ | refine gPost_n ?_ | refine fork_t ?_ | refine fork_f ?_ | (refine GWp.region (base := 0) ?_; intro K hK)); cbv; try simp only [hseg])
   | ((with_reducible refine GWp.cond_t ?hh ?_); (case hh => rfl)) | ((with_reducible refine GWp.cond_f ?hh ?_); (case hh => rfl)) | ((with_reducible refine block_miss ?hh ?_); (case hh => rfl))
   | ((with_reducible refine GWp.draws (base := 0) hM ?hh ?_); (case hh => rfl); intro K hK; cbv; try simp only [hseg])
   | ((with_reducible refine need_cons ?hh ?_); (case hh => first | with_reducible rfl | exact nn_ok hO (by decide))) | fail)
  refine GWp.loop (nb := 0) (keep := fun t => t == 0 || t == 3 || t == 4) (kk := fun _ _ => none) (invTo 23 els 6) (by simp at hC; simp [hC]) ?_ ?_
  · cbv
    exact ⟨_, 0, outs0, by cbv, Nat.zero_le _, h0.1, h0.2, by simp, rfl⟩
  rintro n σ ⟨i, outs, rfl, g1, g2, g3, g4, rfl⟩
  rw [hNe] at g1 g2
  have hlo : len outs = N := len_of hO g2
  repeat' (first
   | (with_reducible first | (refine hK _ ?_; clear hK K) | refine thenA_n ?_ | refine thenA_r ?_ | refine thenA_e ?_ | refine block_n ?_ | refine block_r ?_ | refine block_hit ?_ | refine GWp.seq ?_ | refine GWp.block ?_ | refine GWp.skip ?_ | refine GWp.ret ?_ | refine GWp.exit ?_ | refine need_nil ?_ | refine need_cons True.intro ?_)
   | ((with_reducible first | refine gPost_r ?_ | refine gPost_n ?_ | refine fork_t ?_ | refine fork_f ?_ | (refine GWp.region (base := 0) ?_; intro K hK)); cbv; try simp only [hseg])
   | ((with_reducible refine GWp.cond_t ?hh ?_); (case hh => rfl)) | ((with_reducible refine GWp.cond_f ?hh ?_); (case hh => rfl)) | ((with_reducible refine block_miss ?hh ?_); (case hh => rfl))
   | ((with_reducible refine GWp.draws (base := 0) hM ?hh ?_); (case hh => rfl); intro K hK; cbv; try simp only [hseg])
   | ((with_reducible refine need_cons ?hh ?_); (case hh => first | with_reducible rfl | exact nn_ok hO (by decide))) | fail)
  simp only [hlen]
  refine GWp.cond rfl (fun h4 => ?_) (fun h4 => ?_)
  · have hlt : i < N := by
      try clear hK K
      clear hM hP hC hR; cases hO
      simp only [Ops.std, stdCmp, stdBin, scmp_eql, scmp_neq, stdUn, Int.ofNat_eq_natCast] at *
      simpa using h4
    obtain ⟨x, hx, hx', ht, e1⟩ := map_at hO he (hN ▸ hlt)
    have hxe : els[i]? = some x.t := by rw [he]; simp [hx']
    have hc := ih x hx
    obtain ⟨k, ⟨pk, pn, ps, pl⟩, a⟩ := x
    simp only [Ex.t_mk, Sm.t_mk, Ru.t, Fu.t, Pg.t, strT, Ex.ow_mk, Sm.ow_mk, Ru.ow, Fu.ow, Pg.ow, List.map, List.cons_append, List.nil_append, tA] at hc e1 hxe
    generalize pl.map Ex.t = xpl at hc e1 hxe
    generalize a.map Sm.t = xa at hc e1 hxe
    have en : nadd 0 (nat (Int.ofNat i)) = i := by cases hO; simp [Ops.std]
    repeat' (first
     | (with_reducible first | (refine hK _ ?_; clear hK K) | refine thenA_n ?_ | refine thenA_r ?_ | refine thenA_e ?_ | refine block_n ?_ | refine block_r ?_ | refine block_hit ?_ | refine GWp.seq ?_ | refine GWp.block ?_ | refine GWp.skip ?_ | refine GWp.ret ?_ | refine GWp.exit ?_ | refine need_nil ?_ | refine need_cons True.intro ?_)
     | ((with_reducible first | refine gPost_r ?_ | refine gPost_n ?_ | refine fork_t ?_ | refine fork_f ?_ | (refine GWp.region (base := 0) ?_; intro K hK)); cbv; try simp only [hseg])
     | ((with_reducible refine GWp.cond_t ?hh ?_); (case hh => rfl)) | ((with_reducible refine GWp.cond_f ?hh ?_); (case hh => rfl)) | ((with_reducible refine block_miss ?hh ?_); (case hh => rfl))
     | ((with_reducible refine GWp.draws (base := 0) hM ?hh ?_); (case hh => rfl); intro K hK; cbv; try simp only [hseg])
     | ((with_reducible refine need_cons ?hh ?_); (case hh => first | with_reducible rfl | exact nn_ok hO (by decide))) | fail)
    repeat (simp only [e1]; cbv)
    refine need_cons (hlen ▸ idx_nat hO hlt) (need_cons ha (need_nil ?_))
    refine GCall.by ⟨fun _ _ => false, fun _ _ => false, []⟩ ?_
    cbv
    try simp only [hseg]
    refine GCallD.by hP rfl (hc) ?_
    rintro res bx ⟨rfl, rfl⟩
    cbv
    try simp only [hseg]
    simp only [hlo, en]
    refine need_cons (idx_nat hO hlt) (need_cons (one_of hO (by omega) rfl g3) ?_)
    have es : ∀ y, set outs i y = outs.set i y := by intro y; cases hO; rfl
    obtain ⟨t1, t2⟩ := set_step (hNe.symm ▸ hlt) (g2.trans hNe.symm) g4 hxe
    have t3 : ∀ e ∈ outs.set i [T.lit (.int .i64 k), T.lit (.int .i64 pk), T.lit (.int .i64 pn), T.lit (.string ps), T.sl xpl, T.sl xa], e.length = 6 := by
      intro e he
      rcases List.mem_or_eq_of_mem_set he with h | h
      · exact g3 e h
      · rw [h]; rfl
    simp only [es]
    generalize outs.set i [T.lit (.int .i64 k), T.lit (.int .i64 pk), T.lit (.int .i64 pn), T.lit (.string ps), T.sl xpl, T.sl xa] = outs' at t1 t2 t3 ⊢
    repeat' (first
     | (with_reducible first | (refine hK _ ?_; clear hK K) | refine thenA_n ?_ | refine thenA_r ?_ | refine thenA_e ?_ | refine block_n ?_ | refine block_r ?_ | refine block_hit ?_ | refine GWp.seq ?_ | refine GWp.block ?_ | refine GWp.skip ?_ | refine GWp.ret ?_ | refine GWp.exit ?_ | refine need_nil ?_ | refine need_cons True.intro ?_)
     | ((with_reducible first | refine gPost_r ?_ | refine gPost_n ?_ | refine fork_t ?_ | refine fork_f ?_ | (refine GWp.region (base := 0) ?_; intro K hK)); cbv; try simp only [hseg])
     | ((with_reducible refine GWp.cond_t ?hh ?_); (case hh => rfl)) | ((with_reducible refine GWp.cond_f ?hh ?_); (case hh => rfl)) | ((with_reducible refine block_miss ?hh ?_); (case hh => rfl))
     | ((with_reducible refine GWp.draws (base := 0) hM ?hh ?_); (case hh => rfl); intro K hK; cbv; try simp only [hseg])
     | ((with_reducible refine need_cons ?hh ?_); (case hh => first | with_reducible rfl | exact nn_ok hO (by decide))) | fail)
    have e : bin .add .i64 (Int.ofNat i) 1 = _ := i_succ hO (by omega)
    cbv
    rw [e]
    exact ⟨_, by omega, i + 1, outs', by cbv, by omega, t1, t3, t2, rfl⟩
  · have hge : i = N := by
      try clear hK K
      clear hM hP hC hR; cases hO
      simp only [Ops.std, stdCmp, stdBin, scmp_eql, scmp_neq, stdUn, Int.ofNat_eq_natCast] at *
      simp at h4; omega
    have e2 : outs = els := by
      have := g4
      rw [List.take_of_length_le (by omega), List.take_of_length_le (by omega)] at this
      exact this
    subst e2
    repeat' (first
     | (with_reducible first | (refine hK _ ?_; clear hK K) | refine thenA_n ?_ | refine thenA_r ?_ | refine thenA_e ?_ | refine block_n ?_ | refine block_r ?_ | refine block_hit ?_ | refine GWp.seq ?_ | refine GWp.block ?_ | refine GWp.skip ?_ | refine GWp.ret ?_ | refine GWp.exit ?_ | refine need_nil ?_ | refine need_cons True.intro ?_)
     | ((with_reducible first | refine gPost_r ?_ | refine gPost_n ?_ | refine fork_t ?_ | refine fork_f ?_ | (refine GWp.region (base := 0) ?_; intro K hK)); cbv; try simp only [hseg])
     | ((with_reducible refine GWp.cond_t ?hh ?_); (case hh => rfl)) | ((with_reducible refine GWp.cond_f ?hh ?_); (case hh => rfl)) | ((with_reducible refine block_miss ?hh ?_); (case hh => rfl))
     | ((with_reducible refine GWp.draws (base := 0) hM ?hh ?_); (case hh => rfl); intro K hK; cbv; try simp only [hseg])
     | ((with_reducible refine need_cons ?hh ?_); (case hh => first | with_reducible rfl | exact nn_ok hO (by decide))) | fail)
    exact hR _ _ ⟨rfl, rfl⟩

theorem st_toRule (k pk pn : Int) (ps : ByteArray) (pl : List Ex) (a : List Sm)
    (ihP : ACalls Try.prog 30 [⟨.agg, (Ex.mk pk pn ps pl).t.map (tA true)⟩] [] (fun res bx => res = ⟨.agg, (Ex.mk pk pn ps pl).ow⟩ ∧ bx = []))
    (ihA : ACalls Try.prog 31 [⟨.one, [.ro true (a.map Sm.t)]⟩] [] (fun res bx => res = ⟨.one, [.ow (0, 0) 6 (a.map Sm.t)]⟩ ∧ bx = [])) :
    ACalls Try.prog 21 [⟨.agg, (Ru.mk k (Ex.mk pk pn ps pl) a).t.map (tA true)⟩] [] (fun res bx => res = ⟨.agg, (Ru.mk k (Ex.mk pk pn ps pl) a).ow⟩ ∧ bx = []) := by
  simp only [Ex.t_mk, Sm.t_mk, Ru.t, Fu.t, Pg.t, strT, Ex.ow_mk, Sm.ow_mk, Ru.ow, Fu.ow, Pg.ow, List.map, List.cons_append, List.nil_append, tA] at *
  generalize pl.map Ex.t = xpl at *
  generalize a.map Sm.t = xa at *
  refine gcalls_by tys_ok 16 [.cell 2 42] (fn := Try.f21) rfl rfl rfl rfl ?_ ?_ ?_
  · simp [stampFree, litI, A.stamp, A.rstamp, stampIn]
  · simp
  intro O hO P hP C hC R hR
  have hM : P.follows .mixedOrders = true := by rw [hP]; rfl
  obtain ⟨bin, cmp, sadd, scmp, beq, bnot, un, wrap, size, byte, sub, len, seg, app, get, set, nat, nadd, nsub, repl, text, bytes, mn, mx, nz, nn, idx, bnd, le, all, one, lits, isB, sOk, aOk, mOk⟩ := O
  have hseg : ∀ e, seg 0 (len e) e = e := by intro e; cases hO; simp
  repeat' (first
   | (with_reducible first | (refine hK _ ?_; clear hK K) | refine thenA_n ?_ | refine thenA_r ?_ | refine thenA_e ?_ | refine block_n ?_ | refine block_r ?_ | refine block_hit ?_ | refine GWp.seq ?_ | refine GWp.block ?_ | refine GWp.skip ?_ | refine GWp.ret ?_ | refine GWp.exit ?_ | refine need_nil ?_ | refine need_cons True.intro ?_)
   | ((with_reducible first | refine gPost_r ?_ | refine gPost_n ?_ | refine fork_t ?_ | refine fork_f ?_ | (refine GWp.region (base := 0) ?_; intro K hK)); cbv; try simp only [hseg])
   | ((with_reducible refine GWp.cond_t ?hh ?_); (case hh => rfl)) | ((with_reducible refine GWp.cond_f ?hh ?_); (case hh => rfl)) | ((with_reducible refine block_miss ?hh ?_); (case hh => rfl))
   | ((with_reducible refine GWp.draws (base := 0) hM ?hh ?_); (case hh => rfl); intro K hK; cbv; try simp only [hseg])
   | ((with_reducible refine need_cons ?hh ?_); (case hh => first | with_reducible rfl | exact nn_ok hO (by decide))) | fail)
  refine GCall.by ⟨fun _ _ => false, fun _ _ => false, []⟩ ?_
  cbv
  try simp only [hseg]
  refine GCallD.by hP rfl (ihP) ?_
  rintro res bx ⟨rfl, rfl⟩
  cbv
  try simp only [hseg]
  repeat' (first
   | (with_reducible first | (refine hK _ ?_; clear hK K) | refine thenA_n ?_ | refine thenA_r ?_ | refine thenA_e ?_ | refine block_n ?_ | refine block_r ?_ | refine block_hit ?_ | refine GWp.seq ?_ | refine GWp.block ?_ | refine GWp.skip ?_ | refine GWp.ret ?_ | refine GWp.exit ?_ | refine need_nil ?_ | refine need_cons True.intro ?_)
   | ((with_reducible first | refine gPost_r ?_ | refine gPost_n ?_ | refine fork_t ?_ | refine fork_f ?_ | (refine GWp.region (base := 0) ?_; intro K hK)); cbv; try simp only [hseg])
   | ((with_reducible refine GWp.cond_t ?hh ?_); (case hh => rfl)) | ((with_reducible refine GWp.cond_f ?hh ?_); (case hh => rfl)) | ((with_reducible refine block_miss ?hh ?_); (case hh => rfl))
   | ((with_reducible refine GWp.draws (base := 0) hM ?hh ?_); (case hh => rfl); intro K hK; cbv; try simp only [hseg])
   | ((with_reducible refine need_cons ?hh ?_); (case hh => first | with_reducible rfl | exact nn_ok hO (by decide))) | fail)
  refine GCall.by ⟨fun _ _ => false, fun _ _ => false, []⟩ ?_
  cbv
  try simp only [hseg]
  refine GCallD.by hP rfl (ihA) ?_
  rintro res bx ⟨rfl, rfl⟩
  cbv
  try simp only [hseg]
  repeat' (first
   | (with_reducible first | (refine hK _ ?_; clear hK K) | refine thenA_n ?_ | refine thenA_r ?_ | refine thenA_e ?_ | refine block_n ?_ | refine block_r ?_ | refine block_hit ?_ | refine GWp.seq ?_ | refine GWp.block ?_ | refine GWp.skip ?_ | refine GWp.ret ?_ | refine GWp.exit ?_ | refine need_nil ?_ | refine need_cons True.intro ?_)
   | ((with_reducible first | refine gPost_r ?_ | refine gPost_n ?_ | refine fork_t ?_ | refine fork_f ?_ | (refine GWp.region (base := 0) ?_; intro K hK)); cbv; try simp only [hseg])
   | ((with_reducible refine GWp.cond_t ?hh ?_); (case hh => rfl)) | ((with_reducible refine GWp.cond_f ?hh ?_); (case hh => rfl)) | ((with_reducible refine block_miss ?hh ?_); (case hh => rfl))
   | ((with_reducible refine GWp.draws (base := 0) hM ?hh ?_); (case hh => rfl); intro K hK; cbv; try simp only [hseg])
   | ((with_reducible refine need_cons ?hh ?_); (case hh => first | with_reducible rfl | exact nn_ok hO (by decide))) | fail)
  exact hR _ _ ⟨rfl, rfl⟩

theorem c_eqRuleS (l : List Ru) (els : List (List T)) (he : els = l.map Ru.t) (hl : l.length ≤ 1048576)
    (ih : ∀ e ∈ l, ACalls Try.prog 25 [⟨.agg, e.t.map (tA true)⟩, ⟨.agg, e.t.map (tA true)⟩] [] (fun res bx => res = litB true ∧ bx = [])) :
    ACalls Try.prog 17 [⟨.one, [.ro true els]⟩, ⟨.one, [.ro true els]⟩] [] (fun res bx => res = litB true ∧ bx = []) := by
  refine gcalls_by tys_ok 27 [.tmp 4] (fn := Try.f17) rfl rfl rfl rfl ?_ ?_ ?_
  · simp [stampFree, litI, A.stamp, A.rstamp, stampIn]
  · simp
  intro O hO P hP C hC R hR
  have hM : P.follows .mixedOrders = true := by rw [hP]; rfl
  obtain ⟨bin, cmp, sadd, scmp, beq, bnot, un, wrap, size, byte, sub, len, seg, app, get, set, nat, nadd, nsub, repl, text, bytes, mn, mx, nz, nn, idx, bnd, le, all, one, lits, isB, sOk, aOk, mOk⟩ := O
  have hseg : ∀ e, seg 0 (len e) e = e := by intro e; cases hO; simp
  obtain ⟨N, hN⟩ : ∃ N, N = l.length := ⟨_, rfl⟩
  have hNe : els.length = N := by simp [he, hN]
  have hlen : len els = N := len_of hO hNe
  have hk : ∀ e ∈ els, e.length = 6 := by subst he; simp [Ru.t_len]
  have ha : all els 6 := all_of hO hk
  rw [← hN] at hl
  have hne : ∀ x, cmp .neq x x = false := by intro x; cases hO; simp [Ops.std, stdCmp]
  have hse : ∀ x, scmp .neq x x = false := by intro x; cases hO; simp [Ops.std, scmp_neq]
  have hnt : bnot true = false := by cases hO; rfl
  repeat' (first
   | (with_reducible first | (refine hK _ ?_; clear hK K) | refine thenA_n ?_ | refine thenA_r ?_ | refine thenA_e ?_ | refine block_n ?_ | refine block_r ?_ | refine block_hit ?_ | refine GWp.seq ?_ | refine GWp.block ?_ | refine GWp.skip ?_ | refine GWp.ret ?_ | refine GWp.exit ?_ | refine need_nil ?_ | refine need_cons True.intro ?_)
   | ((with_reducible first | refine gPost_r ?_ | refine gPost_n ?_ | refine fork_t ?_ | refine fork_f ?_ | (refine GWp.region (base := 0) ?_; intro K hK)); cbv; try simp only [hseg])
   | ((with_reducible refine GWp.cond_t ?hh ?_); (case hh => rfl)) | ((with_reducible refine GWp.cond_f ?hh ?_); (case hh => rfl)) | ((with_reducible refine block_miss ?hh ?_); (case hh => rfl))
   | ((with_reducible refine GWp.draws (base := 0) hM ?hh ?_); (case hh => rfl); intro K hK; cbv; try simp only [hseg])
   | ((with_reducible refine need_cons ?hh ?_); (case hh => first | with_reducible rfl | exact nn_ok hO (by decide))) | fail)
  simp only [hne]
  repeat' (first
   | (with_reducible first | (refine hK _ ?_; clear hK K) | refine thenA_n ?_ | refine thenA_r ?_ | refine thenA_e ?_ | refine block_n ?_ | refine block_r ?_ | refine block_hit ?_ | refine GWp.seq ?_ | refine GWp.block ?_ | refine GWp.skip ?_ | refine GWp.ret ?_ | refine GWp.exit ?_ | refine need_nil ?_ | refine need_cons True.intro ?_)
   | ((with_reducible first | refine gPost_r ?_ | refine gPost_n ?_ | refine fork_t ?_ | refine fork_f ?_ | (refine GWp.region (base := 0) ?_; intro K hK)); cbv; try simp only [hseg])
   | ((with_reducible refine GWp.cond_t ?hh ?_); (case hh => rfl)) | ((with_reducible refine GWp.cond_f ?hh ?_); (case hh => rfl)) | ((with_reducible refine block_miss ?hh ?_); (case hh => rfl))
   | ((with_reducible refine GWp.draws (base := 0) hM ?hh ?_); (case hh => rfl); intro K hK; cbv; try simp only [hseg])
   | ((with_reducible refine need_cons ?hh ?_); (case hh => first | with_reducible rfl | exact nn_ok hO (by decide))) | fail)
  refine GWp.loop (nb := 0) (keep := fun t => t == 0 || t == 1 || t == 5) (kk := fun _ _ => none) (invEq 27 els) (by simp at hC; simp [hC]) ?_ ?_
  · cbv
    exact ⟨_, 0, by cbv, Nat.zero_le _, rfl⟩
  rintro n σ ⟨i, rfl, g1, rfl⟩
  rw [hNe] at g1
  repeat' (first
   | (with_reducible first | (refine hK _ ?_; clear hK K) | refine thenA_n ?_ | refine thenA_r ?_ | refine thenA_e ?_ | refine block_n ?_ | refine block_r ?_ | refine block_hit ?_ | refine GWp.seq ?_ | refine GWp.block ?_ | refine GWp.skip ?_ | refine GWp.ret ?_ | refine GWp.exit ?_ | refine need_nil ?_ | refine need_cons True.intro ?_)
   | ((with_reducible first | refine gPost_r ?_ | refine gPost_n ?_ | refine fork_t ?_ | refine fork_f ?_ | (refine GWp.region (base := 0) ?_; intro K hK)); cbv; try simp only [hseg])
   | ((with_reducible refine GWp.cond_t ?hh ?_); (case hh => rfl)) | ((with_reducible refine GWp.cond_f ?hh ?_); (case hh => rfl)) | ((with_reducible refine block_miss ?hh ?_); (case hh => rfl))
   | ((with_reducible refine GWp.draws (base := 0) hM ?hh ?_); (case hh => rfl); intro K hK; cbv; try simp only [hseg])
   | ((with_reducible refine need_cons ?hh ?_); (case hh => first | with_reducible rfl | exact nn_ok hO (by decide))) | fail)
  simp only [hlen]
  refine GWp.cond rfl (fun h4 => ?_) (fun h4 => ?_)
  · have hlt : i < N := by
      try clear hK K
      clear hM hP hC hR; cases hO
      simp only [Ops.std, stdCmp, stdBin, scmp_eql, scmp_neq, stdUn, Int.ofNat_eq_natCast] at *
      simpa using h4
    obtain ⟨x, hx, hx', ht, e1⟩ := map_at hO he (hN ▸ hlt)
    have hc := ih x hx
    obtain ⟨k, ⟨pk, pn, ps, pl⟩, a⟩ := x
    simp only [Ex.t_mk, Sm.t_mk, Ru.t, Fu.t, Pg.t, strT, Ex.ow_mk, Sm.ow_mk, Ru.ow, Fu.ow, Pg.ow, List.map, List.cons_append, List.nil_append, tA] at hc e1
    generalize pl.map Ex.t = xpl at hc e1
    generalize a.map Sm.t = xa at hc e1
    have hi : idx (Int.ofNat i) (len els) := hlen ▸ idx_nat hO hlt
    repeat' (first
     | (with_reducible first | (refine hK _ ?_; clear hK K) | refine thenA_n ?_ | refine thenA_r ?_ | refine thenA_e ?_ | refine block_n ?_ | refine block_r ?_ | refine block_hit ?_ | refine GWp.seq ?_ | refine GWp.block ?_ | refine GWp.skip ?_ | refine GWp.ret ?_ | refine GWp.exit ?_ | refine need_nil ?_ | refine need_cons True.intro ?_)
     | ((with_reducible first | refine gPost_r ?_ | refine gPost_n ?_ | refine fork_t ?_ | refine fork_f ?_ | (refine GWp.region (base := 0) ?_; intro K hK)); cbv; try simp only [hseg])
     | ((with_reducible refine GWp.cond_t ?hh ?_); (case hh => rfl)) | ((with_reducible refine GWp.cond_f ?hh ?_); (case hh => rfl)) | ((with_reducible refine block_miss ?hh ?_); (case hh => rfl))
     | ((with_reducible refine GWp.draws (base := 0) hM ?hh ?_); (case hh => rfl); intro K hK; cbv; try simp only [hseg])
     | ((with_reducible refine need_cons ?hh ?_); (case hh => first | with_reducible rfl | exact nn_ok hO (by decide))) | fail)
    repeat (simp only [e1]; cbv)
    refine need_cons hi (need_cons ha (need_cons hi (need_cons ha (need_nil ?_))))
    refine GCall.by ⟨fun _ _ => false, fun _ _ => false, []⟩ ?_
    cbv
    try simp only [hseg]
    refine GCallD.by hP rfl (hc) ?_
    rintro res bx ⟨rfl, rfl⟩
    cbv
    try simp only [hseg]
    repeat (simp only [e1]; cbv)
    simp only [hnt, hse]
    repeat' (first
     | (with_reducible first | (refine hK _ ?_; clear hK K) | refine thenA_n ?_ | refine thenA_r ?_ | refine thenA_e ?_ | refine block_n ?_ | refine block_r ?_ | refine block_hit ?_ | refine GWp.seq ?_ | refine GWp.block ?_ | refine GWp.skip ?_ | refine GWp.ret ?_ | refine GWp.exit ?_ | refine need_nil ?_ | refine need_cons True.intro ?_)
     | ((with_reducible first | refine gPost_r ?_ | refine gPost_n ?_ | refine fork_t ?_ | refine fork_f ?_ | (refine GWp.region (base := 0) ?_; intro K hK)); cbv; try simp only [hseg])
     | ((with_reducible refine GWp.cond_t ?hh ?_); (case hh => rfl)) | ((with_reducible refine GWp.cond_f ?hh ?_); (case hh => rfl)) | ((with_reducible refine block_miss ?hh ?_); (case hh => rfl))
     | ((with_reducible refine GWp.draws (base := 0) hM ?hh ?_); (case hh => rfl); intro K hK; cbv; try simp only [hseg])
     | ((with_reducible refine need_cons ?hh ?_); (case hh => first | with_reducible rfl | exact nn_ok hO (by decide))) | fail)
    have e : bin .add .i64 (Int.ofNat i) 1 = _ := i_succ hO (by omega)
    cbv
    rw [e]
    exact ⟨_, by omega, i + 1, by cbv, by omega, rfl⟩
  · repeat' (first
     | (with_reducible first | (refine hK _ ?_; clear hK K) | refine thenA_n ?_ | refine thenA_r ?_ | refine thenA_e ?_ | refine block_n ?_ | refine block_r ?_ | refine block_hit ?_ | refine GWp.seq ?_ | refine GWp.block ?_ | refine GWp.skip ?_ | refine GWp.ret ?_ | refine GWp.exit ?_ | refine need_nil ?_ | refine need_cons True.intro ?_)
     | ((with_reducible first | refine gPost_r ?_ | refine gPost_n ?_ | refine fork_t ?_ | refine fork_f ?_ | (refine GWp.region (base := 0) ?_; intro K hK)); cbv; try simp only [hseg])
     | ((with_reducible refine GWp.cond_t ?hh ?_); (case hh => rfl)) | ((with_reducible refine GWp.cond_f ?hh ?_); (case hh => rfl)) | ((with_reducible refine block_miss ?hh ?_); (case hh => rfl))
     | ((with_reducible refine GWp.draws (base := 0) hM ?hh ?_); (case hh => rfl); intro K hK; cbv; try simp only [hseg])
     | ((with_reducible refine need_cons ?hh ?_); (case hh => first | with_reducible rfl | exact nn_ok hO (by decide))) | fail)
    exact hR _ _ ⟨rfl, rfl⟩

theorem st_eqRule (k pk pn : Int) (ps : ByteArray) (pl : List Ex) (a : List Sm)
    (ihP : ACalls Try.prog 36 [⟨.agg, (Ex.mk pk pn ps pl).t.map (tA true)⟩, ⟨.agg, (Ex.mk pk pn ps pl).t.map (tA true)⟩] [] (fun res bx => res = litB true ∧ bx = []))
    (ihA : ACalls Try.prog 37 [⟨.one, [.ro true (a.map Sm.t)]⟩, ⟨.one, [.ro true (a.map Sm.t)]⟩] [] (fun res bx => res = litB true ∧ bx = [])) :
    ACalls Try.prog 25 [⟨.agg, (Ru.mk k (Ex.mk pk pn ps pl) a).t.map (tA true)⟩, ⟨.agg, (Ru.mk k (Ex.mk pk pn ps pl) a).t.map (tA true)⟩] [] (fun res bx => res = litB true ∧ bx = []) := by
  simp only [Ex.t_mk, Sm.t_mk, Ru.t, Fu.t, Pg.t, strT, Ex.ow_mk, Sm.ow_mk, Ru.ow, Fu.ow, Pg.ow, List.map, List.cons_append, List.nil_append, tA] at *
  generalize pl.map Ex.t = xpl at *
  generalize a.map Sm.t = xa at *
  refine gcalls_by tys_ok 22 [.tmp 4] (fn := Try.f25) rfl rfl rfl rfl ?_ ?_ ?_
  · simp [stampFree, litI, A.stamp, A.rstamp, stampIn]
  · simp
  intro O hO P hP C hC R hR
  have hM : P.follows .mixedOrders = true := by rw [hP]; rfl
  obtain ⟨bin, cmp, sadd, scmp, beq, bnot, un, wrap, size, byte, sub, len, seg, app, get, set, nat, nadd, nsub, repl, text, bytes, mn, mx, nz, nn, idx, bnd, le, all, one, lits, isB, sOk, aOk, mOk⟩ := O
  have hseg : ∀ e, seg 0 (len e) e = e := by intro e; cases hO; simp
  have hne : ∀ x, cmp .neq x x = false := by intro x; cases hO; simp [Ops.std, stdCmp]
  have hse : ∀ x, scmp .neq x x = false := by intro x; cases hO; simp [Ops.std, scmp_neq]
  have hnt : bnot true = false := by cases hO; rfl
  repeat' (first
   | (with_reducible first | (refine hK _ ?_; clear hK K) | refine thenA_n ?_ | refine thenA_r ?_ | refine thenA_e ?_ | refine block_n ?_ | refine block_r ?_ | refine block_hit ?_ | refine GWp.seq ?_ | refine GWp.block ?_ | refine GWp.skip ?_ | refine GWp.ret ?_ | refine GWp.exit ?_ | refine need_nil ?_ | refine need_cons True.intro ?_)
   | ((with_reducible first | refine gPost_r ?_ | refine gPost_n ?_ | refine fork_t ?_ | refine fork_f ?_ | (refine GWp.region (base := 0) ?_; intro K hK)); cbv; try simp only [hseg])
   | ((with_reducible refine GWp.cond_t ?hh ?_); (case hh => rfl)) | ((with_reducible refine GWp.cond_f ?hh ?_); (case hh => rfl)) | ((with_reducible refine block_miss ?hh ?_); (case hh => rfl))
   | ((with_reducible refine GWp.draws (base := 0) hM ?hh ?_); (case hh => rfl); intro K hK; cbv; try simp only [hseg])
   | ((with_reducible refine need_cons ?hh ?_); (case hh => first | with_reducible rfl | exact nn_ok hO (by decide))) | fail)
  simp only [hne, hse, hnt]
  repeat' (first
   | (with_reducible first | (refine hK _ ?_; clear hK K) | refine thenA_n ?_ | refine thenA_r ?_ | refine thenA_e ?_ | refine block_n ?_ | refine block_r ?_ | refine block_hit ?_ | refine GWp.seq ?_ | refine GWp.block ?_ | refine GWp.skip ?_ | refine GWp.ret ?_ | refine GWp.exit ?_ | refine need_nil ?_ | refine need_cons True.intro ?_)
   | ((with_reducible first | refine gPost_r ?_ | refine gPost_n ?_ | refine fork_t ?_ | refine fork_f ?_ | (refine GWp.region (base := 0) ?_; intro K hK)); cbv; try simp only [hseg])
   | ((with_reducible refine GWp.cond_t ?hh ?_); (case hh => rfl)) | ((with_reducible refine GWp.cond_f ?hh ?_); (case hh => rfl)) | ((with_reducible refine block_miss ?hh ?_); (case hh => rfl))
   | ((with_reducible refine GWp.draws (base := 0) hM ?hh ?_); (case hh => rfl); intro K hK; cbv; try simp only [hseg])
   | ((with_reducible refine need_cons ?hh ?_); (case hh => first | with_reducible rfl | exact nn_ok hO (by decide))) | fail)
  refine GCall.by ⟨fun _ _ => false, fun _ _ => false, []⟩ ?_
  cbv
  try simp only [hseg]
  refine GCallD.by hP rfl (ihP) ?_
  rintro res bx ⟨rfl, rfl⟩
  cbv
  try simp only [hseg]
  simp only [hne, hse, hnt]
  repeat' (first
   | (with_reducible first | (refine hK _ ?_; clear hK K) | refine thenA_n ?_ | refine thenA_r ?_ | refine thenA_e ?_ | refine block_n ?_ | refine block_r ?_ | refine block_hit ?_ | refine GWp.seq ?_ | refine GWp.block ?_ | refine GWp.skip ?_ | refine GWp.ret ?_ | refine GWp.exit ?_ | refine need_nil ?_ | refine need_cons True.intro ?_)
   | ((with_reducible first | refine gPost_r ?_ | refine gPost_n ?_ | refine fork_t ?_ | refine fork_f ?_ | (refine GWp.region (base := 0) ?_; intro K hK)); cbv; try simp only [hseg])
   | ((with_reducible refine GWp.cond_t ?hh ?_); (case hh => rfl)) | ((with_reducible refine GWp.cond_f ?hh ?_); (case hh => rfl)) | ((with_reducible refine block_miss ?hh ?_); (case hh => rfl))
   | ((with_reducible refine GWp.draws (base := 0) hM ?hh ?_); (case hh => rfl); intro K hK; cbv; try simp only [hseg])
   | ((with_reducible refine need_cons ?hh ?_); (case hh => first | with_reducible rfl | exact nn_ok hO (by decide))) | fail)
  refine GCall.by ⟨fun _ _ => false, fun _ _ => false, []⟩ ?_
  cbv
  try simp only [hseg]
  refine GCallD.by hP rfl (ihA) ?_
  rintro res bx ⟨rfl, rfl⟩
  cbv
  try simp only [hseg]
  simp only [hne, hse, hnt]
  repeat' (first
   | (with_reducible first | (refine hK _ ?_; clear hK K) | refine thenA_n ?_ | refine thenA_r ?_ | refine thenA_e ?_ | refine block_n ?_ | refine block_r ?_ | refine block_hit ?_ | refine GWp.seq ?_ | refine GWp.block ?_ | refine GWp.skip ?_ | refine GWp.ret ?_ | refine GWp.exit ?_ | refine need_nil ?_ | refine need_cons True.intro ?_)
   | ((with_reducible first | refine gPost_r ?_ | refine gPost_n ?_ | refine fork_t ?_ | refine fork_f ?_ | (refine GWp.region (base := 0) ?_; intro K hK)); cbv; try simp only [hseg])
   | ((with_reducible refine GWp.cond_t ?hh ?_); (case hh => rfl)) | ((with_reducible refine GWp.cond_f ?hh ?_); (case hh => rfl)) | ((with_reducible refine block_miss ?hh ?_); (case hh => rfl))
   | ((with_reducible refine GWp.draws (base := 0) hM ?hh ?_); (case hh => rfl); intro K hK; cbv; try simp only [hseg])
   | ((with_reducible refine need_cons ?hh ?_); (case hh => first | with_reducible rfl | exact nn_ok hO (by decide))) | fail)
  exact hR _ _ ⟨rfl, rfl⟩

end Go.Gv
