/- Part R6 of the proof: contracts of functions of the program, each walked once. -/
import Derived.Test.YtbnjnjnkopdeaaaR5

namespace Go.Gv
open Go.Av Go.Proofs
set_option maxRecDepth 10000
set_option linter.unusedSimpArgs false

/-- A function or a rule, as 'part' has it. -/
structure Pt where
  params : List ByteArray
  when' : List Ex
  l : List Sm
  rule : Int
def Pt.t (p : Pt) : List T := [.sl (p.params.map strT), .sl (p.when'.map Ex.t), .sl (p.l.map Sm.t), .lit (.int .i64 p.rule)]
def Pt.parts (p : Pt) : Nat := Ex.partss p.when' + Sm.partss p.l
def Pt.partss (l : List Pt) : Nat := (l.map Pt.parts).sum
theorem Pt.t_len (p : Pt) : p.t.length = 4 := rfl
theorem Pt.partss_app (a b : List Pt) : Pt.partss (a ++ b) = Pt.partss a + Pt.partss b := by simp [Pt.partss]
theorem Pt.partss_one (a : Pt) : Pt.partss [a] = a.parts := by simp [Pt.partss]
def ptF (f : Fu) : Pt := ⟨f.params, [], f.a, 0⟩
def ptR (r : Ru) : Pt := ⟨[], if r.k = 4 then [r.p] else [], r.a, r.k⟩
def Pg.pts (p : Pg) : List Pt := p.fns.map ptF ++ p.rules.map ptR
theorem ptF_parts (f : Fu) : (ptF f).parts = Sm.partss f.a := by simp [ptF, Pt.parts, Ex.partss]
theorem ptR_parts (r : Ru) : (ptR r).parts = r.parts := by
  simp only [ptR, Pt.parts, Ru.parts]
  split <;> simp [Ex.partss]
theorem Pg.pts_parts (p : Pg) : Pt.partss p.pts = p.parts := by
  rw [Pg.pts, Pt.partss_app, Pg.parts, Nat.add_comm]
  congr 1
  · simp only [Pt.partss, Ru.partss, List.map_map]
    congr 1
    exact List.map_congr_left fun r _ => ptR_parts r
  · simp only [Pt.partss, Fu.partss, List.map_map]
    congr 1
    exact List.map_congr_left fun r _ => ptF_parts r

def inv24 (cs : List A) (xx : List (List T)) (x : List Ex) (n0 : Nat) (L : Nat) (σ : AS) : Prop :=
  ∃ (i m : Nat), σ = ⟨vag 21 [(2, ⟨.one, [.ptr 1 0]⟩), (3, ⟨.one, [.ptr 2 0]⟩), (7, ⟨.one, [.ro true xx]⟩), (8, litI (Int.ofNat x.length)), (9, litI (Int.ofNat i))],
    [some [.lit (.int .i64 (Int.ofNat m))], some cs, some [.fn 16 [(0, 0)]]], 1⟩ ∧
    i ≤ x.length ∧ m = n0 + Ex.partss (x.take i) ∧ L = x.length - i

theorem c_exprs (p : Pt) (hb1 : p.when'.length + Ex.szs p.when' ≤ 1048576) (hb2 : p.l.length + Sm.szs p.l ≤ 1048576) : CntOk 24 [agT p.t, fn16] p.parts := fun n hn => by
  obtain ⟨params, x, l, rule⟩ := p
  simp only [Pt.parts] at hn ⊢
  simp only at hb1 hb2
  simp only [agT, Pt.t, List.map, tA]
  obtain ⟨xx, hxx⟩ : ∃ xx, xx = x.map Ex.t := ⟨_, rfl⟩
  rw [← hxx]
  have hcl := fun n => c_eachStmt l hb2 n
  generalize params.map strT = xp
  generalize l.map Sm.t = xl at hcl ⊢
  refine gcalls_by tys_ok 21 [] (fn := Try.f24) rfl rfl rfl rfl ?_ ?_ ?_
  · simp [stampFree, litI, A.stamp, A.rstamp, stampIn]
  · simp [stampFree, litI, A.stamp, A.rstamp, stampIn]
  intro O hO P hP C hC R hR
  have hM : P.follows .mixedOrders = true := by rw [hP]; rfl
  obtain ⟨bin, cmp, sadd, scmp, beq, bnot, un, wrap, size, byte, sub, len, seg, app, get, set, nat, nadd, nsub, repl, text, bytes, mn, mx, nz, nn, idx, bnd, le, all, one, lits, isB, sOk, aOk, mOk⟩ := O
  have hseg : ∀ e, seg 0 (len e) e = e := by intro e; cases hO; simp
  obtain ⟨N, hN⟩ : ∃ N, N = x.length := ⟨_, rfl⟩
  have hlen : len xx = N := len_of hO (by simp [hxx, hN])
  have ha : all xx 4 := all_of hO (by subst hxx; simp [Ex.t_len])
  repeat' (first
   | (with_reducible first | (refine hK _ ?_; clear hK K) | refine thenA_n ?_ | refine thenA_r ?_ | refine thenA_e ?_ | refine block_n ?_ | refine block_r ?_ | refine block_hit ?_ | refine GWp.seq ?_ | refine GWp.block ?_ | refine GWp.skip ?_ | refine GWp.ret ?_ | refine GWp.exit ?_ | refine need_nil ?_ | refine need_cons True.intro ?_)
   | ((with_reducible first | refine gPost_r ?_ | refine gPost_n ?_ | refine fork_t ?_ | refine fork_f ?_ | (refine GWp.region (base := 1) ?_; intro K hK)); cbv; try simp only [hseg])
   | ((with_reducible refine GWp.cond_t ?hh ?_); (case hh => rfl)) | ((with_reducible refine GWp.cond_f ?hh ?_); (case hh => rfl)) | ((with_reducible refine block_miss ?hh ?_); (case hh => rfl))
   | ((with_reducible refine GWp.draws (base := 1) hM ?hh ?_); (case hh => rfl); intro K hK; cbv; try simp only [hseg])
   | ((with_reducible refine need_cons ?hh ?_); (case hh => first | with_reducible rfl | exact nn_ok hO (by decide))) | fail)
  simp only [hlen]
  refine GWp.loop (nb := 3) (keep := fun t => t == 2 || t == 3 || t == 7 || t == 8 || t == 9) (kk := fun _ _ => none) (inv24 [.ro true xp, .ro true xx, .ro true xl, .lit (.int .i64 rule)] xx x n) (by simp at hC; simp [hC]) ?_ ?_
  · cbv
    exact ⟨_, 0, n, by rw [← hN]; cbv, by simp, by simp [Ex.partss], rfl⟩
  rintro L σ ⟨i, m, rfl, g1, g2, rfl⟩
  rw [← hN]
  repeat' (first
   | (with_reducible first | (refine hK _ ?_; clear hK K) | refine thenA_n ?_ | refine thenA_r ?_ | refine thenA_e ?_ | refine block_n ?_ | refine block_r ?_ | refine block_hit ?_ | refine GWp.seq ?_ | refine GWp.block ?_ | refine GWp.skip ?_ | refine GWp.ret ?_ | refine GWp.exit ?_ | refine need_nil ?_ | refine need_cons True.intro ?_)
   | ((with_reducible first | refine gPost_r ?_ | refine gPost_n ?_ | refine fork_t ?_ | refine fork_f ?_ | (refine GWp.region (base := 1) ?_; intro K hK)); cbv; try simp only [hseg])
   | ((with_reducible refine GWp.cond_t ?hh ?_); (case hh => rfl)) | ((with_reducible refine GWp.cond_f ?hh ?_); (case hh => rfl)) | ((with_reducible refine block_miss ?hh ?_); (case hh => rfl))
   | ((with_reducible refine GWp.draws (base := 1) hM ?hh ?_); (case hh => rfl); intro K hK; cbv; try simp only [hseg])
   | ((with_reducible refine need_cons ?hh ?_); (case hh => first | with_reducible rfl | exact nn_ok hO (by decide))) | fail)
  refine GWp.cond rfl (fun h4 => ?_) (fun h4 => ?_)
  · have hlt : i < N := by
      try clear hK K
      clear hM hP hC hR; cases hO
      simp only [Ops.std, stdCmp, stdBin, scmp_eql, scmp_neq, stdUn, Int.ofNat_eq_natCast] at *
      simpa using h4
    obtain ⟨y, hy, hy', ht, e1⟩ := map_at hO hxx (hN ▸ hlt)
    have hz : Ex.partss (x.take (i + 1)) = Ex.partss (x.take i) + y.parts := by rw [ht, Ex.partss_app, Ex.partss_one]
    have hzl : Ex.partss (x.take (i + 1)) ≤ Ex.partss x := by
      have := Ex.partss_app (x.take (i + 1)) (x.drop (i + 1))
      rw [List.take_append_drop] at this
      omega
    have hc := c_eachExpr y (by have := Ex.sz_mem hy; omega) m (by omega)
    obtain ⟨k1, v1, s1, q1⟩ := y
    simp only [agT, Ex.t_mk, List.map, tA] at hc e1
    generalize q1.map Ex.t = xq1 at hc e1
    repeat' (first
     | (with_reducible first | (refine hK _ ?_; clear hK K) | refine thenA_n ?_ | refine thenA_r ?_ | refine thenA_e ?_ | refine block_n ?_ | refine block_r ?_ | refine block_hit ?_ | refine GWp.seq ?_ | refine GWp.block ?_ | refine GWp.skip ?_ | refine GWp.ret ?_ | refine GWp.exit ?_ | refine need_nil ?_ | refine need_cons True.intro ?_)
     | ((with_reducible first | refine gPost_r ?_ | refine gPost_n ?_ | refine fork_t ?_ | refine fork_f ?_ | (refine GWp.region (base := 1) ?_; intro K hK)); cbv; try simp only [hseg])
     | ((with_reducible refine GWp.cond_t ?hh ?_); (case hh => rfl)) | ((with_reducible refine GWp.cond_f ?hh ?_); (case hh => rfl)) | ((with_reducible refine block_miss ?hh ?_); (case hh => rfl))
     | ((with_reducible refine GWp.draws (base := 1) hM ?hh ?_); (case hh => rfl); intro K hK; cbv; try simp only [hseg])
     | ((with_reducible refine need_cons ?hh ?_); (case hh => first | with_reducible rfl | exact nn_ok hO (by decide))) | fail)
    repeat (simp only [e1]; cbv)
    refine need_cons (hlen ▸ idx_nat hO hlt) (need_cons ha (need_nil ?_))
    repeat' (first
     | (with_reducible first | (refine hK _ ?_; clear hK K) | refine thenA_n ?_ | refine thenA_r ?_ | refine thenA_e ?_ | refine block_n ?_ | refine block_r ?_ | refine block_hit ?_ | refine GWp.seq ?_ | refine GWp.block ?_ | refine GWp.skip ?_ | refine GWp.ret ?_ | refine GWp.exit ?_ | refine need_nil ?_ | refine need_cons True.intro ?_)
     | ((with_reducible first | refine gPost_r ?_ | refine gPost_n ?_ | refine fork_t ?_ | refine fork_f ?_ | (refine GWp.region (base := 1) ?_; intro K hK)); cbv; try simp only [hseg])
     | ((with_reducible refine GWp.cond_t ?hh ?_); (case hh => rfl)) | ((with_reducible refine GWp.cond_f ?hh ?_); (case hh => rfl)) | ((with_reducible refine block_miss ?hh ?_); (case hh => rfl))
     | ((with_reducible refine GWp.draws (base := 1) hM ?hh ?_); (case hh => rfl); intro K hK; cbv; try simp only [hseg])
     | ((with_reducible refine need_cons ?hh ?_); (case hh => first | with_reducible rfl | exact nn_ok hO (by decide))) | fail)
    refine GCall.by ⟨fun _ _ => false, fun _ _ => false, [0]⟩ ?_
    cbv
    try simp only [hseg]
    refine GCallD.by hP rfl (hc) ?_
    rintro res bx ⟨m2, hm2, rfl, rfl⟩
    cbv
    try simp only [hseg]
    repeat' (first
     | (with_reducible first | (refine hK _ ?_; clear hK K) | refine thenA_n ?_ | refine thenA_r ?_ | refine thenA_e ?_ | refine block_n ?_ | refine block_r ?_ | refine block_hit ?_ | refine GWp.seq ?_ | refine GWp.block ?_ | refine GWp.skip ?_ | refine GWp.ret ?_ | refine GWp.exit ?_ | refine need_nil ?_ | refine need_cons True.intro ?_)
     | ((with_reducible first | refine gPost_r ?_ | refine gPost_n ?_ | refine fork_t ?_ | refine fork_f ?_ | (refine GWp.region (base := 1) ?_; intro K hK)); cbv; try simp only [hseg])
     | ((with_reducible refine GWp.cond_t ?hh ?_); (case hh => rfl)) | ((with_reducible refine GWp.cond_f ?hh ?_); (case hh => rfl)) | ((with_reducible refine block_miss ?hh ?_); (case hh => rfl))
     | ((with_reducible refine GWp.draws (base := 1) hM ?hh ?_); (case hh => rfl); intro K hK; cbv; try simp only [hseg])
     | ((with_reducible refine need_cons ?hh ?_); (case hh => first | with_reducible rfl | exact nn_ok hO (by decide))) | fail)
    have e : bin .add .i64 (Int.ofNat i) 1 = _ := i_succ hO (by omega)
    cbv
    rw [e]
    exact ⟨N - (i + 1), by omega, i + 1, m2, by rw [← hN]; cbv, by omega, by omega, by omega⟩
  · have hge : i = N := by
      try clear hK K
      clear hM hP hC hR; cases hO
      simp only [Ops.std, stdCmp, stdBin, scmp_eql, scmp_neq, stdUn, Int.ofNat_eq_natCast] at *
      simp at h4; omega
    have e2 : x.take i = x := List.take_of_length_le (by omega)
    rw [e2] at g2
    repeat' (first
     | (with_reducible first | (refine hK _ ?_; clear hK K) | refine thenA_n ?_ | refine thenA_r ?_ | refine thenA_e ?_ | refine block_n ?_ | refine block_r ?_ | refine block_hit ?_ | refine GWp.seq ?_ | refine GWp.block ?_ | refine GWp.skip ?_ | refine GWp.ret ?_ | refine GWp.exit ?_ | refine need_nil ?_ | refine need_cons True.intro ?_)
     | ((with_reducible first | refine gPost_r ?_ | refine gPost_n ?_ | refine fork_t ?_ | refine fork_f ?_ | (refine GWp.region (base := 1) ?_; intro K hK)); cbv; try simp only [hseg])
     | ((with_reducible refine GWp.cond_t ?hh ?_); (case hh => rfl)) | ((with_reducible refine GWp.cond_f ?hh ?_); (case hh => rfl)) | ((with_reducible refine block_miss ?hh ?_); (case hh => rfl))
     | ((with_reducible refine GWp.draws (base := 1) hM ?hh ?_); (case hh => rfl); intro K hK; cbv; try simp only [hseg])
     | ((with_reducible refine need_cons ?hh ?_); (case hh => first | with_reducible rfl | exact nn_ok hO (by decide))) | fail)
    refine GCall.by ⟨fun _ _ => false, fun _ _ => false, [0, 2]⟩ ?_
    cbv
    try simp only [hseg]
    refine GCallD.by hP rfl (hcl m (by omega)) ?_
    rintro res bx ⟨m2, hm2, rfl, rfl⟩
    cbv
    try simp only [hseg]
    repeat' (first
     | (with_reducible first | (refine hK _ ?_; clear hK K) | refine thenA_n ?_ | refine thenA_r ?_ | refine thenA_e ?_ | refine block_n ?_ | refine block_r ?_ | refine block_hit ?_ | refine GWp.seq ?_ | refine GWp.block ?_ | refine GWp.skip ?_ | refine GWp.ret ?_ | refine GWp.exit ?_ | refine need_nil ?_ | refine need_cons True.intro ?_)
     | ((with_reducible first | refine gPost_r ?_ | refine gPost_n ?_ | refine fork_t ?_ | refine fork_f ?_ | (refine GWp.region (base := 1) ?_; intro K hK)); cbv; try simp only [hseg])
     | ((with_reducible refine GWp.cond_t ?hh ?_); (case hh => rfl)) | ((with_reducible refine GWp.cond_f ?hh ?_); (case hh => rfl)) | ((with_reducible refine block_miss ?hh ?_); (case hh => rfl))
     | ((with_reducible refine GWp.draws (base := 1) hM ?hh ?_); (case hh => rfl); intro K hK; cbv; try simp only [hseg])
     | ((with_reducible refine need_cons ?hh ?_); (case hh => first | with_reducible rfl | exact nn_ok hO (by decide))) | fail)
    exact hR _ _ ⟨m2, by omega, rfl, rfl⟩

def inv23a (xr xf : List (List T)) (fns : List Fu) (L : Nat) (σ : AS) : Prop :=
  ∃ (i : Nat) (out : List (List T)), σ = ⟨vag 50 [(1, ⟨.one, [.ptr 0 0]⟩), (3, ⟨.one, [.ow (0, 0) 4 out]⟩), (10, ⟨.one, [.ro true xf]⟩), (11, litI (Int.ofNat fns.length)), (12, litI (Int.ofNat i))],
    [some [.ro true xr, .ro true xf]], 1⟩ ∧
    i ≤ fns.length ∧ out = (fns.take i).map (fun f => (ptF f).t) ∧ L = fns.length - i
def inv23b (xr xf : List (List T)) (outF : List (List T)) (rules : List Ru) (L : Nat) (σ : AS) : Prop :=
  ∃ (i : Nat) (out : List (List T)), σ = ⟨vag 50 [(1, ⟨.one, [.ptr 0 0]⟩), (3, ⟨.one, [.ow (0, 0) 4 out]⟩), (26, ⟨.one, [.ro true xr]⟩), (27, litI (Int.ofNat rules.length)), (28, litI (Int.ofNat i))],
    [some [.ro true xr, .ro true xf]], 1⟩ ∧
    i ≤ rules.length ∧ out = outF ++ (rules.take i).map (fun f => (ptR f).t) ∧ L = rules.length - i

theorem c_partsIn (p : Pg) (hz : p.sz ≤ 1048576) : ToOk 23 [agT p.t] ⟨.one, [.ow (0, 0) 4 (p.pts.map Pt.t)]⟩ := by
  obtain ⟨rules, fns⟩ := p
  simp only [Pg.sz] at hz
  simp only [agT, Pg.t, List.map, tA, ToOk, Pg.pts]
  obtain ⟨xr, hxr⟩ : ∃ xr, xr = rules.map Ru.t := ⟨_, rfl⟩
  obtain ⟨xf, hxf⟩ : ∃ xf, xf = fns.map Fu.t := ⟨_, rfl⟩
  obtain ⟨res, hres⟩ : ∃ res, res = (fns.map ptF ++ rules.map ptR).map Pt.t := ⟨_, rfl⟩
  rw [← hxr, ← hxf, ← hres]
  refine gcalls_by tys_ok 50 [.tmp 2] (fn := Try.f23) rfl rfl rfl rfl ?_ ?_ ?_
  · simp [stampFree, litI, A.stamp, A.rstamp, stampIn]
  · simp
  intro O hO P hP C hC R hR
  have hM : P.follows .mixedOrders = true := by rw [hP]; rfl
  obtain ⟨bin, cmp, sadd, scmp, beq, bnot, un, wrap, size, byte, sub, len, seg, app, get, set, nat, nadd, nsub, repl, text, bytes, mn, mx, nz, nn, idx, bnd, le, all, one, lits, isB, sOk, aOk, mOk⟩ := O
  have hseg : ∀ e, seg 0 (len e) e = e := by intro e; cases hO; simp
  obtain ⟨N, hN⟩ : ∃ N, N = rules.length := ⟨_, rfl⟩
  have hlr : len xr = N := len_of hO (by simp [hxr, hN])
  have har : all xr 6 := all_of hO (by subst hxr; simp [Ru.t_len])
  obtain ⟨M, hM2⟩ : ∃ M, M = fns.length := ⟨_, rfl⟩
  have hlf : len xf = M := len_of hO (by simp [hxf, hM2])
  have haf : all xf 3 := all_of hO (by subst hxf; simp [Fu.t_len])
  have happ : ∀ a b, app a b = a ++ b := by intro a b; cases hO; rfl
  repeat' (first
   | (with_reducible first | (refine hK _ ?_; clear hK K) | refine thenA_n ?_ | refine thenA_r ?_ | refine thenA_e ?_ | refine block_n ?_ | refine block_r ?_ | refine block_hit ?_ | refine GWp.seq ?_ | refine GWp.block ?_ | refine GWp.skip ?_ | refine GWp.ret ?_ | refine GWp.exit ?_ | refine need_nil ?_ | refine need_cons True.intro ?_)
   | ((with_reducible first | refine gPost_r ?_ | refine gPost_n ?_ | refine fork_t ?_ | refine fork_f ?_ | (refine GWp.region (base := 0) ?_; intro K hK)); cbv; try simp only [hseg])
   | ((with_reducible refine GWp.cond_t ?hh ?_); (case hh => rfl)) | ((with_reducible refine GWp.cond_f ?hh ?_); (case hh => rfl)) | ((with_reducible refine block_miss ?hh ?_); (case hh => rfl))
   | ((with_reducible refine GWp.draws (base := 0) hM ?hh ?_); (case hh => rfl); intro K hK; cbv; try simp only [hseg])
   | ((with_reducible refine need_cons ?hh ?_); (case hh => first | with_reducible rfl | exact nn_ok hO (by decide))) | fail)
  simp only [hlf]
  refine GWp.loop (nb := 1) (keep := fun t => t == 1 || t == 3 || t == 10 || t == 11 || t == 12) (kk := fun r _ => if r = .slot 3 then some 4 else none) (inv23a xr xf fns) (by simp at hC; simp [hC]) ?_ ?_
  · cbv
    exact ⟨_, 0, [], by rw [← hM2]; cbv, by simp, by simp, rfl⟩
  rintro L σ ⟨i, out, rfl, g1, g2, rfl⟩
  rw [← hM2]
  repeat' (first
   | (with_reducible first | (refine hK _ ?_; clear hK K) | refine thenA_n ?_ | refine thenA_r ?_ | refine thenA_e ?_ | refine block_n ?_ | refine block_r ?_ | refine block_hit ?_ | refine GWp.seq ?_ | refine GWp.block ?_ | refine GWp.skip ?_ | refine GWp.ret ?_ | refine GWp.exit ?_ | refine need_nil ?_ | refine need_cons True.intro ?_)
   | ((with_reducible first | refine gPost_r ?_ | refine gPost_n ?_ | refine fork_t ?_ | refine fork_f ?_ | (refine GWp.region (base := 0) ?_; intro K hK)); cbv; try simp only [hseg])
   | ((with_reducible refine GWp.cond_t ?hh ?_); (case hh => rfl)) | ((with_reducible refine GWp.cond_f ?hh ?_); (case hh => rfl)) | ((with_reducible refine block_miss ?hh ?_); (case hh => rfl))
   | ((with_reducible refine GWp.draws (base := 0) hM ?hh ?_); (case hh => rfl); intro K hK; cbv; try simp only [hseg])
   | ((with_reducible refine need_cons ?hh ?_); (case hh => first | with_reducible rfl | exact nn_ok hO (by decide))) | fail)
  refine GWp.cond rfl (fun h4 => ?_) (fun h4 => ?_)
  · have hlt : i < M := by
      try clear hK K
      clear hM hP hC hR; cases hO
      simp only [Ops.std, stdCmp, stdBin, scmp_eql, scmp_neq, stdUn, Int.ofNat_eq_natCast] at *
      simpa using h4
    obtain ⟨y, hy, hy', ht, e1⟩ := map_at hO hxf (hM2 ▸ hlt)
    obtain ⟨name, params, a⟩ := y
    simp only [Fu.t] at e1
    have hout : (fns.take (i + 1)).map (fun f => (ptF f).t) = out ++ [[.sl (params.map strT), .sl [], .sl (a.map Sm.t), .lit (.int .i64 0)]] := by
      rw [ht, List.map_append, ← g2]; rfl
    have hol : out.length ≤ 1048576 := by rw [g2]; simp; omega
    generalize params.map strT = xp at e1 hout
    generalize a.map Sm.t = xa at e1 hout
    repeat' (first
     | (with_reducible first | (refine hK _ ?_; clear hK K) | refine thenA_n ?_ | refine thenA_r ?_ | refine thenA_e ?_ | refine block_n ?_ | refine block_r ?_ | refine block_hit ?_ | refine GWp.seq ?_ | refine GWp.block ?_ | refine GWp.skip ?_ | refine GWp.ret ?_ | refine GWp.exit ?_ | refine need_nil ?_ | refine need_cons True.intro ?_)
     | ((with_reducible first | refine gPost_r ?_ | refine gPost_n ?_ | refine fork_t ?_ | refine fork_f ?_ | (refine GWp.region (base := 0) ?_; intro K hK)); cbv; try simp only [hseg])
     | ((with_reducible refine GWp.cond_t ?hh ?_); (case hh => rfl)) | ((with_reducible refine GWp.cond_f ?hh ?_); (case hh => rfl)) | ((with_reducible refine block_miss ?hh ?_); (case hh => rfl))
     | ((with_reducible refine GWp.draws (base := 0) hM ?hh ?_); (case hh => rfl); intro K hK; cbv; try simp only [hseg])
     | ((with_reducible refine need_cons ?hh ?_); (case hh => first | with_reducible rfl | exact nn_ok hO (by decide))) | fail)
    repeat (simp only [e1]; cbv)
    refine need_cons (hlf ▸ idx_nat hO hlt) (need_cons haf (need_nil ?_))
    repeat' (first
     | (with_reducible first | (refine hK _ ?_; clear hK K) | refine thenA_n ?_ | refine thenA_r ?_ | refine thenA_e ?_ | refine block_n ?_ | refine block_r ?_ | refine block_hit ?_ | refine GWp.seq ?_ | refine GWp.block ?_ | refine GWp.skip ?_ | refine GWp.ret ?_ | refine GWp.exit ?_ | refine need_nil ?_ | refine need_cons True.intro ?_)
     | ((with_reducible first | refine gPost_r ?_ | refine gPost_n ?_ | refine fork_t ?_ | refine fork_f ?_ | (refine GWp.region (base := 0) ?_; intro K hK)); cbv; try simp only [hseg])
     | ((with_reducible refine GWp.cond_t ?hh ?_); (case hh => rfl)) | ((with_reducible refine GWp.cond_f ?hh ?_); (case hh => rfl)) | ((with_reducible refine block_miss ?hh ?_); (case hh => rfl))
     | ((with_reducible refine GWp.draws (base := 0) hM ?hh ?_); (case hh => rfl); intro K hK; cbv; try simp only [hseg])
     | ((with_reducible refine need_cons ?hh ?_); (case hh => first | with_reducible rfl | exact nn_ok hO (by decide))) | fail)
    refine need_cons (all_of hO (by simp)) (need_cons (aOk_of hO (by simp; omega) (by simp; omega)) (need_nil ?_))
    obtain ⟨out2, ho2⟩ : ∃ o, o = (fns.take (i + 1)).map (fun f => (ptF f).t) := ⟨_, rfl⟩
    rw [← ho2] at hout
    simp only [happ, ← hout]
    repeat' (first
     | (with_reducible first | (refine hK _ ?_; clear hK K) | refine thenA_n ?_ | refine thenA_r ?_ | refine thenA_e ?_ | refine block_n ?_ | refine block_r ?_ | refine block_hit ?_ | refine GWp.seq ?_ | refine GWp.block ?_ | refine GWp.skip ?_ | refine GWp.ret ?_ | refine GWp.exit ?_ | refine need_nil ?_ | refine need_cons True.intro ?_)
     | ((with_reducible first | refine gPost_r ?_ | refine gPost_n ?_ | refine fork_t ?_ | refine fork_f ?_ | (refine GWp.region (base := 0) ?_; intro K hK)); cbv; try simp only [hseg])
     | ((with_reducible refine GWp.cond_t ?hh ?_); (case hh => rfl)) | ((with_reducible refine GWp.cond_f ?hh ?_); (case hh => rfl)) | ((with_reducible refine block_miss ?hh ?_); (case hh => rfl))
     | ((with_reducible refine GWp.draws (base := 0) hM ?hh ?_); (case hh => rfl); intro K hK; cbv; try simp only [hseg])
     | ((with_reducible refine need_cons ?hh ?_); (case hh => first | with_reducible rfl | exact nn_ok hO (by decide))) | fail)
    have e : bin .add .i64 (Int.ofNat i) 1 = _ := i_succ hO (by omega)
    cbv
    rw [e]
    exact ⟨M - (i + 1), by omega, i + 1, out2, by rw [← hM2]; cbv, by omega, ho2, by rw [hM2]⟩
  · have hge : i = M := by
      try clear hK K
      clear hM hP hC hR; cases hO
      simp only [Ops.std, stdCmp, stdBin, scmp_eql, scmp_neq, stdUn, Int.ofNat_eq_natCast] at *
      simp at h4; omega
    have e2 : fns.take i = fns := List.take_of_length_le (by omega)
    rw [e2] at g2
    have hof : out.length = M := by rw [g2]; simp [hM2]
    repeat' (first
     | (with_reducible first | (refine hK _ ?_; clear hK K) | refine thenA_n ?_ | refine thenA_r ?_ | refine thenA_e ?_ | refine block_n ?_ | refine block_r ?_ | refine block_hit ?_ | refine GWp.seq ?_ | refine GWp.block ?_ | refine GWp.skip ?_ | refine GWp.ret ?_ | refine GWp.exit ?_ | refine need_nil ?_ | refine need_cons True.intro ?_)
     | ((with_reducible first | refine gPost_r ?_ | refine gPost_n ?_ | refine fork_t ?_ | refine fork_f ?_ | (refine GWp.region (base := 0) ?_; intro K hK)); cbv; try simp only [hseg])
     | ((with_reducible refine GWp.cond_t ?hh ?_); (case hh => rfl)) | ((with_reducible refine GWp.cond_f ?hh ?_); (case hh => rfl)) | ((with_reducible refine block_miss ?hh ?_); (case hh => rfl))
     | ((with_reducible refine GWp.draws (base := 0) hM ?hh ?_); (case hh => rfl); intro K hK; cbv; try simp only [hseg])
     | ((with_reducible refine need_cons ?hh ?_); (case hh => first | with_reducible rfl | exact nn_ok hO (by decide))) | fail)
    simp only [hlr]
    refine GWp.loop (nb := 1) (keep := fun t => t == 1 || t == 3 || t == 26 || t == 27 || t == 28) (kk := fun r _ => if r = .slot 3 then some 4 else none) (inv23b xr xf out rules) (by simp at hC; simp [hC]) ?_ ?_
    · cbv
      exact ⟨_, 0, out, by rw [← hN]; cbv, by simp, by simp, rfl⟩
    rintro L σ ⟨j, outj, rfl, j1, j2, rfl⟩
    rw [← hN]
    repeat' (first
     | (with_reducible first | (refine hK _ ?_; clear hK K) | refine thenA_n ?_ | refine thenA_r ?_ | refine thenA_e ?_ | refine block_n ?_ | refine block_r ?_ | refine block_hit ?_ | refine GWp.seq ?_ | refine GWp.block ?_ | refine GWp.skip ?_ | refine GWp.ret ?_ | refine GWp.exit ?_ | refine need_nil ?_ | refine need_cons True.intro ?_)
     | ((with_reducible first | refine gPost_r ?_ | refine gPost_n ?_ | refine fork_t ?_ | refine fork_f ?_ | (refine GWp.region (base := 0) ?_; intro K hK)); cbv; try simp only [hseg])
     | ((with_reducible refine GWp.cond_t ?hh ?_); (case hh => rfl)) | ((with_reducible refine GWp.cond_f ?hh ?_); (case hh => rfl)) | ((with_reducible refine block_miss ?hh ?_); (case hh => rfl))
     | ((with_reducible refine GWp.draws (base := 0) hM ?hh ?_); (case hh => rfl); intro K hK; cbv; try simp only [hseg])
     | ((with_reducible refine need_cons ?hh ?_); (case hh => first | with_reducible rfl | exact nn_ok hO (by decide))) | fail)
    refine GWp.cond rfl (fun h6 => ?_) (fun h6 => ?_)
    · have hjt : j < N := by
        try clear hK K
        clear hM hP hC hR; cases hO
        simp only [Ops.std, stdCmp, stdBin, scmp_eql, scmp_neq, stdUn, Int.ofNat_eq_natCast] at *
        simpa using h6
      obtain ⟨y, hy, hy', ht, e1⟩ := map_at hO hxr (hN ▸ hjt)
      have hol : outj.length ≤ 2097152 := by rw [j2]; simp; omega
      obtain ⟨k, ⟨pk, pn, ps, pl⟩, a⟩ := y
      have hout : out ++ (rules.take (j + 1)).map (fun f => (ptR f).t) = outj ++ [[.sl [], .sl ((if k = 4 then [Ex.mk pk pn ps pl] else []).map Ex.t), .sl (a.map Sm.t), .lit (.int .i64 k)]] := by
        rw [ht, List.map_append, ← List.append_assoc, ← j2]; rfl
      simp only [Ru.t, Ex.t_mk, List.cons_append, List.nil_append] at e1
      obtain ⟨xpl, hxpl⟩ : ∃ xpl, xpl = pl.map Ex.t := ⟨_, rfl⟩
      rw [← hxpl] at e1
      generalize a.map Sm.t = xa at e1 hout
      obtain ⟨out2, ho2⟩ : ∃ o, o = out ++ (rules.take (j + 1)).map (fun f => (ptR f).t) := ⟨_, rfl⟩
      rw [← ho2] at hout
      repeat' (first
       | (with_reducible first | (refine hK _ ?_; clear hK K) | refine thenA_n ?_ | refine thenA_r ?_ | refine thenA_e ?_ | refine block_n ?_ | refine block_r ?_ | refine block_hit ?_ | refine GWp.seq ?_ | refine GWp.block ?_ | refine GWp.skip ?_ | refine GWp.ret ?_ | refine GWp.exit ?_ | refine need_nil ?_ | refine need_cons True.intro ?_)
       | ((with_reducible first | refine gPost_r ?_ | refine gPost_n ?_ | refine fork_t ?_ | refine fork_f ?_ | (refine GWp.region (base := 0) ?_; intro K hK)); cbv; try simp only [hseg])
       | ((with_reducible refine GWp.cond_t ?hh ?_); (case hh => rfl)) | ((with_reducible refine GWp.cond_f ?hh ?_); (case hh => rfl)) | ((with_reducible refine block_miss ?hh ?_); (case hh => rfl))
       | ((with_reducible refine GWp.draws (base := 0) hM ?hh ?_); (case hh => rfl); intro K hK; cbv; try simp only [hseg])
       | ((with_reducible refine need_cons ?hh ?_); (case hh => first | with_reducible rfl | exact nn_ok hO (by decide))) | fail)
      repeat (simp only [e1]; cbv)
      refine need_cons (hlr ▸ idx_nat hO hjt) (need_cons har (need_nil ?_))
      repeat' (first
       | (with_reducible first | (refine hK _ ?_; clear hK K) | refine thenA_n ?_ | refine thenA_r ?_ | refine thenA_e ?_ | refine block_n ?_ | refine block_r ?_ | refine block_hit ?_ | refine GWp.seq ?_ | refine GWp.block ?_ | refine GWp.skip ?_ | refine GWp.ret ?_ | refine GWp.exit ?_ | refine need_nil ?_ | refine need_cons True.intro ?_)
       | ((with_reducible first | refine gPost_r ?_ | refine gPost_n ?_ | refine fork_t ?_ | refine fork_f ?_ | (refine GWp.region (base := 0) ?_; intro K hK)); cbv; try simp only [hseg])
       | ((with_reducible refine GWp.cond_t ?hh ?_); (case hh => rfl)) | ((with_reducible refine GWp.cond_f ?hh ?_); (case hh => rfl)) | ((with_reducible refine block_miss ?hh ?_); (case hh => rfl))
       | ((with_reducible refine GWp.draws (base := 0) hM ?hh ?_); (case hh => rfl); intro K hK; cbv; try simp only [hseg])
       | ((with_reducible refine need_cons ?hh ?_); (case hh => first | with_reducible rfl | exact nn_ok hO (by decide))) | fail)
      refine GWp.cond rfl (fun h7 => ?_) (fun h7 => ?_)
      · have hk : k = 4 := by
          try clear hK K
          clear hM hP hC hR; cases hO
          simp only [Ops.std, stdCmp, stdBin, scmp_eql, scmp_neq, stdUn, Int.ofNat_eq_natCast] at *
          simpa using h7
        rw [if_pos hk, List.map_cons, List.map_nil, Ex.t_mk, ← hxpl] at hout
        repeat' (first
         | (with_reducible first | (refine hK _ ?_; clear hK K) | refine thenA_n ?_ | refine thenA_r ?_ | refine thenA_e ?_ | refine block_n ?_ | refine block_r ?_ | refine block_hit ?_ | refine GWp.seq ?_ | refine GWp.block ?_ | refine GWp.skip ?_ | refine GWp.ret ?_ | refine GWp.exit ?_ | refine need_nil ?_ | refine need_cons True.intro ?_)
         | ((with_reducible first | refine gPost_r ?_ | refine gPost_n ?_ | refine fork_t ?_ | refine fork_f ?_ | (refine GWp.region (base := 0) ?_; intro K hK)); cbv; try simp only [hseg])
         | ((with_reducible refine GWp.cond_t ?hh ?_); (case hh => rfl)) | ((with_reducible refine GWp.cond_f ?hh ?_); (case hh => rfl)) | ((with_reducible refine block_miss ?hh ?_); (case hh => rfl))
         | ((with_reducible refine GWp.draws (base := 0) hM ?hh ?_); (case hh => rfl); intro K hK; cbv; try simp only [hseg])
         | ((with_reducible refine need_cons ?hh ?_); (case hh => first | with_reducible rfl | exact nn_ok hO (by decide))) | fail)
        refine need_cons (all_of hO (by simp)) (need_cons (aOk_of hO (by simp; omega) (by simp; omega)) (need_nil ?_))
        simp only [happ, ← hout]
        repeat' (first
         | (with_reducible first | (refine hK _ ?_; clear hK K) | refine thenA_n ?_ | refine thenA_r ?_ | refine thenA_e ?_ | refine block_n ?_ | refine block_r ?_ | refine block_hit ?_ | refine GWp.seq ?_ | refine GWp.block ?_ | refine GWp.skip ?_ | refine GWp.ret ?_ | refine GWp.exit ?_ | refine need_nil ?_ | refine need_cons True.intro ?_)
         | ((with_reducible first | refine gPost_r ?_ | refine gPost_n ?_ | refine fork_t ?_ | refine fork_f ?_ | (refine GWp.region (base := 0) ?_; intro K hK)); cbv; try simp only [hseg])
         | ((with_reducible refine GWp.cond_t ?hh ?_); (case hh => rfl)) | ((with_reducible refine GWp.cond_f ?hh ?_); (case hh => rfl)) | ((with_reducible refine block_miss ?hh ?_); (case hh => rfl))
         | ((with_reducible refine GWp.draws (base := 0) hM ?hh ?_); (case hh => rfl); intro K hK; cbv; try simp only [hseg])
         | ((with_reducible refine need_cons ?hh ?_); (case hh => first | with_reducible rfl | exact nn_ok hO (by decide))) | fail)
        have e : bin .add .i64 (Int.ofNat j) 1 = _ := i_succ hO (by omega)
        cbv
        rw [e]
        exact ⟨N - (j + 1), by omega, j + 1, out2, by rw [← hN]; cbv, by omega, ho2, by rw [hN]⟩
      · have hk : k ≠ 4 := by
          try clear hK K
          clear hM hP hC hR; cases hO
          simp only [Ops.std, stdCmp, stdBin, scmp_eql, scmp_neq, stdUn, Int.ofNat_eq_natCast] at *
          simpa using h7
        rw [if_neg hk, List.map_nil] at hout
        repeat' (first
         | (with_reducible first | (refine hK _ ?_; clear hK K) | refine thenA_n ?_ | refine thenA_r ?_ | refine thenA_e ?_ | refine block_n ?_ | refine block_r ?_ | refine block_hit ?_ | refine GWp.seq ?_ | refine GWp.block ?_ | refine GWp.skip ?_ | refine GWp.ret ?_ | refine GWp.exit ?_ | refine need_nil ?_ | refine need_cons True.intro ?_)
         | ((with_reducible first | refine gPost_r ?_ | refine gPost_n ?_ | refine fork_t ?_ | refine fork_f ?_ | (refine GWp.region (base := 0) ?_; intro K hK)); cbv; try simp only [hseg])
         | ((with_reducible refine GWp.cond_t ?hh ?_); (case hh => rfl)) | ((with_reducible refine GWp.cond_f ?hh ?_); (case hh => rfl)) | ((with_reducible refine block_miss ?hh ?_); (case hh => rfl))
         | ((with_reducible refine GWp.draws (base := 0) hM ?hh ?_); (case hh => rfl); intro K hK; cbv; try simp only [hseg])
         | ((with_reducible refine need_cons ?hh ?_); (case hh => first | with_reducible rfl | exact nn_ok hO (by decide))) | fail)
        refine need_cons (all_of hO (by simp)) (need_cons (aOk_of hO (by simp; omega) (by simp; omega)) (need_nil ?_))
        simp only [happ, ← hout]
        repeat' (first
         | (with_reducible first | (refine hK _ ?_; clear hK K) | refine thenA_n ?_ | refine thenA_r ?_ | refine thenA_e ?_ | refine block_n ?_ | refine block_r ?_ | refine block_hit ?_ | refine GWp.seq ?_ | refine GWp.block ?_ | refine GWp.skip ?_ | refine GWp.ret ?_ | refine GWp.exit ?_ | refine need_nil ?_ | refine need_cons True.intro ?_)
         | ((with_reducible first | refine gPost_r ?_ | refine gPost_n ?_ | refine fork_t ?_ | refine fork_f ?_ | (refine GWp.region (base := 0) ?_; intro K hK)); cbv; try simp only [hseg])
         | ((with_reducible refine GWp.cond_t ?hh ?_); (case hh => rfl)) | ((with_reducible refine GWp.cond_f ?hh ?_); (case hh => rfl)) | ((with_reducible refine block_miss ?hh ?_); (case hh => rfl))
         | ((with_reducible refine GWp.draws (base := 0) hM ?hh ?_); (case hh => rfl); intro K hK; cbv; try simp only [hseg])
         | ((with_reducible refine need_cons ?hh ?_); (case hh => first | with_reducible rfl | exact nn_ok hO (by decide))) | fail)
        have e : bin .add .i64 (Int.ofNat j) 1 = _ := i_succ hO (by omega)
        cbv
        rw [e]
        exact ⟨N - (j + 1), by omega, j + 1, out2, by rw [← hN]; cbv, by omega, ho2, by rw [hN]⟩
    · have hge : j = N := by
        try clear hK K
        clear hM hP hC hR; cases hO
        simp only [Ops.std, stdCmp, stdBin, scmp_eql, scmp_neq, stdUn, Int.ofNat_eq_natCast] at *
        simp at h6; omega
      have e4 : rules.take j = rules := List.take_of_length_le (by omega)
      rw [e4] at j2
      have e5 : outj = res := by
        rw [hres, List.map_append, j2, g2, List.map_map, List.map_map]; rfl
      subst e5
      repeat' (first
       | (with_reducible first | (refine hK _ ?_; clear hK K) | refine thenA_n ?_ | refine thenA_r ?_ | refine thenA_e ?_ | refine block_n ?_ | refine block_r ?_ | refine block_hit ?_ | refine GWp.seq ?_ | refine GWp.block ?_ | refine GWp.skip ?_ | refine GWp.ret ?_ | refine GWp.exit ?_ | refine need_nil ?_ | refine need_cons True.intro ?_)
       | ((with_reducible first | refine gPost_r ?_ | refine gPost_n ?_ | refine fork_t ?_ | refine fork_f ?_ | (refine GWp.region (base := 0) ?_; intro K hK)); cbv; try simp only [hseg])
       | ((with_reducible refine GWp.cond_t ?hh ?_); (case hh => rfl)) | ((with_reducible refine GWp.cond_f ?hh ?_); (case hh => rfl)) | ((with_reducible refine block_miss ?hh ?_); (case hh => rfl))
       | ((with_reducible refine GWp.draws (base := 0) hM ?hh ?_); (case hh => rfl); intro K hK; cbv; try simp only [hseg])
       | ((with_reducible refine need_cons ?hh ?_); (case hh => first | with_reducible rfl | exact nn_ok hO (by decide))) | fail)
      exact hR _ _ ⟨rfl, rfl⟩
end Go.Gv

namespace Go.Gv
open Go.Av Go.Proofs
set_option maxRecDepth 10000
set_option linter.unusedSimpArgs false

theorem Pg.pts_sz {p : Pg} (hz : p.sz ≤ 1048576) {t : Pt} (h : t ∈ p.pts) : t.when'.length + Ex.szs t.when' ≤ 1048577 ∧ t.l.length + Sm.szs t.l ≤ 1048576 ∧ (t.when'.length + Ex.szs t.when' ≤ 1048576) := by
  obtain ⟨rules, fns⟩ := p
  simp only [Pg.sz, Ru.szs, Fu.szs] at hz
  rw [Pg.pts, List.mem_append] at h
  rcases h with h | h
  · obtain ⟨f, hf, rfl⟩ := List.mem_map.1 h
    have := sum_mem (f := Fu.sz) hf
    simp only [Fu.sz] at this
    simp only [ptF, Ex.szs, List.length_nil]
    omega
  · obtain ⟨f, hf, rfl⟩ := List.mem_map.1 h
    have := sum_mem (f := Ru.sz) hf
    simp only [Ru.sz] at this
    have hl : 1 ≤ rules.length := by
      cases rules with
      | nil => simp at hf
      | cons a l => simp
    simp only [ptR]
    split
    · simp only [Ex.szs, List.length_singleton]
      omega
    · simp only [Ex.szs, List.length_nil]
      omega

def inv15 (xr xf xs : List (List T)) (pts : List Pt) (n0 : Nat) (L : Nat) (σ : AS) : Prop :=
  ∃ (i m : Nat), σ = ⟨vag 17 [(1, ⟨.one, [.fn 16 [(0, 0)]]⟩), (2, ⟨.one, [.ptr 1 0]⟩), (7, ⟨.one, [.ow (0, 0) 4 xs]⟩), (8, litI (Int.ofNat pts.length)), (9, litI (Int.ofNat i))],
    [some [.lit (.int .i64 (Int.ofNat m))], some [.ro true xr, .ro true xf]], 1⟩ ∧
    i ≤ pts.length ∧ m = n0 + Pt.partss (pts.take i) ∧ L = pts.length - i

theorem c_eachProgExpr (p : Pg) (hz : p.sz ≤ 1048576) : CntOk 15 [agT p.t, fn16] p.parts := fun n hn => by
  have hcp := c_partsIn p hz
  have hsz := fun t => @Pg.pts_sz p hz t
  rw [← Pg.pts_parts] at hn ⊢
  have hlp : p.pts.length ≤ 1048576 := by
    simp only [Pg.sz] at hz
    simp only [Pg.pts, List.length_append, List.length_map]
    omega
  generalize p.pts = pts at *
  obtain ⟨rules, fns⟩ := p
  simp only [agT, Pg.t, List.map, tA, ToOk] at hcp ⊢
  generalize rules.map Ru.t = xr at *
  generalize fns.map Fu.t = xf at *
  obtain ⟨xs, hxs⟩ : ∃ xs, xs = pts.map Pt.t := ⟨_, rfl⟩
  rw [← hxs] at hcp
  refine gcalls_by tys_ok 17 [] (fn := Try.f15) rfl rfl rfl rfl ?_ ?_ ?_
  · simp [stampFree, litI, A.stamp, A.rstamp, stampIn]
  · simp [stampFree, litI, A.stamp, A.rstamp, stampIn]
  intro O hO P hP C hC R hR
  have hM : P.follows .mixedOrders = true := by rw [hP]; rfl
  obtain ⟨bin, cmp, sadd, scmp, beq, bnot, un, wrap, size, byte, sub, len, seg, app, get, set, nat, nadd, nsub, repl, text, bytes, mn, mx, nz, nn, idx, bnd, le, all, one, lits, isB, sOk, aOk, mOk⟩ := O
  have hseg : ∀ e, seg 0 (len e) e = e := by intro e; cases hO; simp
  obtain ⟨N, hN⟩ : ∃ N, N = pts.length := ⟨_, rfl⟩
  have hlen : len xs = N := len_of hO (by simp [hxs, hN])
  have ha : all xs 4 := all_of hO (by subst hxs; simp [Pt.t_len])
  repeat' (first
   | (with_reducible first | (refine hK _ ?_; clear hK K) | refine thenA_n ?_ | refine thenA_r ?_ | refine thenA_e ?_ | refine block_n ?_ | refine block_r ?_ | refine block_hit ?_ | refine GWp.seq ?_ | refine GWp.block ?_ | refine GWp.skip ?_ | refine GWp.ret ?_ | refine GWp.exit ?_ | refine need_nil ?_ | refine need_cons True.intro ?_)
   | ((with_reducible first | refine gPost_r ?_ | refine gPost_n ?_ | refine fork_t ?_ | refine fork_f ?_ | (refine GWp.region (base := 1) ?_; intro K hK)); cbv; try simp only [hseg])
   | ((with_reducible refine GWp.cond_t ?hh ?_); (case hh => rfl)) | ((with_reducible refine GWp.cond_f ?hh ?_); (case hh => rfl)) | ((with_reducible refine block_miss ?hh ?_); (case hh => rfl))
   | ((with_reducible refine GWp.draws (base := 1) hM ?hh ?_); (case hh => rfl); intro K hK; cbv; try simp only [hseg])
   | ((with_reducible refine need_cons ?hh ?_); (case hh => first | with_reducible rfl | exact nn_ok hO (by decide))) | fail)
  refine GCall.by ⟨fun _ _ => false, fun _ _ => false, []⟩ ?_
  cbv
  try simp only [hseg]
  refine GCallD.by hP rfl (hcp) ?_
  rintro res bx ⟨rfl, rfl⟩
  cbv
  try simp only [hseg]
  simp only [hlen]
  repeat' (first
   | (with_reducible first | (refine hK _ ?_; clear hK K) | refine thenA_n ?_ | refine thenA_r ?_ | refine thenA_e ?_ | refine block_n ?_ | refine block_r ?_ | refine block_hit ?_ | refine GWp.seq ?_ | refine GWp.block ?_ | refine GWp.skip ?_ | refine GWp.ret ?_ | refine GWp.exit ?_ | refine need_nil ?_ | refine need_cons True.intro ?_)
   | ((with_reducible first | refine gPost_r ?_ | refine gPost_n ?_ | refine fork_t ?_ | refine fork_f ?_ | (refine GWp.region (base := 1) ?_; intro K hK)); cbv; try simp only [hseg])
   | ((with_reducible refine GWp.cond_t ?hh ?_); (case hh => rfl)) | ((with_reducible refine GWp.cond_f ?hh ?_); (case hh => rfl)) | ((with_reducible refine block_miss ?hh ?_); (case hh => rfl))
   | ((with_reducible refine GWp.draws (base := 1) hM ?hh ?_); (case hh => rfl); intro K hK; cbv; try simp only [hseg])
   | ((with_reducible refine need_cons ?hh ?_); (case hh => first | with_reducible rfl | exact nn_ok hO (by decide))) | fail)
  refine GWp.loop (nb := 2) (keep := fun t => t == 1 || t == 2 || t == 7 || t == 8 || t == 9) (kk := fun _ _ => none) (inv15 xr xf xs pts n) (by simp at hC; simp [hC]) ?_ ?_
  · cbv
    exact ⟨_, 0, n, by rw [← hN]; cbv, by simp, by simp [Pt.partss], rfl⟩
  rintro L σ ⟨i, m, rfl, g1, g2, rfl⟩
  rw [← hN]
  repeat' (first
   | (with_reducible first | (refine hK _ ?_; clear hK K) | refine thenA_n ?_ | refine thenA_r ?_ | refine thenA_e ?_ | refine block_n ?_ | refine block_r ?_ | refine block_hit ?_ | refine GWp.seq ?_ | refine GWp.block ?_ | refine GWp.skip ?_ | refine GWp.ret ?_ | refine GWp.exit ?_ | refine need_nil ?_ | refine need_cons True.intro ?_)
   | ((with_reducible first | refine gPost_r ?_ | refine gPost_n ?_ | refine fork_t ?_ | refine fork_f ?_ | (refine GWp.region (base := 1) ?_; intro K hK)); cbv; try simp only [hseg])
   | ((with_reducible refine GWp.cond_t ?hh ?_); (case hh => rfl)) | ((with_reducible refine GWp.cond_f ?hh ?_); (case hh => rfl)) | ((with_reducible refine block_miss ?hh ?_); (case hh => rfl))
   | ((with_reducible refine GWp.draws (base := 1) hM ?hh ?_); (case hh => rfl); intro K hK; cbv; try simp only [hseg])
   | ((with_reducible refine need_cons ?hh ?_); (case hh => first | with_reducible rfl | exact nn_ok hO (by decide))) | fail)
  refine GWp.cond rfl (fun h4 => ?_) (fun h4 => ?_)
  · have hlt : i < N := by
      try clear hK K
      clear hM hP hC hR; cases hO
      simp only [Ops.std, stdCmp, stdBin, scmp_eql, scmp_neq, stdUn, Int.ofNat_eq_natCast] at *
      simpa using h4
    obtain ⟨y, hy, hy', ht, e1⟩ := map_at hO hxs (hN ▸ hlt)
    have hz : Pt.partss (pts.take (i + 1)) = Pt.partss (pts.take i) + y.parts := by rw [ht, Pt.partss_app, Pt.partss_one]
    have hzl : Pt.partss (pts.take (i + 1)) ≤ Pt.partss pts := by
      have := Pt.partss_app (pts.take (i + 1)) (pts.drop (i + 1))
      rw [List.take_append_drop] at this
      omega
    obtain ⟨_, hs2, hs1⟩ := hsz y hy
    have hc := c_exprs y hs1 hs2 m (by omega)
    obtain ⟨params, x, l, rule⟩ := y
    simp only [agT, Pt.t, List.map, tA] at hc e1
    generalize params.map strT = xp at hc e1
    generalize x.map Ex.t = xx at hc e1
    generalize l.map Sm.t = xl at hc e1
    have en : nadd 0 (nat (Int.ofNat i)) = nat (Int.ofNat i) := by cases hO; simp [Ops.std]
    repeat' (first
     | (with_reducible first | (refine hK _ ?_; clear hK K) | refine thenA_n ?_ | refine thenA_r ?_ | refine thenA_e ?_ | refine block_n ?_ | refine block_r ?_ | refine block_hit ?_ | refine GWp.seq ?_ | refine GWp.block ?_ | refine GWp.skip ?_ | refine GWp.ret ?_ | refine GWp.exit ?_ | refine need_nil ?_ | refine need_cons True.intro ?_)
     | ((with_reducible first | refine gPost_r ?_ | refine gPost_n ?_ | refine fork_t ?_ | refine fork_f ?_ | (refine GWp.region (base := 1) ?_; intro K hK)); cbv; try simp only [hseg])
     | ((with_reducible refine GWp.cond_t ?hh ?_); (case hh => rfl)) | ((with_reducible refine GWp.cond_f ?hh ?_); (case hh => rfl)) | ((with_reducible refine block_miss ?hh ?_); (case hh => rfl))
     | ((with_reducible refine GWp.draws (base := 1) hM ?hh ?_); (case hh => rfl); intro K hK; cbv; try simp only [hseg])
     | ((with_reducible refine need_cons ?hh ?_); (case hh => first | with_reducible rfl | exact nn_ok hO (by decide))) | fail)
    simp only [hlen, en]
    repeat (simp only [e1]; cbv)
    have hni : idx (Int.ofNat (nat (Int.ofNat i))) N := by
      have e : nat (Int.ofNat i) = i := by cases hO; rfl
      rw [e]; exact idx_nat hO hlt
    refine need_cons (idx_nat hO hlt) (need_cons hni (need_nil ?_))
    generalize (Pt.mk params x l rule).parts = np at hc hz
    repeat' (first
     | (with_reducible first | (refine hK _ ?_; clear hK K) | refine thenA_n ?_ | refine thenA_r ?_ | refine thenA_e ?_ | refine block_n ?_ | refine block_r ?_ | refine block_hit ?_ | refine GWp.seq ?_ | refine GWp.block ?_ | refine GWp.skip ?_ | refine GWp.ret ?_ | refine GWp.exit ?_ | refine need_nil ?_ | refine need_cons True.intro ?_)
     | ((with_reducible first | refine gPost_r ?_ | refine gPost_n ?_ | refine fork_t ?_ | refine fork_f ?_ | (refine GWp.region (base := 1) ?_; intro K hK)); cbv; try simp only [hseg])
     | ((with_reducible refine GWp.cond_t ?hh ?_); (case hh => rfl)) | ((with_reducible refine GWp.cond_f ?hh ?_); (case hh => rfl)) | ((with_reducible refine block_miss ?hh ?_); (case hh => rfl))
     | ((with_reducible refine GWp.draws (base := 1) hM ?hh ?_); (case hh => rfl); intro K hK; cbv; try simp only [hseg])
     | ((with_reducible refine need_cons ?hh ?_); (case hh => first | with_reducible rfl | exact nn_ok hO (by decide))) | fail)
    refine GCall.by ⟨fun _ _ => false, fun _ _ => false, [0]⟩ ?_
    cbv
    try simp only [hseg]
    refine GCallD.by hP rfl (hc) ?_
    rintro res bx ⟨m2, hm2, rfl, rfl⟩
    cbv
    try simp only [hseg]
    repeat' (first
     | (with_reducible first | (refine hK _ ?_; clear hK K) | refine thenA_n ?_ | refine thenA_r ?_ | refine thenA_e ?_ | refine block_n ?_ | refine block_r ?_ | refine block_hit ?_ | refine GWp.seq ?_ | refine GWp.block ?_ | refine GWp.skip ?_ | refine GWp.ret ?_ | refine GWp.exit ?_ | refine need_nil ?_ | refine need_cons True.intro ?_)
     | ((with_reducible first | refine gPost_r ?_ | refine gPost_n ?_ | refine fork_t ?_ | refine fork_f ?_ | (refine GWp.region (base := 1) ?_; intro K hK)); cbv; try simp only [hseg])
     | ((with_reducible refine GWp.cond_t ?hh ?_); (case hh => rfl)) | ((with_reducible refine GWp.cond_f ?hh ?_); (case hh => rfl)) | ((with_reducible refine block_miss ?hh ?_); (case hh => rfl))
     | ((with_reducible refine GWp.draws (base := 1) hM ?hh ?_); (case hh => rfl); intro K hK; cbv; try simp only [hseg])
     | ((with_reducible refine need_cons ?hh ?_); (case hh => first | with_reducible rfl | exact nn_ok hO (by decide))) | fail)
    have e : bin .add .i64 (Int.ofNat i) 1 = _ := i_succ hO (by omega)
    cbv
    rw [e]
    exact ⟨N - (i + 1), by omega, i + 1, m2, by rw [← hN]; cbv, by omega, by omega, by rw [hN]⟩
  · have hge : i = N := by
      try clear hK K
      clear hM hP hC hR; cases hO
      simp only [Ops.std, stdCmp, stdBin, scmp_eql, scmp_neq, stdUn, Int.ofNat_eq_natCast] at *
      simp at h4; omega
    have e2 : pts.take i = pts := List.take_of_length_le (by omega)
    rw [e2] at g2
    repeat' (first
     | (with_reducible first | (refine hK _ ?_; clear hK K) | refine thenA_n ?_ | refine thenA_r ?_ | refine thenA_e ?_ | refine block_n ?_ | refine block_r ?_ | refine block_hit ?_ | refine GWp.seq ?_ | refine GWp.block ?_ | refine GWp.skip ?_ | refine GWp.ret ?_ | refine GWp.exit ?_ | refine need_nil ?_ | refine need_cons True.intro ?_)
     | ((with_reducible first | refine gPost_r ?_ | refine gPost_n ?_ | refine fork_t ?_ | refine fork_f ?_ | (refine GWp.region (base := 1) ?_; intro K hK)); cbv; try simp only [hseg])
     | ((with_reducible refine GWp.cond_t ?hh ?_); (case hh => rfl)) | ((with_reducible refine GWp.cond_f ?hh ?_); (case hh => rfl)) | ((with_reducible refine block_miss ?hh ?_); (case hh => rfl))
     | ((with_reducible refine GWp.draws (base := 1) hM ?hh ?_); (case hh => rfl); intro K hK; cbv; try simp only [hseg])
     | ((with_reducible refine need_cons ?hh ?_); (case hh => first | with_reducible rfl | exact nn_ok hO (by decide))) | fail)
    exact hR _ _ ⟨m, g2, rfl, rfl⟩

theorem c_PartsOf' (p : Pg) (hz : p.sz ≤ 1048576) : NumOk 7 [agT p.t] p.parts := by
  have hle : p.parts ≤ 2097153 := by
    have h1 := Ru.partss_le p.rules
    have h2 := Fu.partss_le p.fns
    simp only [Pg.sz] at hz
    simp only [Pg.parts]
    omega
  have hc := c_eachProgExpr p hz 0 (by omega)
  generalize p.parts = c at hc hle ⊢
  obtain ⟨rules, fns⟩ := p
  simp only [agT, Pg.t, List.map, tA, NumOk] at hc ⊢
  generalize rules.map Ru.t = xr at *
  generalize fns.map Fu.t = xf at *
  refine gcalls_by tys_ok 8 [.tmp 2] (fn := Try.f7) rfl rfl rfl rfl ?_ ?_ ?_
  · simp [stampFree, litI, A.stamp, A.rstamp, stampIn]
  · simp [stampFree, litI, A.stamp, A.rstamp, stampIn]
  intro O hO P hP C hC R hR
  have hM : P.follows .mixedOrders = true := by rw [hP]; rfl
  obtain ⟨bin, cmp, sadd, scmp, beq, bnot, un, wrap, size, byte, sub, len, seg, app, get, set, nat, nadd, nsub, repl, text, bytes, mn, mx, nz, nn, idx, bnd, le, all, one, lits, isB, sOk, aOk, mOk⟩ := O
  have hseg : ∀ e, seg 0 (len e) e = e := by intro e; cases hO; simp
  repeat' (first
   | (with_reducible first | (refine hK _ ?_; clear hK K) | refine thenA_n ?_ | refine thenA_r ?_ | refine thenA_e ?_ | refine block_n ?_ | refine block_r ?_ | refine block_hit ?_ | refine GWp.seq ?_ | refine GWp.block ?_ | refine GWp.skip ?_ | refine GWp.ret ?_ | refine GWp.exit ?_ | refine need_nil ?_ | refine need_cons True.intro ?_)
   | ((with_reducible first | refine gPost_r ?_ | refine gPost_n ?_ | refine fork_t ?_ | refine fork_f ?_ | (refine GWp.region (base := 0) ?_; intro K hK)); cbv; try simp only [hseg])
   | ((with_reducible refine GWp.cond_t ?hh ?_); (case hh => rfl)) | ((with_reducible refine GWp.cond_f ?hh ?_); (case hh => rfl)) | ((with_reducible refine block_miss ?hh ?_); (case hh => rfl))
   | ((with_reducible refine GWp.draws (base := 0) hM ?hh ?_); (case hh => rfl); intro K hK; cbv; try simp only [hseg])
   | ((with_reducible refine need_cons ?hh ?_); (case hh => first | with_reducible rfl | exact nn_ok hO (by decide))) | fail)
  refine GCall.by ⟨fun _ _ => false, fun _ _ => false, [1]⟩ ?_
  cbv
  try simp only [hseg]
  refine GCallD.by hP rfl (hc) ?_
  rintro res bx ⟨m, hm, rfl, rfl⟩
  cbv
  try simp only [hseg]
  repeat' (first
   | (with_reducible first | (refine hK _ ?_; clear hK K) | refine thenA_n ?_ | refine thenA_r ?_ | refine thenA_e ?_ | refine block_n ?_ | refine block_r ?_ | refine block_hit ?_ | refine GWp.seq ?_ | refine GWp.block ?_ | refine GWp.skip ?_ | refine GWp.ret ?_ | refine GWp.exit ?_ | refine need_nil ?_ | refine need_cons True.intro ?_)
   | ((with_reducible first | refine gPost_r ?_ | refine gPost_n ?_ | refine fork_t ?_ | refine fork_f ?_ | (refine GWp.region (base := 0) ?_; intro K hK)); cbv; try simp only [hseg])
   | ((with_reducible refine GWp.cond_t ?hh ?_); (case hh => rfl)) | ((with_reducible refine GWp.cond_f ?hh ?_); (case hh => rfl)) | ((with_reducible refine block_miss ?hh ?_); (case hh => rfl))
   | ((with_reducible refine GWp.draws (base := 0) hM ?hh ?_); (case hh => rfl); intro K hK; cbv; try simp only [hseg])
   | ((with_reducible refine need_cons ?hh ?_); (case hh => first | with_reducible rfl | exact nn_ok hO (by decide))) | fail)
  exact hR _ _ ⟨m, by omega, rfl, rfl⟩

theorem c_FnExactPartsOf (p : Pg) (hw : p.Wf) : ACalls Try.prog 3 [agT p.t] [] (fun res bx => res = litB true ∧ bx = []) := by
  have hs := c_szProg p hw 1048576 ⟨by decide, by decide⟩
  have ht := fun h => c_toProg p h
  have hq := fun h => c_eqProg p h
  have h1 := fun h => c_PartsOf p h
  have h2 := fun h => c_PartsOf' p h
  generalize p.parts = c at h1 h2
  generalize p.sz = z at *
  obtain ⟨rules, fns⟩ := p
  clear hw
  simp only [agT, Pg.t, Pg.ow, List.map, tA, NumOk, ToOk, EqOk] at *
  generalize rules.map Ru.t = xr at *
  generalize fns.map Fu.t = xf at *
  refine gcalls_by tys_ok 27 [.tmp 2] (fn := Try.f3) rfl rfl rfl rfl ?_ ?_ ?_
  · simp [stampFree, litI, A.stamp, A.rstamp, stampIn]
  · simp [stampFree, litI, A.stamp, A.rstamp, stampIn]
  intro O hO P hP C hC R hR
  have hM : P.follows .mixedOrders = true := by rw [hP]; rfl
  obtain ⟨bin, cmp, sadd, scmp, beq, bnot, un, wrap, size, byte, sub, len, seg, app, get, set, nat, nadd, nsub, repl, text, bytes, mn, mx, nz, nn, idx, bnd, le, all, one, lits, isB, sOk, aOk, mOk⟩ := O
  have hseg : ∀ e, seg 0 (len e) e = e := by intro e; cases hO; simp
  have hne : ∀ x, cmp .neq x x = false := by intro x; cases hO; simp [Ops.std, stdCmp]
  have hnt : bnot true = false := by cases hO; rfl
  repeat' (first
   | (with_reducible first | (refine hK _ ?_; clear hK K) | refine thenA_n ?_ | refine thenA_r ?_ | refine thenA_e ?_ | refine block_n ?_ | refine block_r ?_ | refine block_hit ?_ | refine GWp.seq ?_ | refine GWp.block ?_ | refine GWp.skip ?_ | refine GWp.ret ?_ | refine GWp.exit ?_ | refine need_nil ?_ | refine need_cons True.intro ?_)
   | ((with_reducible first | refine gPost_r ?_ | refine gPost_n ?_ | refine fork_t ?_ | refine fork_f ?_ | (refine GWp.region (base := 0) ?_; intro K hK)); cbv; try simp only [hseg])
   | ((with_reducible refine GWp.cond_t ?hh ?_); (case hh => rfl)) | ((with_reducible refine GWp.cond_f ?hh ?_); (case hh => rfl)) | ((with_reducible refine block_miss ?hh ?_); (case hh => rfl))
   | ((with_reducible refine GWp.draws (base := 0) hM ?hh ?_); (case hh => rfl); intro K hK; cbv; try simp only [hseg])
   | ((with_reducible refine need_cons ?hh ?_); (case hh => first | with_reducible rfl | exact nn_ok hO (by decide))) | fail)
  refine GCall.by ⟨fun _ _ => false, fun _ _ => false, []⟩ ?_
  cbv
  try simp only [hseg]
  refine GCallD.by hP rfl (hs) ?_
  rintro res bx ⟨r, hr, rfl, rfl⟩
  cbv
  try simp only [hseg]
  repeat' (first
   | (with_reducible first | (refine hK _ ?_; clear hK K) | refine thenA_n ?_ | refine thenA_r ?_ | refine thenA_e ?_ | refine block_n ?_ | refine block_r ?_ | refine block_hit ?_ | refine GWp.seq ?_ | refine GWp.block ?_ | refine GWp.skip ?_ | refine GWp.ret ?_ | refine GWp.exit ?_ | refine need_nil ?_ | refine need_cons True.intro ?_)
   | ((with_reducible first | refine gPost_r ?_ | refine gPost_n ?_ | refine fork_t ?_ | refine fork_f ?_ | (refine GWp.region (base := 0) ?_; intro K hK)); cbv; try simp only [hseg])
   | ((with_reducible refine GWp.cond_t ?hh ?_); (case hh => rfl)) | ((with_reducible refine GWp.cond_f ?hh ?_); (case hh => rfl)) | ((with_reducible refine block_miss ?hh ?_); (case hh => rfl))
   | ((with_reducible refine GWp.draws (base := 0) hM ?hh ?_); (case hh => rfl); intro K hK; cbv; try simp only [hseg])
   | ((with_reducible refine need_cons ?hh ?_); (case hh => first | with_reducible rfl | exact nn_ok hO (by decide))) | fail)
  refine GWp.cond rfl (fun h4 => ?_) (fun h4 => ?_)
  · repeat' (first
     | (with_reducible first | (refine hK _ ?_; clear hK K) | refine thenA_n ?_ | refine thenA_r ?_ | refine thenA_e ?_ | refine block_n ?_ | refine block_r ?_ | refine block_hit ?_ | refine GWp.seq ?_ | refine GWp.block ?_ | refine GWp.skip ?_ | refine GWp.ret ?_ | refine GWp.exit ?_ | refine need_nil ?_ | refine need_cons True.intro ?_)
     | ((with_reducible first | refine gPost_r ?_ | refine gPost_n ?_ | refine fork_t ?_ | refine fork_f ?_ | (refine GWp.region (base := 0) ?_; intro K hK)); cbv; try simp only [hseg])
     | ((with_reducible refine GWp.cond_t ?hh ?_); (case hh => rfl)) | ((with_reducible refine GWp.cond_f ?hh ?_); (case hh => rfl)) | ((with_reducible refine block_miss ?hh ?_); (case hh => rfl))
     | ((with_reducible refine GWp.draws (base := 0) hM ?hh ?_); (case hh => rfl); intro K hK; cbv; try simp only [hseg])
     | ((with_reducible refine need_cons ?hh ?_); (case hh => first | with_reducible rfl | exact nn_ok hO (by decide))) | fail)
    exact hR _ _ ⟨rfl, rfl⟩
  have hg : ¬ r < 0 := by
    try clear hK K
    clear hM hP hC hR; cases hO
    simp only [Ops.std, stdCmp, stdBin, scmp_eql, scmp_neq, stdUn, Int.ofNat_eq_natCast] at *
    simpa using h4
  have hz : z ≤ 1048576 := by
    simp only [szR, Int.ofNat_eq_natCast] at hr
    omega
  repeat' (first
   | (with_reducible first | (refine hK _ ?_; clear hK K) | refine thenA_n ?_ | refine thenA_r ?_ | refine thenA_e ?_ | refine block_n ?_ | refine block_r ?_ | refine block_hit ?_ | refine GWp.seq ?_ | refine GWp.block ?_ | refine GWp.skip ?_ | refine GWp.ret ?_ | refine GWp.exit ?_ | refine need_nil ?_ | refine need_cons True.intro ?_)
   | ((with_reducible first | refine gPost_r ?_ | refine gPost_n ?_ | refine fork_t ?_ | refine fork_f ?_ | (refine GWp.region (base := 0) ?_; intro K hK)); cbv; try simp only [hseg])
   | ((with_reducible refine GWp.cond_t ?hh ?_); (case hh => rfl)) | ((with_reducible refine GWp.cond_f ?hh ?_); (case hh => rfl)) | ((with_reducible refine block_miss ?hh ?_); (case hh => rfl))
   | ((with_reducible refine GWp.draws (base := 0) hM ?hh ?_); (case hh => rfl); intro K hK; cbv; try simp only [hseg])
   | ((with_reducible refine need_cons ?hh ?_); (case hh => first | with_reducible rfl | exact nn_ok hO (by decide))) | fail)
  refine GCall.by ⟨fun _ _ => false, fun _ _ => false, []⟩ ?_
  cbv
  try simp only [hseg]
  refine GCallD.by hP rfl (ht hz) ?_
  rintro res bx ⟨rfl, rfl⟩
  cbv
  try simp only [hseg]
  refine GCall.by ⟨fun _ _ => false, fun _ _ => true, []⟩ ?_
  cbv
  try simp only [hseg]
  refine GCallD.by hP rfl (h1 hz) ?_
  rintro res bx ⟨r1, hr1, rfl, rfl⟩
  cbv
  try simp only [hseg]
  repeat' (first
   | (with_reducible first | (refine hK _ ?_; clear hK K) | refine thenA_n ?_ | refine thenA_r ?_ | refine thenA_e ?_ | refine block_n ?_ | refine block_r ?_ | refine block_hit ?_ | refine GWp.seq ?_ | refine GWp.block ?_ | refine GWp.skip ?_ | refine GWp.ret ?_ | refine GWp.exit ?_ | refine need_nil ?_ | refine need_cons True.intro ?_)
   | ((with_reducible first | refine gPost_r ?_ | refine gPost_n ?_ | refine fork_t ?_ | refine fork_f ?_ | (refine GWp.region (base := 0) ?_; intro K hK)); cbv; try simp only [hseg])
   | ((with_reducible refine GWp.cond_t ?hh ?_); (case hh => rfl)) | ((with_reducible refine GWp.cond_f ?hh ?_); (case hh => rfl)) | ((with_reducible refine block_miss ?hh ?_); (case hh => rfl))
   | ((with_reducible refine GWp.draws (base := 0) hM ?hh ?_); (case hh => rfl); intro K hK; cbv; try simp only [hseg])
   | ((with_reducible refine need_cons ?hh ?_); (case hh => first | with_reducible rfl | exact nn_ok hO (by decide))) | fail)
  refine GCall.by ⟨fun _ _ => false, fun _ _ => false, []⟩ ?_
  cbv
  try simp only [hseg]
  refine GCallD.by hP rfl (ht hz) ?_
  rintro res bx ⟨rfl, rfl⟩
  cbv
  try simp only [hseg]
  repeat' (first
   | (with_reducible first | (refine hK _ ?_; clear hK K) | refine thenA_n ?_ | refine thenA_r ?_ | refine thenA_e ?_ | refine block_n ?_ | refine block_r ?_ | refine block_hit ?_ | refine GWp.seq ?_ | refine GWp.block ?_ | refine GWp.skip ?_ | refine GWp.ret ?_ | refine GWp.exit ?_ | refine need_nil ?_ | refine need_cons True.intro ?_)
   | ((with_reducible first | refine gPost_r ?_ | refine gPost_n ?_ | refine fork_t ?_ | refine fork_f ?_ | (refine GWp.region (base := 0) ?_; intro K hK)); cbv; try simp only [hseg])
   | ((with_reducible refine GWp.cond_t ?hh ?_); (case hh => rfl)) | ((with_reducible refine GWp.cond_f ?hh ?_); (case hh => rfl)) | ((with_reducible refine block_miss ?hh ?_); (case hh => rfl))
   | ((with_reducible refine GWp.draws (base := 0) hM ?hh ?_); (case hh => rfl); intro K hK; cbv; try simp only [hseg])
   | ((with_reducible refine need_cons ?hh ?_); (case hh => first | with_reducible rfl | exact nn_ok hO (by decide))) | fail)
  refine GCall.by ⟨fun _ _ => false, fun _ _ => true, []⟩ ?_
  cbv
  try simp only [hseg]
  refine GCallD.by hP rfl (h2 hz) ?_
  rintro res bx ⟨r2, hr2, rfl, rfl⟩
  cbv
  try simp only [hseg]
  obtain rfl : r1 = r2 := by omega
  repeat' (first
   | (with_reducible first | (refine hK _ ?_; clear hK K) | refine thenA_n ?_ | refine thenA_r ?_ | refine thenA_e ?_ | refine block_n ?_ | refine block_r ?_ | refine block_hit ?_ | refine GWp.seq ?_ | refine GWp.block ?_ | refine GWp.skip ?_ | refine GWp.ret ?_ | refine GWp.exit ?_ | refine need_nil ?_ | refine need_cons True.intro ?_)
   | ((with_reducible first | refine gPost_r ?_ | refine gPost_n ?_ | refine fork_t ?_ | refine fork_f ?_ | (refine GWp.region (base := 0) ?_; intro K hK)); cbv; try simp only [hseg])
   | ((with_reducible refine GWp.cond_t ?hh ?_); (case hh => rfl)) | ((with_reducible refine GWp.cond_f ?hh ?_); (case hh => rfl)) | ((with_reducible refine block_miss ?hh ?_); (case hh => rfl))
   | ((with_reducible refine GWp.draws (base := 0) hM ?hh ?_); (case hh => rfl); intro K hK; cbv; try simp only [hseg])
   | ((with_reducible refine need_cons ?hh ?_); (case hh => first | with_reducible rfl | exact nn_ok hO (by decide))) | fail)
  simp only [hne]
  repeat' (first
   | (with_reducible first | (refine hK _ ?_; clear hK K) | refine thenA_n ?_ | refine thenA_r ?_ | refine thenA_e ?_ | refine block_n ?_ | refine block_r ?_ | refine block_hit ?_ | refine GWp.seq ?_ | refine GWp.block ?_ | refine GWp.skip ?_ | refine GWp.ret ?_ | refine GWp.exit ?_ | refine need_nil ?_ | refine need_cons True.intro ?_)
   | ((with_reducible first | refine gPost_r ?_ | refine gPost_n ?_ | refine fork_t ?_ | refine fork_f ?_ | (refine GWp.region (base := 0) ?_; intro K hK)); cbv; try simp only [hseg])
   | ((with_reducible refine GWp.cond_t ?hh ?_); (case hh => rfl)) | ((with_reducible refine GWp.cond_f ?hh ?_); (case hh => rfl)) | ((with_reducible refine block_miss ?hh ?_); (case hh => rfl))
   | ((with_reducible refine GWp.draws (base := 0) hM ?hh ?_); (case hh => rfl); intro K hK; cbv; try simp only [hseg])
   | ((with_reducible refine need_cons ?hh ?_); (case hh => first | with_reducible rfl | exact nn_ok hO (by decide))) | fail)
  refine GCall.by ⟨fun _ _ => false, fun _ _ => false, []⟩ ?_
  cbv
  try simp only [hseg]
  refine GCallD.by hP rfl (ht hz) ?_
  rintro res bx ⟨rfl, rfl⟩
  cbv
  try simp only [hseg]
  repeat' (first
   | (with_reducible first | (refine hK _ ?_; clear hK K) | refine thenA_n ?_ | refine thenA_r ?_ | refine thenA_e ?_ | refine block_n ?_ | refine block_r ?_ | refine block_hit ?_ | refine GWp.seq ?_ | refine GWp.block ?_ | refine GWp.skip ?_ | refine GWp.ret ?_ | refine GWp.exit ?_ | refine need_nil ?_ | refine need_cons True.intro ?_)
   | ((with_reducible first | refine gPost_r ?_ | refine gPost_n ?_ | refine fork_t ?_ | refine fork_f ?_ | (refine GWp.region (base := 0) ?_; intro K hK)); cbv; try simp only [hseg])
   | ((with_reducible refine GWp.cond_t ?hh ?_); (case hh => rfl)) | ((with_reducible refine GWp.cond_f ?hh ?_); (case hh => rfl)) | ((with_reducible refine block_miss ?hh ?_); (case hh => rfl))
   | ((with_reducible refine GWp.draws (base := 0) hM ?hh ?_); (case hh => rfl); intro K hK; cbv; try simp only [hseg])
   | ((with_reducible refine need_cons ?hh ?_); (case hh => first | with_reducible rfl | exact nn_ok hO (by decide))) | fail)
  refine GCall.by ⟨fun _ _ => false, fun _ _ => true, []⟩ ?_
  cbv
  try simp only [hseg]
  refine GCallD.by hP rfl (hq hz) ?_
  rintro res bx ⟨rfl, rfl⟩
  cbv
  try simp only [hseg]
  repeat' (first
   | (with_reducible first | (refine hK _ ?_; clear hK K) | refine thenA_n ?_ | refine thenA_r ?_ | refine thenA_e ?_ | refine block_n ?_ | refine block_r ?_ | refine block_hit ?_ | refine GWp.seq ?_ | refine GWp.block ?_ | refine GWp.skip ?_ | refine GWp.ret ?_ | refine GWp.exit ?_ | refine need_nil ?_ | refine need_cons True.intro ?_)
   | ((with_reducible first | refine gPost_r ?_ | refine gPost_n ?_ | refine fork_t ?_ | refine fork_f ?_ | (refine GWp.region (base := 0) ?_; intro K hK)); cbv; try simp only [hseg])
   | ((with_reducible refine GWp.cond_t ?hh ?_); (case hh => rfl)) | ((with_reducible refine GWp.cond_f ?hh ?_); (case hh => rfl)) | ((with_reducible refine block_miss ?hh ?_); (case hh => rfl))
   | ((with_reducible refine GWp.draws (base := 0) hM ?hh ?_); (case hh => rfl); intro K hK; cbv; try simp only [hseg])
   | ((with_reducible refine need_cons ?hh ?_); (case hh => first | with_reducible rfl | exact nn_ok hO (by decide))) | fail)
  simp only [hnt]
  repeat' (first
   | (with_reducible first | (refine hK _ ?_; clear hK K) | refine thenA_n ?_ | refine thenA_r ?_ | refine thenA_e ?_ | refine block_n ?_ | refine block_r ?_ | refine block_hit ?_ | refine GWp.seq ?_ | refine GWp.block ?_ | refine GWp.skip ?_ | refine GWp.ret ?_ | refine GWp.exit ?_ | refine need_nil ?_ | refine need_cons True.intro ?_)
   | ((with_reducible first | refine gPost_r ?_ | refine gPost_n ?_ | refine fork_t ?_ | refine fork_f ?_ | (refine GWp.region (base := 0) ?_; intro K hK)); cbv; try simp only [hseg])
   | ((with_reducible refine GWp.cond_t ?hh ?_); (case hh => rfl)) | ((with_reducible refine GWp.cond_f ?hh ?_); (case hh => rfl)) | ((with_reducible refine block_miss ?hh ?_); (case hh => rfl))
   | ((with_reducible refine GWp.draws (base := 0) hM ?hh ?_); (case hh => rfl); intro K hK; cbv; try simp only [hseg])
   | ((with_reducible refine need_cons ?hh ?_); (case hh => first | with_reducible rfl | exact nn_ok hO (by decide))) | fail)
  exact hR _ _ ⟨rfl, rfl⟩
end Go.Gv
