/- Part H3 of the proof: contracts of functions of the program, each walked once. -/
import Derived.Test.YtjobmglbjcaopaaH1
import Derived.Test.YtjobmglbjcaopaaZ1

namespace Go.Gv
open Go.Av Go.Proofs
set_option maxRecDepth 10000
set_option linter.unusedSimpArgs false

theorem flatMap_take_len {α : Type} {f : α → List Int} {l : List α} (i : Nat) : ((l.take i).flatMap f).length ≤ (l.flatMap f).length := by
  have := congrArg (fun x => (x.flatMap f).length) (List.take_append_drop i l)
  simp only [List.flatMap_append, List.length_append] at this
  omega

def inv35a (cs : List A) (tables : List Mt) (m0 : Nat) (N : Nat) (σ : AS) : Prop :=
  ∃ (i m : Nat), σ = ⟨vag 91 [(1, ⟨.one, [.ptr 0 0]⟩), (3, litI (Int.ofNat m)), (4, litI (Int.ofNat i))], [some cs], 1⟩ ∧ i ≤ tables.length ∧
    m = m0 + ((tables.take i).flatMap Mt.holds).length ∧ N = tables.length - i
def inv35b (cs : List A) (frames : List Fr) (m0 : Nat) (N : Nat) (σ : AS) : Prop :=
  ∃ (i m : Nat), σ = ⟨vag 91 [(1, ⟨.one, [.ptr 0 0]⟩), (3, litI (Int.ofNat m)), (5, litI (Int.ofNat i))], [some cs], 1⟩ ∧ i ≤ frames.length ∧
    m = m0 + ((frames.take i).flatMap Fr.holds).length ∧ N = frames.length - i
def inv35c (cs fs : List A) (l : List Sl) (i m0 : Nat) (N : Nat) (σ : AS) : Prop :=
  ∃ (k m : Nat), σ = ⟨vag 91 [(1, ⟨.one, [.ptr 0 0]⟩), (3, litI (Int.ofNat m)), (5, litI (Int.ofNat i)), (6, ⟨.one, [.ptr 1 0]⟩), (7, litI (Int.ofNat k))], [some cs, some fs], 1⟩ ∧ k ≤ l.length ∧
    m = m0 + ((l.take k).flatMap Sl.holds).length ∧ N = l.length - k
def inv35d (cs fs : List A) (l : List It) (i m0 : Nat) (N : Nat) (σ : AS) : Prop :=
  ∃ (k m : Nat), σ = ⟨vag 91 [(1, ⟨.one, [.ptr 0 0]⟩), (3, litI (Int.ofNat m)), (5, litI (Int.ofNat i)), (6, ⟨.one, [.ptr 1 0]⟩), (8, litI (Int.ofNat k))], [some cs, some fs], 1⟩ ∧ k ≤ l.length ∧
    m = m0 + ((l.take k).flatMap It.holds).length ∧ N = l.length - k
def inv35e (cs fs : List A) (keys : List Int) (at_ : Int) (i k m0 : Nat) (N : Nat) (σ : AS) : Prop :=
  ∃ (j m : Nat), σ = ⟨vag 91 [(1, ⟨.one, [.ptr 0 0]⟩), (3, litI (Int.ofNat m)), (5, litI (Int.ofNat i)), (6, ⟨.one, [.ptr 1 0]⟩), (8, litI (Int.ofNat k)), (9, litI (Int.ofNat j))], [some cs, some fs], 1⟩ ∧ j ≤ keys.length ∧
    m = m0 + ((keys.take j).drop (clampN at_ keys.length)).length ∧ N = keys.length - j

theorem c_l26All (x : Mc) (hz : x.sz ≤ 1048576) : NumOk 35 [agT x.t] x.holds.length := by
  have hcl := x.holds_len
  have hit : x.tables.length + Mt.szs x.tables ≤ x.sz ∧ x.frames.length + Fr.szs x.frames ≤ x.sz ∧ x.vars.length ≤ x.sz := by simp only [Mc.sz]; omega
  unfold Mt.szs Fr.szs at hit
  have hh : x.holds.length = x.vars.length + (x.tables.flatMap Mt.holds).length + (x.frames.flatMap Fr.holds).length := by simp only [Mc.holds, List.length_append]
  rw [hh] at hcl ⊢
  clear hh
  have hcf := fun i => flatMap_take_len (f := Mt.holds) (l := x.tables) i
  have hcg := fun i => flatMap_take_len (f := Fr.holds) (l := x.frames) i
  obtain ⟨xt, hxt⟩ : ∃ xt, xt = x.tables.map Mt.t := ⟨_, rfl⟩
  obtain ⟨xf, hxf⟩ : ∃ xf, xf = x.frames.map Fr.t := ⟨_, rfl⟩
  obtain ⟨xv, hxv⟩ : ∃ xv, xv = x.vars.map intT := ⟨_, rfl⟩
  simp only [agT, Mc.t, He.t, Rc.t, List.map, tA, List.cons_append, List.nil_append, NumOk]
  rw [← hxt, ← hxf, ← hxv]
  generalize x.h.cells.map Ce.t = xc at *
  generalize x.r.fields.map strT = xr at *
  generalize x.out.map byteT = xo at *
  refine gcalls_by tys_ok 91 [.tmp 2] (fn := Try.f35) rfl rfl rfl rfl ?_ ?_ ?_
  · simp [stampFree, litI, A.stamp, A.rstamp, stampIn]
  · simp
  intro O hO P hP C hC R hR
  have hM : P.follows .mixedOrders = true := by rw [hP]; rfl
  obtain ⟨bin, cmp, sadd, scmp, beq, bnot, band, un, wrap, size, byte, sub, len, seg, app, get, set, nat, nadd, nsub, repl, text, bytes, mn, mx, nz, nn, idx, bnd, le, all, one, lits, isB, sOk, aOk, mOk⟩ := O
  have hseg : ∀ e, seg 0 (len e) e = e := by intro e; cases hO; simp
  obtain ⟨V, hV⟩ : ∃ V, V = x.vars.length := ⟨_, rfl⟩
  have hlv : len xv = V := len_of hO (by simp [hxv, hV])
  obtain ⟨N, hN⟩ : ∃ N, N = x.tables.length := ⟨_, rfl⟩
  have hlt' : len xt = N := len_of hO (by simp [hxt, hN])
  have hat : all xt 1 := all_of hO (by subst hxt; simp [Mt.t_len])
  obtain ⟨M, hM2⟩ : ∃ M, M = x.frames.length := ⟨_, rfl⟩
  have hlf : len xf = M := len_of hO (by simp [hxf, hM2])
  have haf : all xf 6 := all_of hO (by subst hxf; simp [Fr.t_len])
  rw [← hV] at hcl hit hR
  have hnt : bnot true = false := by cases hO; rfl
  have hnf : bnot false = true := by cases hO; rfl
  generalize x.r.line = v1 at *
  generalize x.nr = v2 at *
  generalize x.fuel = v3 at *
  generalize x.stop = v4 at *
  generalize x.fault = v5 at *
  generalize x.exit = v6 at *
  generalize x.trap = v7 at *
  obtain ⟨cs, hcs⟩ : ∃ cs : List A, cs = [.ro true xc, .ro true xv, .ro true xt, .ro true xf, .lit (.string v1), .ro true xr, .lit (.int .i64 v2), .ro true xo, .lit (.int .i64 v3), .lit (.int .i64 v4), .lit (.int .i64 v5), .lit (.int .i64 v6), .lit (.bool v7)] := ⟨_, rfl⟩
  repeat' (first
   | (with_reducible first | (refine hK _ ?_; clear hK K) | refine thenA_n ?_ | refine thenA_r ?_ | refine thenA_e ?_ | refine block_n ?_ | refine block_r ?_ | refine block_hit ?_ | refine GWp.seq ?_ | refine GWp.block ?_ | refine GWp.skip ?_ | refine GWp.ret ?_ | refine GWp.exit ?_ | refine need_nil ?_ | refine need_cons True.intro ?_)
   | ((with_reducible first | refine gPost_r ?_ | refine gPost_n ?_ | refine fork_t ?_ | refine fork_f ?_ | (refine GWp.region (base := 0) ?_; intro K hK)); cbv; try simp only [hseg])
   | ((with_reducible refine GWp.cond_t ?hh ?_); (case hh => rfl)) | ((with_reducible refine GWp.cond_f ?hh ?_); (case hh => rfl)) | ((with_reducible refine block_miss ?hh ?_); (case hh => rfl))
   | ((with_reducible refine GWp.draws (base := 0) hM ?hh ?_); (case hh => rfl); intro K hK; cbv; try simp only [hseg])
   | ((with_reducible refine need_cons ?hh ?_); (case hh => first | with_reducible rfl | exact nn_ok hO (by decide))) | fail)
  simp only [hlv]
  refine GWp.loop (nb := 1) (keep := fun t => t == 1 || t == 3 || t == 4) (kk := fun _ _ => none) (inv35a cs x.tables V) (by simp at hC; simp [hC]) ?_ ?_
  · cbv
    exact ⟨_, 0, V, by rw [hcs]; cbv, by simp, by simp, rfl⟩
  rintro n σ ⟨i, m, rfl, g1, g2, rfl⟩
  try rw [hcs]
  repeat' (first
   | (with_reducible first | (refine hK _ ?_; clear hK K) | refine thenA_n ?_ | refine thenA_r ?_ | refine thenA_e ?_ | refine block_n ?_ | refine block_r ?_ | refine block_hit ?_ | refine GWp.seq ?_ | refine GWp.block ?_ | refine GWp.skip ?_ | refine GWp.ret ?_ | refine GWp.exit ?_ | refine need_nil ?_ | refine need_cons True.intro ?_)
   | ((with_reducible first | refine gPost_r ?_ | refine gPost_n ?_ | refine fork_t ?_ | refine fork_f ?_ | (refine GWp.region (base := 0) ?_; intro K hK)); cbv; try simp only [hseg])
   | ((with_reducible refine GWp.cond_t ?hh ?_); (case hh => rfl)) | ((with_reducible refine GWp.cond_f ?hh ?_); (case hh => rfl)) | ((with_reducible refine block_miss ?hh ?_); (case hh => rfl))
   | ((with_reducible refine GWp.draws (base := 0) hM ?hh ?_); (case hh => rfl); intro K hK; cbv; try simp only [hseg])
   | ((with_reducible refine need_cons ?hh ?_); (case hh => first | with_reducible rfl | exact nn_ok hO (by decide))) | fail)
  simp only [hlt']
  refine GWp.cond rfl (fun h4 => ?_) (fun h4 => ?_)
  · have hlt : i < N := by
      try clear hK K
      clear hM hP hC hR; cases hO
      simp only [Ops.std, stdCmp, stdBin, scmp_eql, scmp_neq, stdUn, Int.ofNat_eq_natCast] at *
      simpa using h4
    obtain ⟨y, hy, hy', ht, e1⟩ := map_at hO hxt (hN ▸ hlt)
    have hz1 := congrArg List.length (flatMap_take (f := Mt.holds) ht)
    rw [List.length_append] at hz1
    have hbb := hcf (i + 1)
    have hys := sum_mem (f := Mt.sz) hy
    obtain ⟨l⟩ := y
    simp only [Mt.sz] at hys
    simp only [Mt.t] at e1
    simp only [Mt.holds, List.length_map] at hz1
    obtain ⟨xl, hxl⟩ : ∃ xl, xl = l.map Me.t := ⟨_, rfl⟩
    rw [← hxl] at e1
    obtain ⟨L, hL⟩ : ∃ L, L = l.length := ⟨_, rfl⟩
    have hlk : len xl = L := len_of hO (by simp [hxl, hL])
    have hidx : idx (Int.ofNat i) (len xt) := hlt' ▸ idx_nat hO hlt
    have e : bin .add .i64 (Int.ofNat i) 1 = _ := i_succ hO (by omega)
    have e2 : bin .add .i64 (Int.ofNat m) (Int.ofNat L) = _ := add_nat hO (by omega)
    generalize hm3 : m + L = m3 at e2
    repeat' (first
     | (with_reducible first | (refine hK _ ?_; clear hK K) | refine thenA_n ?_ | refine thenA_r ?_ | refine thenA_e ?_ | refine block_n ?_ | refine block_r ?_ | refine block_hit ?_ | refine GWp.seq ?_ | refine GWp.block ?_ | refine GWp.skip ?_ | refine GWp.ret ?_ | refine GWp.exit ?_ | refine need_nil ?_ | refine need_cons True.intro ?_)
     | ((with_reducible first | refine gPost_r ?_ | refine gPost_n ?_ | refine fork_t ?_ | refine fork_f ?_ | (refine GWp.region (base := 0) ?_; intro K hK)); cbv; try simp only [hseg])
     | ((with_reducible refine GWp.cond_t ?hh ?_); (case hh => rfl)) | ((with_reducible refine GWp.cond_f ?hh ?_); (case hh => rfl)) | ((with_reducible refine block_miss ?hh ?_); (case hh => rfl))
     | ((with_reducible refine GWp.draws (base := 0) hM ?hh ?_); (case hh => rfl); intro K hK; cbv; try simp only [hseg])
     | ((with_reducible refine need_cons ?hh ?_); (case hh => first | with_reducible rfl | exact nn_ok hO (by decide))) | fail)
    repeat (simp only [e1]; cbv)
    refine need_cons hidx (need_cons hat (need_nil ?_))
    simp only [hlk, e2]
    repeat' (first
     | (with_reducible first | (refine hK _ ?_; clear hK K) | refine thenA_n ?_ | refine thenA_r ?_ | refine thenA_e ?_ | refine block_n ?_ | refine block_r ?_ | refine block_hit ?_ | refine GWp.seq ?_ | refine GWp.block ?_ | refine GWp.skip ?_ | refine GWp.ret ?_ | refine GWp.exit ?_ | refine need_nil ?_ | refine need_cons True.intro ?_)
     | ((with_reducible first | refine gPost_r ?_ | refine gPost_n ?_ | refine fork_t ?_ | refine fork_f ?_ | (refine GWp.region (base := 0) ?_; intro K hK)); cbv; try simp only [hseg])
     | ((with_reducible refine GWp.cond_t ?hh ?_); (case hh => rfl)) | ((with_reducible refine GWp.cond_f ?hh ?_); (case hh => rfl)) | ((with_reducible refine block_miss ?hh ?_); (case hh => rfl))
     | ((with_reducible refine GWp.draws (base := 0) hM ?hh ?_); (case hh => rfl); intro K hK; cbv; try simp only [hseg])
     | ((with_reducible refine need_cons ?hh ?_); (case hh => first | with_reducible rfl | exact nn_ok hO (by decide))) | fail)
    cbv
    rw [e]
    exact ⟨_, by omega, i + 1, m3, by (try rw [hcs]); cbv, by omega, by omega, rfl⟩
  · have hge : i = N := by
      try clear hK K
      clear hM hP hC hR; cases hO
      simp only [Ops.std, stdCmp, stdBin, scmp_eql, scmp_neq, stdUn, Int.ofNat_eq_natCast] at *
      simp at h4; omega
    have e2 : x.tables.take i = x.tables := List.take_of_length_le (by omega)
    rw [e2] at g2
    repeat' (first
     | (with_reducible first | (refine hK _ ?_; clear hK K) | refine thenA_n ?_ | refine thenA_r ?_ | refine thenA_e ?_ | refine block_n ?_ | refine block_r ?_ | refine block_hit ?_ | refine GWp.seq ?_ | refine GWp.block ?_ | refine GWp.skip ?_ | refine GWp.ret ?_ | refine GWp.exit ?_ | refine need_nil ?_ | refine need_cons True.intro ?_)
     | ((with_reducible first | refine gPost_r ?_ | refine gPost_n ?_ | refine fork_t ?_ | refine fork_f ?_ | (refine GWp.region (base := 0) ?_; intro K hK)); cbv; try simp only [hseg])
     | ((with_reducible refine GWp.cond_t ?hh ?_); (case hh => rfl)) | ((with_reducible refine GWp.cond_f ?hh ?_); (case hh => rfl)) | ((with_reducible refine block_miss ?hh ?_); (case hh => rfl))
     | ((with_reducible refine GWp.draws (base := 0) hM ?hh ?_); (case hh => rfl); intro K hK; cbv; try simp only [hseg])
     | ((with_reducible refine need_cons ?hh ?_); (case hh => first | with_reducible rfl | exact nn_ok hO (by decide))) | fail)
    refine GWp.loop (nb := 1) (keep := fun t => t == 1 || t == 3 || t == 5) (kk := fun _ _ => none) (inv35b cs x.frames m) (by simp at hC; simp [hC]) ?_ ?_
    · cbv
      exact ⟨_, 0, m, by (try rw [hcs]); cbv, by simp, by simp, rfl⟩
    rintro n σ ⟨i, mb, rfl, b1, b2, rfl⟩
    try rw [hcs]
    repeat' (first
     | (with_reducible first | (refine hK _ ?_; clear hK K) | refine thenA_n ?_ | refine thenA_r ?_ | refine thenA_e ?_ | refine block_n ?_ | refine block_r ?_ | refine block_hit ?_ | refine GWp.seq ?_ | refine GWp.block ?_ | refine GWp.skip ?_ | refine GWp.ret ?_ | refine GWp.exit ?_ | refine need_nil ?_ | refine need_cons True.intro ?_)
     | ((with_reducible first | refine gPost_r ?_ | refine gPost_n ?_ | refine fork_t ?_ | refine fork_f ?_ | (refine GWp.region (base := 0) ?_; intro K hK)); cbv; try simp only [hseg])
     | ((with_reducible refine GWp.cond_t ?hh ?_); (case hh => rfl)) | ((with_reducible refine GWp.cond_f ?hh ?_); (case hh => rfl)) | ((with_reducible refine block_miss ?hh ?_); (case hh => rfl))
     | ((with_reducible refine GWp.draws (base := 0) hM ?hh ?_); (case hh => rfl); intro K hK; cbv; try simp only [hseg])
     | ((with_reducible refine need_cons ?hh ?_); (case hh => first | with_reducible rfl | exact nn_ok hO (by decide))) | fail)
    simp only [hlf]
    refine GWp.cond rfl (fun h5 => ?_) (fun h5 => ?_)
    · have hjt : i < M := by
        try clear hK K
        clear hM hP hC hR; cases hO
        simp only [Ops.std, stdCmp, stdBin, scmp_eql, scmp_neq, stdUn, Int.ofNat_eq_natCast] at *
        simpa using h5
      obtain ⟨f, hy, hy', ht, e1⟩ := map_at hO hxf (hM2 ▸ hjt)
      have hz1 := congrArg List.length (flatMap_take (f := Fr.holds) ht)
      rw [List.length_append] at hz1
      have hbb := hcg (i + 1)
      have hys := sum_mem (f := Fr.sz) hy
      have hfl := f.holds_len
      have hfh : f.holds.length = f.locals.length + (f.stack.flatMap Sl.holds).length + (f.iters.flatMap It.holds).length := by simp only [Fr.holds, List.length_append]
      have hfi : f.iters.length + It.szs f.iters ≤ f.sz ∧ f.stack.length ≤ f.sz ∧ f.locals.length ≤ f.sz := by simp only [Fr.sz]; omega
      unfold It.szs at hfi
      have hcs1 := fun i => flatMap_take_len (f := Sl.holds) (l := f.stack) i
      have hcs2 := fun i => flatMap_take_len (f := It.holds) (l := f.iters) i
      obtain ⟨xs, hxs⟩ : ∃ xs, xs = f.stack.map Sl.t := ⟨_, rfl⟩
      obtain ⟨xi, hxi⟩ : ∃ xi, xi = f.iters.map It.t := ⟨_, rfl⟩
      obtain ⟨xl, hxl⟩ : ∃ xl, xl = f.locals.map intT := ⟨_, rfl⟩
      simp only [Fr.t, List.cons_append, List.nil_append] at e1
      rw [← hxs, ← hxi, ← hxl] at e1
      generalize f.labels.map La.t = xb at e1
      obtain ⟨Lc, hLc⟩ : ∃ L, L = f.locals.length := ⟨_, rfl⟩
      have hll : len xl = Lc := len_of hO (by simp [hxl, hLc])
      obtain ⟨S, hS⟩ : ∃ S, S = f.stack.length := ⟨_, rfl⟩
      have hls : len xs = S := len_of hO (by simp [hxs, hS])
      have has : all xs 2 := all_of hO (by subst hxs; simp [Sl.t_len])
      obtain ⟨I, hI⟩ : ∃ I, I = f.iters.length := ⟨_, rfl⟩
      have hli : len xi = I := len_of hO (by simp [hxi, hI])
      have hai : all xi 2 := all_of hO (by subst hxi; simp [It.t_len])
      have hidx : idx (Int.ofNat i) (len xf) := hlf ▸ idx_nat hO hjt
      have e : bin .add .i64 (Int.ofNat i) 1 = _ := i_succ hO (by omega)
      generalize f.fn = fn0 at *
      generalize f.pc = pc0 at *
      obtain ⟨fs, hfs⟩ : ∃ fs : List A, fs = [.lit (.int .i64 fn0), .lit (.int .i64 pc0), .ro true xl, .ro true xs, .ro true xb, .ro true xi] := ⟨_, rfl⟩
      have e2 : bin .add .i64 (Int.ofNat mb) (Int.ofNat Lc) = _ := add_nat hO (by omega)
      generalize hm3 : mb + Lc = m3 at e2
      repeat' (first
       | (with_reducible first | (refine hK _ ?_; clear hK K) | refine thenA_n ?_ | refine thenA_r ?_ | refine thenA_e ?_ | refine block_n ?_ | refine block_r ?_ | refine block_hit ?_ | refine GWp.seq ?_ | refine GWp.block ?_ | refine GWp.skip ?_ | refine GWp.ret ?_ | refine GWp.exit ?_ | refine need_nil ?_ | refine need_cons True.intro ?_)
       | ((with_reducible first | refine gPost_r ?_ | refine gPost_n ?_ | refine fork_t ?_ | refine fork_f ?_ | (refine GWp.region (base := 0) ?_; intro K hK)); cbv; try simp only [hseg])
       | ((with_reducible refine GWp.cond_t ?hh ?_); (case hh => rfl)) | ((with_reducible refine GWp.cond_f ?hh ?_); (case hh => rfl)) | ((with_reducible refine block_miss ?hh ?_); (case hh => rfl))
       | ((with_reducible refine GWp.draws (base := 0) hM ?hh ?_); (case hh => rfl); intro K hK; cbv; try simp only [hseg])
       | ((with_reducible refine need_cons ?hh ?_); (case hh => first | with_reducible rfl | exact nn_ok hO (by decide))) | fail)
      repeat (simp only [e1]; cbv)
      refine need_cons hidx (need_cons haf (need_nil ?_))
      repeat' (first
       | (with_reducible first | (refine hK _ ?_; clear hK K) | refine thenA_n ?_ | refine thenA_r ?_ | refine thenA_e ?_ | refine block_n ?_ | refine block_r ?_ | refine block_hit ?_ | refine GWp.seq ?_ | refine GWp.block ?_ | refine GWp.skip ?_ | refine GWp.ret ?_ | refine GWp.exit ?_ | refine need_nil ?_ | refine need_cons True.intro ?_)
       | ((with_reducible first | refine gPost_r ?_ | refine gPost_n ?_ | refine fork_t ?_ | refine fork_f ?_ | (refine GWp.region (base := 0) ?_; intro K hK)); cbv; try simp only [hseg])
       | ((with_reducible refine GWp.cond_t ?hh ?_); (case hh => rfl)) | ((with_reducible refine GWp.cond_f ?hh ?_); (case hh => rfl)) | ((with_reducible refine block_miss ?hh ?_); (case hh => rfl))
       | ((with_reducible refine GWp.draws (base := 0) hM ?hh ?_); (case hh => rfl); intro K hK; cbv; try simp only [hseg])
       | ((with_reducible refine need_cons ?hh ?_); (case hh => first | with_reducible rfl | exact nn_ok hO (by decide))) | fail)
      simp only [hll, e2]
      repeat' (first
       | (with_reducible first | (refine hK _ ?_; clear hK K) | refine thenA_n ?_ | refine thenA_r ?_ | refine thenA_e ?_ | refine block_n ?_ | refine block_r ?_ | refine block_hit ?_ | refine GWp.seq ?_ | refine GWp.block ?_ | refine GWp.skip ?_ | refine GWp.ret ?_ | refine GWp.exit ?_ | refine need_nil ?_ | refine need_cons True.intro ?_)
       | ((with_reducible first | refine gPost_r ?_ | refine gPost_n ?_ | refine fork_t ?_ | refine fork_f ?_ | (refine GWp.region (base := 0) ?_; intro K hK)); cbv; try simp only [hseg])
       | ((with_reducible refine GWp.cond_t ?hh ?_); (case hh => rfl)) | ((with_reducible refine GWp.cond_f ?hh ?_); (case hh => rfl)) | ((with_reducible refine block_miss ?hh ?_); (case hh => rfl))
       | ((with_reducible refine GWp.draws (base := 0) hM ?hh ?_); (case hh => rfl); intro K hK; cbv; try simp only [hseg])
       | ((with_reducible refine need_cons ?hh ?_); (case hh => first | with_reducible rfl | exact nn_ok hO (by decide))) | fail)
      refine GWp.loop (nb := 2) (keep := fun t => t == 1 || t == 3 || t == 5 || t == 6 || t == 7) (kk := fun _ _ => none) (inv35c cs fs f.stack i m3) (by simp at hC; simp [hC]) ?_ ?_
      · cbv
        exact ⟨_, 0, m3, by (try rw [hcs]); (try rw [hfs]); cbv, by simp, by simp, rfl⟩
      rintro n σ ⟨k, mc, rfl, k1, k2, rfl⟩
      (try rw [hcs]); (try rw [hfs])
      repeat' (first
       | (with_reducible first | (refine hK _ ?_; clear hK K) | refine thenA_n ?_ | refine thenA_r ?_ | refine thenA_e ?_ | refine block_n ?_ | refine block_r ?_ | refine block_hit ?_ | refine GWp.seq ?_ | refine GWp.block ?_ | refine GWp.skip ?_ | refine GWp.ret ?_ | refine GWp.exit ?_ | refine need_nil ?_ | refine need_cons True.intro ?_)
       | ((with_reducible first | refine gPost_r ?_ | refine gPost_n ?_ | refine fork_t ?_ | refine fork_f ?_ | (refine GWp.region (base := 0) ?_; intro K hK)); cbv; try simp only [hseg])
       | ((with_reducible refine GWp.cond_t ?hh ?_); (case hh => rfl)) | ((with_reducible refine GWp.cond_f ?hh ?_); (case hh => rfl)) | ((with_reducible refine block_miss ?hh ?_); (case hh => rfl))
       | ((with_reducible refine GWp.draws (base := 0) hM ?hh ?_); (case hh => rfl); intro K hK; cbv; try simp only [hseg])
       | ((with_reducible refine need_cons ?hh ?_); (case hh => first | with_reducible rfl | exact nn_ok hO (by decide))) | fail)
      simp only [hls]
      refine GWp.cond rfl (fun h6 => ?_) (fun h6 => ?_)
      · have hkt : k < S := by
          try clear hK K
          clear hM hP hC hR; cases hO
          simp only [Ops.std, stdCmp, stdBin, scmp_eql, scmp_neq, stdUn, Int.ofNat_eq_natCast] at *
          simpa using h6
        obtain ⟨y, hyk, hyk', htk, e3⟩ := map_at hO hxs (hS ▸ hkt)
        have hz2 := congrArg List.length (flatMap_take (f := Sl.holds) htk)
        rw [List.length_append] at hz2
        have hbb2 := hcs1 (k + 1)
        obtain ⟨num, n1⟩ := y
        simp only [Sl.t, List.cons_append, List.nil_append] at e3
        simp only [Sl.holds] at hz2
        have hidk : idx (Int.ofNat k) (len xs) := hls ▸ idx_nat hO hkt
        have e4 : bin .add .i64 (Int.ofNat k) 1 = _ := i_succ hO (by omega)
        cases num
        · simp only [Bool.false_eq_true, if_false, List.length_cons, List.length_nil] at hz2
          repeat' (first
           | (with_reducible first | (refine hK _ ?_; clear hK K) | refine thenA_n ?_ | refine thenA_r ?_ | refine thenA_e ?_ | refine block_n ?_ | refine block_r ?_ | refine block_hit ?_ | refine GWp.seq ?_ | refine GWp.block ?_ | refine GWp.skip ?_ | refine GWp.ret ?_ | refine GWp.exit ?_ | refine need_nil ?_ | refine need_cons True.intro ?_)
           | ((with_reducible first | refine gPost_r ?_ | refine gPost_n ?_ | refine fork_t ?_ | refine fork_f ?_ | (refine GWp.region (base := 0) ?_; intro K hK)); cbv; try simp only [hseg])
           | ((with_reducible refine GWp.cond_t ?hh ?_); (case hh => rfl)) | ((with_reducible refine GWp.cond_f ?hh ?_); (case hh => rfl)) | ((with_reducible refine block_miss ?hh ?_); (case hh => rfl))
           | ((with_reducible refine GWp.draws (base := 0) hM ?hh ?_); (case hh => rfl); intro K hK; cbv; try simp only [hseg])
           | ((with_reducible refine need_cons ?hh ?_); (case hh => first | with_reducible rfl | exact nn_ok hO (by decide))) | fail)
          repeat (simp only [e3]; cbv)
          refine need_cons hidk (need_cons has (need_nil ?_))
          simp only [hnf]
          have e5 : bin .add .i64 (Int.ofNat mc) 1 = _ := i_succ hO (by omega)
          repeat' (first
           | (with_reducible first | (refine hK _ ?_; clear hK K) | refine thenA_n ?_ | refine thenA_r ?_ | refine thenA_e ?_ | refine block_n ?_ | refine block_r ?_ | refine block_hit ?_ | refine GWp.seq ?_ | refine GWp.block ?_ | refine GWp.skip ?_ | refine GWp.ret ?_ | refine GWp.exit ?_ | refine need_nil ?_ | refine need_cons True.intro ?_)
           | ((with_reducible first | refine gPost_r ?_ | refine gPost_n ?_ | refine fork_t ?_ | refine fork_f ?_ | (refine GWp.region (base := 0) ?_; intro K hK)); cbv; try simp only [hseg])
           | ((with_reducible refine GWp.cond_t ?hh ?_); (case hh => rfl)) | ((with_reducible refine GWp.cond_f ?hh ?_); (case hh => rfl)) | ((with_reducible refine block_miss ?hh ?_); (case hh => rfl))
           | ((with_reducible refine GWp.draws (base := 0) hM ?hh ?_); (case hh => rfl); intro K hK; cbv; try simp only [hseg])
           | ((with_reducible refine need_cons ?hh ?_); (case hh => first | with_reducible rfl | exact nn_ok hO (by decide))) | fail)
          cbv
          rw [e4, e5]
          exact ⟨_, by omega, k + 1, mc + 1, by (try rw [hcs]); (try rw [hfs]); cbv, by omega, by omega, rfl⟩
        · simp only [if_true, List.length_nil] at hz2
          repeat' (first
           | (with_reducible first | (refine hK _ ?_; clear hK K) | refine thenA_n ?_ | refine thenA_r ?_ | refine thenA_e ?_ | refine block_n ?_ | refine block_r ?_ | refine block_hit ?_ | refine GWp.seq ?_ | refine GWp.block ?_ | refine GWp.skip ?_ | refine GWp.ret ?_ | refine GWp.exit ?_ | refine need_nil ?_ | refine need_cons True.intro ?_)
           | ((with_reducible first | refine gPost_r ?_ | refine gPost_n ?_ | refine fork_t ?_ | refine fork_f ?_ | (refine GWp.region (base := 0) ?_; intro K hK)); cbv; try simp only [hseg])
           | ((with_reducible refine GWp.cond_t ?hh ?_); (case hh => rfl)) | ((with_reducible refine GWp.cond_f ?hh ?_); (case hh => rfl)) | ((with_reducible refine block_miss ?hh ?_); (case hh => rfl))
           | ((with_reducible refine GWp.draws (base := 0) hM ?hh ?_); (case hh => rfl); intro K hK; cbv; try simp only [hseg])
           | ((with_reducible refine need_cons ?hh ?_); (case hh => first | with_reducible rfl | exact nn_ok hO (by decide))) | fail)
          repeat (simp only [e3]; cbv)
          refine need_cons hidk (need_cons has (need_nil ?_))
          simp only [hnt]
          repeat' (first
           | (with_reducible first | (refine hK _ ?_; clear hK K) | refine thenA_n ?_ | refine thenA_r ?_ | refine thenA_e ?_ | refine block_n ?_ | refine block_r ?_ | refine block_hit ?_ | refine GWp.seq ?_ | refine GWp.block ?_ | refine GWp.skip ?_ | refine GWp.ret ?_ | refine GWp.exit ?_ | refine need_nil ?_ | refine need_cons True.intro ?_)
           | ((with_reducible first | refine gPost_r ?_ | refine gPost_n ?_ | refine fork_t ?_ | refine fork_f ?_ | (refine GWp.region (base := 0) ?_; intro K hK)); cbv; try simp only [hseg])
           | ((with_reducible refine GWp.cond_t ?hh ?_); (case hh => rfl)) | ((with_reducible refine GWp.cond_f ?hh ?_); (case hh => rfl)) | ((with_reducible refine block_miss ?hh ?_); (case hh => rfl))
           | ((with_reducible refine GWp.draws (base := 0) hM ?hh ?_); (case hh => rfl); intro K hK; cbv; try simp only [hseg])
           | ((with_reducible refine need_cons ?hh ?_); (case hh => first | with_reducible rfl | exact nn_ok hO (by decide))) | fail)
          cbv
          rw [e4]
          exact ⟨_, by omega, k + 1, mc, by (try rw [hcs]); (try rw [hfs]); cbv, by omega, by omega, rfl⟩
      · have hge2 : k = S := by
          try clear hK K
          clear hM hP hC hR; cases hO
          simp only [Ops.std, stdCmp, stdBin, scmp_eql, scmp_neq, stdUn, Int.ofNat_eq_natCast] at *
          simp at h6; omega
        have e5 : f.stack.take k = f.stack := List.take_of_length_le (by omega)
        rw [e5] at k2
        repeat' (first
         | (with_reducible first | (refine hK _ ?_; clear hK K) | refine thenA_n ?_ | refine thenA_r ?_ | refine thenA_e ?_ | refine block_n ?_ | refine block_r ?_ | refine block_hit ?_ | refine GWp.seq ?_ | refine GWp.block ?_ | refine GWp.skip ?_ | refine GWp.ret ?_ | refine GWp.exit ?_ | refine need_nil ?_ | refine need_cons True.intro ?_)
         | ((with_reducible first | refine gPost_r ?_ | refine gPost_n ?_ | refine fork_t ?_ | refine fork_f ?_ | (refine GWp.region (base := 0) ?_; intro K hK)); cbv; try simp only [hseg])
         | ((with_reducible refine GWp.cond_t ?hh ?_); (case hh => rfl)) | ((with_reducible refine GWp.cond_f ?hh ?_); (case hh => rfl)) | ((with_reducible refine block_miss ?hh ?_); (case hh => rfl))
         | ((with_reducible refine GWp.draws (base := 0) hM ?hh ?_); (case hh => rfl); intro K hK; cbv; try simp only [hseg])
         | ((with_reducible refine need_cons ?hh ?_); (case hh => first | with_reducible rfl | exact nn_ok hO (by decide))) | fail)
        refine GWp.loop (nb := 2) (keep := fun t => t == 1 || t == 3 || t == 5 || t == 6 || t == 8) (kk := fun _ _ => none) (inv35d cs fs f.iters i mc) (by simp at hC; simp [hC]) ?_ ?_
        · cbv
          exact ⟨_, 0, mc, by (try rw [hcs]); (try rw [hfs]); cbv, by simp, by simp, rfl⟩
        rintro n σ ⟨k, md, rfl, d1, d2, rfl⟩
        (try rw [hcs]); (try rw [hfs])
        repeat' (first
         | (with_reducible first | (refine hK _ ?_; clear hK K) | refine thenA_n ?_ | refine thenA_r ?_ | refine thenA_e ?_ | refine block_n ?_ | refine block_r ?_ | refine block_hit ?_ | refine GWp.seq ?_ | refine GWp.block ?_ | refine GWp.skip ?_ | refine GWp.ret ?_ | refine GWp.exit ?_ | refine need_nil ?_ | refine need_cons True.intro ?_)
         | ((with_reducible first | refine gPost_r ?_ | refine gPost_n ?_ | refine fork_t ?_ | refine fork_f ?_ | (refine GWp.region (base := 0) ?_; intro K hK)); cbv; try simp only [hseg])
         | ((with_reducible refine GWp.cond_t ?hh ?_); (case hh => rfl)) | ((with_reducible refine GWp.cond_f ?hh ?_); (case hh => rfl)) | ((with_reducible refine block_miss ?hh ?_); (case hh => rfl))
         | ((with_reducible refine GWp.draws (base := 0) hM ?hh ?_); (case hh => rfl); intro K hK; cbv; try simp only [hseg])
         | ((with_reducible refine need_cons ?hh ?_); (case hh => first | with_reducible rfl | exact nn_ok hO (by decide))) | fail)
        simp only [hli]
        refine GWp.cond rfl (fun h7 => ?_) (fun h7 => ?_)
        · have hkt : k < I := by
            try clear hK K
            clear hM hP hC hR; cases hO
            simp only [Ops.std, stdCmp, stdBin, scmp_eql, scmp_neq, stdUn, Int.ofNat_eq_natCast] at *
            simpa using h7
          obtain ⟨y, hyk, hyk', htk, e3⟩ := map_at hO hxi (hI ▸ hkt)
          have hz2 := congrArg List.length (flatMap_take (f := It.holds) htk)
          rw [List.length_append] at hz2
          have hbb2 := hcs2 (k + 1)
          have hys2 := sum_mem (f := It.sz) hyk
          obtain ⟨keys, at_⟩ := y
          simp only [It.sz] at hys2
          simp only [It.t, List.cons_append, List.nil_append] at e3
          simp only [It.holds] at hz2
          obtain ⟨xk, hxk⟩ : ∃ xk, xk = keys.map intT := ⟨_, rfl⟩
          rw [← hxk] at e3
          obtain ⟨L, hL⟩ : ∃ L, L = keys.length := ⟨_, rfl⟩
          have hlk : len xk = L := len_of hO (by simp [hxk, hL])
          have hidk : idx (Int.ofNat k) (len xi) := hli ▸ idx_nat hO hkt
          have e4 : bin .add .i64 (Int.ofNat k) 1 = _ := i_succ hO (by omega)
          repeat' (first
           | (with_reducible first | (refine hK _ ?_; clear hK K) | refine thenA_n ?_ | refine thenA_r ?_ | refine thenA_e ?_ | refine block_n ?_ | refine block_r ?_ | refine block_hit ?_ | refine GWp.seq ?_ | refine GWp.block ?_ | refine GWp.skip ?_ | refine GWp.ret ?_ | refine GWp.exit ?_ | refine need_nil ?_ | refine need_cons True.intro ?_)
           | ((with_reducible first | refine gPost_r ?_ | refine gPost_n ?_ | refine fork_t ?_ | refine fork_f ?_ | (refine GWp.region (base := 0) ?_; intro K hK)); cbv; try simp only [hseg])
           | ((with_reducible refine GWp.cond_t ?hh ?_); (case hh => rfl)) | ((with_reducible refine GWp.cond_f ?hh ?_); (case hh => rfl)) | ((with_reducible refine block_miss ?hh ?_); (case hh => rfl))
           | ((with_reducible refine GWp.draws (base := 0) hM ?hh ?_); (case hh => rfl); intro K hK; cbv; try simp only [hseg])
           | ((with_reducible refine need_cons ?hh ?_); (case hh => first | with_reducible rfl | exact nn_ok hO (by decide))) | fail)
          refine GWp.loop (nb := 2) (keep := fun t => t == 1 || t == 3 || t == 5 || t == 6 || t == 8 || t == 9) (kk := fun _ _ => none) (inv35e cs fs keys at_ i k md) (by simp at hC; simp [hC]) ?_ ?_
          · cbv
            exact ⟨_, 0, md, by (try rw [hcs]); (try rw [hfs]); cbv, by simp, by simp, rfl⟩
          rintro n σ ⟨j, me, rfl, j1, j2, rfl⟩
          (try rw [hcs]); (try rw [hfs])
          repeat' (first
           | (with_reducible first | (refine hK _ ?_; clear hK K) | refine thenA_n ?_ | refine thenA_r ?_ | refine thenA_e ?_ | refine block_n ?_ | refine block_r ?_ | refine block_hit ?_ | refine GWp.seq ?_ | refine GWp.block ?_ | refine GWp.skip ?_ | refine GWp.ret ?_ | refine GWp.exit ?_ | refine need_nil ?_ | refine need_cons True.intro ?_)
           | ((with_reducible first | refine gPost_r ?_ | refine gPost_n ?_ | refine fork_t ?_ | refine fork_f ?_ | (refine GWp.region (base := 0) ?_; intro K hK)); cbv; try simp only [hseg])
           | ((with_reducible refine GWp.cond_t ?hh ?_); (case hh => rfl)) | ((with_reducible refine GWp.cond_f ?hh ?_); (case hh => rfl)) | ((with_reducible refine block_miss ?hh ?_); (case hh => rfl))
           | ((with_reducible refine GWp.draws (base := 0) hM ?hh ?_); (case hh => rfl); intro K hK; cbv; try simp only [hseg])
           | ((with_reducible refine need_cons ?hh ?_); (case hh => first | with_reducible rfl | exact nn_ok hO (by decide))) | fail)
          repeat (simp only [e3]; cbv)
          refine need_cons hidk (need_cons hai (need_nil ?_))
          simp only [hlk]
          repeat' (first
           | (with_reducible first | (refine hK _ ?_; clear hK K) | refine thenA_n ?_ | refine thenA_r ?_ | refine thenA_e ?_ | refine block_n ?_ | refine block_r ?_ | refine block_hit ?_ | refine GWp.seq ?_ | refine GWp.block ?_ | refine GWp.skip ?_ | refine GWp.ret ?_ | refine GWp.exit ?_ | refine need_nil ?_ | refine need_cons True.intro ?_)
           | ((with_reducible first | refine gPost_r ?_ | refine gPost_n ?_ | refine fork_t ?_ | refine fork_f ?_ | (refine GWp.region (base := 0) ?_; intro K hK)); cbv; try simp only [hseg])
           | ((with_reducible refine GWp.cond_t ?hh ?_); (case hh => rfl)) | ((with_reducible refine GWp.cond_f ?hh ?_); (case hh => rfl)) | ((with_reducible refine block_miss ?hh ?_); (case hh => rfl))
           | ((with_reducible refine GWp.draws (base := 0) hM ?hh ?_); (case hh => rfl); intro K hK; cbv; try simp only [hseg])
           | ((with_reducible refine need_cons ?hh ?_); (case hh => first | with_reducible rfl | exact nn_ok hO (by decide))) | fail)
          refine GWp.cond rfl (fun h8 => ?_) (fun h8 => ?_)
          · have hjl : j < L := by
              try clear hK K
              clear hM hP hC hR; cases hO
              simp only [Ops.std, stdCmp, stdBin, scmp_eql, scmp_neq, stdUn, Int.ofNat_eq_natCast] at *
              simpa using h8
            obtain ⟨z, hz', hz'', htz, e6⟩ := map_at hO hxk (hL ▸ hjl)
            have hst := congrArg List.length (held_step (at_ := at_) (hL ▸ hjl) htz)
            rw [List.length_append] at hst
            have hkb : ((keys.take j).drop (clampN at_ keys.length)).length ≤ L := by simp; omega
            have e7 : bin .add .i64 (Int.ofNat j) 1 = _ := i_succ hO (by omega)
            repeat' (first
             | (with_reducible first | (refine hK _ ?_; clear hK K) | refine thenA_n ?_ | refine thenA_r ?_ | refine thenA_e ?_ | refine block_n ?_ | refine block_r ?_ | refine block_hit ?_ | refine GWp.seq ?_ | refine GWp.block ?_ | refine GWp.skip ?_ | refine GWp.ret ?_ | refine GWp.exit ?_ | refine need_nil ?_ | refine need_cons True.intro ?_)
             | ((with_reducible first | refine gPost_r ?_ | refine gPost_n ?_ | refine fork_t ?_ | refine fork_f ?_ | (refine GWp.region (base := 0) ?_; intro K hK)); cbv; try simp only [hseg])
             | ((with_reducible refine GWp.cond_t ?hh ?_); (case hh => rfl)) | ((with_reducible refine GWp.cond_f ?hh ?_); (case hh => rfl)) | ((with_reducible refine block_miss ?hh ?_); (case hh => rfl))
             | ((with_reducible refine GWp.draws (base := 0) hM ?hh ?_); (case hh => rfl); intro K hK; cbv; try simp only [hseg])
             | ((with_reducible refine need_cons ?hh ?_); (case hh => first | with_reducible rfl | exact nn_ok hO (by decide))) | fail)
            repeat (simp only [e3]; cbv)
            refine need_cons hidk (need_cons hai (need_nil ?_))
            repeat' (first
             | (with_reducible first | (refine hK _ ?_; clear hK K) | refine thenA_n ?_ | refine thenA_r ?_ | refine thenA_e ?_ | refine block_n ?_ | refine block_r ?_ | refine block_hit ?_ | refine GWp.seq ?_ | refine GWp.block ?_ | refine GWp.skip ?_ | refine GWp.ret ?_ | refine GWp.exit ?_ | refine need_nil ?_ | refine need_cons True.intro ?_)
             | ((with_reducible first | refine gPost_r ?_ | refine gPost_n ?_ | refine fork_t ?_ | refine fork_f ?_ | (refine GWp.region (base := 0) ?_; intro K hK)); cbv; try simp only [hseg])
             | ((with_reducible refine GWp.cond_t ?hh ?_); (case hh => rfl)) | ((with_reducible refine GWp.cond_f ?hh ?_); (case hh => rfl)) | ((with_reducible refine block_miss ?hh ?_); (case hh => rfl))
             | ((with_reducible refine GWp.draws (base := 0) hM ?hh ?_); (case hh => rfl); intro K hK; cbv; try simp only [hseg])
             | ((with_reducible refine need_cons ?hh ?_); (case hh => first | with_reducible rfl | exact nn_ok hO (by decide))) | fail)
            refine GWp.cond rfl (fun h9 => ?_) (fun h9 => ?_)
            · have hge : at_ ≤ (j : Int) := by
                try clear hK K
                clear hM hP hC hR; cases hO
                simp only [Ops.std, stdCmp, stdBin, scmp_eql, scmp_neq, stdUn, Int.ofNat_eq_natCast] at *
                simpa using h9
              rw [if_pos hge, List.length_singleton] at hst
              have e8 : bin .add .i64 (Int.ofNat me) 1 = _ := i_succ hO (by omega)
              repeat' (first
               | (with_reducible first | (refine hK _ ?_; clear hK K) | refine thenA_n ?_ | refine thenA_r ?_ | refine thenA_e ?_ | refine block_n ?_ | refine block_r ?_ | refine block_hit ?_ | refine GWp.seq ?_ | refine GWp.block ?_ | refine GWp.skip ?_ | refine GWp.ret ?_ | refine GWp.exit ?_ | refine need_nil ?_ | refine need_cons True.intro ?_)
               | ((with_reducible first | refine gPost_r ?_ | refine gPost_n ?_ | refine fork_t ?_ | refine fork_f ?_ | (refine GWp.region (base := 0) ?_; intro K hK)); cbv; try simp only [hseg])
               | ((with_reducible refine GWp.cond_t ?hh ?_); (case hh => rfl)) | ((with_reducible refine GWp.cond_f ?hh ?_); (case hh => rfl)) | ((with_reducible refine block_miss ?hh ?_); (case hh => rfl))
               | ((with_reducible refine GWp.draws (base := 0) hM ?hh ?_); (case hh => rfl); intro K hK; cbv; try simp only [hseg])
               | ((with_reducible refine need_cons ?hh ?_); (case hh => first | with_reducible rfl | exact nn_ok hO (by decide))) | fail)
              cbv
              rw [e7, e8]
              exact ⟨_, by omega, j + 1, me + 1, by (try rw [hcs]); (try rw [hfs]); cbv, by omega, by omega, rfl⟩
            · have hge : ¬ at_ ≤ (j : Int) := by
                try clear hK K
                clear hM hP hC hR; cases hO
                simp only [Ops.std, stdCmp, stdBin, scmp_eql, scmp_neq, stdUn, Int.ofNat_eq_natCast] at *
                simp at h9; omega
              rw [if_neg hge, List.length_nil] at hst
              repeat' (first
               | (with_reducible first | (refine hK _ ?_; clear hK K) | refine thenA_n ?_ | refine thenA_r ?_ | refine thenA_e ?_ | refine block_n ?_ | refine block_r ?_ | refine block_hit ?_ | refine GWp.seq ?_ | refine GWp.block ?_ | refine GWp.skip ?_ | refine GWp.ret ?_ | refine GWp.exit ?_ | refine need_nil ?_ | refine need_cons True.intro ?_)
               | ((with_reducible first | refine gPost_r ?_ | refine gPost_n ?_ | refine fork_t ?_ | refine fork_f ?_ | (refine GWp.region (base := 0) ?_; intro K hK)); cbv; try simp only [hseg])
               | ((with_reducible refine GWp.cond_t ?hh ?_); (case hh => rfl)) | ((with_reducible refine GWp.cond_f ?hh ?_); (case hh => rfl)) | ((with_reducible refine block_miss ?hh ?_); (case hh => rfl))
               | ((with_reducible refine GWp.draws (base := 0) hM ?hh ?_); (case hh => rfl); intro K hK; cbv; try simp only [hseg])
               | ((with_reducible refine need_cons ?hh ?_); (case hh => first | with_reducible rfl | exact nn_ok hO (by decide))) | fail)
              cbv
              rw [e7]
              exact ⟨_, by omega, j + 1, me, by (try rw [hcs]); (try rw [hfs]); cbv, by omega, by omega, rfl⟩
          · have hke : j = L := by
              try clear hK K
              clear hM hP hC hR; cases hO
              simp only [Ops.std, stdCmp, stdBin, scmp_eql, scmp_neq, stdUn, Int.ofNat_eq_natCast] at *
              simp at h8; omega
            have e5 : keys.take j = keys := List.take_of_length_le (by omega)
            rw [e5] at j2
            repeat' (first
             | (with_reducible first | (refine hK _ ?_; clear hK K) | refine thenA_n ?_ | refine thenA_r ?_ | refine thenA_e ?_ | refine block_n ?_ | refine block_r ?_ | refine block_hit ?_ | refine GWp.seq ?_ | refine GWp.block ?_ | refine GWp.skip ?_ | refine GWp.ret ?_ | refine GWp.exit ?_ | refine need_nil ?_ | refine need_cons True.intro ?_)
             | ((with_reducible first | refine gPost_r ?_ | refine gPost_n ?_ | refine fork_t ?_ | refine fork_f ?_ | (refine GWp.region (base := 0) ?_; intro K hK)); cbv; try simp only [hseg])
             | ((with_reducible refine GWp.cond_t ?hh ?_); (case hh => rfl)) | ((with_reducible refine GWp.cond_f ?hh ?_); (case hh => rfl)) | ((with_reducible refine block_miss ?hh ?_); (case hh => rfl))
             | ((with_reducible refine GWp.draws (base := 0) hM ?hh ?_); (case hh => rfl); intro K hK; cbv; try simp only [hseg])
             | ((with_reducible refine need_cons ?hh ?_); (case hh => first | with_reducible rfl | exact nn_ok hO (by decide))) | fail)
            cbv
            rw [e4]
            exact ⟨_, by omega, k + 1, me, by (try rw [hcs]); (try rw [hfs]); cbv, by omega, by omega, rfl⟩
        · have hge3 : k = I := by
            try clear hK K
            clear hM hP hC hR; cases hO
            simp only [Ops.std, stdCmp, stdBin, scmp_eql, scmp_neq, stdUn, Int.ofNat_eq_natCast] at *
            simp at h7; omega
          have e5 : f.iters.take k = f.iters := List.take_of_length_le (by omega)
          rw [e5] at d2
          repeat' (first
           | (with_reducible first | (refine hK _ ?_; clear hK K) | refine thenA_n ?_ | refine thenA_r ?_ | refine thenA_e ?_ | refine block_n ?_ | refine block_r ?_ | refine block_hit ?_ | refine GWp.seq ?_ | refine GWp.block ?_ | refine GWp.skip ?_ | refine GWp.ret ?_ | refine GWp.exit ?_ | refine need_nil ?_ | refine need_cons True.intro ?_)
           | ((with_reducible first | refine gPost_r ?_ | refine gPost_n ?_ | refine fork_t ?_ | refine fork_f ?_ | (refine GWp.region (base := 0) ?_; intro K hK)); cbv; try simp only [hseg])
           | ((with_reducible refine GWp.cond_t ?hh ?_); (case hh => rfl)) | ((with_reducible refine GWp.cond_f ?hh ?_); (case hh => rfl)) | ((with_reducible refine block_miss ?hh ?_); (case hh => rfl))
           | ((with_reducible refine GWp.draws (base := 0) hM ?hh ?_); (case hh => rfl); intro K hK; cbv; try simp only [hseg])
           | ((with_reducible refine need_cons ?hh ?_); (case hh => first | with_reducible rfl | exact nn_ok hO (by decide))) | fail)
          cbv
          rw [e]
          exact ⟨_, by omega, i + 1, md, by (try rw [hcs]); cbv, by omega, by omega, rfl⟩
    · have hge2 : i = M := by
        try clear hK K
        clear hM hP hC hR; cases hO
        simp only [Ops.std, stdCmp, stdBin, scmp_eql, scmp_neq, stdUn, Int.ofNat_eq_natCast] at *
        simp at h5; omega
      have e5 : x.frames.take i = x.frames := List.take_of_length_le (by omega)
      rw [e5] at b2
      repeat' (first
       | (with_reducible first | (refine hK _ ?_; clear hK K) | refine thenA_n ?_ | refine thenA_r ?_ | refine thenA_e ?_ | refine block_n ?_ | refine block_r ?_ | refine block_hit ?_ | refine GWp.seq ?_ | refine GWp.block ?_ | refine GWp.skip ?_ | refine GWp.ret ?_ | refine GWp.exit ?_ | refine need_nil ?_ | refine need_cons True.intro ?_)
       | ((with_reducible first | refine gPost_r ?_ | refine gPost_n ?_ | refine fork_t ?_ | refine fork_f ?_ | (refine GWp.region (base := 0) ?_; intro K hK)); cbv; try simp only [hseg])
       | ((with_reducible refine GWp.cond_t ?hh ?_); (case hh => rfl)) | ((with_reducible refine GWp.cond_f ?hh ?_); (case hh => rfl)) | ((with_reducible refine block_miss ?hh ?_); (case hh => rfl))
       | ((with_reducible refine GWp.draws (base := 0) hM ?hh ?_); (case hh => rfl); intro K hK; cbv; try simp only [hseg])
       | ((with_reducible refine need_cons ?hh ?_); (case hh => first | with_reducible rfl | exact nn_ok hO (by decide))) | fail)
      exact hR _ _ ⟨_, by omega, rfl, rfl⟩
end Go.Gv
