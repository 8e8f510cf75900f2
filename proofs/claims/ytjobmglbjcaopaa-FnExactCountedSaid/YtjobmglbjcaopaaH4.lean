/- Part H4 of the proof: contracts of functions of the program, each walked once. -/
import Derived.Test.YtjobmglbjcaopaaH3
import Derived.Test.YtjobmglbjcaopaaZ3

namespace Go.Gv
open Go.Av Go.Proofs
set_option maxRecDepth 10000
set_option maxHeartbeats 4000000
set_option linter.unusedSimpArgs false

def incT : List T → List T
  | [.lit (.int k c)] => [.lit (.int k (k.wrap (c + 1)))]
  | t => t
def stepB (s : List (List T) × Bool) (k : Int) : List (List T) × Bool :=
  if 0 ≤ k ∧ k < s.1.length then (s.1.set k.toNat (incT (s.1.getD k.toNat [])), s.2) else (s.1, false)
def goodB (els : List (List T)) : Prop := ∃ l : List Int, els = l.map intT ∧ l.length ≤ 1048576

abbrev TellOkB : Prop := ∀ (k : Int) (x1 : (List (List T))) (x2 : Bool), goodB x1 → ACalls Try.prog 36 [litI k, ⟨.one, [.ptr 0 0]⟩, ⟨.one, [.ptr 1 0]⟩] [some [.ow (0, 0) 1 x1], some [.lit (.bool x2)]]
  (fun res bx => ∃ y1 y2, (y1, y2) = stepB (x1, x2) k ∧ goodB y1 ∧ res = ⟨.tup [], []⟩ ∧ bx = [some [.ow (0, 0) 1 y1], some [.lit (.bool y2)]])

def inv47B (els : List (List T)) (l : List Int) (s : (List (List T)) × Bool) (N : Nat) (σ : AS) : Prop :=
  ∃ (i : Nat) (y1 : (List (List T))) (y2 : Bool), σ = ⟨vag 15 [(1, ⟨.one, [.ptr 2 0]⟩), (5, ⟨.one, [.ro true els]⟩), (6, litI (Int.ofNat l.length)), (7, litI (Int.ofNat i))], [some [.ow (0, 0) 1 y1], some [.lit (.bool y2)], some [A.fn 36 [(0, 0), (1, 0)]]], 1⟩ ∧
    i ≤ l.length ∧ (y1, y2) = (l.take i).foldl stepB s ∧ goodB y1 ∧ N = l.length - i

theorem allB (tell : TellOkB) (l : List Int) (els : List (List T)) (he : els = l.map intT) (hl : l.length ≤ 1048576) (x1 : (List (List T))) (x2 : Bool) (hg : goodB x1) :
    ACalls Try.prog 47 [roT els, ⟨.one, [.ptr 2 0]⟩] [some [.ow (0, 0) 1 x1], some [.lit (.bool x2)], some [A.fn 36 [(0, 0), (1, 0)]]]
      (fun res bx => ∃ y1 y2, (y1, y2) = l.foldl stepB (x1, x2) ∧ goodB y1 ∧ res = ⟨.tup [], []⟩ ∧ bx = [some [.ow (0, 0) 1 y1], some [.lit (.bool y2)], some [A.fn 36 [(0, 0), (1, 0)]]]) := by
  refine gcalls_by tys_ok 15 [] (fn := Try.f47) rfl rfl rfl rfl ?_ ?_ ?_
  · simp [stampFree, litI, A.stamp, A.rstamp, stampIn]
  · simp [stampFree, litI, A.stamp, A.rstamp, stampIn]
  intro O hO P hP C hC R hR
  have hM : P.follows .mixedOrders = true := by rw [hP]; rfl
  obtain ⟨bin, cmp, sadd, scmp, beq, bnot, band, un, wrap, size, byte, sub, len, seg, app, get, set, nat, nadd, nsub, repl, text, bytes, mn, mx, nz, nn, idx, bnd, le, all, one, lits, isB, sOk, aOk, mOk⟩ := O
  have hseg : ∀ e, seg 0 (len e) e = e := by intro e; cases hO; simp
  obtain ⟨N, hN⟩ : ∃ N, N = l.length := ⟨_, rfl⟩
  have hlen : len els = N := len_of hO (by simp [he, hN])
  have ha : all els 1 := all_of hO (by subst he; simp [intT_len])
  repeat' (first
   | (with_reducible first | (refine hK _ ?_; clear hK K) | refine thenA_n ?_ | refine thenA_r ?_ | refine thenA_e ?_ | refine block_n ?_ | refine block_r ?_ | refine block_hit ?_ | refine GWp.seq ?_ | refine GWp.block ?_ | refine GWp.skip ?_ | refine GWp.ret ?_ | refine GWp.exit ?_ | refine need_nil ?_ | refine need_cons True.intro ?_)
   | ((with_reducible first | refine gPost_r ?_ | refine gPost_n ?_ | refine fork_t ?_ | refine fork_f ?_ | (refine GWp.region (base := 3) ?_; intro K hK)); cbv; try simp only [hseg])
   | ((with_reducible refine GWp.cond_t ?hh ?_); (case hh => rfl)) | ((with_reducible refine GWp.cond_f ?hh ?_); (case hh => rfl)) | ((with_reducible refine block_miss ?hh ?_); (case hh => rfl))
   | ((with_reducible refine GWp.draws (base := 3) hM ?hh ?_); (case hh => rfl); intro K hK; cbv; try simp only [hseg])
   | ((with_reducible refine need_cons ?hh ?_); (case hh => first | with_reducible rfl | exact nn_ok hO (by decide))) | fail)
  simp only [hlen]
  refine GWp.loop (nb := 3) (keep := fun t => t == 1 || t == 5 || t == 6 || t == 7) (kk := fun _ _ => none) (inv47B els l (x1, x2)) (by simp at hC; simp [hC]) ?_ ?_
  · cbv
    exact ⟨_, 0, x1, x2, by rw [← hN]; cbv, by simp, by simp, hg, rfl⟩
  rintro L σ ⟨i, y1, y2, rfl, g1, g2, gg, rfl⟩
  rw [← hN]
  repeat' (first
   | (with_reducible first | (refine hK _ ?_; clear hK K) | refine thenA_n ?_ | refine thenA_r ?_ | refine thenA_e ?_ | refine block_n ?_ | refine block_r ?_ | refine block_hit ?_ | refine GWp.seq ?_ | refine GWp.block ?_ | refine GWp.skip ?_ | refine GWp.ret ?_ | refine GWp.exit ?_ | refine need_nil ?_ | refine need_cons True.intro ?_)
   | ((with_reducible first | refine gPost_r ?_ | refine gPost_n ?_ | refine fork_t ?_ | refine fork_f ?_ | (refine GWp.region (base := 3) ?_; intro K hK)); cbv; try simp only [hseg])
   | ((with_reducible refine GWp.cond_t ?hh ?_); (case hh => rfl)) | ((with_reducible refine GWp.cond_f ?hh ?_); (case hh => rfl)) | ((with_reducible refine block_miss ?hh ?_); (case hh => rfl))
   | ((with_reducible refine GWp.draws (base := 3) hM ?hh ?_); (case hh => rfl); intro K hK; cbv; try simp only [hseg])
   | ((with_reducible refine need_cons ?hh ?_); (case hh => first | with_reducible rfl | exact nn_ok hO (by decide))) | fail)
  refine GWp.cond rfl (fun h4 => ?_) (fun h4 => ?_)
  · have hlt : i < N := by
      try clear hK K
      clear hM hP hC hR; cases hO
      simp only [Ops.std, stdCmp, stdBin, scmp_eql, scmp_neq, stdUn, Int.ofNat_eq_natCast] at *
      simpa using h4
    obtain ⟨x, hx, hx', ht, e1⟩ := map_at hO he (hN ▸ hlt)
    simp only [intT] at e1
    have hz : (l.take (i + 1)).foldl stepB (x1, x2) = stepB (y1, y2) x := by rw [ht, List.foldl_append, ← g2]; rfl
    repeat' (first
     | (with_reducible first | (refine hK _ ?_; clear hK K) | refine thenA_n ?_ | refine thenA_r ?_ | refine thenA_e ?_ | refine block_n ?_ | refine block_r ?_ | refine block_hit ?_ | refine GWp.seq ?_ | refine GWp.block ?_ | refine GWp.skip ?_ | refine GWp.ret ?_ | refine GWp.exit ?_ | refine need_nil ?_ | refine need_cons True.intro ?_)
     | ((with_reducible first | refine gPost_r ?_ | refine gPost_n ?_ | refine fork_t ?_ | refine fork_f ?_ | (refine GWp.region (base := 3) ?_; intro K hK)); cbv; try simp only [hseg])
     | ((with_reducible refine GWp.cond_t ?hh ?_); (case hh => rfl)) | ((with_reducible refine GWp.cond_f ?hh ?_); (case hh => rfl)) | ((with_reducible refine block_miss ?hh ?_); (case hh => rfl))
     | ((with_reducible refine GWp.draws (base := 3) hM ?hh ?_); (case hh => rfl); intro K hK; cbv; try simp only [hseg])
     | ((with_reducible refine need_cons ?hh ?_); (case hh => first | with_reducible rfl | exact nn_ok hO (by decide))) | fail)
    repeat (simp only [e1]; cbv)
    refine need_cons (hlen ▸ idx_nat hO hlt) (need_cons ha (need_nil ?_))
    repeat' (first
     | (with_reducible first | (refine hK _ ?_; clear hK K) | refine thenA_n ?_ | refine thenA_r ?_ | refine thenA_e ?_ | refine block_n ?_ | refine block_r ?_ | refine block_hit ?_ | refine GWp.seq ?_ | refine GWp.block ?_ | refine GWp.skip ?_ | refine GWp.ret ?_ | refine GWp.exit ?_ | refine need_nil ?_ | refine need_cons True.intro ?_)
     | ((with_reducible first | refine gPost_r ?_ | refine gPost_n ?_ | refine fork_t ?_ | refine fork_f ?_ | (refine GWp.region (base := 3) ?_; intro K hK)); cbv; try simp only [hseg])
     | ((with_reducible refine GWp.cond_t ?hh ?_); (case hh => rfl)) | ((with_reducible refine GWp.cond_f ?hh ?_); (case hh => rfl)) | ((with_reducible refine block_miss ?hh ?_); (case hh => rfl))
     | ((with_reducible refine GWp.draws (base := 3) hM ?hh ?_); (case hh => rfl); intro K hK; cbv; try simp only [hseg])
     | ((with_reducible refine need_cons ?hh ?_); (case hh => first | with_reducible rfl | exact nn_ok hO (by decide))) | fail)
    refine GCall.by ⟨fun _ _ => false, fun _ _ => false, [0, 1]⟩ ?_
    cbv
    try simp only [hseg]
    refine GCallD.by hP rfl (tell x y1 y2 gg) ?_
    rintro res bx ⟨z1, z2, hzz, gz, rfl, rfl⟩
    cbv
    try simp only [hseg]
    repeat' (first
     | (with_reducible first | (refine hK _ ?_; clear hK K) | refine thenA_n ?_ | refine thenA_r ?_ | refine thenA_e ?_ | refine block_n ?_ | refine block_r ?_ | refine block_hit ?_ | refine GWp.seq ?_ | refine GWp.block ?_ | refine GWp.skip ?_ | refine GWp.ret ?_ | refine GWp.exit ?_ | refine need_nil ?_ | refine need_cons True.intro ?_)
     | ((with_reducible first | refine gPost_r ?_ | refine gPost_n ?_ | refine fork_t ?_ | refine fork_f ?_ | (refine GWp.region (base := 3) ?_; intro K hK)); cbv; try simp only [hseg])
     | ((with_reducible refine GWp.cond_t ?hh ?_); (case hh => rfl)) | ((with_reducible refine GWp.cond_f ?hh ?_); (case hh => rfl)) | ((with_reducible refine block_miss ?hh ?_); (case hh => rfl))
     | ((with_reducible refine GWp.draws (base := 3) hM ?hh ?_); (case hh => rfl); intro K hK; cbv; try simp only [hseg])
     | ((with_reducible refine need_cons ?hh ?_); (case hh => first | with_reducible rfl | exact nn_ok hO (by decide))) | fail)
    have e : bin .add .i64 (Int.ofNat i) 1 = _ := i_succ hO (by omega)
    cbv
    rw [e]
    exact ⟨N - (i + 1), by omega, i + 1, z1, z2, by rw [← hN]; cbv, by omega, by rw [hz]; exact hzz, gz, by rw [hN]⟩
  · have hge : i = N := by
      try clear hK K
      clear hM hP hC hR; cases hO
      simp only [Ops.std, stdCmp, stdBin, scmp_eql, scmp_neq, stdUn, Int.ofNat_eq_natCast] at *
      simp at h4; omega
    have e2 : l.take i = l := List.take_of_length_le (by omega)
    rw [e2] at g2
    repeat' (first
     | (with_reducible first | (refine hK _ ?_; clear hK K) | refine thenA_n ?_ | refine thenA_r ?_ | refine thenA_e ?_ | refine block_n ?_ | refine block_r ?_ | refine block_hit ?_ | refine GWp.seq ?_ | refine GWp.block ?_ | refine GWp.skip ?_ | refine GWp.ret ?_ | refine GWp.exit ?_ | refine need_nil ?_ | refine need_cons True.intro ?_)
     | ((with_reducible first | refine gPost_r ?_ | refine gPost_n ?_ | refine fork_t ?_ | refine fork_f ?_ | (refine GWp.region (base := 3) ?_; intro K hK)); cbv; try simp only [hseg])
     | ((with_reducible refine GWp.cond_t ?hh ?_); (case hh => rfl)) | ((with_reducible refine GWp.cond_f ?hh ?_); (case hh => rfl)) | ((with_reducible refine block_miss ?hh ?_); (case hh => rfl))
     | ((with_reducible refine GWp.draws (base := 3) hM ?hh ?_); (case hh => rfl); intro K hK; cbv; try simp only [hseg])
     | ((with_reducible refine need_cons ?hh ?_); (case hh => first | with_reducible rfl | exact nn_ok hO (by decide))) | fail)
    exact hR _ _ ⟨y1, y2, g2, gg, rfl, rfl⟩

def invTB (cs : List A) (xt : List (List T)) (l : List Mt) (s : (List (List T)) × Bool) (N : Nat) (σ : AS) : Prop :=
  ∃ (i : Nat) (y1 : (List (List T))) (y2 : Bool), σ = ⟨vag 79 [(2, ⟨.one, [.ptr 2 0]⟩), (3, ⟨.one, [.ptr 3 0]⟩), (4, ⟨.one, [.fn 47 [(3, 0)]]⟩), (21, ⟨.one, [.ro true xt]⟩), (22, litI (Int.ofNat l.length)), (23, litI (Int.ofNat i))], [some [.ow (0, 0) 1 y1], some [.lit (.bool y2)], some cs, some [A.fn 36 [(0, 0), (1, 0)]]], 1⟩ ∧ i ≤ l.length ∧ (y1, y2) = ((l.take i).flatMap Mt.holds).foldl stepB s ∧ goodB y1 ∧ N = l.length - i

def invEB (cs : List A) (xt : List (List T)) (lt it : Nat) (xe : List (List T)) (l : List Me) (s : (List (List T)) × Bool) (N : Nat) (σ : AS) : Prop :=
  ∃ (i : Nat) (y1 : (List (List T))) (y2 : Bool), σ = ⟨vag 79 [(2, ⟨.one, [.ptr 2 0]⟩), (3, ⟨.one, [.ptr 3 0]⟩), (4, ⟨.one, [.fn 47 [(3, 0)]]⟩), (21, ⟨.one, [.ro true xt]⟩), (22, litI (Int.ofNat lt)), (23, litI (Int.ofNat it)), (28, ⟨.one, [.ro true xe]⟩), (29, litI (Int.ofNat l.length)), (30, litI (Int.ofNat i))], [some [.ow (0, 0) 1 y1], some [.lit (.bool y2)], some cs, some [A.fn 36 [(0, 0), (1, 0)]]], 1⟩ ∧ i ≤ l.length ∧ (y1, y2) = ((l.take i).map Me.ref).foldl stepB s ∧ goodB y1 ∧ N = l.length - i

def invFB (cs : List A) (xf : List (List T)) (l : List Fr) (s : (List (List T)) × Bool) (N : Nat) (σ : AS) : Prop :=
  ∃ (i : Nat) (y1 : (List (List T))) (y2 : Bool), σ = ⟨vag 79 [(2, ⟨.one, [.ptr 2 0]⟩), (3, ⟨.one, [.ptr 3 0]⟩), (4, ⟨.one, [.fn 47 [(3, 0)]]⟩), (41, ⟨.one, [.ro true xf]⟩), (42, litI (Int.ofNat l.length)), (43, litI (Int.ofNat i))], [some [.ow (0, 0) 1 y1], some [.lit (.bool y2)], some cs, some [A.fn 36 [(0, 0), (1, 0)]]], 1⟩ ∧ i ≤ l.length ∧ (y1, y2) = ((l.take i).flatMap Fr.holds).foldl stepB s ∧ goodB y1 ∧ N = l.length - i

def invSB (cs fs : List A) (xf : List (List T)) (lf jf : Nat) (xs : List (List T)) (l : List Sl) (s : (List (List T)) × Bool) (N : Nat) (σ : AS) : Prop :=
  ∃ (i : Nat) (y1 : (List (List T))) (y2 : Bool), σ = ⟨vag 79 [(2, ⟨.one, [.ptr 2 0]⟩), (3, ⟨.one, [.ptr 3 0]⟩), (4, ⟨.one, [.fn 47 [(3, 0)]]⟩), (10, ⟨.one, [.ptr 4 0]⟩), (41, ⟨.one, [.ro true xf]⟩), (42, litI (Int.ofNat lf)), (43, litI (Int.ofNat jf)), (52, ⟨.one, [.ro true xs]⟩), (53, litI (Int.ofNat l.length)), (54, litI (Int.ofNat i))], [some [.ow (0, 0) 1 y1], some [.lit (.bool y2)], some cs, some [A.fn 36 [(0, 0), (1, 0)]], some fs], 1⟩ ∧ i ≤ l.length ∧ (y1, y2) = ((l.take i).flatMap Sl.holds).foldl stepB s ∧ goodB y1 ∧ N = l.length - i

def invIB (cs : List A) (xf : List (List T)) (lf jf : Nat) (xs : List (List T)) (l : List It) (s : (List (List T)) × Bool) (N : Nat) (σ : AS) : Prop :=
  ∃ (i : Nat) (y1 : (List (List T))) (y2 : Bool), σ = ⟨vag 79 [(2, ⟨.one, [.ptr 2 0]⟩), (3, ⟨.one, [.ptr 3 0]⟩), (4, ⟨.one, [.fn 47 [(3, 0)]]⟩), (41, ⟨.one, [.ro true xf]⟩), (42, litI (Int.ofNat lf)), (43, litI (Int.ofNat jf)), (67, ⟨.one, [.ro true xs]⟩), (68, litI (Int.ofNat l.length)), (69, litI (Int.ofNat i))], [some [.ow (0, 0) 1 y1], some [.lit (.bool y2)], some cs, some [A.fn 36 [(0, 0), (1, 0)]]], 1⟩ ∧ i ≤ l.length ∧ (y1, y2) = ((l.take i).flatMap It.holds).foldl stepB s ∧ goodB y1 ∧ N = l.length - i

theorem eachHolderB (tell : TellOkB) (x : Mc) (hz : x.sz ≤ 1048576) (x1 : (List (List T))) (x2 : Bool) (hg : goodB x1) :
    ACalls Try.prog 26 [agT x.t, ⟨.one, [A.fn 36 [(0, 0), (1, 0)]]⟩] [some [.ow (0, 0) 1 x1], some [.lit (.bool x2)]]
      (fun res bx => ∃ y1 y2, (y1, y2) = x.holds.foldl stepB (x1, x2) ∧ goodB y1 ∧ res = ⟨.tup [], []⟩ ∧ bx = [some [.ow (0, 0) 1 y1], some [.lit (.bool y2)]]) := by
  have hit : x.tables.length + Mt.szs x.tables ≤ x.sz ∧ x.frames.length + Fr.szs x.frames ≤ x.sz ∧ x.vars.length ≤ x.sz := by simp only [Mc.sz]; omega
  unfold Mt.szs Fr.szs at hit
  have hall := fun l h => allB tell l _ rfl h
  have hv := hall x.vars (by omega) x1 x2 hg
  obtain ⟨R0, hR0⟩ : ∃ R0, R0 = x.holds.foldl stepB (x1, x2) := ⟨_, rfl⟩
  rw [← hR0]
  simp only [Mc.holds, List.foldl_append] at hR0
  obtain ⟨xt, hxt⟩ : ∃ xt, xt = x.tables.map Mt.t := ⟨_, rfl⟩
  obtain ⟨xf, hxf⟩ : ∃ xf, xf = x.frames.map Fr.t := ⟨_, rfl⟩
  simp only [agT, Mc.t, He.t, Rc.t, List.map, tA, List.cons_append, List.nil_append] at hv ⊢
  rw [← hxt, ← hxf]
  generalize x.vars.map intT = xv at *
  generalize x.h.cells.map Ce.t = xc at *
  generalize x.r.fields.map strT = xr at *
  generalize x.out.map byteT = xo at *
  refine gcalls_by tys_ok 79 [] (fn := Try.f26) rfl rfl rfl rfl ?_ ?_ ?_
  · simp [stampFree, litI, A.stamp, A.rstamp, stampIn]
  · simp [stampFree, litI, A.stamp, A.rstamp, stampIn]
  intro O hO P hP C hC R hR
  have hM : P.follows .mixedOrders = true := by rw [hP]; rfl
  obtain ⟨bin, cmp, sadd, scmp, beq, bnot, band, un, wrap, size, byte, sub, len, seg, app, get, set, nat, nadd, nsub, repl, text, bytes, mn, mx, nz, nn, idx, bnd, le, all, one, lits, isB, sOk, aOk, mOk⟩ := O
  have hseg : ∀ e, seg 0 (len e) e = e := by intro e; cases hO; simp
  obtain ⟨N, hN⟩ : ∃ N, N = x.tables.length := ⟨_, rfl⟩
  have hlt' : len xt = N := len_of hO (by simp [hxt, hN])
  have hat : all xt 1 := all_of hO (by subst hxt; simp [Mt.t_len])
  obtain ⟨M, hM2⟩ : ∃ M, M = x.frames.length := ⟨_, rfl⟩
  have hlf : len xf = M := len_of hO (by simp [hxf, hM2])
  have haf : all xf 6 := all_of hO (by subst hxf; simp [Fr.t_len])
  generalize x.r.line = v1 at *
  generalize x.nr = v2 at *
  generalize x.fuel = v3 at *
  generalize x.stop = v4 at *
  generalize x.fault = v5 at *
  generalize x.exit = v6 at *
  generalize x.trap = v7 at *
  obtain ⟨cs, hcs⟩ : ∃ cs : List A, cs = [.ro true xc, .ro true xv, .ro true xt, .ro true xf, .lit (.string v1), .ro true xr, .lit (.int .i64 v2), .ro true xo, .lit (.int .i64 v3), .lit (.int .i64 v4), .lit (.int .i64 v5), .lit (.int .i64 v6), .lit (.bool v7)] := ⟨_, rfl⟩
  repeat' (first
   | (with_reducible first | (refine hK _ ?_; clear hK K) | refine thenA_n ?_ | refine thenA_r ?_ | refine thenA_e ?_ | refine block_n ?_ | refine block_r ?_ | refine block_hit ?_ | refine GWp.seq ?_ | refine GWp.block ?_ | refine GWp.skip ?_ | refine GWp.ret ?_ | refine GWp.exit ?_ | refine need_nil ?_ | refine need_cons True.intro ?_)
   | ((with_reducible first | refine gPost_r ?_ | refine gPost_n ?_ | refine fork_t ?_ | refine fork_f ?_ | (refine GWp.region (base := 2) ?_; intro K hK)); cbv; try simp only [hseg])
   | ((with_reducible refine GWp.cond_t ?hh ?_); (case hh => rfl)) | ((with_reducible refine GWp.cond_f ?hh ?_); (case hh => rfl)) | ((with_reducible refine block_miss ?hh ?_); (case hh => rfl))
   | ((with_reducible refine GWp.draws (base := 2) hM ?hh ?_); (case hh => rfl); intro K hK; cbv; try simp only [hseg])
   | ((with_reducible refine need_cons ?hh ?_); (case hh => first | with_reducible rfl | exact nn_ok hO (by decide))) | fail)
  refine GCall.by ⟨fun _ _ => false, fun _ _ => false, [0, 1, 3]⟩ ?_
  cbv
  try simp only [hseg]
  refine GCallD.by hP rfl (hv) ?_
  rintro res bx ⟨a1, a2, ha12, ga, rfl, rfl⟩
  cbv
  try simp only [hseg]
  rw [← ha12] at hR0
  repeat' (first
   | (with_reducible first | (refine hK _ ?_; clear hK K) | refine thenA_n ?_ | refine thenA_r ?_ | refine thenA_e ?_ | refine block_n ?_ | refine block_r ?_ | refine block_hit ?_ | refine GWp.seq ?_ | refine GWp.block ?_ | refine GWp.skip ?_ | refine GWp.ret ?_ | refine GWp.exit ?_ | refine need_nil ?_ | refine need_cons True.intro ?_)
   | ((with_reducible first | refine gPost_r ?_ | refine gPost_n ?_ | refine fork_t ?_ | refine fork_f ?_ | (refine GWp.region (base := 2) ?_; intro K hK)); cbv; try simp only [hseg])
   | ((with_reducible refine GWp.cond_t ?hh ?_); (case hh => rfl)) | ((with_reducible refine GWp.cond_f ?hh ?_); (case hh => rfl)) | ((with_reducible refine block_miss ?hh ?_); (case hh => rfl))
   | ((with_reducible refine GWp.draws (base := 2) hM ?hh ?_); (case hh => rfl); intro K hK; cbv; try simp only [hseg])
   | ((with_reducible refine need_cons ?hh ?_); (case hh => first | with_reducible rfl | exact nn_ok hO (by decide))) | fail)
  simp only [hlt']
  refine GWp.loop (nb := 4) (keep := fun t => t == 2 || t == 3 || t == 4 || t == 21 || t == 22 || t == 23) (kk := fun _ _ => none) (invTB cs xt x.tables (a1, a2)) (by simp at hC; simp [hC]) ?_ ?_
  · cbv
    exact ⟨_, 0, a1, a2, by rw [hcs, ← hN]; cbv, by simp, by simp, ga, rfl⟩
  rintro L σ ⟨i, y1, y2, rfl, g1, g2, gg, rfl⟩
  try rw [hcs]
  rw [← hN]
  repeat' (first
   | (with_reducible first | (refine hK _ ?_; clear hK K) | refine thenA_n ?_ | refine thenA_r ?_ | refine thenA_e ?_ | refine block_n ?_ | refine block_r ?_ | refine block_hit ?_ | refine GWp.seq ?_ | refine GWp.block ?_ | refine GWp.skip ?_ | refine GWp.ret ?_ | refine GWp.exit ?_ | refine need_nil ?_ | refine need_cons True.intro ?_)
   | ((with_reducible first | refine gPost_r ?_ | refine gPost_n ?_ | refine fork_t ?_ | refine fork_f ?_ | (refine GWp.region (base := 2) ?_; intro K hK)); cbv; try simp only [hseg])
   | ((with_reducible refine GWp.cond_t ?hh ?_); (case hh => rfl)) | ((with_reducible refine GWp.cond_f ?hh ?_); (case hh => rfl)) | ((with_reducible refine block_miss ?hh ?_); (case hh => rfl))
   | ((with_reducible refine GWp.draws (base := 2) hM ?hh ?_); (case hh => rfl); intro K hK; cbv; try simp only [hseg])
   | ((with_reducible refine need_cons ?hh ?_); (case hh => first | with_reducible rfl | exact nn_ok hO (by decide))) | fail)
  refine GWp.cond rfl (fun h4 => ?_) (fun h4 => ?_)
  · have hlt : i < N := by
      try clear hK K
      clear hM hP hC hR; cases hO
      simp only [Ops.std, stdCmp, stdBin, scmp_eql, scmp_neq, stdUn, Int.ofNat_eq_natCast] at *
      simpa using h4
    obtain ⟨y, hy, hy', ht, e1⟩ := map_at hO hxt (hN ▸ hlt)
    have hz1 : ((x.tables.take (i + 1)).flatMap Mt.holds).foldl stepB (a1, a2) = y.holds.foldl stepB (y1, y2) := by rw [flatMap_take ht, List.foldl_append, ← g2]
    have hys := sum_mem (f := Mt.sz) hy
    obtain ⟨l⟩ := y
    simp only [Mt.sz] at hys
    simp only [Mt.t] at e1
    simp only [Mt.holds] at hz1
    obtain ⟨xl, hxl⟩ : ∃ xl, xl = l.map Me.t := ⟨_, rfl⟩
    rw [← hxl] at e1
    obtain ⟨Q, hQ⟩ : ∃ Q, Q = l.length := ⟨_, rfl⟩
    have hlk : len xl = Q := len_of hO (by simp [hxl, hQ])
    have hak : all xl 2 := all_of hO (by subst hxl; simp [Me.t_len])
    have hidx : idx (Int.ofNat i) (len xt) := hlt' ▸ idx_nat hO hlt
    have e : bin .add .i64 (Int.ofNat i) 1 = _ := i_succ hO (by omega)
    repeat' (first
     | (with_reducible first | (refine hK _ ?_; clear hK K) | refine thenA_n ?_ | refine thenA_r ?_ | refine thenA_e ?_ | refine block_n ?_ | refine block_r ?_ | refine block_hit ?_ | refine GWp.seq ?_ | refine GWp.block ?_ | refine GWp.skip ?_ | refine GWp.ret ?_ | refine GWp.exit ?_ | refine need_nil ?_ | refine need_cons True.intro ?_)
     | ((with_reducible first | refine gPost_r ?_ | refine gPost_n ?_ | refine fork_t ?_ | refine fork_f ?_ | (refine GWp.region (base := 2) ?_; intro K hK)); cbv; try simp only [hseg])
     | ((with_reducible refine GWp.cond_t ?hh ?_); (case hh => rfl)) | ((with_reducible refine GWp.cond_f ?hh ?_); (case hh => rfl)) | ((with_reducible refine block_miss ?hh ?_); (case hh => rfl))
     | ((with_reducible refine GWp.draws (base := 2) hM ?hh ?_); (case hh => rfl); intro K hK; cbv; try simp only [hseg])
     | ((with_reducible refine need_cons ?hh ?_); (case hh => first | with_reducible rfl | exact nn_ok hO (by decide))) | fail)
    repeat (simp only [e1]; cbv)
    refine need_cons hidx (need_cons hat (need_nil ?_))
    repeat' (first
     | (with_reducible first | (refine hK _ ?_; clear hK K) | refine thenA_n ?_ | refine thenA_r ?_ | refine thenA_e ?_ | refine block_n ?_ | refine block_r ?_ | refine block_hit ?_ | refine GWp.seq ?_ | refine GWp.block ?_ | refine GWp.skip ?_ | refine GWp.ret ?_ | refine GWp.exit ?_ | refine need_nil ?_ | refine need_cons True.intro ?_)
     | ((with_reducible first | refine gPost_r ?_ | refine gPost_n ?_ | refine fork_t ?_ | refine fork_f ?_ | (refine GWp.region (base := 2) ?_; intro K hK)); cbv; try simp only [hseg])
     | ((with_reducible refine GWp.cond_t ?hh ?_); (case hh => rfl)) | ((with_reducible refine GWp.cond_f ?hh ?_); (case hh => rfl)) | ((with_reducible refine block_miss ?hh ?_); (case hh => rfl))
     | ((with_reducible refine GWp.draws (base := 2) hM ?hh ?_); (case hh => rfl); intro K hK; cbv; try simp only [hseg])
     | ((with_reducible refine need_cons ?hh ?_); (case hh => first | with_reducible rfl | exact nn_ok hO (by decide))) | fail)
    simp only [hlk]
    refine GWp.loop (nb := 4) (keep := fun t => t == 2 || t == 3 || t == 4 || t == 21 || t == 22 || t == 23 || t == 28 || t == 29 || t == 30) (kk := fun _ _ => none) (invEB cs xt N i xl l (y1, y2)) (by simp at hC; simp [hC]) ?_ ?_
    · cbv
      exact ⟨_, 0, y1, y2, by (try rw [hcs]); rw [← hQ]; cbv, by simp, by simp, gg, rfl⟩
    rintro L σ ⟨k, z1, z2, rfl, k1, k2, gk, rfl⟩
    try rw [hcs]
    rw [← hQ]
    repeat' (first
     | (with_reducible first | (refine hK _ ?_; clear hK K) | refine thenA_n ?_ | refine thenA_r ?_ | refine thenA_e ?_ | refine block_n ?_ | refine block_r ?_ | refine block_hit ?_ | refine GWp.seq ?_ | refine GWp.block ?_ | refine GWp.skip ?_ | refine GWp.ret ?_ | refine GWp.exit ?_ | refine need_nil ?_ | refine need_cons True.intro ?_)
     | ((with_reducible first | refine gPost_r ?_ | refine gPost_n ?_ | refine fork_t ?_ | refine fork_f ?_ | (refine GWp.region (base := 2) ?_; intro K hK)); cbv; try simp only [hseg])
     | ((with_reducible refine GWp.cond_t ?hh ?_); (case hh => rfl)) | ((with_reducible refine GWp.cond_f ?hh ?_); (case hh => rfl)) | ((with_reducible refine block_miss ?hh ?_); (case hh => rfl))
     | ((with_reducible refine GWp.draws (base := 2) hM ?hh ?_); (case hh => rfl); intro K hK; cbv; try simp only [hseg])
     | ((with_reducible refine need_cons ?hh ?_); (case hh => first | with_reducible rfl | exact nn_ok hO (by decide))) | fail)
    refine GWp.cond rfl (fun h6 => ?_) (fun h6 => ?_)
    · have hkt : k < Q := by
        try clear hK K
        clear hM hP hC hR; cases hO
        simp only [Ops.std, stdCmp, stdBin, scmp_eql, scmp_neq, stdUn, Int.ofNat_eq_natCast] at *
        simpa using h6
      obtain ⟨z, hz', hz'', htz, e3⟩ := map_at hO hxl (hQ ▸ hkt)
      have hst : ((l.take (k + 1)).map Me.ref).foldl stepB (y1, y2) = stepB (z1, z2) z.ref := by rw [htz, List.map_append, List.foldl_append, ← k2]; rfl
      obtain ⟨key, ref⟩ := z
      simp only [Me.t, List.cons_append, List.nil_append] at e3
      simp only at hst
      have hidk : idx (Int.ofNat k) (len xl) := hlk ▸ idx_nat hO hkt
      have e4 : bin .add .i64 (Int.ofNat k) 1 = _ := i_succ hO (by omega)
      repeat' (first
       | (with_reducible first | (refine hK _ ?_; clear hK K) | refine thenA_n ?_ | refine thenA_r ?_ | refine thenA_e ?_ | refine block_n ?_ | refine block_r ?_ | refine block_hit ?_ | refine GWp.seq ?_ | refine GWp.block ?_ | refine GWp.skip ?_ | refine GWp.ret ?_ | refine GWp.exit ?_ | refine need_nil ?_ | refine need_cons True.intro ?_)
       | ((with_reducible first | refine gPost_r ?_ | refine gPost_n ?_ | refine fork_t ?_ | refine fork_f ?_ | (refine GWp.region (base := 2) ?_; intro K hK)); cbv; try simp only [hseg])
       | ((with_reducible refine GWp.cond_t ?hh ?_); (case hh => rfl)) | ((with_reducible refine GWp.cond_f ?hh ?_); (case hh => rfl)) | ((with_reducible refine block_miss ?hh ?_); (case hh => rfl))
       | ((with_reducible refine GWp.draws (base := 2) hM ?hh ?_); (case hh => rfl); intro K hK; cbv; try simp only [hseg])
       | ((with_reducible refine need_cons ?hh ?_); (case hh => first | with_reducible rfl | exact nn_ok hO (by decide))) | fail)
      repeat (simp only [e3]; cbv)
      refine need_cons hidk (need_cons hak (need_nil ?_))
      repeat' (first
       | (with_reducible first | (refine hK _ ?_; clear hK K) | refine thenA_n ?_ | refine thenA_r ?_ | refine thenA_e ?_ | refine block_n ?_ | refine block_r ?_ | refine block_hit ?_ | refine GWp.seq ?_ | refine GWp.block ?_ | refine GWp.skip ?_ | refine GWp.ret ?_ | refine GWp.exit ?_ | refine need_nil ?_ | refine need_cons True.intro ?_)
       | ((with_reducible first | refine gPost_r ?_ | refine gPost_n ?_ | refine fork_t ?_ | refine fork_f ?_ | (refine GWp.region (base := 2) ?_; intro K hK)); cbv; try simp only [hseg])
       | ((with_reducible refine GWp.cond_t ?hh ?_); (case hh => rfl)) | ((with_reducible refine GWp.cond_f ?hh ?_); (case hh => rfl)) | ((with_reducible refine block_miss ?hh ?_); (case hh => rfl))
       | ((with_reducible refine GWp.draws (base := 2) hM ?hh ?_); (case hh => rfl); intro K hK; cbv; try simp only [hseg])
       | ((with_reducible refine need_cons ?hh ?_); (case hh => first | with_reducible rfl | exact nn_ok hO (by decide))) | fail)
      refine GCall.by ⟨fun _ _ => false, fun _ _ => false, [0, 1]⟩ ?_
      cbv
      try simp only [hseg]
      refine GCallD.by hP rfl (tell ref z1 z2 gk) ?_
      rintro res bx ⟨u1, u2, hu, gu, rfl, rfl⟩
      cbv
      try simp only [hseg]
      repeat' (first
       | (with_reducible first | (refine hK _ ?_; clear hK K) | refine thenA_n ?_ | refine thenA_r ?_ | refine thenA_e ?_ | refine block_n ?_ | refine block_r ?_ | refine block_hit ?_ | refine GWp.seq ?_ | refine GWp.block ?_ | refine GWp.skip ?_ | refine GWp.ret ?_ | refine GWp.exit ?_ | refine need_nil ?_ | refine need_cons True.intro ?_)
       | ((with_reducible first | refine gPost_r ?_ | refine gPost_n ?_ | refine fork_t ?_ | refine fork_f ?_ | (refine GWp.region (base := 2) ?_; intro K hK)); cbv; try simp only [hseg])
       | ((with_reducible refine GWp.cond_t ?hh ?_); (case hh => rfl)) | ((with_reducible refine GWp.cond_f ?hh ?_); (case hh => rfl)) | ((with_reducible refine block_miss ?hh ?_); (case hh => rfl))
       | ((with_reducible refine GWp.draws (base := 2) hM ?hh ?_); (case hh => rfl); intro K hK; cbv; try simp only [hseg])
       | ((with_reducible refine need_cons ?hh ?_); (case hh => first | with_reducible rfl | exact nn_ok hO (by decide))) | fail)
      cbv
      rw [e4]
      exact ⟨Q - (k + 1), by omega, k + 1, u1, u2, by (try rw [hcs]); rw [← hQ]; cbv, by omega, by rw [hst]; exact hu, gu, by rw [hQ]⟩
    · have hke : k = Q := by
        try clear hK K
        clear hM hP hC hR; cases hO
        simp only [Ops.std, stdCmp, stdBin, scmp_eql, scmp_neq, stdUn, Int.ofNat_eq_natCast] at *
        simp at h6; omega
      have e5 : l.take k = l := List.take_of_length_le (by omega)
      rw [e5] at k2
      repeat' (first
       | (with_reducible first | (refine hK _ ?_; clear hK K) | refine thenA_n ?_ | refine thenA_r ?_ | refine thenA_e ?_ | refine block_n ?_ | refine block_r ?_ | refine block_hit ?_ | refine GWp.seq ?_ | refine GWp.block ?_ | refine GWp.skip ?_ | refine GWp.ret ?_ | refine GWp.exit ?_ | refine need_nil ?_ | refine need_cons True.intro ?_)
       | ((with_reducible first | refine gPost_r ?_ | refine gPost_n ?_ | refine fork_t ?_ | refine fork_f ?_ | (refine GWp.region (base := 2) ?_; intro K hK)); cbv; try simp only [hseg])
       | ((with_reducible refine GWp.cond_t ?hh ?_); (case hh => rfl)) | ((with_reducible refine GWp.cond_f ?hh ?_); (case hh => rfl)) | ((with_reducible refine block_miss ?hh ?_); (case hh => rfl))
       | ((with_reducible refine GWp.draws (base := 2) hM ?hh ?_); (case hh => rfl); intro K hK; cbv; try simp only [hseg])
       | ((with_reducible refine need_cons ?hh ?_); (case hh => first | with_reducible rfl | exact nn_ok hO (by decide))) | fail)
      cbv
      rw [e]
      exact ⟨N - (i + 1), by omega, i + 1, z1, z2, by (try rw [hcs]); rw [← hN]; cbv, by omega, by rw [hz1]; exact k2, gk, by rw [hN]⟩
  · have hge : i = N := by
      try clear hK K
      clear hM hP hC hR; cases hO
      simp only [Ops.std, stdCmp, stdBin, scmp_eql, scmp_neq, stdUn, Int.ofNat_eq_natCast] at *
      simp at h4; omega
    have e2 : x.tables.take i = x.tables := List.take_of_length_le (by omega)
    rw [e2] at g2
    rw [← g2] at hR0
    repeat' (first
     | (with_reducible first | (refine hK _ ?_; clear hK K) | refine thenA_n ?_ | refine thenA_r ?_ | refine thenA_e ?_ | refine block_n ?_ | refine block_r ?_ | refine block_hit ?_ | refine GWp.seq ?_ | refine GWp.block ?_ | refine GWp.skip ?_ | refine GWp.ret ?_ | refine GWp.exit ?_ | refine need_nil ?_ | refine need_cons True.intro ?_)
     | ((with_reducible first | refine gPost_r ?_ | refine gPost_n ?_ | refine fork_t ?_ | refine fork_f ?_ | (refine GWp.region (base := 2) ?_; intro K hK)); cbv; try simp only [hseg])
     | ((with_reducible refine GWp.cond_t ?hh ?_); (case hh => rfl)) | ((with_reducible refine GWp.cond_f ?hh ?_); (case hh => rfl)) | ((with_reducible refine block_miss ?hh ?_); (case hh => rfl))
     | ((with_reducible refine GWp.draws (base := 2) hM ?hh ?_); (case hh => rfl); intro K hK; cbv; try simp only [hseg])
     | ((with_reducible refine need_cons ?hh ?_); (case hh => first | with_reducible rfl | exact nn_ok hO (by decide))) | fail)
    simp only [hlf]
    refine GWp.loop (nb := 4) (keep := fun t => t == 2 || t == 3 || t == 4 || t == 41 || t == 42 || t == 43) (kk := fun _ _ => none) (invFB cs xf x.frames (y1, y2)) (by simp at hC; simp [hC]) ?_ ?_
    · cbv
      exact ⟨_, 0, y1, y2, by (try rw [hcs]); rw [← hM2]; cbv, by simp, by simp, gg, rfl⟩
    rintro L σ ⟨j, w1, w2, rfl, j1, j2, gw, rfl⟩
    try rw [hcs]
    rw [← hM2]
    repeat' (first
     | (with_reducible first | (refine hK _ ?_; clear hK K) | refine thenA_n ?_ | refine thenA_r ?_ | refine thenA_e ?_ | refine block_n ?_ | refine block_r ?_ | refine block_hit ?_ | refine GWp.seq ?_ | refine GWp.block ?_ | refine GWp.skip ?_ | refine GWp.ret ?_ | refine GWp.exit ?_ | refine need_nil ?_ | refine need_cons True.intro ?_)
     | ((with_reducible first | refine gPost_r ?_ | refine gPost_n ?_ | refine fork_t ?_ | refine fork_f ?_ | (refine GWp.region (base := 2) ?_; intro K hK)); cbv; try simp only [hseg])
     | ((with_reducible refine GWp.cond_t ?hh ?_); (case hh => rfl)) | ((with_reducible refine GWp.cond_f ?hh ?_); (case hh => rfl)) | ((with_reducible refine block_miss ?hh ?_); (case hh => rfl))
     | ((with_reducible refine GWp.draws (base := 2) hM ?hh ?_); (case hh => rfl); intro K hK; cbv; try simp only [hseg])
     | ((with_reducible refine need_cons ?hh ?_); (case hh => first | with_reducible rfl | exact nn_ok hO (by decide))) | fail)
    refine GWp.cond rfl (fun h5 => ?_) (fun h5 => ?_)
    · have hjt : j < M := by
        try clear hK K
        clear hM hP hC hR; cases hO
        simp only [Ops.std, stdCmp, stdBin, scmp_eql, scmp_neq, stdUn, Int.ofNat_eq_natCast] at *
        simpa using h5
      obtain ⟨y, hy, hy', ht, e1⟩ := map_at hO hxf (hM2 ▸ hjt)
      have hz1 : ((x.frames.take (j + 1)).flatMap Fr.holds).foldl stepB (y1, y2) = y.holds.foldl stepB (w1, w2) := by rw [flatMap_take ht, List.foldl_append, ← j2]
      have hys := sum_mem (f := Fr.sz) hy
      obtain ⟨f1, f2, locals, stack, labels, iters⟩ := y
      simp only [Fr.sz, It.szs] at hys
      have hva := hall locals (by omega) w1 w2 gw
      simp only [Fr.t, List.cons_append, List.nil_append] at e1
      simp only [Fr.holds, List.foldl_append] at hz1
      generalize locals.map intT = z3 at hva e1
      obtain ⟨xs, hxs⟩ : ∃ xs, xs = stack.map Sl.t := ⟨_, rfl⟩
      obtain ⟨xi, hxi⟩ : ∃ xi, xi = iters.map It.t := ⟨_, rfl⟩
      rw [← hxs, ← hxi] at e1
      generalize labels.map La.t = z5 at e1
      obtain ⟨P1, hP1⟩ : ∃ P1, P1 = stack.length := ⟨_, rfl⟩
      have hls : len xs = P1 := len_of hO (by simp [hxs, hP1])
      have has : all xs 2 := all_of hO (by subst hxs; simp [Sl.t_len])
      obtain ⟨P2, hP2⟩ : ∃ P2, P2 = iters.length := ⟨_, rfl⟩
      have hli : len xi = P2 := len_of hO (by simp [hxi, hP2])
      have hai : all xi 2 := all_of hO (by subst hxi; simp [It.t_len])
      obtain ⟨fs, hfs⟩ : ∃ fs : List A, fs = [.lit (.int .i64 f1), .lit (.int .i64 f2), .ro true z3, .ro true xs, .ro true z5, .ro true xi] := ⟨_, rfl⟩
      have hidx : idx (Int.ofNat j) (len xf) := hlf ▸ idx_nat hO hjt
      have e : bin .add .i64 (Int.ofNat j) 1 = _ := i_succ hO (by omega)
      have hnt : bnot true = false := by cases hO; rfl
      have hnf : bnot false = true := by cases hO; rfl
      repeat' (first
       | (with_reducible first | (refine hK _ ?_; clear hK K) | refine thenA_n ?_ | refine thenA_r ?_ | refine thenA_e ?_ | refine block_n ?_ | refine block_r ?_ | refine block_hit ?_ | refine GWp.seq ?_ | refine GWp.block ?_ | refine GWp.skip ?_ | refine GWp.ret ?_ | refine GWp.exit ?_ | refine need_nil ?_ | refine need_cons True.intro ?_)
       | ((with_reducible first | refine gPost_r ?_ | refine gPost_n ?_ | refine fork_t ?_ | refine fork_f ?_ | (refine GWp.region (base := 2) ?_; intro K hK)); cbv; try simp only [hseg])
       | ((with_reducible refine GWp.cond_t ?hh ?_); (case hh => rfl)) | ((with_reducible refine GWp.cond_f ?hh ?_); (case hh => rfl)) | ((with_reducible refine block_miss ?hh ?_); (case hh => rfl))
       | ((with_reducible refine GWp.draws (base := 2) hM ?hh ?_); (case hh => rfl); intro K hK; cbv; try simp only [hseg])
       | ((with_reducible refine need_cons ?hh ?_); (case hh => first | with_reducible rfl | exact nn_ok hO (by decide))) | fail)
      repeat (simp only [e1]; cbv)
      refine need_cons hidx (need_cons haf (need_nil ?_))
      repeat' (first
       | (with_reducible first | (refine hK _ ?_; clear hK K) | refine thenA_n ?_ | refine thenA_r ?_ | refine thenA_e ?_ | refine block_n ?_ | refine block_r ?_ | refine block_hit ?_ | refine GWp.seq ?_ | refine GWp.block ?_ | refine GWp.skip ?_ | refine GWp.ret ?_ | refine GWp.exit ?_ | refine need_nil ?_ | refine need_cons True.intro ?_)
       | ((with_reducible first | refine gPost_r ?_ | refine gPost_n ?_ | refine fork_t ?_ | refine fork_f ?_ | (refine GWp.region (base := 2) ?_; intro K hK)); cbv; try simp only [hseg])
       | ((with_reducible refine GWp.cond_t ?hh ?_); (case hh => rfl)) | ((with_reducible refine GWp.cond_f ?hh ?_); (case hh => rfl)) | ((with_reducible refine block_miss ?hh ?_); (case hh => rfl))
       | ((with_reducible refine GWp.draws (base := 2) hM ?hh ?_); (case hh => rfl); intro K hK; cbv; try simp only [hseg])
       | ((with_reducible refine need_cons ?hh ?_); (case hh => first | with_reducible rfl | exact nn_ok hO (by decide))) | fail)
      refine GCall.by ⟨fun _ _ => false, fun _ _ => false, [0, 1, 3]⟩ ?_
      cbv
      try simp only [hseg]
      refine GCallD.by hP rfl (hva) ?_
      rintro res bx ⟨b1, b2, hb12, gb, rfl, rfl⟩
      cbv
      try simp only [hseg]
      rw [← hb12] at hz1
      repeat' (first
       | (with_reducible first | (refine hK _ ?_; clear hK K) | refine thenA_n ?_ | refine thenA_r ?_ | refine thenA_e ?_ | refine block_n ?_ | refine block_r ?_ | refine block_hit ?_ | refine GWp.seq ?_ | refine GWp.block ?_ | refine GWp.skip ?_ | refine GWp.ret ?_ | refine GWp.exit ?_ | refine need_nil ?_ | refine need_cons True.intro ?_)
       | ((with_reducible first | refine gPost_r ?_ | refine gPost_n ?_ | refine fork_t ?_ | refine fork_f ?_ | (refine GWp.region (base := 2) ?_; intro K hK)); cbv; try simp only [hseg])
       | ((with_reducible refine GWp.cond_t ?hh ?_); (case hh => rfl)) | ((with_reducible refine GWp.cond_f ?hh ?_); (case hh => rfl)) | ((with_reducible refine block_miss ?hh ?_); (case hh => rfl))
       | ((with_reducible refine GWp.draws (base := 2) hM ?hh ?_); (case hh => rfl); intro K hK; cbv; try simp only [hseg])
       | ((with_reducible refine need_cons ?hh ?_); (case hh => first | with_reducible rfl | exact nn_ok hO (by decide))) | fail)
      simp only [hls]
      refine GWp.loop (nb := 5) (keep := fun t => t == 2 || t == 3 || t == 4 || t == 10 || t == 41 || t == 42 || t == 43 || t == 52 || t == 53 || t == 54) (kk := fun _ _ => none) (invSB cs fs xf M j xs stack (b1, b2)) (by simp at hC; simp [hC]) ?_ ?_
      · cbv
        exact ⟨_, 0, b1, b2, by (try rw [hcs]); rw [hfs, ← hP1]; cbv, by simp, by simp, gb, rfl⟩
      rintro L σ ⟨k, c1, c2, rfl, k1, k2, gk, rfl⟩
      try rw [hcs]
      rw [← hP1]
      try rw [hfs]
      repeat' (first
       | (with_reducible first | (refine hK _ ?_; clear hK K) | refine thenA_n ?_ | refine thenA_r ?_ | refine thenA_e ?_ | refine block_n ?_ | refine block_r ?_ | refine block_hit ?_ | refine GWp.seq ?_ | refine GWp.block ?_ | refine GWp.skip ?_ | refine GWp.ret ?_ | refine GWp.exit ?_ | refine need_nil ?_ | refine need_cons True.intro ?_)
       | ((with_reducible first | refine gPost_r ?_ | refine gPost_n ?_ | refine fork_t ?_ | refine fork_f ?_ | (refine GWp.region (base := 2) ?_; intro K hK)); cbv; try simp only [hseg])
       | ((with_reducible refine GWp.cond_t ?hh ?_); (case hh => rfl)) | ((with_reducible refine GWp.cond_f ?hh ?_); (case hh => rfl)) | ((with_reducible refine block_miss ?hh ?_); (case hh => rfl))
       | ((with_reducible refine GWp.draws (base := 2) hM ?hh ?_); (case hh => rfl); intro K hK; cbv; try simp only [hseg])
       | ((with_reducible refine need_cons ?hh ?_); (case hh => first | with_reducible rfl | exact nn_ok hO (by decide))) | fail)
      refine GWp.cond rfl (fun h6 => ?_) (fun h6 => ?_)
      · have hkt : k < P1 := by
          try clear hK K
          clear hM hP hC hR; cases hO
          simp only [Ops.std, stdCmp, stdBin, scmp_eql, scmp_neq, stdUn, Int.ofNat_eq_natCast] at *
          simpa using h6
        obtain ⟨z, hz', hz'', htz, e3⟩ := map_at hO hxs (hP1 ▸ hkt)
        have hst : ((stack.take (k + 1)).flatMap Sl.holds).foldl stepB (b1, b2) = z.holds.foldl stepB (c1, c2) := by rw [flatMap_take htz, List.foldl_append, ← k2]
        obtain ⟨num, n1⟩ := z
        simp only [Sl.t, List.cons_append, List.nil_append] at e3
        simp only [Sl.holds] at hst
        have hidk : idx (Int.ofNat k) (len xs) := hls ▸ idx_nat hO hkt
        have e4 : bin .add .i64 (Int.ofNat k) 1 = _ := i_succ hO (by omega)
        cases num
        · simp only [Bool.false_eq_true, if_false, List.foldl_cons, List.foldl_nil] at hst
          repeat' (first
           | (with_reducible first | (refine hK _ ?_; clear hK K) | refine thenA_n ?_ | refine thenA_r ?_ | refine thenA_e ?_ | refine block_n ?_ | refine block_r ?_ | refine block_hit ?_ | refine GWp.seq ?_ | refine GWp.block ?_ | refine GWp.skip ?_ | refine GWp.ret ?_ | refine GWp.exit ?_ | refine need_nil ?_ | refine need_cons True.intro ?_)
           | ((with_reducible first | refine gPost_r ?_ | refine gPost_n ?_ | refine fork_t ?_ | refine fork_f ?_ | (refine GWp.region (base := 2) ?_; intro K hK)); cbv; try simp only [hseg])
           | ((with_reducible refine GWp.cond_t ?hh ?_); (case hh => rfl)) | ((with_reducible refine GWp.cond_f ?hh ?_); (case hh => rfl)) | ((with_reducible refine block_miss ?hh ?_); (case hh => rfl))
           | ((with_reducible refine GWp.draws (base := 2) hM ?hh ?_); (case hh => rfl); intro K hK; cbv; try simp only [hseg])
           | ((with_reducible refine need_cons ?hh ?_); (case hh => first | with_reducible rfl | exact nn_ok hO (by decide))) | fail)
          repeat (simp only [e3]; cbv)
          refine need_cons hidk (need_cons has (need_nil ?_))
          repeat' (first
           | (with_reducible first | (refine hK _ ?_; clear hK K) | refine thenA_n ?_ | refine thenA_r ?_ | refine thenA_e ?_ | refine block_n ?_ | refine block_r ?_ | refine block_hit ?_ | refine GWp.seq ?_ | refine GWp.block ?_ | refine GWp.skip ?_ | refine GWp.ret ?_ | refine GWp.exit ?_ | refine need_nil ?_ | refine need_cons True.intro ?_)
           | ((with_reducible first | refine gPost_r ?_ | refine gPost_n ?_ | refine fork_t ?_ | refine fork_f ?_ | (refine GWp.region (base := 2) ?_; intro K hK)); cbv; try simp only [hseg])
           | ((with_reducible refine GWp.cond_t ?hh ?_); (case hh => rfl)) | ((with_reducible refine GWp.cond_f ?hh ?_); (case hh => rfl)) | ((with_reducible refine block_miss ?hh ?_); (case hh => rfl))
           | ((with_reducible refine GWp.draws (base := 2) hM ?hh ?_); (case hh => rfl); intro K hK; cbv; try simp only [hseg])
           | ((with_reducible refine need_cons ?hh ?_); (case hh => first | with_reducible rfl | exact nn_ok hO (by decide))) | fail)
          simp only [hnf]
          repeat' (first
           | (with_reducible first | (refine hK _ ?_; clear hK K) | refine thenA_n ?_ | refine thenA_r ?_ | refine thenA_e ?_ | refine block_n ?_ | refine block_r ?_ | refine block_hit ?_ | refine GWp.seq ?_ | refine GWp.block ?_ | refine GWp.skip ?_ | refine GWp.ret ?_ | refine GWp.exit ?_ | refine need_nil ?_ | refine need_cons True.intro ?_)
           | ((with_reducible first | refine gPost_r ?_ | refine gPost_n ?_ | refine fork_t ?_ | refine fork_f ?_ | (refine GWp.region (base := 2) ?_; intro K hK)); cbv; try simp only [hseg])
           | ((with_reducible refine GWp.cond_t ?hh ?_); (case hh => rfl)) | ((with_reducible refine GWp.cond_f ?hh ?_); (case hh => rfl)) | ((with_reducible refine block_miss ?hh ?_); (case hh => rfl))
           | ((with_reducible refine GWp.draws (base := 2) hM ?hh ?_); (case hh => rfl); intro K hK; cbv; try simp only [hseg])
           | ((with_reducible refine need_cons ?hh ?_); (case hh => first | with_reducible rfl | exact nn_ok hO (by decide))) | fail)
          refine GCall.by ⟨fun _ _ => false, fun _ _ => false, [0, 1]⟩ ?_
          cbv
          try simp only [hseg]
          refine GCallD.by hP rfl (tell n1 c1 c2 gk) ?_
          rintro res bx ⟨u1, u2, hu, gu, rfl, rfl⟩
          cbv
          try simp only [hseg]
          repeat' (first
           | (with_reducible first | (refine hK _ ?_; clear hK K) | refine thenA_n ?_ | refine thenA_r ?_ | refine thenA_e ?_ | refine block_n ?_ | refine block_r ?_ | refine block_hit ?_ | refine GWp.seq ?_ | refine GWp.block ?_ | refine GWp.skip ?_ | refine GWp.ret ?_ | refine GWp.exit ?_ | refine need_nil ?_ | refine need_cons True.intro ?_)
           | ((with_reducible first | refine gPost_r ?_ | refine gPost_n ?_ | refine fork_t ?_ | refine fork_f ?_ | (refine GWp.region (base := 2) ?_; intro K hK)); cbv; try simp only [hseg])
           | ((with_reducible refine GWp.cond_t ?hh ?_); (case hh => rfl)) | ((with_reducible refine GWp.cond_f ?hh ?_); (case hh => rfl)) | ((with_reducible refine block_miss ?hh ?_); (case hh => rfl))
           | ((with_reducible refine GWp.draws (base := 2) hM ?hh ?_); (case hh => rfl); intro K hK; cbv; try simp only [hseg])
           | ((with_reducible refine need_cons ?hh ?_); (case hh => first | with_reducible rfl | exact nn_ok hO (by decide))) | fail)
          cbv
          rw [e4]
          exact ⟨P1 - (k + 1), by omega, k + 1, u1, u2, by (try rw [hcs]); (try rw [hfs]); rw [← hP1]; cbv, by omega, by rw [hst]; exact hu, gu, by rw [hP1]⟩
        · simp only [if_true, List.foldl_nil] at hst
          repeat' (first
           | (with_reducible first | (refine hK _ ?_; clear hK K) | refine thenA_n ?_ | refine thenA_r ?_ | refine thenA_e ?_ | refine block_n ?_ | refine block_r ?_ | refine block_hit ?_ | refine GWp.seq ?_ | refine GWp.block ?_ | refine GWp.skip ?_ | refine GWp.ret ?_ | refine GWp.exit ?_ | refine need_nil ?_ | refine need_cons True.intro ?_)
           | ((with_reducible first | refine gPost_r ?_ | refine gPost_n ?_ | refine fork_t ?_ | refine fork_f ?_ | (refine GWp.region (base := 2) ?_; intro K hK)); cbv; try simp only [hseg])
           | ((with_reducible refine GWp.cond_t ?hh ?_); (case hh => rfl)) | ((with_reducible refine GWp.cond_f ?hh ?_); (case hh => rfl)) | ((with_reducible refine block_miss ?hh ?_); (case hh => rfl))
           | ((with_reducible refine GWp.draws (base := 2) hM ?hh ?_); (case hh => rfl); intro K hK; cbv; try simp only [hseg])
           | ((with_reducible refine need_cons ?hh ?_); (case hh => first | with_reducible rfl | exact nn_ok hO (by decide))) | fail)
          repeat (simp only [e3]; cbv)
          refine need_cons hidk (need_cons has (need_nil ?_))
          repeat' (first
           | (with_reducible first | (refine hK _ ?_; clear hK K) | refine thenA_n ?_ | refine thenA_r ?_ | refine thenA_e ?_ | refine block_n ?_ | refine block_r ?_ | refine block_hit ?_ | refine GWp.seq ?_ | refine GWp.block ?_ | refine GWp.skip ?_ | refine GWp.ret ?_ | refine GWp.exit ?_ | refine need_nil ?_ | refine need_cons True.intro ?_)
           | ((with_reducible first | refine gPost_r ?_ | refine gPost_n ?_ | refine fork_t ?_ | refine fork_f ?_ | (refine GWp.region (base := 2) ?_; intro K hK)); cbv; try simp only [hseg])
           | ((with_reducible refine GWp.cond_t ?hh ?_); (case hh => rfl)) | ((with_reducible refine GWp.cond_f ?hh ?_); (case hh => rfl)) | ((with_reducible refine block_miss ?hh ?_); (case hh => rfl))
           | ((with_reducible refine GWp.draws (base := 2) hM ?hh ?_); (case hh => rfl); intro K hK; cbv; try simp only [hseg])
           | ((with_reducible refine need_cons ?hh ?_); (case hh => first | with_reducible rfl | exact nn_ok hO (by decide))) | fail)
          simp only [hnt]
          repeat' (first
           | (with_reducible first | (refine hK _ ?_; clear hK K) | refine thenA_n ?_ | refine thenA_r ?_ | refine thenA_e ?_ | refine block_n ?_ | refine block_r ?_ | refine block_hit ?_ | refine GWp.seq ?_ | refine GWp.block ?_ | refine GWp.skip ?_ | refine GWp.ret ?_ | refine GWp.exit ?_ | refine need_nil ?_ | refine need_cons True.intro ?_)
           | ((with_reducible first | refine gPost_r ?_ | refine gPost_n ?_ | refine fork_t ?_ | refine fork_f ?_ | (refine GWp.region (base := 2) ?_; intro K hK)); cbv; try simp only [hseg])
           | ((with_reducible refine GWp.cond_t ?hh ?_); (case hh => rfl)) | ((with_reducible refine GWp.cond_f ?hh ?_); (case hh => rfl)) | ((with_reducible refine block_miss ?hh ?_); (case hh => rfl))
           | ((with_reducible refine GWp.draws (base := 2) hM ?hh ?_); (case hh => rfl); intro K hK; cbv; try simp only [hseg])
           | ((with_reducible refine need_cons ?hh ?_); (case hh => first | with_reducible rfl | exact nn_ok hO (by decide))) | fail)
          cbv
          rw [e4]
          exact ⟨P1 - (k + 1), by omega, k + 1, c1, c2, by (try rw [hcs]); (try rw [hfs]); rw [← hP1]; cbv, by omega, by rw [hst], gk, by rw [hP1]⟩
      · have hke : k = P1 := by
          try clear hK K
          clear hM hP hC hR; cases hO
          simp only [Ops.std, stdCmp, stdBin, scmp_eql, scmp_neq, stdUn, Int.ofNat_eq_natCast] at *
          simp at h6; omega
        have e5 : stack.take k = stack := List.take_of_length_le (by omega)
        rw [e5] at k2
        rw [← k2] at hz1
        repeat' (first
         | (with_reducible first | (refine hK _ ?_; clear hK K) | refine thenA_n ?_ | refine thenA_r ?_ | refine thenA_e ?_ | refine block_n ?_ | refine block_r ?_ | refine block_hit ?_ | refine GWp.seq ?_ | refine GWp.block ?_ | refine GWp.skip ?_ | refine GWp.ret ?_ | refine GWp.exit ?_ | refine need_nil ?_ | refine need_cons True.intro ?_)
         | ((with_reducible first | refine gPost_r ?_ | refine gPost_n ?_ | refine fork_t ?_ | refine fork_f ?_ | (refine GWp.region (base := 2) ?_; intro K hK)); cbv; try simp only [hseg])
         | ((with_reducible refine GWp.cond_t ?hh ?_); (case hh => rfl)) | ((with_reducible refine GWp.cond_f ?hh ?_); (case hh => rfl)) | ((with_reducible refine block_miss ?hh ?_); (case hh => rfl))
         | ((with_reducible refine GWp.draws (base := 2) hM ?hh ?_); (case hh => rfl); intro K hK; cbv; try simp only [hseg])
         | ((with_reducible refine need_cons ?hh ?_); (case hh => first | with_reducible rfl | exact nn_ok hO (by decide))) | fail)
        simp only [hli]
        refine GWp.loop (nb := 4) (keep := fun t => t == 2 || t == 3 || t == 4 || t == 41 || t == 42 || t == 43 || t == 67 || t == 68 || t == 69) (kk := fun _ _ => none) (invIB cs xf M j xi iters (c1, c2)) (by simp at hC; simp [hC]) ?_ ?_
        · cbv
          exact ⟨_, 0, c1, c2, by (try rw [hcs]); rw [← hP2]; cbv, by simp, by simp, gk, rfl⟩
        rintro L σ ⟨q, d1, d2, rfl, q1, q2, gq, rfl⟩
        try rw [hcs]
        rw [← hP2]
        repeat' (first
         | (with_reducible first | (refine hK _ ?_; clear hK K) | refine thenA_n ?_ | refine thenA_r ?_ | refine thenA_e ?_ | refine block_n ?_ | refine block_r ?_ | refine block_hit ?_ | refine GWp.seq ?_ | refine GWp.block ?_ | refine GWp.skip ?_ | refine GWp.ret ?_ | refine GWp.exit ?_ | refine need_nil ?_ | refine need_cons True.intro ?_)
         | ((with_reducible first | refine gPost_r ?_ | refine gPost_n ?_ | refine fork_t ?_ | refine fork_f ?_ | (refine GWp.region (base := 2) ?_; intro K hK)); cbv; try simp only [hseg])
         | ((with_reducible refine GWp.cond_t ?hh ?_); (case hh => rfl)) | ((with_reducible refine GWp.cond_f ?hh ?_); (case hh => rfl)) | ((with_reducible refine block_miss ?hh ?_); (case hh => rfl))
         | ((with_reducible refine GWp.draws (base := 2) hM ?hh ?_); (case hh => rfl); intro K hK; cbv; try simp only [hseg])
         | ((with_reducible refine need_cons ?hh ?_); (case hh => first | with_reducible rfl | exact nn_ok hO (by decide))) | fail)
        refine GWp.cond rfl (fun h7 => ?_) (fun h7 => ?_)
        · have hqt : q < P2 := by
            try clear hK K
            clear hM hP hC hR; cases hO
            simp only [Ops.std, stdCmp, stdBin, scmp_eql, scmp_neq, stdUn, Int.ofNat_eq_natCast] at *
            simpa using h7
          obtain ⟨z, hz', hz'', htz, e3⟩ := map_at hO hxi (hP2 ▸ hqt)
          have hst : ((iters.take (q + 1)).flatMap It.holds).foldl stepB (c1, c2) = z.holds.foldl stepB (d1, d2) := by rw [flatMap_take htz, List.foldl_append, ← q2]
          have hzs := sum_mem (f := It.sz) hz'
          have hzl := z.holds_len
          have hnk : z.keys.length ≤ 1048576 := by simp only [It.sz] at hzs; omega
          have hnt2 := c_notTaken z hnk
          have hva2 := hall z.holds (by omega) d1 d2 gq
          obtain ⟨ys, hys2⟩ : ∃ ys, ys = z.holds.map intT := ⟨_, rfl⟩
          rw [← hys2] at hva2 hnt2
          generalize z.holds = zh at hst hva2
          clear hys2
          obtain ⟨keys, at_⟩ := z
          simp only [It.t, agT, List.map, tA, List.cons_append, List.nil_append] at e3 hnt2
          generalize keys.map intT = xk at e3 hnt2
          have hidk : idx (Int.ofNat q) (len xi) := hli ▸ idx_nat hO hqt
          have e4 : bin .add .i64 (Int.ofNat q) 1 = _ := i_succ hO (by omega)
          repeat' (first
           | (with_reducible first | (refine hK _ ?_; clear hK K) | refine thenA_n ?_ | refine thenA_r ?_ | refine thenA_e ?_ | refine block_n ?_ | refine block_r ?_ | refine block_hit ?_ | refine GWp.seq ?_ | refine GWp.block ?_ | refine GWp.skip ?_ | refine GWp.ret ?_ | refine GWp.exit ?_ | refine need_nil ?_ | refine need_cons True.intro ?_)
           | ((with_reducible first | refine gPost_r ?_ | refine gPost_n ?_ | refine fork_t ?_ | refine fork_f ?_ | (refine GWp.region (base := 2) ?_; intro K hK)); cbv; try simp only [hseg])
           | ((with_reducible refine GWp.cond_t ?hh ?_); (case hh => rfl)) | ((with_reducible refine GWp.cond_f ?hh ?_); (case hh => rfl)) | ((with_reducible refine block_miss ?hh ?_); (case hh => rfl))
           | ((with_reducible refine GWp.draws (base := 2) hM ?hh ?_); (case hh => rfl); intro K hK; cbv; try simp only [hseg])
           | ((with_reducible refine need_cons ?hh ?_); (case hh => first | with_reducible rfl | exact nn_ok hO (by decide))) | fail)
          repeat (simp only [e3]; cbv)
          refine need_cons hidk (need_cons hai (need_nil ?_))
          repeat' (first
           | (with_reducible first | (refine hK _ ?_; clear hK K) | refine thenA_n ?_ | refine thenA_r ?_ | refine thenA_e ?_ | refine block_n ?_ | refine block_r ?_ | refine block_hit ?_ | refine GWp.seq ?_ | refine GWp.block ?_ | refine GWp.skip ?_ | refine GWp.ret ?_ | refine GWp.exit ?_ | refine need_nil ?_ | refine need_cons True.intro ?_)
           | ((with_reducible first | refine gPost_r ?_ | refine gPost_n ?_ | refine fork_t ?_ | refine fork_f ?_ | (refine GWp.region (base := 2) ?_; intro K hK)); cbv; try simp only [hseg])
           | ((with_reducible refine GWp.cond_t ?hh ?_); (case hh => rfl)) | ((with_reducible refine GWp.cond_f ?hh ?_); (case hh => rfl)) | ((with_reducible refine block_miss ?hh ?_); (case hh => rfl))
           | ((with_reducible refine GWp.draws (base := 2) hM ?hh ?_); (case hh => rfl); intro K hK; cbv; try simp only [hseg])
           | ((with_reducible refine need_cons ?hh ?_); (case hh => first | with_reducible rfl | exact nn_ok hO (by decide))) | fail)
          refine GCall.by ⟨fun _ _ => false, fun _ _ => false, []⟩ ?_
          cbv
          try simp only [hseg]
          refine GCallD.by hP rfl (hnt2) ?_
          rintro res bx ⟨ys', hys', rfl, rfl⟩
          cbv
          try simp only [hseg]
          subst hys'
          repeat' (first
           | (with_reducible first | (refine hK _ ?_; clear hK K) | refine thenA_n ?_ | refine thenA_r ?_ | refine thenA_e ?_ | refine block_n ?_ | refine block_r ?_ | refine block_hit ?_ | refine GWp.seq ?_ | refine GWp.block ?_ | refine GWp.skip ?_ | refine GWp.ret ?_ | refine GWp.exit ?_ | refine need_nil ?_ | refine need_cons True.intro ?_)
           | ((with_reducible first | refine gPost_r ?_ | refine gPost_n ?_ | refine fork_t ?_ | refine fork_f ?_ | (refine GWp.region (base := 2) ?_; intro K hK)); cbv; try simp only [hseg])
           | ((with_reducible refine GWp.cond_t ?hh ?_); (case hh => rfl)) | ((with_reducible refine GWp.cond_f ?hh ?_); (case hh => rfl)) | ((with_reducible refine block_miss ?hh ?_); (case hh => rfl))
           | ((with_reducible refine GWp.draws (base := 2) hM ?hh ?_); (case hh => rfl); intro K hK; cbv; try simp only [hseg])
           | ((with_reducible refine need_cons ?hh ?_); (case hh => first | with_reducible rfl | exact nn_ok hO (by decide))) | fail)
          refine GCall.by ⟨fun _ _ => false, fun _ _ => false, [0, 1, 3]⟩ ?_
          cbv
          try simp only [hseg]
          refine GCallD.by hP rfl (hva2) ?_
          rintro res bx ⟨u1, u2, hu, gu, rfl, rfl⟩
          cbv
          try simp only [hseg]
          repeat' (first
           | (with_reducible first | (refine hK _ ?_; clear hK K) | refine thenA_n ?_ | refine thenA_r ?_ | refine thenA_e ?_ | refine block_n ?_ | refine block_r ?_ | refine block_hit ?_ | refine GWp.seq ?_ | refine GWp.block ?_ | refine GWp.skip ?_ | refine GWp.ret ?_ | refine GWp.exit ?_ | refine need_nil ?_ | refine need_cons True.intro ?_)
           | ((with_reducible first | refine gPost_r ?_ | refine gPost_n ?_ | refine fork_t ?_ | refine fork_f ?_ | (refine GWp.region (base := 2) ?_; intro K hK)); cbv; try simp only [hseg])
           | ((with_reducible refine GWp.cond_t ?hh ?_); (case hh => rfl)) | ((with_reducible refine GWp.cond_f ?hh ?_); (case hh => rfl)) | ((with_reducible refine block_miss ?hh ?_); (case hh => rfl))
           | ((with_reducible refine GWp.draws (base := 2) hM ?hh ?_); (case hh => rfl); intro K hK; cbv; try simp only [hseg])
           | ((with_reducible refine need_cons ?hh ?_); (case hh => first | with_reducible rfl | exact nn_ok hO (by decide))) | fail)
          cbv
          rw [e4]
          exact ⟨P2 - (q + 1), by omega, q + 1, u1, u2, by (try rw [hcs]); rw [← hP2]; cbv, by omega, by rw [hst]; exact hu, gu, by rw [hP2]⟩
        · have hqe : q = P2 := by
            try clear hK K
            clear hM hP hC hR; cases hO
            simp only [Ops.std, stdCmp, stdBin, scmp_eql, scmp_neq, stdUn, Int.ofNat_eq_natCast] at *
            simp at h7; omega
          have e6 : iters.take q = iters := List.take_of_length_le (by omega)
          rw [e6] at q2
          rw [← q2] at hz1
          repeat' (first
           | (with_reducible first | (refine hK _ ?_; clear hK K) | refine thenA_n ?_ | refine thenA_r ?_ | refine thenA_e ?_ | refine block_n ?_ | refine block_r ?_ | refine block_hit ?_ | refine GWp.seq ?_ | refine GWp.block ?_ | refine GWp.skip ?_ | refine GWp.ret ?_ | refine GWp.exit ?_ | refine need_nil ?_ | refine need_cons True.intro ?_)
           | ((with_reducible first | refine gPost_r ?_ | refine gPost_n ?_ | refine fork_t ?_ | refine fork_f ?_ | (refine GWp.region (base := 2) ?_; intro K hK)); cbv; try simp only [hseg])
           | ((with_reducible refine GWp.cond_t ?hh ?_); (case hh => rfl)) | ((with_reducible refine GWp.cond_f ?hh ?_); (case hh => rfl)) | ((with_reducible refine block_miss ?hh ?_); (case hh => rfl))
           | ((with_reducible refine GWp.draws (base := 2) hM ?hh ?_); (case hh => rfl); intro K hK; cbv; try simp only [hseg])
           | ((with_reducible refine need_cons ?hh ?_); (case hh => first | with_reducible rfl | exact nn_ok hO (by decide))) | fail)
          cbv
          rw [e]
          exact ⟨M - (j + 1), by omega, j + 1, d1, d2, by (try rw [hcs]); rw [← hM2]; cbv, by omega, by rw [hz1], gq, by rw [hM2]⟩
    · have hge2 : j = M := by
        try clear hK K
        clear hM hP hC hR; cases hO
        simp only [Ops.std, stdCmp, stdBin, scmp_eql, scmp_neq, stdUn, Int.ofNat_eq_natCast] at *
        simp at h5; omega
      have e5 : x.frames.take j = x.frames := List.take_of_length_le (by omega)
      rw [e5] at j2
      rw [← j2] at hR0
      repeat' (first
       | (with_reducible first | (refine hK _ ?_; clear hK K) | refine thenA_n ?_ | refine thenA_r ?_ | refine thenA_e ?_ | refine block_n ?_ | refine block_r ?_ | refine block_hit ?_ | refine GWp.seq ?_ | refine GWp.block ?_ | refine GWp.skip ?_ | refine GWp.ret ?_ | refine GWp.exit ?_ | refine need_nil ?_ | refine need_cons True.intro ?_)
       | ((with_reducible first | refine gPost_r ?_ | refine gPost_n ?_ | refine fork_t ?_ | refine fork_f ?_ | (refine GWp.region (base := 2) ?_; intro K hK)); cbv; try simp only [hseg])
       | ((with_reducible refine GWp.cond_t ?hh ?_); (case hh => rfl)) | ((with_reducible refine GWp.cond_f ?hh ?_); (case hh => rfl)) | ((with_reducible refine block_miss ?hh ?_); (case hh => rfl))
       | ((with_reducible refine GWp.draws (base := 2) hM ?hh ?_); (case hh => rfl); intro K hK; cbv; try simp only [hseg])
       | ((with_reducible refine need_cons ?hh ?_); (case hh => first | with_reducible rfl | exact nn_ok hO (by decide))) | fail)
      exact hR _ _ ⟨w1, w2, hR0.symm, gw, rfl, rfl⟩

end Go.Gv
