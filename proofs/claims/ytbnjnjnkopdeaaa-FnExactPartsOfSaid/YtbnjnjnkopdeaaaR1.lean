/- Part R1 of the proof: contracts of functions of the program, each walked once. -/
import Derived.Test.YtbnjnjnkopdeaaaT1
import Derived.Test.YtbnjnjnkopdeaaaX2
import Derived.Test.YtbnjnjnkopdeaaaX3
import Derived.Test.YtbnjnjnkopdeaaaX4

namespace Go.Gv
open Go.Av Go.Proofs
set_option linter.unusedSimpArgs false

theorem Ex.sz_mem {l : List Ex} {e : Ex} (h : e ∈ l) : e.sz ≤ Ex.szs l := by
  induction l with
  | nil => simp at h
  | cons a l ih =>
    rw [Ex.szs]
    rcases List.mem_cons.1 h with rfl | h
    · omega
    · have := ih h; omega
theorem Sm.sz_mem {l : List Sm} {e : Sm} (h : e ∈ l) : e.sz ≤ Sm.szs l := by
  induction l with
  | nil => simp at h
  | cons a l ih =>
    rw [Sm.szs]
    rcases List.mem_cons.1 h with rfl | h
    · omega
    · have := ih h; omega
theorem sum_mem {α : Type} {f : α → Nat} {l : List α} {e : α} (h : e ∈ l) : f e ≤ (l.map f).sum := by
  induction l with
  | nil => simp at h
  | cons a l ih =>
    rw [List.map_cons, List.sum_cons]
    rcases List.mem_cons.1 h with rfl | h
    · omega
    · have := ih h; omega

abbrev SzOk (f : FuncId) (args : Int → List AV) (s : Nat) : Prop := ∀ left, lefts left → ACalls Try.prog f (args left) [] (fun res bx => ∃ r, szR s left r ∧ res = litI r ∧ bx = [])
abbrev ToOk (f : FuncId) (args : List AV) (r : AV) : Prop := ACalls Try.prog f args [] (fun res bx => res = r ∧ bx = [])
abbrev EqOk (f : FuncId) (a : AV) : Prop := ACalls Try.prog f [a, a] [] (fun res bx => res = litB true ∧ bx = [])
abbrev roT (els : List (List T)) : AV := ⟨.one, [.ro true els]⟩
abbrev agT (ts : List T) : AV := ⟨.agg, ts.map (tA true)⟩

/-! ### Terms -/
theorem c_szExpr : ∀ (e : Ex), e.Wf → SzOk 27 (fun left => [agT e.t, litI left]) e.sz
  | .mk k n s l, hw => fun left hleft => by
    cases hw with
    | mk hk hn hs hl h =>
    exact st_szExpr k n s l left hleft hs fun m hm => c_szExprS l _ rfl hl m hm fun e he left hl' => c_szExpr e (h e he) left hl'
termination_by e => SizeOf.sizeOf e
decreasing_by have := List.sizeOf_lt_of_mem he; simp; omega

theorem c_toExpr : ∀ (e : Ex), e.sz ≤ 1048576 → ToOk 30 [agT e.t] ⟨.agg, e.ow⟩
  | .mk k n s l, hb => by
    rw [Ex.sz] at hb
    exact st_toExpr k n s l (c_toExprS l _ rfl (by omega) fun e he => c_toExpr e (by have := Ex.sz_mem he; omega))
termination_by e => SizeOf.sizeOf e
decreasing_by have := List.sizeOf_lt_of_mem he; simp; omega

theorem c_eqExpr : ∀ (e : Ex), e.sz ≤ 1048576 → EqOk 36 (agT e.t)
  | .mk k n s l, hb => by
    rw [Ex.sz] at hb
    exact st_eqExpr k n s l (c_eqExprS l _ rfl (by omega) fun e he => c_eqExpr e (by have := Ex.sz_mem he; omega))
termination_by e => SizeOf.sizeOf e
decreasing_by have := List.sizeOf_lt_of_mem he; simp; omega

theorem szExprs (l : List Ex) (hl : l.length ≤ maxLen) (h : ∀ e ∈ l, e.Wf) : SzOk 39 (fun left => [roT (l.map Ex.t), litI left]) (l.length + Ex.szs l) :=
  fun left hleft => c_szExprS l _ rfl hl left hleft fun e he => c_szExpr e (h e he)
theorem toExprs (l : List Ex) (hl : l.length + Ex.szs l ≤ 1048576) : ToOk 41 [roT (l.map Ex.t)] ⟨.one, [.ow (0, 0) 4 (l.map Ex.t)]⟩ :=
  c_toExprS l _ rfl (by omega) fun e he => c_toExpr e (by have := Ex.sz_mem he; omega)
theorem eqExprs (l : List Ex) (hl : l.length + Ex.szs l ≤ 1048576) : EqOk 43 (roT (l.map Ex.t)) :=
  c_eqExprS l _ rfl (by omega) fun e he => c_eqExpr e (by have := Ex.sz_mem he; omega)

/-! ### Statements -/
theorem c_szStmt : ∀ (e : Sm), e.Wf → SzOk 40 (fun left => [agT e.t, litI left]) e.sz
  | .mk k s t x a b, hw => fun left hleft => by
    cases hw with
    | mk hk hs ht hx hx' ha ha' hb hb' =>
    exact st_szStmt k s t x a b left hleft hs ht (szExprs x hx hx')
      (fun m hm => c_szStmtS a _ rfl ha m hm fun e he left hl' => c_szStmt e (ha' e he) left hl')
      (fun m hm => c_szStmtS b _ rfl hb m hm fun e he left hl' => c_szStmt e (hb' e he) left hl')
termination_by e => SizeOf.sizeOf e
decreasing_by all_goals (have := List.sizeOf_lt_of_mem he; simp; omega)

theorem c_toStmt : ∀ (e : Sm), e.sz ≤ 1048576 → ToOk 42 [agT e.t] ⟨.agg, e.ow⟩
  | .mk k s t x a b, hz => by
    rw [Sm.sz] at hz
    exact st_toStmt k s t x a b (toExprs x (by omega)) (c_toStmtS a _ rfl (by omega) fun e he => c_toStmt e (by have := Sm.sz_mem he; omega))
      (c_toStmtS b _ rfl (by omega) fun e he => c_toStmt e (by have := Sm.sz_mem he; omega))
termination_by e => SizeOf.sizeOf e
decreasing_by all_goals (have := List.sizeOf_lt_of_mem he; simp; omega)

theorem c_eqStmt : ∀ (e : Sm), e.sz ≤ 1048576 → EqOk 44 (agT e.t)
  | .mk k s t x a b, hz => by
    rw [Sm.sz] at hz
    exact st_eqStmt k s t x a b (eqExprs x (by omega)) (c_eqStmtS a _ rfl (by omega) fun e he => c_eqStmt e (by have := Sm.sz_mem he; omega))
      (c_eqStmtS b _ rfl (by omega) fun e he => c_eqStmt e (by have := Sm.sz_mem he; omega))
termination_by e => SizeOf.sizeOf e
decreasing_by all_goals (have := List.sizeOf_lt_of_mem he; simp; omega)

theorem szStmts (l : List Sm) (hl : l.length ≤ maxLen) (h : ∀ e ∈ l, e.Wf) : SzOk 28 (fun left => [roT (l.map Sm.t), litI left]) (l.length + Sm.szs l) :=
  fun left hleft => c_szStmtS l _ rfl hl left hleft fun e he => c_szStmt e (h e he)
theorem toStmts (l : List Sm) (hl : l.length + Sm.szs l ≤ 1048576) : ToOk 31 [roT (l.map Sm.t)] ⟨.one, [.ow (0, 0) 6 (l.map Sm.t)]⟩ :=
  c_toStmtS l _ rfl (by omega) fun e he => c_toStmt e (by have := Sm.sz_mem he; omega)
theorem eqStmts (l : List Sm) (hl : l.length + Sm.szs l ≤ 1048576) : EqOk 37 (roT (l.map Sm.t)) :=
  c_eqStmtS l _ rfl (by omega) fun e he => c_eqStmt e (by have := Sm.sz_mem he; omega)

/-! ### Programs -/
theorem c_szProg (p : Pg) (hw : p.Wf) : SzOk 4 (fun left => [agT p.t, litI left]) p.sz := fun left hleft => by
  obtain ⟨rules, fns⟩ := p
  obtain ⟨h1, h2, h3, h4⟩ := hw
  refine st_szProg rules fns left hleft (fun m hm => c_szRuleS rules _ rfl h1 m hm fun r hr m hm => ?_) (fun m hm => c_szFnS fns _ rfl h3 m hm fun r hr m hm => ?_)
  · obtain ⟨g1, g2, g3, g4⟩ := h2 r hr
    obtain ⟨k, ⟨pk, pn, ps, pl⟩, a⟩ := r
    exact st_szRule k pk pn ps pl a m hm (c_szExpr _ g2) (szStmts a g3 g4)
  · obtain ⟨g1, g2, g3, g4, g5⟩ := h4 r hr
    obtain ⟨name, params, a⟩ := r
    exact st_szFn name params a m hm g1 (fun m hm => c_szStringS params _ rfl g2 m hm g3) (szStmts a g4 g5)

theorem c_toProg (p : Pg) (hz : p.sz ≤ 1048576) : ToOk 6 [agT p.t] ⟨.agg, p.ow⟩ := by
  obtain ⟨rules, fns⟩ := p
  simp only [Pg.sz] at hz
  refine st_toProg rules fns (c_toRuleS rules _ rfl (by omega) fun r hr => ?_) (c_toFnS fns _ rfl (by omega) fun r hr => ?_)
  · have := sum_mem (f := Ru.sz) hr
    obtain ⟨k, ⟨pk, pn, ps, pl⟩, a⟩ := r
    simp only [Ru.sz] at this
    unfold Ru.szs at hz
    exact st_toRule k pk pn ps pl a (c_toExpr _ (by omega)) (toStmts a (by omega))
  · have := sum_mem (f := Fu.sz) hr
    obtain ⟨name, params, a⟩ := r
    simp only [Fu.sz] at this
    unfold Fu.szs at hz
    exact st_toFn name params a (c_toStringS params _ rfl (by omega)) (toStmts a (by omega))

theorem c_eqProg (p : Pg) (hz : p.sz ≤ 1048576) : EqOk 8 (agT p.t) := by
  obtain ⟨rules, fns⟩ := p
  simp only [Pg.sz] at hz
  refine st_eqProg rules fns (c_eqRuleS rules _ rfl (by omega) fun r hr => ?_) (c_eqFnS fns _ rfl (by omega) fun r hr => ?_)
  · have := sum_mem (f := Ru.sz) hr
    obtain ⟨k, ⟨pk, pn, ps, pl⟩, a⟩ := r
    simp only [Ru.sz] at this
    unfold Ru.szs at hz
    exact st_eqRule k pk pn ps pl a (c_eqExpr _ (by omega)) (eqStmts a (by omega))
  · have := sum_mem (f := Fu.sz) hr
    obtain ⟨name, params, a⟩ := r
    simp only [Fu.sz] at this
    unfold Fu.szs at hz
    exact st_eqFn name params a (c_eqStringS params _ rfl (by omega)) (eqStmts a (by omega))
end Go.Gv

namespace Go.Gv
open Go.Av Go.Proofs
set_option maxRecDepth 10000
set_option linter.unusedSimpArgs false

theorem add_nat {O : Ops} (hO : O = Ops.std) {a b : Nat} (h : a + b ≤ 9223372036854775807) : O.bin .add .i64 (Int.ofNat a) (Int.ofNat b) = Int.ofNat (a + b) := by
  subst hO
  exact i64_id (x := (a : Int) + (b : Int)) (by omega)
abbrev NumOk (f : FuncId) (args : List AV) (n : Nat) : Prop := ACalls Try.prog f args [] (fun res bx => ∃ r, r = n ∧ res = litI (Int.ofNat r) ∧ bx = [])

def invP (k v : Int) (s : ByteArray) (xq : List (List T)) (q : List Ex) (N : Nat) (σ : AS) : Prop :=
  ∃ (i m : Nat), σ = ⟨vag 21 [(1, ⟨.one, [.ptr 0 0]⟩), (3, litI (Int.ofNat m)), (4, litI (Int.ofNat i))], [some [.lit (.int .i64 k), .lit (.int .i64 v), .lit (.string s), .ro true xq]], 1⟩ ∧
    i ≤ q.length ∧ m = 1 + Ex.partss (q.take i) ∧ N = q.length - i

theorem st_l28Parts (k v : Int) (s : ByteArray) (q : List Ex) (hb : q.length + Ex.szs q ≤ 1048576) (ih : ∀ e ∈ q, NumOk 11 [agT e.t] e.parts) : NumOk 11 [agT (Ex.mk k v s q).t] (Ex.mk k v s q).parts := by
  simp only [agT, Ex.t_mk, List.map, tA]
  obtain ⟨xq, hxq⟩ : ∃ xq, xq = q.map Ex.t := ⟨_, rfl⟩
  rw [← hxq]
  refine gcalls_by tys_ok 21 [.tmp 2] (fn := Try.f11) rfl rfl rfl rfl ?_ ?_ ?_
  · simp [stampFree, litI, A.stamp, A.rstamp, stampIn]
  · simp
  intro O hO P hP C hC R hR
  have hM : P.follows .mixedOrders = true := by rw [hP]; rfl
  obtain ⟨bin, cmp, sadd, scmp, beq, bnot, un, wrap, size, byte, sub, len, seg, app, get, set, nat, nadd, nsub, repl, text, bytes, mn, mx, nz, nn, idx, bnd, le, all, one, lits, isB, sOk, aOk, mOk⟩ := O
  have hseg : ∀ e, seg 0 (len e) e = e := by intro e; cases hO; simp
  obtain ⟨N, hN⟩ : ∃ N, N = q.length := ⟨_, rfl⟩
  have hNe : xq.length = N := by simp [hxq, hN]
  have hlen : len xq = N := len_of hO hNe
  have ha : all xq 4 := all_of hO (by subst hxq; simp [Ex.t_len])
  have hp := Ex.partss_le q
  repeat' (first
   | (with_reducible first | (refine hK _ ?_; clear hK K) | refine thenA_n ?_ | refine thenA_r ?_ | refine thenA_e ?_ | refine block_n ?_ | refine block_r ?_ | refine block_hit ?_ | refine GWp.seq ?_ | refine GWp.block ?_ | refine GWp.skip ?_ | refine GWp.ret ?_ | refine GWp.exit ?_ | refine need_nil ?_ | refine need_cons True.intro ?_)
   | ((with_reducible first | refine gPost_r ?_ | refine gPost_n ?_ | refine fork_t ?_ | refine fork_f ?_ | (refine GWp.region (base := 0) ?_; intro K hK)); cbv; try simp only [hseg])
   | ((with_reducible refine GWp.cond_t ?hh ?_); (case hh => rfl)) | ((with_reducible refine GWp.cond_f ?hh ?_); (case hh => rfl)) | ((with_reducible refine block_miss ?hh ?_); (case hh => rfl))
   | ((with_reducible refine GWp.draws (base := 0) hM ?hh ?_); (case hh => rfl); intro K hK; cbv; try simp only [hseg])
   | ((with_reducible refine need_cons ?hh ?_); (case hh => first | with_reducible rfl | exact nn_ok hO (by decide))) | fail)
  refine GWp.loop (nb := 1) (keep := fun t => t == 1 || t == 3 || t == 4) (kk := fun _ _ => none) (invP k v s xq q) (by simp at hC; simp [hC]) ?_ ?_
  · cbv
    exact ⟨_, 0, 1, by cbv, by simp, by simp [Ex.partss], rfl⟩
  rintro n σ ⟨i, m, rfl, g1, g2, rfl⟩
  repeat' (first
   | (with_reducible first | (refine hK _ ?_; clear hK K) | refine thenA_n ?_ | refine thenA_r ?_ | refine thenA_e ?_ | refine block_n ?_ | refine block_r ?_ | refine block_hit ?_ | refine GWp.seq ?_ | refine GWp.block ?_ | refine GWp.skip ?_ | refine GWp.ret ?_ | refine GWp.exit ?_ | refine need_nil ?_ | refine need_cons True.intro ?_)
   | ((with_reducible first | refine gPost_r ?_ | refine gPost_n ?_ | refine fork_t ?_ | refine fork_f ?_ | (refine GWp.region (base := 0) ?_; intro K hK)); cbv; try simp only [hseg])
   | ((with_reducible refine GWp.cond_t ?hh ?_); (case hh => rfl)) | ((with_reducible refine GWp.cond_f ?hh ?_); (case hh => rfl)) | ((with_reducible refine block_miss ?hh ?_); (case hh => rfl))
   | ((with_reducible refine GWp.draws (base := 0) hM ?hh ?_); (case hh => rfl); intro K hK; cbv; try simp only [hseg])
   | ((with_reducible refine need_cons ?hh ?_); (case hh => first | with_reducible rfl | exact nn_ok hO (by decide))) | fail)
  simp only [hlen]
  refine GWp.cond rfl (fun h4 => ?_) (fun h4 => ?_)
  · have hlt : i < N := by
      try clear hK K
      clear hM hP hC hR; cases hO
      simp only [Ops.std, stdCmp, stdBin, scmp_eql, scmp_neq, stdUn, Int.ofNat_eq_natCast] at *
      simpa using h4
    obtain ⟨x, hx, hx', ht, e1⟩ := map_at hO hxq (hN ▸ hlt)
    have hc := ih x hx
    obtain ⟨k1, v1, s1, q1⟩ := x
    simp only [agT, Ex.t_mk, List.map, tA] at hc e1
    generalize q1.map Ex.t = xq1 at hc e1
    repeat' (first
     | (with_reducible first | (refine hK _ ?_; clear hK K) | refine thenA_n ?_ | refine thenA_r ?_ | refine thenA_e ?_ | refine block_n ?_ | refine block_r ?_ | refine block_hit ?_ | refine GWp.seq ?_ | refine GWp.block ?_ | refine GWp.skip ?_ | refine GWp.ret ?_ | refine GWp.exit ?_ | refine need_nil ?_ | refine need_cons True.intro ?_)
     | ((with_reducible first | refine gPost_r ?_ | refine gPost_n ?_ | refine fork_t ?_ | refine fork_f ?_ | (refine GWp.region (base := 0) ?_; intro K hK)); cbv; try simp only [hseg])
     | ((with_reducible refine GWp.cond_t ?hh ?_); (case hh => rfl)) | ((with_reducible refine GWp.cond_f ?hh ?_); (case hh => rfl)) | ((with_reducible refine block_miss ?hh ?_); (case hh => rfl))
     | ((with_reducible refine GWp.draws (base := 0) hM ?hh ?_); (case hh => rfl); intro K hK; cbv; try simp only [hseg])
     | ((with_reducible refine need_cons ?hh ?_); (case hh => first | with_reducible rfl | exact nn_ok hO (by decide))) | fail)
    repeat (simp only [e1]; cbv)
    refine need_cons (hlen ▸ idx_nat hO hlt) (need_cons ha (need_nil ?_))
    refine GCall.by ⟨fun _ _ => false, fun _ _ => false, []⟩ ?_
    cbv
    try simp only [hseg]
    refine GCallD.by hP rfl (hc) ?_
    rintro res bx ⟨r, hr, rfl, rfl⟩
    cbv
    try simp only [hseg]
    have hz : Ex.partss (q.take (i + 1)) = Ex.partss (q.take i) + (Ex.mk k1 v1 s1 q1).parts := by rw [ht, Ex.partss_app, Ex.partss_one]
    have hzl : Ex.partss (q.take (i + 1)) ≤ Ex.partss q := by
      have := Ex.partss_app (q.take (i + 1)) (q.drop (i + 1))
      rw [List.take_append_drop] at this
      omega
    rw [← hr] at hz
    have e2 : bin .add .i64 (Int.ofNat m) (Int.ofNat r) = _ := add_nat hO (by omega)
    generalize hm2 : m + r = m2 at e2
    simp only [e2]
    repeat' (first
     | (with_reducible first | (refine hK _ ?_; clear hK K) | refine thenA_n ?_ | refine thenA_r ?_ | refine thenA_e ?_ | refine block_n ?_ | refine block_r ?_ | refine block_hit ?_ | refine GWp.seq ?_ | refine GWp.block ?_ | refine GWp.skip ?_ | refine GWp.ret ?_ | refine GWp.exit ?_ | refine need_nil ?_ | refine need_cons True.intro ?_)
     | ((with_reducible first | refine gPost_r ?_ | refine gPost_n ?_ | refine fork_t ?_ | refine fork_f ?_ | (refine GWp.region (base := 0) ?_; intro K hK)); cbv; try simp only [hseg])
     | ((with_reducible refine GWp.cond_t ?hh ?_); (case hh => rfl)) | ((with_reducible refine GWp.cond_f ?hh ?_); (case hh => rfl)) | ((with_reducible refine block_miss ?hh ?_); (case hh => rfl))
     | ((with_reducible refine GWp.draws (base := 0) hM ?hh ?_); (case hh => rfl); intro K hK; cbv; try simp only [hseg])
     | ((with_reducible refine need_cons ?hh ?_); (case hh => first | with_reducible rfl | exact nn_ok hO (by decide))) | fail)
    have e : bin .add .i64 (Int.ofNat i) 1 = _ := i_succ hO (by omega)
    cbv
    rw [e]
    exact ⟨_, by omega, i + 1, m2, by cbv, by omega, by omega, rfl⟩
  · have hge : i = N := by
      try clear hK K
      clear hM hP hC hR; cases hO
      simp only [Ops.std, stdCmp, stdBin, scmp_eql, scmp_neq, stdUn, Int.ofNat_eq_natCast] at *
      simp at h4; omega
    repeat' (first
     | (with_reducible first | (refine hK _ ?_; clear hK K) | refine thenA_n ?_ | refine thenA_r ?_ | refine thenA_e ?_ | refine block_n ?_ | refine block_r ?_ | refine block_hit ?_ | refine GWp.seq ?_ | refine GWp.block ?_ | refine GWp.skip ?_ | refine GWp.ret ?_ | refine GWp.exit ?_ | refine need_nil ?_ | refine need_cons True.intro ?_)
     | ((with_reducible first | refine gPost_r ?_ | refine gPost_n ?_ | refine fork_t ?_ | refine fork_f ?_ | (refine GWp.region (base := 0) ?_; intro K hK)); cbv; try simp only [hseg])
     | ((with_reducible refine GWp.cond_t ?hh ?_); (case hh => rfl)) | ((with_reducible refine GWp.cond_f ?hh ?_); (case hh => rfl)) | ((with_reducible refine block_miss ?hh ?_); (case hh => rfl))
     | ((with_reducible refine GWp.draws (base := 0) hM ?hh ?_); (case hh => rfl); intro K hK; cbv; try simp only [hseg])
     | ((with_reducible refine need_cons ?hh ?_); (case hh => first | with_reducible rfl | exact nn_ok hO (by decide))) | fail)
    have e2 : q.take i = q := List.take_of_length_le (by omega)
    rw [e2] at g2
    exact hR _ _ ⟨_, by rw [Ex.parts]; exact g2, rfl, rfl⟩

theorem c_l28Parts : ∀ (e : Ex), e.sz ≤ 1048576 → NumOk 11 [agT e.t] e.parts
  | .mk k n s l, hb => by
    rw [Ex.sz] at hb
    exact st_l28Parts k n s l (by omega) fun e he => c_l28Parts e (by have := Ex.sz_mem he; omega)
termination_by e => SizeOf.sizeOf e
decreasing_by have := List.sizeOf_lt_of_mem he; simp; omega
end Go.Gv
