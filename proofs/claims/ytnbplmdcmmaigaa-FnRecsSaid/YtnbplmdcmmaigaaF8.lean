/- Part F8 of the proof: contracts of functions of the program, each walked once. -/
import Derived.Test.YtnbplmdcmmaigaaF7
import Derived.Shelf.Strings.FieldsFuncGrows

namespace Go.Gv
open Go.Av Go.Proofs Go.Shelf
set_option maxRecDepth 100000
set_option maxHeartbeats 4000000
set_option linter.unusedSimpArgs false

theorem c_blank (r : Int) : ACalls Try.prog 36 [⟨.one, [.lit (.int .i32 r)]⟩] [] (fun res bx => ∃ b, b = (r == 32 || r == 9) ∧ res = litB b ∧ bx = []) := by
  refine gcalls_by tys_ok 9 [.tmp 2] (fn := Try.f36) rfl rfl rfl rfl ?_ ?_ ?_
  · simp [stampFree, A.stamp, A.rstamp, stampIn]
  · simp
  intro O hO P hP C hC R hR
  have hM : P.follows .mixedOrders = true := by rw [hP]; rfl
  obtain ⟨bin, cmp, sadd, scmp, beq, bnot, un, wrap, size, byte, sub, len, seg, app, get, set, nat, nadd, nsub, repl, text, bytes, mn, mx, nz, nn, idx, bnd, le, all, one, lits, isB, sOk, aOk, mOk⟩ := O
  have hseg : ∀ e, seg 0 (len e) e = e := by intro e; cases hO; simp
  repeat' first
    | ((with_reducible refine hK _ ?_); clear hK K)
    | ((with_reducible refine thenA_n ?_))
    | ((with_reducible refine thenA_r ?_))
    | ((with_reducible refine thenA_e ?_))
    | ((with_reducible refine block_n ?_))
    | ((with_reducible refine block_r ?_))
    | ((with_reducible refine block_hit ?_))
    | ((with_reducible refine GWp.seq ?_))
    | ((with_reducible refine GWp.block ?_))
    | ((with_reducible refine GWp.skip ?_))
    | ((with_reducible refine GWp.ret ?_))
    | ((with_reducible refine GWp.exit ?_))
    | ((with_reducible refine block_miss ?hd ?_); case hd => rfl)
    | ((with_reducible refine gPost_r ?_); cbv; try simp only [hseg])
    | ((with_reducible refine gPost_n ?_); cbv; try simp only [hseg])
    | ((with_reducible refine fork_t ?_); cbv; try simp only [hseg])
    | ((with_reducible refine fork_f ?_); cbv; try simp only [hseg])
    | ((with_reducible refine GWp.cond_t ?hc ?_); case hc => rfl)
    | ((with_reducible refine GWp.cond_f ?hc ?_); case hc => rfl)
    | ((with_reducible refine GWp.region (base := 0) ?_); intro K hK; cbv; try simp only [hseg])
    | ((with_reducible refine GWp.draws (base := 0) hM ?ho ?_); (case ho => rfl); intro K hK; cbv; try simp only [hseg])
    | ((with_reducible refine need_nil ?_))
    | ((with_reducible refine need_cons ?hp ?_); case hp => first | exact True.intro | with_reducible rfl | exact nn_ok hO (by decide))
    | (fail)
  refine GFork.mk (fun hf => ?_) (fun hf => ?_) <;> cbv
  · repeat' first
      | ((with_reducible refine hK _ ?_); clear hK K)
      | ((with_reducible refine thenA_n ?_))
      | ((with_reducible refine thenA_r ?_))
      | ((with_reducible refine thenA_e ?_))
      | ((with_reducible refine block_n ?_))
      | ((with_reducible refine block_r ?_))
      | ((with_reducible refine block_hit ?_))
      | ((with_reducible refine GWp.seq ?_))
      | ((with_reducible refine GWp.block ?_))
      | ((with_reducible refine GWp.skip ?_))
      | ((with_reducible refine GWp.ret ?_))
      | ((with_reducible refine GWp.exit ?_))
      | ((with_reducible refine block_miss ?hd ?_); case hd => rfl)
      | ((with_reducible refine gPost_r ?_); cbv; try simp only [hseg])
      | ((with_reducible refine gPost_n ?_); cbv; try simp only [hseg])
      | ((with_reducible refine fork_t ?_); cbv; try simp only [hseg])
      | ((with_reducible refine fork_f ?_); cbv; try simp only [hseg])
      | ((with_reducible refine GWp.cond_t ?hc ?_); case hc => rfl)
      | ((with_reducible refine GWp.cond_f ?hc ?_); case hc => rfl)
      | ((with_reducible refine GWp.region (base := 0) ?_); intro K hK; cbv; try simp only [hseg])
      | ((with_reducible refine GWp.draws (base := 0) hM ?ho ?_); (case ho => rfl); intro K hK; cbv; try simp only [hseg])
      | ((with_reducible refine need_nil ?_))
      | ((with_reducible refine need_cons ?hp ?_); case hp => first | exact True.intro | with_reducible rfl | exact nn_ok hO (by decide))
      | (fail)
    refine hR _ _ ⟨_, ?_, rfl, rfl⟩
    clear hM hP hC hR
    cases hO
    simp only [Ops.std, stdCmp, stdBin, scmp_eql, scmp_neq, stdUn, Int.ofNat_eq_natCast] at *
    simp_all
  · repeat' first
      | ((with_reducible refine hK _ ?_); clear hK K)
      | ((with_reducible refine thenA_n ?_))
      | ((with_reducible refine thenA_r ?_))
      | ((with_reducible refine thenA_e ?_))
      | ((with_reducible refine block_n ?_))
      | ((with_reducible refine block_r ?_))
      | ((with_reducible refine block_hit ?_))
      | ((with_reducible refine GWp.seq ?_))
      | ((with_reducible refine GWp.block ?_))
      | ((with_reducible refine GWp.skip ?_))
      | ((with_reducible refine GWp.ret ?_))
      | ((with_reducible refine GWp.exit ?_))
      | ((with_reducible refine block_miss ?hd ?_); case hd => rfl)
      | ((with_reducible refine gPost_r ?_); cbv; try simp only [hseg])
      | ((with_reducible refine gPost_n ?_); cbv; try simp only [hseg])
      | ((with_reducible refine fork_t ?_); cbv; try simp only [hseg])
      | ((with_reducible refine fork_f ?_); cbv; try simp only [hseg])
      | ((with_reducible refine GWp.cond_t ?hc ?_); case hc => rfl)
      | ((with_reducible refine GWp.cond_f ?hc ?_); case hc => rfl)
      | ((with_reducible refine GWp.region (base := 0) ?_); intro K hK; cbv; try simp only [hseg])
      | ((with_reducible refine GWp.draws (base := 0) hM ?ho ?_); (case ho => rfl); intro K hK; cbv; try simp only [hseg])
      | ((with_reducible refine need_nil ?_))
      | ((with_reducible refine need_cons ?hp ?_); case hp => first | exact True.intro | with_reducible rfl | exact nn_ok hO (by decide))
      | (fail)
    refine hR _ _ ⟨_, ?_, rfl, rfl⟩
    clear hM hP hC hR
    cases hO
    simp only [Ops.std, stdCmp, stdBin, scmp_eql, scmp_neq, stdUn, Int.ofNat_eq_natCast] at *
    simp_all

def ffRen : Go.Shelf.Ren := ⟨fun _ => 35, fun n => match n with | 31 => 25 | 40 => 56 | 152 => 67 | 154 => 69 | n => n, fun n => n⟩

theorem ffLays : Lays.n229 Try.prog ffRen := by
  constructor
  all_goals first | rfl | (intro w; rfl)
end Go.Gv

namespace Go.Gv
open Go.Av Go.Proofs Go.Shelf Go.RowKit
set_option maxRecDepth 10000
set_option maxHeartbeats 4000000
set_option linter.unusedSimpArgs false

theorem Keeps.of_below {O : List Nat} {w w' : World} (h : Below w.heap.size w w') : Av.Keeps O w w' := ⟨h.os, h.tape, h.output, h.size, fun b hb _ => h.block b hb⟩
theorem Keeps.below {w w' : World} (h : Av.Keeps [] w w') : Below w.heap.size w w' := ⟨h.os, h.tape, h.output, h.size, fun b hb => h.block b hb (by simp)⟩

/-- A function that is given plain data and hands back plain data, as the model has it. -/
theorem calls_lit {P : Program} {f : FuncId} {vs : List Value} {R : AV → List (Option (List A)) → Prop} (hl : ∀ v ∈ vs, isLit v = true) (h : ACalls P f (vs.map fun v => ⟨.one, [.lit v]⟩) [] R) (w : World) :
    Calls P f vs.toArray w fun e w' => ∃ v, e = .returned v ∧ (∃ res bx' S' bl' o1, R res bx' ∧ RepV (Env.zero S' S' bl' w') res v o1) ∧ Below w.heap.size w w' := by
  have hr : RepSlots (Env.zero (fun _ => False) (fun _ => False) [] w) (vs.map fun v => ⟨.one, [.lit v]⟩) vs [] := by
    clear h
    induction vs with
    | nil => exact ⟨rfl, rfl⟩
    | cons v vs ih =>
      have hv := hl v List.mem_cons_self
      exact ⟨v, vs, [], [], rfl, rfl, ⟨isLit_one hv, by rw [flat_one (isLit_one hv)]; exact ⟨v, [], [], [], rfl, rfl, ⟨rfl, hv, rfl⟩, rfl, rfl⟩⟩, ih fun x hx => hl x (List.mem_cons_of_mem _ hx)⟩
  refine (h w vs.toArray (fun _ => False) (fun _ => False) [] [] [] (by simpa using hr) ⟨rfl, rfl⟩ (by simp) (fun _ h => h) (fun _ h => h.elim)).mono ?_
  rintro e w' ⟨v, rfl, res, bx', S', bl', o1, o2, h1, h2, h3, h4, h5, h6, h7, h8, h9, h10⟩
  exact ⟨v, rfl, ⟨res, bx', S', bl', o1, h1, h2⟩, Keeps.below h8⟩

theorem strs_rep {S : Nat → Prop} {w : World} {b : Nat} : ∀ {l : List ByteArray} {o : Nat}, (∀ j x, l[j]? = some x → w.cell? ⟨b, o + j, none⟩ = some (.string x)) → RepSE S w b o (strs l)
  | [], o, _ => by simp only [strs, List.map_nil, RepSE]
  | x :: l, o, h => by
    simp only [strs, List.map_cons, RepSE, RepSC, List.length_singleton]
    refine ⟨⟨⟨.string x, by simpa using h 0 x rfl, by simp only [RepS]; exact ⟨trivial, rfl⟩⟩, trivial⟩, ?_⟩
    refine strs_rep fun j y hj => ?_
    have := h (j + 1) y (by simpa using hj)
    rwa [show o + 1 + j = o + (j + 1) by omega]

theorem pred_grows (w : World) : PredGrows Try.prog 36 #[] pBl w := by
  intro W x hx hb
  have h := calls_lit (vs := [.int .i32 (x : Int)]) (by simp [isLit]) (c_blank (x : Int)) W
  refine h.mono ?_
  rintro e w' ⟨v, rfl, ⟨res, bx', S', bl', o1, ⟨b, hb, rfl, rfl⟩, hr⟩, hbel⟩
  refine ⟨?_, hbel⟩
  obtain ⟨h1, h2⟩ := hr
  rw [flat_one h1] at h2
  obtain ⟨u, us, p1, p2, e1, e2, ⟨rfl, _, _⟩, _⟩ := h2
  simp at e1
  rw [e1.1, hb]
  unfold pBl
  congr 2
  rw [Bool.eq_iff_iff]
  simp
  omega

theorem c_FieldsFunc (s : ByteArray) (hs : s.size ≤ 1048576) : ACalls Try.prog 35 [litS s, ⟨.one, [.fn 36 []]⟩] [] (fun res bx => ∃ els, els = strs (split s) ∧ res = owA els ∧ bx = []) := by
  intro w vals S L bl O1 O2 h1 h2 hn hsl hst
  obtain ⟨v1, us1, o1, o2, e1, rfl, ⟨g1, g2⟩, h1⟩ := h1
  obtain ⟨v2, us2, o3, o4, e2, rfl, ⟨g3, g4⟩, h1⟩ := h1
  obtain ⟨rfl, rfl⟩ := h1
  obtain ⟨rfl, rfl⟩ := h2
  rw [flat_one g1] at g2
  rw [flat_one g3] at g4
  obtain ⟨u, us, p1, p2, k1, rfl, ⟨rfl, _, rfl⟩, ⟨_, rfl⟩⟩ := g2
  obtain ⟨u', us', p3, p4, k2, rfl, ⟨rfl, cs, rfl, hcs, _⟩, ⟨_, rfl⟩⟩ := g4
  simp at k1 k2
  obtain ⟨rfl, rfl⟩ := k1
  obtain ⟨rfl, rfl⟩ := k2
  have hcs0 : cs = #[] := Array.eq_empty_of_size_eq_zero (by simpa using hcs)
  subst hcs0
  subst e2
  have hv : vals = #[.string s, .func (.func 36) #[] #[]] := by
    apply Array.ext'
    simpa using e1
  subst hv
  have hc := Any.strings_FieldsFunc_grows ffLays 36 #[] (fun args w => rfl) pBl s w (by omega) (pred_grows w) rfl rfl
  rw [goFields_split] at hc
  refine Calls.mono hc ?_
  rintro e w' ⟨A, rfl, hA, ⟨hx, hown⟩, hbel⟩
  rcases hown with ⟨h, _⟩ | ⟨g, cap, cur, hv, hb, hg, hn1, hcap, hsz, htake⟩
  · simp at h
  simp only [Value.slice.injEq, Option.some.injEq, Addr.mk.injEq] at hv
  obtain ⟨⟨rfl, _, _⟩, _, rfl⟩ := hv
  have hlen := strs_len (split s)
  have hAw : A < w'.heap.size := (Array.getElem?_eq_some_iff.1 hg).1
  refine ⟨_, rfl, owA (strs (split s)), [], S, [], [A], [], ⟨_, rfl, rfl, rfl⟩, ?_, ⟨rfl, rfl⟩, by simp, ?_, fun _ h => h, fun _ h => .inl h, Keeps.of_below hbel, ?_, List.prefix_rfl⟩
  · refine ⟨⟨rfl, rfl⟩, _, [], [A], [], rfl, rfl, ?_, rfl, rfl⟩
    refine ⟨some ⟨A, 0, none⟩, (split s).length, by rw [hlen], by rw [hlen]; exact Nat.le_refl _, strs_all _, .inr ⟨A, 0, cur, _, (0, 0), rfl, rfl, hg, by rw [hsz]; omega, fun x _ _ h => by omega, ?_⟩⟩
    refine strs_rep fun j x hj => ?_
    simp only [World.cell?, Env.zero, hg, Nat.zero_add]
    have h5 : (cur.toList.take ((split s).length * 1))[j]? = some (.string x) := by rw [htake]; simp [hj]
    rw [List.getElem?_take] at h5
    split at h5
    · simpa using h5
    · simp at h5
  · intro b hb
    have := hst b (hsl b hb)
    refine ⟨by have := hbel.size; omega, ?_⟩
    simp
    omega
  · intro b hb
    simp at hb
    subst hb
    exact .inr hA
end Go.Gv

namespace Go.Gv
open Go.Av Go.Proofs
set_option maxRecDepth 10000
set_option maxHeartbeats 4000000
set_option linter.unusedSimpArgs false

theorem c_SplitText (s : ByteArray) (hs : s.size ≤ 1048576) :
    ACalls Try.prog 22 [litS s] [] (fun res bx => ∃ els, els = strs (split s) ∧ res = owA els ∧ bx = []) := by
  refine gcalls_by tys_ok 5 [.tmp 2] (fn := Try.f22) rfl rfl rfl rfl ?_ ?_ ?_
  · simp [stampFree, litS, A.stamp, A.rstamp, stampIn]
  · simp
  intro O hO P hP C hC R hR
  have hM : P.follows .mixedOrders = true := by rw [hP]; rfl
  obtain ⟨bin, cmp, sadd, scmp, beq, bnot, un, wrap, size, byte, sub, len, seg, app, get, set, nat, nadd, nsub, repl, text, bytes, mn, mx, nz, nn, idx, bnd, le, all, one, lits, isB, sOk, aOk, mOk⟩ := O
  have hseg : ∀ e, seg 0 (len e) e = e := by intro e; cases hO; simp
  repeat' first
    | ((with_reducible refine hK _ ?_); clear hK K)
    | ((with_reducible refine thenA_n ?_))
    | ((with_reducible refine thenA_r ?_))
    | ((with_reducible refine thenA_e ?_))
    | ((with_reducible refine block_n ?_))
    | ((with_reducible refine block_r ?_))
    | ((with_reducible refine block_hit ?_))
    | ((with_reducible refine GWp.seq ?_))
    | ((with_reducible refine GWp.block ?_))
    | ((with_reducible refine GWp.skip ?_))
    | ((with_reducible refine GWp.ret ?_))
    | ((with_reducible refine GWp.exit ?_))
    | ((with_reducible refine block_miss ?hd ?_); case hd => rfl)
    | ((with_reducible refine gPost_r ?_); cbv; try simp only [hseg])
    | ((with_reducible refine gPost_n ?_); cbv; try simp only [hseg])
    | ((with_reducible refine fork_t ?_); cbv; try simp only [hseg])
    | ((with_reducible refine fork_f ?_); cbv; try simp only [hseg])
    | ((with_reducible refine GWp.cond_t ?hc ?_); case hc => rfl)
    | ((with_reducible refine GWp.cond_f ?hc ?_); case hc => rfl)
    | ((with_reducible refine GWp.region (base := 0) ?_); intro K hK; cbv; try simp only [hseg])
    | ((with_reducible refine GWp.draws (base := 0) hM ?ho ?_); (case ho => rfl); intro K hK; cbv; try simp only [hseg])
    | ((with_reducible refine need_nil ?_))
    | ((with_reducible refine need_cons ?hp ?_); case hp => first | exact True.intro | with_reducible rfl | exact nn_ok hO (by decide))
    | (fail)
  refine GCall.by ⟨fun _ _ => false, fun _ _ => false, []⟩ ?_
  cbv
  try simp only [hseg]
  refine GCallD.by hP rfl (c_FieldsFunc s hs) ?_
  rintro res bx ⟨els, he, rfl, rfl⟩
  cbv
  try simp only [hseg]
  repeat' first
    | ((with_reducible refine hK _ ?_); clear hK K)
    | ((with_reducible refine thenA_n ?_))
    | ((with_reducible refine thenA_r ?_))
    | ((with_reducible refine thenA_e ?_))
    | ((with_reducible refine block_n ?_))
    | ((with_reducible refine block_r ?_))
    | ((with_reducible refine block_hit ?_))
    | ((with_reducible refine GWp.seq ?_))
    | ((with_reducible refine GWp.block ?_))
    | ((with_reducible refine GWp.skip ?_))
    | ((with_reducible refine GWp.ret ?_))
    | ((with_reducible refine GWp.exit ?_))
    | ((with_reducible refine block_miss ?hd ?_); case hd => rfl)
    | ((with_reducible refine gPost_r ?_); cbv; try simp only [hseg])
    | ((with_reducible refine gPost_n ?_); cbv; try simp only [hseg])
    | ((with_reducible refine fork_t ?_); cbv; try simp only [hseg])
    | ((with_reducible refine fork_f ?_); cbv; try simp only [hseg])
    | ((with_reducible refine GWp.cond_t ?hc ?_); case hc => rfl)
    | ((with_reducible refine GWp.cond_f ?hc ?_); case hc => rfl)
    | ((with_reducible refine GWp.region (base := 0) ?_); intro K hK; cbv; try simp only [hseg])
    | ((with_reducible refine GWp.draws (base := 0) hM ?ho ?_); (case ho => rfl); intro K hK; cbv; try simp only [hseg])
    | ((with_reducible refine need_nil ?_))
    | ((with_reducible refine need_cons ?hp ?_); case hp => first | exact True.intro | with_reducible rfl | exact nn_ok hO (by decide))
    | (fail)
  exact hR _ _ ⟨els, he, rfl, rfl⟩

theorem recLine_min (s : ByteArray) : s.extract 0 (min s.size 200) = recLine s := by
  unfold recLine
  split
  · rw [Nat.min_eq_right (by omega)]
  · rw [Nat.min_eq_left (by omega), ByteArray.extract_zero_size]

theorem c_RecOf (s : ByteArray) (hs : s.size ≤ 1048576) :
    ACalls Try.prog 7 [litS s] [] (fun res bx => ∃ line els, line = recLine s ∧ els = strs (recFields s) ∧ res = recOw line els ∧ bx = []) := by
  refine gcalls_by tys_ok 19 [.cell 2 27] (fn := Try.f7) rfl rfl rfl rfl ?_ ?_ ?_
  · simp [stampFree, litS, A.stamp, A.rstamp, stampIn]
  · simp
  intro O hO P hP C hC R hR
  have hM : P.follows .mixedOrders = true := by rw [hP]; rfl
  obtain ⟨bin, cmp, sadd, scmp, beq, bnot, un, wrap, size, byte, sub, len, seg, app, get, set, nat, nadd, nsub, repl, text, bytes, mn, mx, nz, nn, idx, bnd, le, all, one, lits, isB, sOk, aOk, mOk⟩ := O
  have hseg : ∀ e, seg 0 (len e) e = e := by intro e; cases hO; simp
  have em : mn (Int.ofNat (size s)) 200 = Int.ofNat (min s.size 200) := by
    cases hO
    simp only [Ops.std, Int.ofNat_eq_natCast]
    split <;> omega
  have ev : sub s 0 (nat (Int.ofNat (min s.size 200))) = recLine s := by
    rw [← recLine_min]; cases hO; rfl
  have hsz := recLine_size s
  rw [← em] at ev
  generalize hm : mn (Int.ofNat (size s)) 200 = m at em ev
  repeat' first
    | ((with_reducible refine hK _ ?_); clear hK K)
    | ((with_reducible refine thenA_n ?_))
    | ((with_reducible refine thenA_r ?_))
    | ((with_reducible refine thenA_e ?_))
    | ((with_reducible refine block_n ?_))
    | ((with_reducible refine block_r ?_))
    | ((with_reducible refine block_hit ?_))
    | ((with_reducible refine GWp.seq ?_))
    | ((with_reducible refine GWp.block ?_))
    | ((with_reducible refine GWp.skip ?_))
    | ((with_reducible refine GWp.ret ?_))
    | ((with_reducible refine GWp.exit ?_))
    | ((with_reducible refine block_miss ?hd ?_); case hd => rfl)
    | ((with_reducible refine gPost_r ?_); cbv; try simp only [hseg])
    | ((with_reducible refine gPost_n ?_); cbv; try simp only [hseg])
    | ((with_reducible refine fork_t ?_); cbv; try simp only [hseg])
    | ((with_reducible refine fork_f ?_); cbv; try simp only [hseg])
    | ((with_reducible refine GWp.cond_t ?hc ?_); case hc => rfl)
    | ((with_reducible refine GWp.cond_f ?hc ?_); case hc => rfl)
    | ((with_reducible refine GWp.region (base := 0) ?_); intro K hK; cbv; try simp only [hseg])
    | ((with_reducible refine GWp.draws (base := 0) hM ?ho ?_); (case ho => rfl); intro K hK; cbv; try simp only [hseg])
    | ((with_reducible refine need_nil ?_))
    | ((with_reducible refine need_cons ?hp ?_); case hp => first | exact True.intro | with_reducible rfl | exact nn_ok hO (by decide))
    | (fail)
  simp only [hm, ev]
  refine need_cons (by
    try clear hK K
    clear hM hP hC hR; cases hO
    simp only [Ops.std, stdCmp, stdBin, scmp_eql, scmp_neq, stdUn, Int.ofNat_eq_natCast] at *
    omega) ?_
  refine need_cons (by
    try clear hK K
    clear hM hP hC hR; cases hO
    simp only [Ops.std, stdCmp, stdBin, scmp_eql, scmp_neq, stdUn, Int.ofNat_eq_natCast] at *
    exact Nat.zero_le _) ?_
  generalize hl : recLine s = line at ev hsz ⊢
  repeat' first
    | ((with_reducible refine hK _ ?_); clear hK K)
    | ((with_reducible refine thenA_n ?_))
    | ((with_reducible refine thenA_r ?_))
    | ((with_reducible refine thenA_e ?_))
    | ((with_reducible refine block_n ?_))
    | ((with_reducible refine block_r ?_))
    | ((with_reducible refine block_hit ?_))
    | ((with_reducible refine GWp.seq ?_))
    | ((with_reducible refine GWp.block ?_))
    | ((with_reducible refine GWp.skip ?_))
    | ((with_reducible refine GWp.ret ?_))
    | ((with_reducible refine GWp.exit ?_))
    | ((with_reducible refine block_miss ?hd ?_); case hd => rfl)
    | ((with_reducible refine gPost_r ?_); cbv; try simp only [hseg])
    | ((with_reducible refine gPost_n ?_); cbv; try simp only [hseg])
    | ((with_reducible refine fork_t ?_); cbv; try simp only [hseg])
    | ((with_reducible refine fork_f ?_); cbv; try simp only [hseg])
    | ((with_reducible refine GWp.cond_t ?hc ?_); case hc => rfl)
    | ((with_reducible refine GWp.cond_f ?hc ?_); case hc => rfl)
    | ((with_reducible refine GWp.region (base := 0) ?_); intro K hK; cbv; try simp only [hseg])
    | ((with_reducible refine GWp.draws (base := 0) hM ?ho ?_); (case ho => rfl); intro K hK; cbv; try simp only [hseg])
    | ((with_reducible refine need_nil ?_))
    | ((with_reducible refine need_cons ?hp ?_); case hp => first | exact True.intro | with_reducible rfl | exact nn_ok hO (by decide))
    | (fail)
  refine GCall.by ⟨fun _ _ => false, fun _ _ => false, []⟩ ?_
  cbv
  try simp only [hseg]
  refine GCallD.by hP rfl (c_SplitText line (by omega)) ?_
  rintro res bx ⟨els, he, rfl, rfl⟩
  cbv
  try simp only [hseg]
  have em2 : mn (Int.ofNat (len els)) 20 = Int.ofNat (min (split line).length 20) := by
    cases hO; subst he
    simp only [Ops.std, Int.ofNat_eq_natCast, strs_len]
    split <;> omega
  have hlen : len els = (split line).length := by cases hO; subst he; simp
  generalize hm2 : mn (Int.ofNat (len els)) 20 = m2 at em2
  have es : seg (nadd 0 0) (nsub (nat m2) 0) els = strs ((split line).take 20) := by
    subst em2
    cases hO; subst he
    simp only [Ops.std, Int.ofNat_eq_natCast, Int.toNat_natCast, Nat.sub_zero, Nat.add_zero, List.drop_zero]
    rw [strs, strs, List.map_take, List.take_eq_take_iff]
    simp
    omega
  have ea : ∀ e, app [] e = e := by intro e; cases hO; rfl
  repeat' first
    | ((with_reducible refine hK _ ?_); clear hK K)
    | ((with_reducible refine thenA_n ?_))
    | ((with_reducible refine thenA_r ?_))
    | ((with_reducible refine thenA_e ?_))
    | ((with_reducible refine block_n ?_))
    | ((with_reducible refine block_r ?_))
    | ((with_reducible refine block_hit ?_))
    | ((with_reducible refine GWp.seq ?_))
    | ((with_reducible refine GWp.block ?_))
    | ((with_reducible refine GWp.skip ?_))
    | ((with_reducible refine GWp.ret ?_))
    | ((with_reducible refine GWp.exit ?_))
    | ((with_reducible refine block_miss ?hd ?_); case hd => rfl)
    | ((with_reducible refine gPost_r ?_); cbv; try simp only [hseg])
    | ((with_reducible refine gPost_n ?_); cbv; try simp only [hseg])
    | ((with_reducible refine fork_t ?_); cbv; try simp only [hseg])
    | ((with_reducible refine fork_f ?_); cbv; try simp only [hseg])
    | ((with_reducible refine GWp.cond_t ?hc ?_); case hc => rfl)
    | ((with_reducible refine GWp.cond_f ?hc ?_); case hc => rfl)
    | ((with_reducible refine GWp.region (base := 0) ?_); intro K hK; cbv; try simp only [hseg])
    | ((with_reducible refine GWp.draws (base := 0) hM ?ho ?_); (case ho => rfl); intro K hK; cbv; try simp only [hseg])
    | ((with_reducible refine need_nil ?_))
    | ((with_reducible refine need_cons ?hp ?_); case hp => first | exact True.intro | with_reducible rfl | exact nn_ok hO (by decide))
    | (fail)
  simp only [hm2, es, ea]
  have hl2 : ((split line).take 20).length ≤ 20 := by simp; omega
  generalize he2 : strs ((split line).take 20) = els2 at es ⊢
  refine need_cons (by
    try clear hK K
    clear hM hP hC hR; cases hO
    simp only [Ops.std, stdCmp, stdBin, scmp_eql, scmp_neq, stdUn, Int.ofNat_eq_natCast] at *
    rw [hlen, em2]; simp; omega) ?_
  refine need_cons (by
    try clear hK K
    clear hM hP hC hR; cases hO
    simp only [Ops.std, stdCmp, stdBin, scmp_eql, scmp_neq, stdUn, Int.ofNat_eq_natCast] at *
    exact Nat.zero_le _) ?_
  refine need_cons (by
    try clear hK K
    clear hM hP hC hR; cases hO
    simp only [Ops.std, stdCmp, stdBin, scmp_eql, scmp_neq, stdUn, Int.ofNat_eq_natCast] at *
    rw [← he2]; exact strs_all _) ?_
  refine need_cons (aOk_of hO ?_ ?_) (need_nil ?_)
  · rw [← he2]; simp only [strs_len, List.length_nil]; omega
  · rw [← he2]; simp only [strs_len, List.length_nil]; omega
  repeat' first
    | ((with_reducible refine hK _ ?_); clear hK K)
    | ((with_reducible refine thenA_n ?_))
    | ((with_reducible refine thenA_r ?_))
    | ((with_reducible refine thenA_e ?_))
    | ((with_reducible refine block_n ?_))
    | ((with_reducible refine block_r ?_))
    | ((with_reducible refine block_hit ?_))
    | ((with_reducible refine GWp.seq ?_))
    | ((with_reducible refine GWp.block ?_))
    | ((with_reducible refine GWp.skip ?_))
    | ((with_reducible refine GWp.ret ?_))
    | ((with_reducible refine GWp.exit ?_))
    | ((with_reducible refine block_miss ?hd ?_); case hd => rfl)
    | ((with_reducible refine gPost_r ?_); cbv; try simp only [hseg])
    | ((with_reducible refine gPost_n ?_); cbv; try simp only [hseg])
    | ((with_reducible refine fork_t ?_); cbv; try simp only [hseg])
    | ((with_reducible refine fork_f ?_); cbv; try simp only [hseg])
    | ((with_reducible refine GWp.cond_t ?hc ?_); case hc => rfl)
    | ((with_reducible refine GWp.cond_f ?hc ?_); case hc => rfl)
    | ((with_reducible refine GWp.region (base := 0) ?_); intro K hK; cbv; try simp only [hseg])
    | ((with_reducible refine GWp.draws (base := 0) hM ?ho ?_); (case ho => rfl); intro K hK; cbv; try simp only [hseg])
    | ((with_reducible refine need_nil ?_))
    | ((with_reducible refine need_cons ?hp ?_); case hp => first | exact True.intro | with_reducible rfl | exact nn_ok hO (by decide))
    | (fail)
  refine hR _ _ ⟨line, els2, hl.symm, ?_, rfl, rfl⟩
  rw [← he2, recFields, hl]
end Go.Gv
