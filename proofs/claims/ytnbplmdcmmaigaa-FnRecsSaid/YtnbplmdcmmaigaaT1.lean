/- Part T1 of the proof: contracts of functions of the program, each walked once. -/
import Derived.Test.YtnbplmdcmmaigaaD4
import Derived.IntWalk
import Derived.Test.YtnbplmdcmmaigaaProg

namespace Go.Gv
open Go.Av Go.Proofs

def tys : Nat → Option TI := look [(2, ⟨.int .i64, 1, 8, [.int .i64 0]⟩),
  (3, ⟨.int .i64, 1, 8, [.int .i64 0]⟩),
  (4, ⟨.bool, 1, 1, [.bool false]⟩),
  (5, ⟨.int .u8, 1, 1, [.int .u8 0]⟩),
  (6, ⟨.int .u8, 1, 1, [.int .u8 0]⟩),
  (7, ⟨.struct [(0, 2), (1, 3), (2, 4), (3, 6)], 4, 24, [.int .i64 0, .int .i64 0, .bool false, .int .u8 0]⟩),
  (8, ⟨.struct [(0, 2), (1, 3), (2, 4), (3, 6)], 4, 24, [.int .i64 0, .int .i64 0, .bool false, .int .u8 0]⟩),
  (9, ⟨.str, 1, 16, [.string ⟨#[]⟩]⟩),
  (10, ⟨.str, 1, 16, [.string ⟨#[]⟩]⟩),
  (11, ⟨.str, 1, 16, [.string ⟨#[]⟩]⟩),
  (12, ⟨.int .u64, 1, 8, [.int .u64 0]⟩),
  (13, ⟨.struct [(0, 9), (1, 12)], 2, 24, [.string ⟨#[]⟩, .int .u64 0]⟩),
  (14, ⟨.struct [(0, 9), (1, 12)], 2, 24, [.string ⟨#[]⟩, .int .u64 0]⟩),
  (15, ⟨.ptr 76, 1, 8, [.pointer none]⟩),
  (16, ⟨.ptr 79, 1, 8, [.pointer none]⟩),
  (17, ⟨.ptr 88, 1, 8, [.pointer none]⟩),
  (18, ⟨.struct [(0, 17)], 1, 8, [.pointer none]⟩),
  (19, ⟨.struct [(0, 17)], 1, 8, [.pointer none]⟩),
  (21, ⟨.int .i32, 1, 4, [.int .i32 0]⟩),
  (22, ⟨.slice 5, 1, 24, [.slice none 0 0]⟩),
  (25, ⟨.slice 9, 1, 24, [.slice none 0 0]⟩),
  (26, ⟨.struct [(0, 9), (1, 25)], 2, 40, [.string ⟨#[]⟩, .slice none 0 0]⟩),
  (27, ⟨.struct [(0, 9), (1, 25)], 2, 40, [.string ⟨#[]⟩, .slice none 0 0]⟩),
  (39, ⟨.ptr 54, 1, 8, [.pointer none]⟩),
  (47, ⟨.slice 3, 1, 24, [.slice none 0 0]⟩),
  (53, ⟨.struct [(0, 22), (1, 3), (2, 3)], 3, 40, [.slice none 0 0, .int .i64 0, .int .i64 0]⟩),
  (54, ⟨.struct [(0, 22), (1, 3), (2, 3)], 3, 40, [.slice none 0 0, .int .i64 0, .int .i64 0]⟩),
  (58, ⟨.ptr 60, 1, 8, [.pointer none]⟩),
  (59, ⟨.struct [(0, 58), (1, 22)], 2, 32, [.pointer none, .slice none 0 0]⟩),
  (60, ⟨.struct [(0, 58), (1, 22)], 2, 32, [.pointer none, .slice none 0 0]⟩),
  (67, ⟨.slice 69, 1, 24, [.slice none 0 0]⟩),
  (68, ⟨.struct [(0, 3), (1, 3)], 2, 16, [.int .i64 0, .int .i64 0]⟩),
  (69, ⟨.struct [(0, 3), (1, 3)], 2, 16, [.int .i64 0, .int .i64 0]⟩),
  (70, ⟨.int .u64, 1, 8, [.int .u64 0]⟩),
  (71, ⟨.ptr 5, 1, 8, [.pointer none]⟩),
  (75, ⟨.struct [(0, 17), (1, 17), (2, 17), (3, 9)], 4, 40, [.pointer none, .pointer none, .pointer none, .string ⟨#[]⟩]⟩)]
theorem tys_ok : ∀ n ti, tys n = some ti → tyOf Try.prog n = some ti := look_ok (by
  intro p hp
  simp only [List.mem_cons, List.not_mem_nil, or_false] at hp
  rcases hp with rfl | rfl | rfl | rfl | rfl | rfl | rfl | rfl | rfl | rfl | rfl | rfl | rfl | rfl | rfl | rfl | rfl | rfl | rfl | rfl | rfl | rfl | rfl | rfl | rfl | rfl | rfl | rfl | rfl | rfl | rfl | rfl | rfl | rfl | rfl | rfl <;> rfl)

set_option linter.unusedSimpArgs false
def litI (x : Int) : AV := ⟨.one, [.lit (.int .i64 x)]⟩
def litB (b : Bool) : AV := ⟨.one, [.lit (.bool b)]⟩
def litS (s : ByteArray) : AV := ⟨.one, [.lit (.string s)]⟩
def roA (els : List (List T)) : AV := ⟨.one, [.ro false els]⟩
def owA (els : List (List T)) : AV := ⟨.one, [.ow (0, 0) 1 els]⟩
def strs (l : List ByteArray) : List (List T) := l.map fun s => [T.lit (.string s)]
@[simp] theorem strs_len (l : List ByteArray) : (strs l).length = l.length := by simp [strs]
@[simp] theorem strs_all (l : List ByteArray) : ∀ x ∈ strs l, x.length = 1 := by simp [strs]
@[simp] theorem strs_lits (l : List ByteArray) : ∀ x ∈ strs l, ∀ t ∈ x, isL t = true := by simp [strs, isL]
theorem strs_app (a b : List ByteArray) : strs a ++ strs b = strs (a ++ b) := by simp [strs]
theorem strs_get (l : List ByteArray) (i : Nat) (h : i < l.length) : (strs l).getD i [] = [T.lit (.string (l.getD i ⟨#[]⟩))] := by simp [strs, h]
theorem strs_at {O : Ops} (hO : O = Ops.std) {els : List (List T)} {l : List ByteArray} (he : els = strs l) {i : Nat} (hi : i < l.length) : O.get els (O.nat (Int.ofNat i)) = [T.lit (.string (l.getD i ⟨#[]⟩))] := by
  subst hO; subst he; exact strs_get l i hi
theorem i64_id {x : Int} (h : -9223372036854775808 ≤ x ∧ x ≤ 9223372036854775807) : IntKind.i64.wrap x = x := IntWalk.i64_in x h
theorem ba_eq {a b : ByteArray} : (a.toList == b.toList) = decide (a = b) := by
  rw [ByteArray.toList_eq, ByteArray.toList_eq]
  by_cases h : a = b
  · subst h; simp
  · have : a.data.toList ≠ b.data.toList := fun e => h (by cases a; cases b; simp at e; rw [e])
    rw [decide_eq_false h]; simpa using fun e => this (by rw [e])
theorem scmp_eql (a b : ByteArray) : stdScmp .eql a b = decide (a = b) := ba_eq
theorem scmp_neq (a b : ByteArray) : stdScmp .neq a b = !decide (a = b) := by simp only [stdScmp, ba_eq]
theorem i_succ {O : Ops} (hO : O = Ops.std) {i : Nat} (h : i < 9223372036854775807) : O.bin .add .i64 (Int.ofNat i) 1 = Int.ofNat (i + 1) := by
  subst hO; exact i64_id (x := (i : Int) + 1) (by omega)
theorem take_succ {α : Type} (d : α) {a b : List α} {i : Nat} (h1 : i < a.length) (h2 : i < b.length) (h : a.take i = b.take i) (he : a.getD i d = b.getD i d) : a.take (i + 1) = b.take (i + 1) := by
  rw [List.take_succ_eq_append_getElem h1, List.take_succ_eq_append_getElem h2, h]
  rw [List.getD_eq_getElem?_getD, List.getD_eq_getElem?_getD, List.getElem?_eq_getElem h1, List.getElem?_eq_getElem h2] at he
  simp only [Option.getD_some] at he
  rw [he]
theorem nn_ok {O : Ops} (hO : O = Ops.std) {n : Int} (h : 0 ≤ n) : O.nn n := by subst hO; exact h
theorem nz_ok {O : Ops} (hO : O = Ops.std) {n : Int} (h : n ≠ 0) : O.nz n := by subst hO; exact h
theorem strs_atI {O : Ops} (hO : O = Ops.std) {els : List (List T)} {l : List ByteArray} (he : els = strs l) {x : Int} (h0 : 0 ≤ x) (hi : x < Int.ofNat l.length) : O.get els (O.nat x) = [T.lit (.string (l.getD x.toNat ⟨#[]⟩))] := by
  subst hO; subst he
  exact strs_get l x.toNat (by simp only [Int.ofNat_eq_natCast] at hi; omega)
theorem getD_mem {α : Type} {l : List α} {d : α} {x : Int} (h0 : 0 ≤ x) (hi : x < Int.ofNat l.length) : l.getD x.toNat d ∈ l := by
  have h : x.toNat < l.length := by simp only [Int.ofNat_eq_natCast] at hi; omega
  rw [List.getD_eq_getElem?_getD, List.getElem?_eq_getElem h]
  exact List.getElem_mem h
end Go.Gv

namespace Go.Gv
open Go.Av Go.Proofs
set_option maxRecDepth 10000
set_option linter.unusedSimpArgs false

def byts (l : List Int) : List (List T) := l.map fun n => [T.lit (.int .u8 n)]
theorem byts_len (l : List Int) : (byts l).length = l.length := by simp [byts]
theorem byts_all (l : List Int) : ∀ x ∈ byts l, x.length = 1 := by simp [byts]
theorem byts_at {O : Ops} (hO : O = Ops.std) {els : List (List T)} {l : List Int} (he : els = byts l) {x : Int} (h0 : 0 ≤ x) (hi : x < Int.ofNat l.length) : O.get els (O.nat x) = [T.lit (.int .u8 (l.getD x.toNat 0))] := by
  subst hO; subst he
  have : x.toNat < l.length := by simp only [Int.ofNat_eq_natCast] at hi; omega
  simp [Ops.std, byts, this]

theorem and_255 (a : Int) : 0 ≤ stdBin .and .i64 a 255 ∧ stdBin .and .i64 a 255 ≤ 255 := by
  have h : (BitVec.ofInt 64 a &&& BitVec.ofInt 64 255).toNat ≤ 255 := by
    rw [BitVec.toNat_and]
    exact Nat.le_trans Nat.and_le_right (by decide)
  have e : stdBin .and .i64 a 255 = ((BitVec.ofInt 64 a &&& BitVec.ofInt 64 255).toNat : Int) := by
    show IntKind.i64.wrap ((BitVec.ofInt 64 a &&& BitVec.ofInt 64 255).toNat : Int) = _
    exact i64_id (by omega)
  rw [e]; omega

def cur (els : List (List T)) (i h : Int) : List A := [.ro true els, .lit (.int .i64 i), .lit (.int .i64 h)]
def curP : AV := ⟨.one, [.ptr 0 0]⟩

theorem c_l1Byte (els : List (List T)) (l : List Int) (he : els = byts l) (hl : l.length ≤ 1048576) (i h : Int) (hi : 0 ≤ i ∧ i ≤ Int.ofNat l.length) :
    ACalls Try.prog 37 [curP] [some (cur els i h)] (fun res bx => ∃ x i' h', res = litI x ∧ bx = [some (cur els i' h')] ∧ (0 ≤ x ∧ x ≤ 255) ∧ (0 ≤ i' ∧ i' ≤ Int.ofNat l.length)) := by
  refine gcalls_by tys_ok 58 [.tmp 2] (fn := Try.f37) rfl rfl rfl rfl ?_ ?_ ?_
  · simp [stampFree, curP, A.stamp, A.rstamp, stampIn]
  · simp [stampFree, cur, A.stamp, A.rstamp, stampIn]
  intro O hO P hP C hC R hR
  have hM : P.follows .mixedOrders = true := by rw [hP]; rfl
  obtain ⟨bin, cmp, sadd, scmp, beq, bnot, un, wrap, size, byte, sub, len, seg, app, get, set, nat, nadd, nsub, repl, text, bytes, mn, mx, nz, nn, idx, bnd, le, all, one, lits, isB, sOk, aOk, mOk⟩ := O
  have hseg : ∀ e, seg 0 (len e) e = e := by intro e; cases hO; simp
  repeat' first
    | ((with_reducible refine hK _ ?_); clear hK K)
    | ((with_reducible refine thenA_n ?_))
    | ((with_reducible refine thenA_r ?_))
    | ((with_reducible refine thenA_e ?_))
    | ((with_reducible refine block_n ?_))
    | ((with_reducible refine block_r ?_))
    | ((with_reducible refine block_hit ?_))
    | ((with_reducible refine GWp.seq ?_))
    | ((with_reducible refine GWp.block ?_))
    | ((with_reducible refine GWp.skip ?_))
    | ((with_reducible refine GWp.ret ?_))
    | ((with_reducible refine GWp.exit ?_))
    | ((with_reducible refine block_miss ?hd ?_); case hd => rfl)
    | ((with_reducible refine gPost_r ?_); cbv; try simp only [hseg])
    | ((with_reducible refine gPost_n ?_); cbv; try simp only [hseg])
    | ((with_reducible refine fork_t ?_); cbv; try simp only [hseg])
    | ((with_reducible refine fork_f ?_); cbv; try simp only [hseg])
    | ((with_reducible refine GWp.cond_t ?hc ?_); case hc => rfl)
    | ((with_reducible refine GWp.cond_f ?hc ?_); case hc => rfl)
    | ((with_reducible refine GWp.region (base := 1) ?_); intro K hK; cbv; try simp only [hseg])
    | ((with_reducible refine GWp.draws (base := 1) hM ?ho ?_); (case ho => rfl); intro K hK; cbv; try simp only [hseg])
    | ((with_reducible refine need_nil ?_))
    | ((with_reducible refine need_cons ?hp ?_); case hp => first | exact True.intro | with_reducible rfl | exact nn_ok hO (by decide))
    | (fail)
  refine GWp.cond rfl (fun h3 => ?_) (fun h3 => ?_)
  · have hlt : i < Int.ofNat l.length := by
      try clear hK K
      clear hM hP hC hR; cases hO
      simp only [Ops.std, stdCmp, stdBin, scmp_eql, scmp_neq, stdUn, Int.ofNat_eq_natCast] at *
      subst he; simp [byts_len] at h3; omega
    have e1 : get els (nat i) = _ := byts_at hO he hi.1 hlt
    generalize l.getD i.toNat 0 = x1 at e1
    repeat' first
      | ((with_reducible refine hK _ ?_); clear hK K)
      | ((with_reducible refine thenA_n ?_))
      | ((with_reducible refine thenA_r ?_))
      | ((with_reducible refine thenA_e ?_))
      | ((with_reducible refine block_n ?_))
      | ((with_reducible refine block_r ?_))
      | ((with_reducible refine block_hit ?_))
      | ((with_reducible refine GWp.seq ?_))
      | ((with_reducible refine GWp.block ?_))
      | ((with_reducible refine GWp.skip ?_))
      | ((with_reducible refine GWp.ret ?_))
      | ((with_reducible refine GWp.exit ?_))
      | ((with_reducible refine block_miss ?hd ?_); case hd => rfl)
      | ((with_reducible refine gPost_r ?_); cbv; try simp only [hseg])
      | ((with_reducible refine gPost_n ?_); cbv; try simp only [hseg])
      | ((with_reducible refine fork_t ?_); cbv; try simp only [hseg])
      | ((with_reducible refine fork_f ?_); cbv; try simp only [hseg])
      | ((with_reducible refine GWp.cond_t ?hc ?_); case hc => rfl)
      | ((with_reducible refine GWp.cond_f ?hc ?_); case hc => rfl)
      | ((with_reducible refine GWp.region (base := 1) ?_); intro K hK; cbv; try simp only [hseg])
      | ((with_reducible refine GWp.draws (base := 1) hM ?ho ?_); (case ho => rfl); intro K hK; cbv; try simp only [hseg])
      | ((with_reducible refine need_nil ?_))
      | ((with_reducible refine need_cons ?hp ?_); case hp => first | exact True.intro | with_reducible rfl | exact nn_ok hO (by decide))
      | (fail)
    repeat (simp only [e1]; cbv)
    refine need_cons (by
      try clear hK K
      clear hM hP hC hR; cases hO
      simp only [Ops.std, stdCmp, stdBin, scmp_eql, scmp_neq, stdUn, Int.ofNat_eq_natCast] at *
      subst he; simp [byts_len]; omega) ?_
    refine need_cons (by
      try clear hK K
      clear hM hP hC hR; cases hO
      simp only [Ops.std, stdCmp, stdBin, scmp_eql, scmp_neq, stdUn, Int.ofNat_eq_natCast] at *
      subst he; exact byts_all _) ?_
    repeat' first
      | ((with_reducible refine hK _ ?_); clear hK K)
      | ((with_reducible refine thenA_n ?_))
      | ((with_reducible refine thenA_r ?_))
      | ((with_reducible refine thenA_e ?_))
      | ((with_reducible refine block_n ?_))
      | ((with_reducible refine block_r ?_))
      | ((with_reducible refine block_hit ?_))
      | ((with_reducible refine GWp.seq ?_))
      | ((with_reducible refine GWp.block ?_))
      | ((with_reducible refine GWp.skip ?_))
      | ((with_reducible refine GWp.ret ?_))
      | ((with_reducible refine GWp.exit ?_))
      | ((with_reducible refine block_miss ?hd ?_); case hd => rfl)
      | ((with_reducible refine gPost_r ?_); cbv; try simp only [hseg])
      | ((with_reducible refine gPost_n ?_); cbv; try simp only [hseg])
      | ((with_reducible refine fork_t ?_); cbv; try simp only [hseg])
      | ((with_reducible refine fork_f ?_); cbv; try simp only [hseg])
      | ((with_reducible refine GWp.cond_t ?hc ?_); case hc => rfl)
      | ((with_reducible refine GWp.cond_f ?hc ?_); case hc => rfl)
      | ((with_reducible refine GWp.region (base := 1) ?_); intro K hK; cbv; try simp only [hseg])
      | ((with_reducible refine GWp.draws (base := 1) hM ?ho ?_); (case ho => rfl); intro K hK; cbv; try simp only [hseg])
      | ((with_reducible refine need_nil ?_))
      | ((with_reducible refine need_cons ?hp ?_); case hp => first | exact True.intro | with_reducible rfl | exact nn_ok hO (by decide))
      | (fail)
    refine hR _ _ ⟨_, _, _, rfl, rfl, ?_, ?_⟩
    · clear hM hP hC hR
      cases hO
      simp only [Ops.std, stdCmp, stdBin, scmp_eql, scmp_neq, stdUn, Int.ofNat_eq_natCast] at *
      exact and_255 _
    · have e : bin .add .i64 i 1 = i + 1 := by
        cases hO
        refine i64_id ?_
        clear hR; try clear hK
        simp only [Int.ofNat_eq_natCast] at *
        omega
      rw [e]
      clear hR; try clear hK
      simp only [Int.ofNat_eq_natCast] at *
      omega
  · repeat' first
      | ((with_reducible refine hK _ ?_); clear hK K)
      | ((with_reducible refine thenA_n ?_))
      | ((with_reducible refine thenA_r ?_))
      | ((with_reducible refine thenA_e ?_))
      | ((with_reducible refine block_n ?_))
      | ((with_reducible refine block_r ?_))
      | ((with_reducible refine block_hit ?_))
      | ((with_reducible refine GWp.seq ?_))
      | ((with_reducible refine GWp.block ?_))
      | ((with_reducible refine GWp.skip ?_))
      | ((with_reducible refine GWp.ret ?_))
      | ((with_reducible refine GWp.exit ?_))
      | ((with_reducible refine block_miss ?hd ?_); case hd => rfl)
      | ((with_reducible refine gPost_r ?_); cbv; try simp only [hseg])
      | ((with_reducible refine gPost_n ?_); cbv; try simp only [hseg])
      | ((with_reducible refine fork_t ?_); cbv; try simp only [hseg])
      | ((with_reducible refine fork_f ?_); cbv; try simp only [hseg])
      | ((with_reducible refine GWp.cond_t ?hc ?_); case hc => rfl)
      | ((with_reducible refine GWp.cond_f ?hc ?_); case hc => rfl)
      | ((with_reducible refine GWp.region (base := 1) ?_); intro K hK; cbv; try simp only [hseg])
      | ((with_reducible refine GWp.draws (base := 1) hM ?ho ?_); (case ho => rfl); intro K hK; cbv; try simp only [hseg])
      | ((with_reducible refine need_nil ?_))
      | ((with_reducible refine need_cons ?hp ?_); case hp => first | exact True.intro | with_reducible rfl | exact nn_ok hO (by decide))
      | (fail)
    refine hR _ _ ⟨_, _, _, rfl, rfl, ?_, hi⟩
    clear hM hP hC hR
    cases hO
    simp only [Ops.std, stdCmp, stdBin, scmp_eql, scmp_neq, stdUn, Int.ofNat_eq_natCast] at *
    exact and_255 _
end Go.Gv

namespace Go.Gv
open Go.Av Go.Proofs
set_option maxRecDepth 10000
set_option linter.unusedSimpArgs false

/-- What a draw hands back beside its value. -/
def Drew (els : List (List T)) (l : List Int) (bx : List (Option (List A))) : Prop := ∃ i h, bx = [some (cur els i h)] ∧ (0 ≤ i ∧ i ≤ Int.ofNat l.length)

theorem tmod_in {a n : Int} (ha : 0 ≤ a) (hn : 0 < n) : 0 ≤ a.tmod n ∧ a.tmod n < n := ⟨Int.tmod_nonneg _ ha, Int.tmod_lt_of_pos _ hn⟩

theorem c_l1Below (els : List (List T)) (l : List Int) (he : els = byts l) (hl : l.length ≤ 1048576) (i h : Int) (hi : 0 ≤ i ∧ i ≤ Int.ofNat l.length) (n : Int) :
    ACalls Try.prog 29 [curP, litI n] [some (cur els i h)] (fun res bx => ∃ x, res = litI x ∧ Drew els l bx ∧ 0 ≤ x ∧ (0 < n → x < n)) := by
  refine gcalls_by tys_ok 31 [.tmp 4] (fn := Try.f29) rfl rfl rfl rfl ?_ ?_ ?_
  · simp [stampFree, curP, litI, A.stamp, A.rstamp, stampIn]
  · simp [stampFree, cur, A.stamp, A.rstamp, stampIn]
  intro O hO P hP C hC R hR
  have hM : P.follows .mixedOrders = true := by rw [hP]; rfl
  obtain ⟨bin, cmp, sadd, scmp, beq, bnot, un, wrap, size, byte, sub, len, seg, app, get, set, nat, nadd, nsub, repl, text, bytes, mn, mx, nz, nn, idx, bnd, le, all, one, lits, isB, sOk, aOk, mOk⟩ := O
  have hseg : ∀ e, seg 0 (len e) e = e := by intro e; cases hO; simp
  repeat' first
    | ((with_reducible refine hK _ ?_); clear hK K)
    | ((with_reducible refine thenA_n ?_))
    | ((with_reducible refine thenA_r ?_))
    | ((with_reducible refine thenA_e ?_))
    | ((with_reducible refine block_n ?_))
    | ((with_reducible refine block_r ?_))
    | ((with_reducible refine block_hit ?_))
    | ((with_reducible refine GWp.seq ?_))
    | ((with_reducible refine GWp.block ?_))
    | ((with_reducible refine GWp.skip ?_))
    | ((with_reducible refine GWp.ret ?_))
    | ((with_reducible refine GWp.exit ?_))
    | ((with_reducible refine block_miss ?hd ?_); case hd => rfl)
    | ((with_reducible refine gPost_r ?_); cbv; try simp only [hseg])
    | ((with_reducible refine gPost_n ?_); cbv; try simp only [hseg])
    | ((with_reducible refine fork_t ?_); cbv; try simp only [hseg])
    | ((with_reducible refine fork_f ?_); cbv; try simp only [hseg])
    | ((with_reducible refine GWp.cond_t ?hc ?_); case hc => rfl)
    | ((with_reducible refine GWp.cond_f ?hc ?_); case hc => rfl)
    | ((with_reducible refine GWp.region (base := 1) ?_); intro K hK; cbv; try simp only [hseg])
    | ((with_reducible refine GWp.draws (base := 1) hM ?ho ?_); (case ho => rfl); intro K hK; cbv; try simp only [hseg])
    | ((with_reducible refine need_nil ?_))
    | ((with_reducible refine need_cons ?hp ?_); case hp => first | exact True.intro | with_reducible rfl | exact nn_ok hO (by decide))
    | (fail)
  refine GWp.cond rfl (fun h3 => ?_) (fun h3 => ?_)
  · repeat' first
      | ((with_reducible refine hK _ ?_); clear hK K)
      | ((with_reducible refine thenA_n ?_))
      | ((with_reducible refine thenA_r ?_))
      | ((with_reducible refine thenA_e ?_))
      | ((with_reducible refine block_n ?_))
      | ((with_reducible refine block_r ?_))
      | ((with_reducible refine block_hit ?_))
      | ((with_reducible refine GWp.seq ?_))
      | ((with_reducible refine GWp.block ?_))
      | ((with_reducible refine GWp.skip ?_))
      | ((with_reducible refine GWp.ret ?_))
      | ((with_reducible refine GWp.exit ?_))
      | ((with_reducible refine block_miss ?hd ?_); case hd => rfl)
      | ((with_reducible refine gPost_r ?_); cbv; try simp only [hseg])
      | ((with_reducible refine gPost_n ?_); cbv; try simp only [hseg])
      | ((with_reducible refine fork_t ?_); cbv; try simp only [hseg])
      | ((with_reducible refine fork_f ?_); cbv; try simp only [hseg])
      | ((with_reducible refine GWp.cond_t ?hc ?_); case hc => rfl)
      | ((with_reducible refine GWp.cond_f ?hc ?_); case hc => rfl)
      | ((with_reducible refine GWp.region (base := 1) ?_); intro K hK; cbv; try simp only [hseg])
      | ((with_reducible refine GWp.draws (base := 1) hM ?ho ?_); (case ho => rfl); intro K hK; cbv; try simp only [hseg])
      | ((with_reducible refine need_nil ?_))
      | ((with_reducible refine need_cons ?hp ?_); case hp => first | exact True.intro | with_reducible rfl | exact nn_ok hO (by decide))
      | (fail)
    refine hR _ _ ⟨_, rfl, ⟨_, _, rfl, hi⟩, by omega, fun hn => hn⟩
  have hn : 0 < n := by
    try clear hK K
    clear hM hP hC hR; cases hO
    simp only [Ops.std, stdCmp, stdBin, scmp_eql, scmp_neq, stdUn, Int.ofNat_eq_natCast] at *
    simp at h3; omega
  repeat' first
    | ((with_reducible refine hK _ ?_); clear hK K)
    | ((with_reducible refine thenA_n ?_))
    | ((with_reducible refine thenA_r ?_))
    | ((with_reducible refine thenA_e ?_))
    | ((with_reducible refine block_n ?_))
    | ((with_reducible refine block_r ?_))
    | ((with_reducible refine block_hit ?_))
    | ((with_reducible refine GWp.seq ?_))
    | ((with_reducible refine GWp.block ?_))
    | ((with_reducible refine GWp.skip ?_))
    | ((with_reducible refine GWp.ret ?_))
    | ((with_reducible refine GWp.exit ?_))
    | ((with_reducible refine block_miss ?hd ?_); case hd => rfl)
    | ((with_reducible refine gPost_r ?_); cbv; try simp only [hseg])
    | ((with_reducible refine gPost_n ?_); cbv; try simp only [hseg])
    | ((with_reducible refine fork_t ?_); cbv; try simp only [hseg])
    | ((with_reducible refine fork_f ?_); cbv; try simp only [hseg])
    | ((with_reducible refine GWp.cond_t ?hc ?_); case hc => rfl)
    | ((with_reducible refine GWp.cond_f ?hc ?_); case hc => rfl)
    | ((with_reducible refine GWp.region (base := 1) ?_); intro K hK; cbv; try simp only [hseg])
    | ((with_reducible refine GWp.draws (base := 1) hM ?ho ?_); (case ho => rfl); intro K hK; cbv; try simp only [hseg])
    | ((with_reducible refine need_nil ?_))
    | ((with_reducible refine need_cons ?hp ?_); case hp => first | exact True.intro | with_reducible rfl | exact nn_ok hO (by decide))
    | (fail)
  refine GWp.cond rfl (fun h4 => ?_) (fun h4 => ?_)
  · repeat' first
      | ((with_reducible refine hK _ ?_); clear hK K)
      | ((with_reducible refine thenA_n ?_))
      | ((with_reducible refine thenA_r ?_))
      | ((with_reducible refine thenA_e ?_))
      | ((with_reducible refine block_n ?_))
      | ((with_reducible refine block_r ?_))
      | ((with_reducible refine block_hit ?_))
      | ((with_reducible refine GWp.seq ?_))
      | ((with_reducible refine GWp.block ?_))
      | ((with_reducible refine GWp.skip ?_))
      | ((with_reducible refine GWp.ret ?_))
      | ((with_reducible refine GWp.exit ?_))
      | ((with_reducible refine block_miss ?hd ?_); case hd => rfl)
      | ((with_reducible refine gPost_r ?_); cbv; try simp only [hseg])
      | ((with_reducible refine gPost_n ?_); cbv; try simp only [hseg])
      | ((with_reducible refine fork_t ?_); cbv; try simp only [hseg])
      | ((with_reducible refine fork_f ?_); cbv; try simp only [hseg])
      | ((with_reducible refine GWp.cond_t ?hc ?_); case hc => rfl)
      | ((with_reducible refine GWp.cond_f ?hc ?_); case hc => rfl)
      | ((with_reducible refine GWp.region (base := 1) ?_); intro K hK; cbv; try simp only [hseg])
      | ((with_reducible refine GWp.draws (base := 1) hM ?ho ?_); (case ho => rfl); intro K hK; cbv; try simp only [hseg])
      | ((with_reducible refine need_nil ?_))
      | ((with_reducible refine need_cons ?hp ?_); case hp => first | exact True.intro | with_reducible rfl | exact nn_ok hO (by decide))
      | (fail)
    refine GCall.by ⟨fun _ _ => false, fun _ _ => false, [0]⟩ ?_
    cbv
    try simp only [hseg]
    refine GCallD.by hP rfl (c_l1Byte els l he hl i h hi) ?_
    rintro res bx ⟨x, i', h', rfl, rfl, hx, hi'⟩
    cbv
    try simp only [hseg]
    refine need_cons (nz_ok hO (by omega)) (need_nil ?_)
    repeat' first
      | ((with_reducible refine hK _ ?_); clear hK K)
      | ((with_reducible refine thenA_n ?_))
      | ((with_reducible refine thenA_r ?_))
      | ((with_reducible refine thenA_e ?_))
      | ((with_reducible refine block_n ?_))
      | ((with_reducible refine block_r ?_))
      | ((with_reducible refine block_hit ?_))
      | ((with_reducible refine GWp.seq ?_))
      | ((with_reducible refine GWp.block ?_))
      | ((with_reducible refine GWp.skip ?_))
      | ((with_reducible refine GWp.ret ?_))
      | ((with_reducible refine GWp.exit ?_))
      | ((with_reducible refine block_miss ?hd ?_); case hd => rfl)
      | ((with_reducible refine gPost_r ?_); cbv; try simp only [hseg])
      | ((with_reducible refine gPost_n ?_); cbv; try simp only [hseg])
      | ((with_reducible refine fork_t ?_); cbv; try simp only [hseg])
      | ((with_reducible refine fork_f ?_); cbv; try simp only [hseg])
      | ((with_reducible refine GWp.cond_t ?hc ?_); case hc => rfl)
      | ((with_reducible refine GWp.cond_f ?hc ?_); case hc => rfl)
      | ((with_reducible refine GWp.region (base := 1) ?_); intro K hK; cbv; try simp only [hseg])
      | ((with_reducible refine GWp.draws (base := 1) hM ?ho ?_); (case ho => rfl); intro K hK; cbv; try simp only [hseg])
      | ((with_reducible refine need_nil ?_))
      | ((with_reducible refine need_cons ?hp ?_); case hp => first | exact True.intro | with_reducible rfl | exact nn_ok hO (by decide))
      | (fail)
    have e : bin .rem .i64 x n = x.tmod n := by cases hO; rfl
    refine hR _ _ ⟨_, rfl, ⟨_, _, rfl, hi'⟩, ?_, fun _ => ?_⟩
    · rw [e]; exact (tmod_in hx.1 hn).1
    · rw [e]; exact (tmod_in hx.1 hn).2
  · repeat' first
      | ((with_reducible refine hK _ ?_); clear hK K)
      | ((with_reducible refine thenA_n ?_))
      | ((with_reducible refine thenA_r ?_))
      | ((with_reducible refine thenA_e ?_))
      | ((with_reducible refine block_n ?_))
      | ((with_reducible refine block_r ?_))
      | ((with_reducible refine block_hit ?_))
      | ((with_reducible refine GWp.seq ?_))
      | ((with_reducible refine GWp.block ?_))
      | ((with_reducible refine GWp.skip ?_))
      | ((with_reducible refine GWp.ret ?_))
      | ((with_reducible refine GWp.exit ?_))
      | ((with_reducible refine block_miss ?hd ?_); case hd => rfl)
      | ((with_reducible refine gPost_r ?_); cbv; try simp only [hseg])
      | ((with_reducible refine gPost_n ?_); cbv; try simp only [hseg])
      | ((with_reducible refine fork_t ?_); cbv; try simp only [hseg])
      | ((with_reducible refine fork_f ?_); cbv; try simp only [hseg])
      | ((with_reducible refine GWp.cond_t ?hc ?_); case hc => rfl)
      | ((with_reducible refine GWp.cond_f ?hc ?_); case hc => rfl)
      | ((with_reducible refine GWp.region (base := 1) ?_); intro K hK; cbv; try simp only [hseg])
      | ((with_reducible refine GWp.draws (base := 1) hM ?ho ?_); (case ho => rfl); intro K hK; cbv; try simp only [hseg])
      | ((with_reducible refine need_nil ?_))
      | ((with_reducible refine need_cons ?hp ?_); case hp => first | exact True.intro | with_reducible rfl | exact nn_ok hO (by decide))
      | (fail)
    refine GCall.by ⟨fun _ _ => false, fun _ _ => false, [0]⟩ ?_
    cbv
    try simp only [hseg]
    refine GCallD.by hP rfl (c_l1Byte els l he hl i h hi) ?_
    rintro res bx ⟨x, i1, h1, rfl, rfl, hx, hi1⟩
    cbv
    try simp only [hseg]
    repeat' first
      | ((with_reducible refine hK _ ?_); clear hK K)
      | ((with_reducible refine thenA_n ?_))
      | ((with_reducible refine thenA_r ?_))
      | ((with_reducible refine thenA_e ?_))
      | ((with_reducible refine block_n ?_))
      | ((with_reducible refine block_r ?_))
      | ((with_reducible refine block_hit ?_))
      | ((with_reducible refine GWp.seq ?_))
      | ((with_reducible refine GWp.block ?_))
      | ((with_reducible refine GWp.skip ?_))
      | ((with_reducible refine GWp.ret ?_))
      | ((with_reducible refine GWp.exit ?_))
      | ((with_reducible refine block_miss ?hd ?_); case hd => rfl)
      | ((with_reducible refine gPost_r ?_); cbv; try simp only [hseg])
      | ((with_reducible refine gPost_n ?_); cbv; try simp only [hseg])
      | ((with_reducible refine fork_t ?_); cbv; try simp only [hseg])
      | ((with_reducible refine fork_f ?_); cbv; try simp only [hseg])
      | ((with_reducible refine GWp.cond_t ?hc ?_); case hc => rfl)
      | ((with_reducible refine GWp.cond_f ?hc ?_); case hc => rfl)
      | ((with_reducible refine GWp.region (base := 1) ?_); intro K hK; cbv; try simp only [hseg])
      | ((with_reducible refine GWp.draws (base := 1) hM ?ho ?_); (case ho => rfl); intro K hK; cbv; try simp only [hseg])
      | ((with_reducible refine need_nil ?_))
      | ((with_reducible refine need_cons ?hp ?_); case hp => first | exact True.intro | with_reducible rfl | exact nn_ok hO (by decide))
      | (fail)
    refine GCall.by ⟨fun _ _ => false, fun _ _ => false, [0]⟩ ?_
    cbv
    try simp only [hseg]
    refine GCallD.by hP rfl (c_l1Byte els l he hl i1 h1 hi1) ?_
    rintro res bx ⟨y, i2, h2, rfl, rfl, hy, hi2⟩
    cbv
    try simp only [hseg]
    repeat' first
      | ((with_reducible refine hK _ ?_); clear hK K)
      | ((with_reducible refine thenA_n ?_))
      | ((with_reducible refine thenA_r ?_))
      | ((with_reducible refine thenA_e ?_))
      | ((with_reducible refine block_n ?_))
      | ((with_reducible refine block_r ?_))
      | ((with_reducible refine block_hit ?_))
      | ((with_reducible refine GWp.seq ?_))
      | ((with_reducible refine GWp.block ?_))
      | ((with_reducible refine GWp.skip ?_))
      | ((with_reducible refine GWp.ret ?_))
      | ((with_reducible refine GWp.exit ?_))
      | ((with_reducible refine block_miss ?hd ?_); case hd => rfl)
      | ((with_reducible refine gPost_r ?_); cbv; try simp only [hseg])
      | ((with_reducible refine gPost_n ?_); cbv; try simp only [hseg])
      | ((with_reducible refine fork_t ?_); cbv; try simp only [hseg])
      | ((with_reducible refine fork_f ?_); cbv; try simp only [hseg])
      | ((with_reducible refine GWp.cond_t ?hc ?_); case hc => rfl)
      | ((with_reducible refine GWp.cond_f ?hc ?_); case hc => rfl)
      | ((with_reducible refine GWp.region (base := 1) ?_); intro K hK; cbv; try simp only [hseg])
      | ((with_reducible refine GWp.draws (base := 1) hM ?ho ?_); (case ho => rfl); intro K hK; cbv; try simp only [hseg])
      | ((with_reducible refine need_nil ?_))
      | ((with_reducible refine need_cons ?hp ?_); case hp => first | exact True.intro | with_reducible rfl | exact nn_ok hO (by decide))
      | (fail)
    refine GCall.by ⟨fun _ _ => false, fun _ _ => false, [0]⟩ ?_
    cbv
    try simp only [hseg]
    refine GCallD.by hP rfl (c_l1Byte els l he hl i2 h2 hi2) ?_
    rintro res bx ⟨z, i3, h3, rfl, rfl, hz, hi3⟩
    cbv
    try simp only [hseg]
    repeat' first
      | ((with_reducible refine hK _ ?_); clear hK K)
      | ((with_reducible refine thenA_n ?_))
      | ((with_reducible refine thenA_r ?_))
      | ((with_reducible refine thenA_e ?_))
      | ((with_reducible refine block_n ?_))
      | ((with_reducible refine block_r ?_))
      | ((with_reducible refine block_hit ?_))
      | ((with_reducible refine GWp.seq ?_))
      | ((with_reducible refine GWp.block ?_))
      | ((with_reducible refine GWp.skip ?_))
      | ((with_reducible refine GWp.ret ?_))
      | ((with_reducible refine GWp.exit ?_))
      | ((with_reducible refine block_miss ?hd ?_); case hd => rfl)
      | ((with_reducible refine gPost_r ?_); cbv; try simp only [hseg])
      | ((with_reducible refine gPost_n ?_); cbv; try simp only [hseg])
      | ((with_reducible refine fork_t ?_); cbv; try simp only [hseg])
      | ((with_reducible refine fork_f ?_); cbv; try simp only [hseg])
      | ((with_reducible refine GWp.cond_t ?hc ?_); case hc => rfl)
      | ((with_reducible refine GWp.cond_f ?hc ?_); case hc => rfl)
      | ((with_reducible refine GWp.region (base := 1) ?_); intro K hK; cbv; try simp only [hseg])
      | ((with_reducible refine GWp.draws (base := 1) hM ?ho ?_); (case ho => rfl); intro K hK; cbv; try simp only [hseg])
      | ((with_reducible refine need_nil ?_))
      | ((with_reducible refine need_cons ?hp ?_); case hp => first | exact True.intro | with_reducible rfl | exact nn_ok hO (by decide))
      | (fail)
    refine need_cons (nz_ok hO (by omega)) (need_nil ?_)
    repeat' first
      | ((with_reducible refine hK _ ?_); clear hK K)
      | ((with_reducible refine thenA_n ?_))
      | ((with_reducible refine thenA_r ?_))
      | ((with_reducible refine thenA_e ?_))
      | ((with_reducible refine block_n ?_))
      | ((with_reducible refine block_r ?_))
      | ((with_reducible refine block_hit ?_))
      | ((with_reducible refine GWp.seq ?_))
      | ((with_reducible refine GWp.block ?_))
      | ((with_reducible refine GWp.skip ?_))
      | ((with_reducible refine GWp.ret ?_))
      | ((with_reducible refine GWp.exit ?_))
      | ((with_reducible refine block_miss ?hd ?_); case hd => rfl)
      | ((with_reducible refine gPost_r ?_); cbv; try simp only [hseg])
      | ((with_reducible refine gPost_n ?_); cbv; try simp only [hseg])
      | ((with_reducible refine fork_t ?_); cbv; try simp only [hseg])
      | ((with_reducible refine fork_f ?_); cbv; try simp only [hseg])
      | ((with_reducible refine GWp.cond_t ?hc ?_); case hc => rfl)
      | ((with_reducible refine GWp.cond_f ?hc ?_); case hc => rfl)
      | ((with_reducible refine GWp.region (base := 1) ?_); intro K hK; cbv; try simp only [hseg])
      | ((with_reducible refine GWp.draws (base := 1) hM ?ho ?_); (case ho => rfl); intro K hK; cbv; try simp only [hseg])
      | ((with_reducible refine need_nil ?_))
      | ((with_reducible refine need_cons ?hp ?_); case hp => first | exact True.intro | with_reducible rfl | exact nn_ok hO (by decide))
      | (fail)
    generalize hs : bin .add .i64 (bin .add .i64 (bin .mul .i64 x 65536) (bin .mul .i64 y 256)) z = s
    have hs0 : 0 ≤ s := by
      cases hO
      simp only [stdBin] at hs
      rw [i64_id (x := x * 65536) (by omega), i64_id (x := y * 256) (by omega), i64_id (x := x * 65536 + y * 256) (by omega), i64_id (by omega)] at hs
      omega
    have e : bin .rem .i64 s n = s.tmod n := by cases hO; rfl
    refine hR _ _ ⟨_, rfl, ⟨_, _, rfl, hi3⟩, ?_, fun _ => ?_⟩
    · rw [e]; exact (tmod_in hs0 hn).1
    · rw [e]; exact (tmod_in hs0 hn).2

theorem c_l1Once (els : List (List T)) (l : List Int) (he : els = byts l) (hl : l.length ≤ 1048576) (i h : Int) (hi : 0 ≤ i ∧ i ≤ Int.ofNat l.length) (n : Int) :
    ACalls Try.prog 21 [curP, litI n] [some (cur els i h)] (fun res bx => ∃ b, res = litB b ∧ Drew els l bx) := by
  refine gcalls_by tys_ok 9 [.tmp 4] (fn := Try.f21) rfl rfl rfl rfl ?_ ?_ ?_
  · simp [stampFree, curP, litI, A.stamp, A.rstamp, stampIn]
  · simp [stampFree, cur, A.stamp, A.rstamp, stampIn]
  intro O hO P hP C hC R hR
  have hM : P.follows .mixedOrders = true := by rw [hP]; rfl
  obtain ⟨bin, cmp, sadd, scmp, beq, bnot, un, wrap, size, byte, sub, len, seg, app, get, set, nat, nadd, nsub, repl, text, bytes, mn, mx, nz, nn, idx, bnd, le, all, one, lits, isB, sOk, aOk, mOk⟩ := O
  have hseg : ∀ e, seg 0 (len e) e = e := by intro e; cases hO; simp
  repeat' first
    | ((with_reducible refine hK _ ?_); clear hK K)
    | ((with_reducible refine thenA_n ?_))
    | ((with_reducible refine thenA_r ?_))
    | ((with_reducible refine thenA_e ?_))
    | ((with_reducible refine block_n ?_))
    | ((with_reducible refine block_r ?_))
    | ((with_reducible refine block_hit ?_))
    | ((with_reducible refine GWp.seq ?_))
    | ((with_reducible refine GWp.block ?_))
    | ((with_reducible refine GWp.skip ?_))
    | ((with_reducible refine GWp.ret ?_))
    | ((with_reducible refine GWp.exit ?_))
    | ((with_reducible refine block_miss ?hd ?_); case hd => rfl)
    | ((with_reducible refine gPost_r ?_); cbv; try simp only [hseg])
    | ((with_reducible refine gPost_n ?_); cbv; try simp only [hseg])
    | ((with_reducible refine fork_t ?_); cbv; try simp only [hseg])
    | ((with_reducible refine fork_f ?_); cbv; try simp only [hseg])
    | ((with_reducible refine GWp.cond_t ?hc ?_); case hc => rfl)
    | ((with_reducible refine GWp.cond_f ?hc ?_); case hc => rfl)
    | ((with_reducible refine GWp.region (base := 1) ?_); intro K hK; cbv; try simp only [hseg])
    | ((with_reducible refine GWp.draws (base := 1) hM ?ho ?_); (case ho => rfl); intro K hK; cbv; try simp only [hseg])
    | ((with_reducible refine need_nil ?_))
    | ((with_reducible refine need_cons ?hp ?_); case hp => first | exact True.intro | with_reducible rfl | exact nn_ok hO (by decide))
    | (fail)
  refine GCall.by ⟨fun _ _ => false, fun _ _ => false, [0]⟩ ?_
  cbv
  try simp only [hseg]
  refine GCallD.by hP rfl (c_l1Below els l he hl i h hi n) ?_
  rintro res bx ⟨x, rfl, ⟨i1, h1, rfl, hi1⟩, hx, hx'⟩
  cbv
  try simp only [hseg]
  repeat' first
    | ((with_reducible refine hK _ ?_); clear hK K)
    | ((with_reducible refine thenA_n ?_))
    | ((with_reducible refine thenA_r ?_))
    | ((with_reducible refine thenA_e ?_))
    | ((with_reducible refine block_n ?_))
    | ((with_reducible refine block_r ?_))
    | ((with_reducible refine block_hit ?_))
    | ((with_reducible refine GWp.seq ?_))
    | ((with_reducible refine GWp.block ?_))
    | ((with_reducible refine GWp.skip ?_))
    | ((with_reducible refine GWp.ret ?_))
    | ((with_reducible refine GWp.exit ?_))
    | ((with_reducible refine block_miss ?hd ?_); case hd => rfl)
    | ((with_reducible refine gPost_r ?_); cbv; try simp only [hseg])
    | ((with_reducible refine gPost_n ?_); cbv; try simp only [hseg])
    | ((with_reducible refine fork_t ?_); cbv; try simp only [hseg])
    | ((with_reducible refine fork_f ?_); cbv; try simp only [hseg])
    | ((with_reducible refine GWp.cond_t ?hc ?_); case hc => rfl)
    | ((with_reducible refine GWp.cond_f ?hc ?_); case hc => rfl)
    | ((with_reducible refine GWp.region (base := 1) ?_); intro K hK; cbv; try simp only [hseg])
    | ((with_reducible refine GWp.draws (base := 1) hM ?ho ?_); (case ho => rfl); intro K hK; cbv; try simp only [hseg])
    | ((with_reducible refine need_nil ?_))
    | ((with_reducible refine need_cons ?hp ?_); case hp => first | exact True.intro | with_reducible rfl | exact nn_ok hO (by decide))
    | (fail)
  refine hR _ _ ⟨_, rfl, ⟨_, _, rfl, hi1⟩⟩

theorem c_l1Str (els : List (List T)) (l : List Int) (he : els = byts l) (hl : l.length ≤ 1048576) (i h : Int) (hi : 0 ≤ i ∧ i ≤ Int.ofNat l.length) (ls : List ByteArray) (es : List (List T)) (hes : es = strs ls) (hn : 0 < ls.length) :
    ACalls Try.prog 28 [curP, roA es] [some (cur els i h)] (fun res bx => ∃ s, res = litS s ∧ s ∈ ls ∧ Drew els l bx) := by
  refine gcalls_by tys_ok 12 [.tmp 4] (fn := Try.f28) rfl rfl rfl rfl ?_ ?_ ?_
  · simp [stampFree, curP, roA, A.stamp, A.rstamp, stampIn]
  · simp [stampFree, cur, A.stamp, A.rstamp, stampIn]
  intro O hO P hP C hC R hR
  have hM : P.follows .mixedOrders = true := by rw [hP]; rfl
  obtain ⟨bin, cmp, sadd, scmp, beq, bnot, un, wrap, size, byte, sub, len, seg, app, get, set, nat, nadd, nsub, repl, text, bytes, mn, mx, nz, nn, idx, bnd, le, all, one, lits, isB, sOk, aOk, mOk⟩ := O
  have hseg : ∀ e, seg 0 (len e) e = e := by intro e; cases hO; simp
  repeat' first
    | ((with_reducible refine hK _ ?_); clear hK K)
    | ((with_reducible refine thenA_n ?_))
    | ((with_reducible refine thenA_r ?_))
    | ((with_reducible refine thenA_e ?_))
    | ((with_reducible refine block_n ?_))
    | ((with_reducible refine block_r ?_))
    | ((with_reducible refine block_hit ?_))
    | ((with_reducible refine GWp.seq ?_))
    | ((with_reducible refine GWp.block ?_))
    | ((with_reducible refine GWp.skip ?_))
    | ((with_reducible refine GWp.ret ?_))
    | ((with_reducible refine GWp.exit ?_))
    | ((with_reducible refine block_miss ?hd ?_); case hd => rfl)
    | ((with_reducible refine gPost_r ?_); cbv; try simp only [hseg])
    | ((with_reducible refine gPost_n ?_); cbv; try simp only [hseg])
    | ((with_reducible refine fork_t ?_); cbv; try simp only [hseg])
    | ((with_reducible refine fork_f ?_); cbv; try simp only [hseg])
    | ((with_reducible refine GWp.cond_t ?hc ?_); case hc => rfl)
    | ((with_reducible refine GWp.cond_f ?hc ?_); case hc => rfl)
    | ((with_reducible refine GWp.region (base := 1) ?_); intro K hK; cbv; try simp only [hseg])
    | ((with_reducible refine GWp.draws (base := 1) hM ?ho ?_); (case ho => rfl); intro K hK; cbv; try simp only [hseg])
    | ((with_reducible refine need_nil ?_))
    | ((with_reducible refine need_cons ?hp ?_); case hp => first | exact True.intro | with_reducible rfl | exact nn_ok hO (by decide))
    | (fail)
  refine GCall.by ⟨fun _ _ => false, fun _ _ => false, [0]⟩ ?_
  cbv
  try simp only [hseg]
  refine GCallD.by hP rfl (c_l1Below els l he hl i h hi _) ?_
  rintro res bx ⟨x, rfl, ⟨i1, h1, rfl, hi1⟩, hx, hx'⟩
  cbv
  try simp only [hseg]
  have hlt : x < Int.ofNat ls.length := by
    try clear hK K
    clear hM hP hC hR; cases hO
    simp only [Ops.std, stdCmp, stdBin, scmp_eql, scmp_neq, stdUn, Int.ofNat_eq_natCast] at *
    subst hes; simp at hx'; have := hx' (by omega); omega
  have e1 : get es (nat x) = _ := strs_atI hO hes hx hlt
  have hm := getD_mem (d := (⟨#[]⟩ : ByteArray)) hx hlt
  generalize ls.getD x.toNat ⟨#[]⟩ = v at e1 hm
  repeat (simp only [e1]; cbv)
  refine need_cons (by
    try clear hK K
    clear hM hP hC hR; cases hO
    simp only [Ops.std, stdCmp, stdBin, scmp_eql, scmp_neq, stdUn, Int.ofNat_eq_natCast] at *
    subst hes; simp; omega) ?_
  refine need_cons (by
    try clear hK K
    clear hM hP hC hR; cases hO
    simp only [Ops.std, stdCmp, stdBin, scmp_eql, scmp_neq, stdUn, Int.ofNat_eq_natCast] at *
    subst hes; exact strs_all _) ?_
  repeat' first
    | ((with_reducible refine hK _ ?_); clear hK K)
    | ((with_reducible refine thenA_n ?_))
    | ((with_reducible refine thenA_r ?_))
    | ((with_reducible refine thenA_e ?_))
    | ((with_reducible refine block_n ?_))
    | ((with_reducible refine block_r ?_))
    | ((with_reducible refine block_hit ?_))
    | ((with_reducible refine GWp.seq ?_))
    | ((with_reducible refine GWp.block ?_))
    | ((with_reducible refine GWp.skip ?_))
    | ((with_reducible refine GWp.ret ?_))
    | ((with_reducible refine GWp.exit ?_))
    | ((with_reducible refine block_miss ?hd ?_); case hd => rfl)
    | ((with_reducible refine gPost_r ?_); cbv; try simp only [hseg])
    | ((with_reducible refine gPost_n ?_); cbv; try simp only [hseg])
    | ((with_reducible refine fork_t ?_); cbv; try simp only [hseg])
    | ((with_reducible refine fork_f ?_); cbv; try simp only [hseg])
    | ((with_reducible refine GWp.cond_t ?hc ?_); case hc => rfl)
    | ((with_reducible refine GWp.cond_f ?hc ?_); case hc => rfl)
    | ((with_reducible refine GWp.region (base := 1) ?_); intro K hK; cbv; try simp only [hseg])
    | ((with_reducible refine GWp.draws (base := 1) hM ?ho ?_); (case ho => rfl); intro K hK; cbv; try simp only [hseg])
    | ((with_reducible refine need_nil ?_))
    | ((with_reducible refine need_cons ?hp ?_); case hp => first | exact True.intro | with_reducible rfl | exact nn_ok hO (by decide))
    | (fail)
  refine hR _ _ ⟨_, rfl, hm, ⟨_, _, rfl, hi1⟩⟩

theorem c_l1Int (els : List (List T)) (l : List Int) (he : els = byts l) (hl : l.length ≤ 1048576) (i h : Int) (hi : 0 ≤ i ∧ i ≤ Int.ofNat l.length) (ls : List Int) (es : List (List T)) (hes : es = ls.map fun n => [T.lit (.int .i64 n)]) (hn : 0 < ls.length) :
    ACalls Try.prog 26 [curP, roA es] [some (cur els i h)] (fun res bx => ∃ s, res = litI s ∧ s ∈ ls ∧ Drew els l bx) := by
  refine gcalls_by tys_ok 12 [.tmp 4] (fn := Try.f26) rfl rfl rfl rfl ?_ ?_ ?_
  · simp [stampFree, curP, roA, A.stamp, A.rstamp, stampIn]
  · simp [stampFree, cur, A.stamp, A.rstamp, stampIn]
  intro O hO P hP C hC R hR
  have hM : P.follows .mixedOrders = true := by rw [hP]; rfl
  obtain ⟨bin, cmp, sadd, scmp, beq, bnot, un, wrap, size, byte, sub, len, seg, app, get, set, nat, nadd, nsub, repl, text, bytes, mn, mx, nz, nn, idx, bnd, le, all, one, lits, isB, sOk, aOk, mOk⟩ := O
  have hseg : ∀ e, seg 0 (len e) e = e := by intro e; cases hO; simp
  repeat' first
    | ((with_reducible refine hK _ ?_); clear hK K)
    | ((with_reducible refine thenA_n ?_))
    | ((with_reducible refine thenA_r ?_))
    | ((with_reducible refine thenA_e ?_))
    | ((with_reducible refine block_n ?_))
    | ((with_reducible refine block_r ?_))
    | ((with_reducible refine block_hit ?_))
    | ((with_reducible refine GWp.seq ?_))
    | ((with_reducible refine GWp.block ?_))
    | ((with_reducible refine GWp.skip ?_))
    | ((with_reducible refine GWp.ret ?_))
    | ((with_reducible refine GWp.exit ?_))
    | ((with_reducible refine block_miss ?hd ?_); case hd => rfl)
    | ((with_reducible refine gPost_r ?_); cbv; try simp only [hseg])
    | ((with_reducible refine gPost_n ?_); cbv; try simp only [hseg])
    | ((with_reducible refine fork_t ?_); cbv; try simp only [hseg])
    | ((with_reducible refine fork_f ?_); cbv; try simp only [hseg])
    | ((with_reducible refine GWp.cond_t ?hc ?_); case hc => rfl)
    | ((with_reducible refine GWp.cond_f ?hc ?_); case hc => rfl)
    | ((with_reducible refine GWp.region (base := 1) ?_); intro K hK; cbv; try simp only [hseg])
    | ((with_reducible refine GWp.draws (base := 1) hM ?ho ?_); (case ho => rfl); intro K hK; cbv; try simp only [hseg])
    | ((with_reducible refine need_nil ?_))
    | ((with_reducible refine need_cons ?hp ?_); case hp => first | exact True.intro | with_reducible rfl | exact nn_ok hO (by decide))
    | (fail)
  refine GCall.by ⟨fun _ _ => false, fun _ _ => false, [0]⟩ ?_
  cbv
  try simp only [hseg]
  refine GCallD.by hP rfl (c_l1Below els l he hl i h hi _) ?_
  rintro res bx ⟨x, rfl, ⟨i1, h1, rfl, hi1⟩, hx, hx'⟩
  cbv
  try simp only [hseg]
  have hlt : x < Int.ofNat ls.length := by
    try clear hK K
    clear hM hP hC hR; cases hO
    simp only [Ops.std, stdCmp, stdBin, scmp_eql, scmp_neq, stdUn, Int.ofNat_eq_natCast] at *
    subst hes; simp at hx'; have := hx' (by omega); omega
  have hlt' : x.toNat < ls.length := by simp only [Int.ofNat_eq_natCast] at hlt; omega
  have e1 : get es (nat x) = [T.lit (.int .i64 (ls.getD x.toNat 0))] := by
    cases hO; subst hes; simp [hlt']
  have hm := getD_mem (d := (0 : Int)) hx hlt
  generalize ls.getD x.toNat 0 = v at e1 hm
  repeat (simp only [e1]; cbv)
  refine need_cons (by
    try clear hK K
    clear hM hP hC hR; cases hO
    simp only [Ops.std, stdCmp, stdBin, scmp_eql, scmp_neq, stdUn, Int.ofNat_eq_natCast] at *
    subst hes; simp; omega) ?_
  refine need_cons (by
    try clear hK K
    clear hM hP hC hR; cases hO
    simp only [Ops.std, stdCmp, stdBin, scmp_eql, scmp_neq, stdUn, Int.ofNat_eq_natCast] at *
    subst hes; simp) ?_
  repeat' first
    | ((with_reducible refine hK _ ?_); clear hK K)
    | ((with_reducible refine thenA_n ?_))
    | ((with_reducible refine thenA_r ?_))
    | ((with_reducible refine thenA_e ?_))
    | ((with_reducible refine block_n ?_))
    | ((with_reducible refine block_r ?_))
    | ((with_reducible refine block_hit ?_))
    | ((with_reducible refine GWp.seq ?_))
    | ((with_reducible refine GWp.block ?_))
    | ((with_reducible refine GWp.skip ?_))
    | ((with_reducible refine GWp.ret ?_))
    | ((with_reducible refine GWp.exit ?_))
    | ((with_reducible refine block_miss ?hd ?_); case hd => rfl)
    | ((with_reducible refine gPost_r ?_); cbv; try simp only [hseg])
    | ((with_reducible refine gPost_n ?_); cbv; try simp only [hseg])
    | ((with_reducible refine fork_t ?_); cbv; try simp only [hseg])
    | ((with_reducible refine fork_f ?_); cbv; try simp only [hseg])
    | ((with_reducible refine GWp.cond_t ?hc ?_); case hc => rfl)
    | ((with_reducible refine GWp.cond_f ?hc ?_); case hc => rfl)
    | ((with_reducible refine GWp.region (base := 1) ?_); intro K hK; cbv; try simp only [hseg])
    | ((with_reducible refine GWp.draws (base := 1) hM ?ho ?_); (case ho => rfl); intro K hK; cbv; try simp only [hseg])
    | ((with_reducible refine need_nil ?_))
    | ((with_reducible refine need_cons ?hp ?_); case hp => first | exact True.intro | with_reducible rfl | exact nn_ok hO (by decide))
    | (fail)
  refine hR _ _ ⟨_, rfl, hm, ⟨_, _, rfl, hi1⟩⟩

def inv19 (els : List (List T)) (l : List Int) (n : Nat) (σ : AS) : Prop := ∃ (i : Nat) (h : Int), σ = ⟨vag 32 [(0, ⟨.one, [.ro true els]⟩), (3, litI h), (4, litI (Int.ofNat i))], [], 1⟩ ∧ i ≤ l.length ∧ n = l.length - i

theorem c_l1New (els : List (List T)) (l : List Int) (he : els = byts l) (hl : l.length ≤ 1048576) :
    ACalls Try.prog 19 [⟨.one, [.ro true els]⟩] [] (fun res bx => ∃ h, res = curP ∧ bx = [some (cur els 0 h)]) := by
  refine gcalls_by tys_ok 32 [.tmp 2] (fn := Try.f19) rfl rfl rfl rfl ?_ ?_ ?_
  · simp [stampFree, A.stamp, A.rstamp, stampIn]
  · simp
  intro O hO P hP C hC R hR
  have hM : P.follows .mixedOrders = true := by rw [hP]; rfl
  obtain ⟨bin, cmp, sadd, scmp, beq, bnot, un, wrap, size, byte, sub, len, seg, app, get, set, nat, nadd, nsub, repl, text, bytes, mn, mx, nz, nn, idx, bnd, le, all, one, lits, isB, sOk, aOk, mOk⟩ := O
  have hseg : ∀ e, seg 0 (len e) e = e := by intro e; cases hO; simp
  repeat' first
    | ((with_reducible refine hK _ ?_); clear hK K)
    | ((with_reducible refine thenA_n ?_))
    | ((with_reducible refine thenA_r ?_))
    | ((with_reducible refine thenA_e ?_))
    | ((with_reducible refine block_n ?_))
    | ((with_reducible refine block_r ?_))
    | ((with_reducible refine block_hit ?_))
    | ((with_reducible refine GWp.seq ?_))
    | ((with_reducible refine GWp.block ?_))
    | ((with_reducible refine GWp.skip ?_))
    | ((with_reducible refine GWp.ret ?_))
    | ((with_reducible refine GWp.exit ?_))
    | ((with_reducible refine block_miss ?hd ?_); case hd => rfl)
    | ((with_reducible refine gPost_r ?_); cbv; try simp only [hseg])
    | ((with_reducible refine gPost_n ?_); cbv; try simp only [hseg])
    | ((with_reducible refine fork_t ?_); cbv; try simp only [hseg])
    | ((with_reducible refine fork_f ?_); cbv; try simp only [hseg])
    | ((with_reducible refine GWp.cond_t ?hc ?_); case hc => rfl)
    | ((with_reducible refine GWp.cond_f ?hc ?_); case hc => rfl)
    | ((with_reducible refine GWp.region (base := 0) ?_); intro K hK; cbv; try simp only [hseg])
    | ((with_reducible refine GWp.draws (base := 0) hM ?ho ?_); (case ho => rfl); intro K hK; cbv; try simp only [hseg])
    | ((with_reducible refine need_nil ?_))
    | ((with_reducible refine need_cons ?hp ?_); case hp => first | exact True.intro | with_reducible rfl | exact nn_ok hO (by decide))
    | (fail)
  refine GWp.loop (nb := 0) (keep := fun t => t == 0 || t == 3 || t == 4) (kk := fun _ _ => none) (inv19 els l) (by simp at hC; simp [hC]) ?_ ?_
  · cbv
    exact ⟨_, 0, _, by cbv, by simp, rfl⟩
  rintro n σ ⟨i, h, rfl, g1, rfl⟩
  repeat' first
    | ((with_reducible refine hK _ ?_); clear hK K)
    | ((with_reducible refine thenA_n ?_))
    | ((with_reducible refine thenA_r ?_))
    | ((with_reducible refine thenA_e ?_))
    | ((with_reducible refine block_n ?_))
    | ((with_reducible refine block_r ?_))
    | ((with_reducible refine block_hit ?_))
    | ((with_reducible refine GWp.seq ?_))
    | ((with_reducible refine GWp.block ?_))
    | ((with_reducible refine GWp.skip ?_))
    | ((with_reducible refine GWp.ret ?_))
    | ((with_reducible refine GWp.exit ?_))
    | ((with_reducible refine block_miss ?hd ?_); case hd => rfl)
    | ((with_reducible refine gPost_r ?_); cbv; try simp only [hseg])
    | ((with_reducible refine gPost_n ?_); cbv; try simp only [hseg])
    | ((with_reducible refine fork_t ?_); cbv; try simp only [hseg])
    | ((with_reducible refine fork_f ?_); cbv; try simp only [hseg])
    | ((with_reducible refine GWp.cond_t ?hc ?_); case hc => rfl)
    | ((with_reducible refine GWp.cond_f ?hc ?_); case hc => rfl)
    | ((with_reducible refine GWp.region (base := 0) ?_); intro K hK; cbv; try simp only [hseg])
    | ((with_reducible refine GWp.draws (base := 0) hM ?ho ?_); (case ho => rfl); intro K hK; cbv; try simp only [hseg])
    | ((with_reducible refine need_nil ?_))
    | ((with_reducible refine need_cons ?hp ?_); case hp => first | exact True.intro | with_reducible rfl | exact nn_ok hO (by decide))
    | (fail)
  refine GFork.mk (fun hf => ?_) (fun hf => ?_) <;> cbv
  · have hlt : i < l.length := by
      try clear hK K
      clear hM hP hC hR; cases hO
      simp only [Ops.std, stdCmp, stdBin, scmp_eql, scmp_neq, stdUn, Int.ofNat_eq_natCast] at *
      subst he; simp [byts_len] at hf; omega
    repeat' first
      | ((with_reducible refine hK _ ?_); clear hK K)
      | ((with_reducible refine thenA_n ?_))
      | ((with_reducible refine thenA_r ?_))
      | ((with_reducible refine thenA_e ?_))
      | ((with_reducible refine block_n ?_))
      | ((with_reducible refine block_r ?_))
      | ((with_reducible refine block_hit ?_))
      | ((with_reducible refine GWp.seq ?_))
      | ((with_reducible refine GWp.block ?_))
      | ((with_reducible refine GWp.skip ?_))
      | ((with_reducible refine GWp.ret ?_))
      | ((with_reducible refine GWp.exit ?_))
      | ((with_reducible refine block_miss ?hd ?_); case hd => rfl)
      | ((with_reducible refine gPost_r ?_); cbv; try simp only [hseg])
      | ((with_reducible refine gPost_n ?_); cbv; try simp only [hseg])
      | ((with_reducible refine fork_t ?_); cbv; try simp only [hseg])
      | ((with_reducible refine fork_f ?_); cbv; try simp only [hseg])
      | ((with_reducible refine GWp.cond_t ?hc ?_); case hc => rfl)
      | ((with_reducible refine GWp.cond_f ?hc ?_); case hc => rfl)
      | ((with_reducible refine GWp.region (base := 0) ?_); intro K hK; cbv; try simp only [hseg])
      | ((with_reducible refine GWp.draws (base := 0) hM ?ho ?_); (case ho => rfl); intro K hK; cbv; try simp only [hseg])
      | ((with_reducible refine need_nil ?_))
      | ((with_reducible refine need_cons ?hp ?_); case hp => first | exact True.intro | with_reducible rfl | exact nn_ok hO (by decide))
      | (fail)
    refine GWp.cond rfl (fun h4 => ?_) (fun h4 => ?_)
    · have e1 : get els (nat (Int.ofNat i)) = _ := byts_at hO he (x := Int.ofNat i) (by simp) (by simp only [Int.ofNat_eq_natCast]; omega)
      generalize l.getD (Int.ofNat i).toNat 0 = v at e1
      repeat' first
        | ((with_reducible refine hK _ ?_); clear hK K)
        | ((with_reducible refine thenA_n ?_))
        | ((with_reducible refine thenA_r ?_))
        | ((with_reducible refine thenA_e ?_))
        | ((with_reducible refine block_n ?_))
        | ((with_reducible refine block_r ?_))
        | ((with_reducible refine block_hit ?_))
        | ((with_reducible refine GWp.seq ?_))
        | ((with_reducible refine GWp.block ?_))
        | ((with_reducible refine GWp.skip ?_))
        | ((with_reducible refine GWp.ret ?_))
        | ((with_reducible refine GWp.exit ?_))
        | ((with_reducible refine block_miss ?hd ?_); case hd => rfl)
        | ((with_reducible refine gPost_r ?_); cbv; try simp only [hseg])
        | ((with_reducible refine gPost_n ?_); cbv; try simp only [hseg])
        | ((with_reducible refine fork_t ?_); cbv; try simp only [hseg])
        | ((with_reducible refine fork_f ?_); cbv; try simp only [hseg])
        | ((with_reducible refine GWp.cond_t ?hc ?_); case hc => rfl)
        | ((with_reducible refine GWp.cond_f ?hc ?_); case hc => rfl)
        | ((with_reducible refine GWp.region (base := 0) ?_); intro K hK; cbv; try simp only [hseg])
        | ((with_reducible refine GWp.draws (base := 0) hM ?ho ?_); (case ho => rfl); intro K hK; cbv; try simp only [hseg])
        | ((with_reducible refine need_nil ?_))
        | ((with_reducible refine need_cons ?hp ?_); case hp => first | exact True.intro | with_reducible rfl | exact nn_ok hO (by decide))
        | (fail)
      repeat (simp only [e1]; cbv)
      refine need_cons (by
        try clear hK K
        clear hM hP hC hR; cases hO
        simp only [Ops.std, stdCmp, stdBin, scmp_eql, scmp_neq, stdUn, Int.ofNat_eq_natCast] at *
        subst he; simp [byts_len]; omega) ?_
      refine need_cons (by
        try clear hK K
        clear hM hP hC hR; cases hO
        simp only [Ops.std, stdCmp, stdBin, scmp_eql, scmp_neq, stdUn, Int.ofNat_eq_natCast] at *
        subst he; exact byts_all _) ?_
      repeat' first
        | ((with_reducible refine hK _ ?_); clear hK K)
        | ((with_reducible refine thenA_n ?_))
        | ((with_reducible refine thenA_r ?_))
        | ((with_reducible refine thenA_e ?_))
        | ((with_reducible refine block_n ?_))
        | ((with_reducible refine block_r ?_))
        | ((with_reducible refine block_hit ?_))
        | ((with_reducible refine GWp.seq ?_))
        | ((with_reducible refine GWp.block ?_))
        | ((with_reducible refine GWp.skip ?_))
        | ((with_reducible refine GWp.ret ?_))
        | ((with_reducible refine GWp.exit ?_))
        | ((with_reducible refine block_miss ?hd ?_); case hd => rfl)
        | ((with_reducible refine gPost_r ?_); cbv; try simp only [hseg])
        | ((with_reducible refine gPost_n ?_); cbv; try simp only [hseg])
        | ((with_reducible refine fork_t ?_); cbv; try simp only [hseg])
        | ((with_reducible refine fork_f ?_); cbv; try simp only [hseg])
        | ((with_reducible refine GWp.cond_t ?hc ?_); case hc => rfl)
        | ((with_reducible refine GWp.cond_f ?hc ?_); case hc => rfl)
        | ((with_reducible refine GWp.region (base := 0) ?_); intro K hK; cbv; try simp only [hseg])
        | ((with_reducible refine GWp.draws (base := 0) hM ?ho ?_); (case ho => rfl); intro K hK; cbv; try simp only [hseg])
        | ((with_reducible refine need_nil ?_))
        | ((with_reducible refine need_cons ?hp ?_); case hp => first | exact True.intro | with_reducible rfl | exact nn_ok hO (by decide))
        | (fail)
      cbv
      have e : bin .add .i64 (Int.ofNat i) 1 = _ := i_succ hO (by omega)
      rw [e]
      exact ⟨_, by omega, i + 1, _, by cbv, by omega, rfl⟩
    · repeat' first
        | ((with_reducible refine hK _ ?_); clear hK K)
        | ((with_reducible refine thenA_n ?_))
        | ((with_reducible refine thenA_r ?_))
        | ((with_reducible refine thenA_e ?_))
        | ((with_reducible refine block_n ?_))
        | ((with_reducible refine block_r ?_))
        | ((with_reducible refine block_hit ?_))
        | ((with_reducible refine GWp.seq ?_))
        | ((with_reducible refine GWp.block ?_))
        | ((with_reducible refine GWp.skip ?_))
        | ((with_reducible refine GWp.ret ?_))
        | ((with_reducible refine GWp.exit ?_))
        | ((with_reducible refine block_miss ?hd ?_); case hd => rfl)
        | ((with_reducible refine gPost_r ?_); cbv; try simp only [hseg])
        | ((with_reducible refine gPost_n ?_); cbv; try simp only [hseg])
        | ((with_reducible refine fork_t ?_); cbv; try simp only [hseg])
        | ((with_reducible refine fork_f ?_); cbv; try simp only [hseg])
        | ((with_reducible refine GWp.cond_t ?hc ?_); case hc => rfl)
        | ((with_reducible refine GWp.cond_f ?hc ?_); case hc => rfl)
        | ((with_reducible refine GWp.region (base := 0) ?_); intro K hK; cbv; try simp only [hseg])
        | ((with_reducible refine GWp.draws (base := 0) hM ?ho ?_); (case ho => rfl); intro K hK; cbv; try simp only [hseg])
        | ((with_reducible refine need_nil ?_))
        | ((with_reducible refine need_cons ?hp ?_); case hp => first | exact True.intro | with_reducible rfl | exact nn_ok hO (by decide))
        | (fail)
      refine hR _ _ ⟨_, rfl, rfl⟩
  · repeat' first
      | ((with_reducible refine hK _ ?_); clear hK K)
      | ((with_reducible refine thenA_n ?_))
      | ((with_reducible refine thenA_r ?_))
      | ((with_reducible refine thenA_e ?_))
      | ((with_reducible refine block_n ?_))
      | ((with_reducible refine block_r ?_))
      | ((with_reducible refine block_hit ?_))
      | ((with_reducible refine GWp.seq ?_))
      | ((with_reducible refine GWp.block ?_))
      | ((with_reducible refine GWp.skip ?_))
      | ((with_reducible refine GWp.ret ?_))
      | ((with_reducible refine GWp.exit ?_))
      | ((with_reducible refine block_miss ?hd ?_); case hd => rfl)
      | ((with_reducible refine gPost_r ?_); cbv; try simp only [hseg])
      | ((with_reducible refine gPost_n ?_); cbv; try simp only [hseg])
      | ((with_reducible refine fork_t ?_); cbv; try simp only [hseg])
      | ((with_reducible refine fork_f ?_); cbv; try simp only [hseg])
      | ((with_reducible refine GWp.cond_t ?hc ?_); case hc => rfl)
      | ((with_reducible refine GWp.cond_f ?hc ?_); case hc => rfl)
      | ((with_reducible refine GWp.region (base := 0) ?_); intro K hK; cbv; try simp only [hseg])
      | ((with_reducible refine GWp.draws (base := 0) hM ?ho ?_); (case ho => rfl); intro K hK; cbv; try simp only [hseg])
      | ((with_reducible refine need_nil ?_))
      | ((with_reducible refine need_cons ?hp ?_); case hp => first | exact True.intro | with_reducible rfl | exact nn_ok hO (by decide))
      | (fail)
    refine hR _ _ ⟨_, rfl, rfl⟩
end Go.Gv
