/- Part F7 of the proof: Plain: parting at blanks by runes is parting at blanks by bytes. -/
import Derived.Test.YtnbplmdcmmaigaaF5
import Derived.Lib.FieldsP

namespace Go.Gv
open Go.Av Go.Proofs
set_option maxRecDepth 10000
set_option maxHeartbeats 4000000
set_option linter.unusedSimpArgs false

def isBl (b : UInt8) : Bool := b.toNat == 32 || b.toNat == 9
/-- A text is parted at blanks and tabs. -/
def splitGo (s : ByteArray) : Nat → Nat → Nat → List ByteArray → List ByteArray
  | 0, i, fr, out => if fr < i then out ++ [s.extract fr i] else out
  | k + 1, i, fr, out => if isBl (byteAt s i) then splitGo s k (i + 1) (i + 1) (if fr < i then out ++ [s.extract fr i] else out) else splitGo s k (i + 1) fr out
def split (s : ByteArray) : List ByteArray := splitGo s s.size 0 0 []

theorem app_strs {O : Ops} (hO : O = Ops.std) {els : List (List T)} {out : List ByteArray} (he : els = strs out) (v : ByteArray) : O.app els [[T.lit (.string v)]] = strs (out ++ [v]) := by
  subst hO; subst he; simp [Ops.std, strs]
theorem aOk_of {O : Ops} (hO : O = Ops.std) {b : Nat} {x y : List (List T)} (h1 : (x.length + y.length) * b ≤ 140737488355328) (h2 : x.length + y.length ≤ 9223372036854775807) : O.aOk b x y := by subst hO; exact ⟨h1, h2⟩
theorem bnd_of {O : Ops} (hO : O = Ops.std) {i : Int} {n : Nat} (h : 0 ≤ i ∧ i ≤ Int.ofNat n) : O.bnd i n := by subst hO; exact h
theorem idx_of {O : Ops} (hO : O = Ops.std) {i : Int} {n : Nat} (h : 0 ≤ i ∧ i < Int.ofNat n) : O.idx i n := by subst hO; exact h
theorem le_of {O : Ops} (hO : O = Ops.std) {i n : Nat} (h : i ≤ n) : O.le i n := by subst hO; exact h

def Going (s : ByteArray) (i fr : Nat) (out : List ByteArray) : Prop := (i ≤ s.size → splitGo s (s.size - i) i fr out = split s) ∧ (i = s.size + 1 → out = split s)

theorem going_next {s : ByteArray} {i fr : Nat} {out : List ByteArray} (hi : i < s.size) (hb : isBl (byteAt s i) = false) (h : Going s i fr out) : Going s (i + 1) fr out := by
  refine ⟨fun h1 => ?_, fun h1 => by omega⟩
  have h2 := h.1 (by omega)
  rw [show s.size - i = (s.size - (i + 1)) + 1 by omega] at h2
  simpa [splitGo, hb] using h2

theorem going_cut {s : ByteArray} {i fr : Nat} {out : List ByteArray} (hi : i = s.size ∨ (i < s.size ∧ isBl (byteAt s i) = true)) (h : Going s i fr out) : Going s (i + 1) (i + 1) (if fr < i then out ++ [s.extract fr i] else out) := by
  rcases hi with hi | ⟨hi, hb⟩
  · refine ⟨fun h1 => by omega, fun h1 => ?_⟩
    have h2 := h.1 (by omega)
    rw [show s.size - i = 0 by omega] at h2
    simpa [splitGo] using h2
  · refine ⟨fun h1 => ?_, fun h1 => by omega⟩
    have h2 := h.1 (by omega)
    rw [show s.size - i = (s.size - (i + 1)) + 1 by omega] at h2
    simpa [splitGo, hb] using h2

def inv23 (s : ByteArray) (n : Nat) (σ : AS) : Prop := ∃ (els : List (List T)) (out : List ByteArray) (fr i : Nat), σ = ⟨vag 42 [(0, litS s), (3, owA els), (4, litI (Int.ofNat fr)), (5, litI (Int.ofNat i))], [], 1⟩ ∧
  els = strs out ∧ Going s i fr out ∧ fr ≤ i ∧ i ≤ s.size + 1 ∧ out.length ≤ i ∧ n = s.size + 1 - i


theorem c_SplitText' (s : ByteArray) (hs : s.size ≤ 1048576) :
    ACalls Try.prog 23 [litS s] [] (fun res bx => ∃ els, els = strs (split s) ∧ res = owA els ∧ bx = []) := by
  refine gcalls_by tys_ok 42 [.tmp 2] (fn := Try.f23) rfl rfl rfl rfl ?_ ?_ ?_
  · simp [stampFree, litS, A.stamp, A.rstamp, stampIn]
  · simp
  intro O hO P hP C hC R hR
  have hM : P.follows .mixedOrders = true := by rw [hP]; rfl
  obtain ⟨bin, cmp, sadd, scmp, beq, bnot, un, wrap, size, byte, sub, len, seg, app, get, set, nat, nadd, nsub, repl, text, bytes, mn, mx, nz, nn, idx, bnd, le, all, one, lits, isB, sOk, aOk, mOk⟩ := O
  have hseg : ∀ e, seg 0 (len e) e = e := by intro e; cases hO; simp
  repeat' first
    | ((with_reducible refine hK _ ?_); clear hK K)
    | ((with_reducible refine thenA_n ?_))
    | ((with_reducible refine thenA_r ?_))
    | ((with_reducible refine thenA_e ?_))
    | ((with_reducible refine block_n ?_))
    | ((with_reducible refine block_r ?_))
    | ((with_reducible refine block_hit ?_))
    | ((with_reducible refine GWp.seq ?_))
    | ((with_reducible refine GWp.block ?_))
    | ((with_reducible refine GWp.skip ?_))
    | ((with_reducible refine GWp.ret ?_))
    | ((with_reducible refine GWp.exit ?_))
    | ((with_reducible refine block_miss ?hd ?_); case hd => rfl)
    | ((with_reducible refine gPost_r ?_); cbv; try simp only [hseg])
    | ((with_reducible refine gPost_n ?_); cbv; try simp only [hseg])
    | ((with_reducible refine fork_t ?_); cbv; try simp only [hseg])
    | ((with_reducible refine fork_f ?_); cbv; try simp only [hseg])
    | ((with_reducible refine GWp.cond_t ?hc ?_); case hc => rfl)
    | ((with_reducible refine GWp.cond_f ?hc ?_); case hc => rfl)
    | ((with_reducible refine GWp.region (base := 0) ?_); intro K hK; cbv; try simp only [hseg])
    | ((with_reducible refine GWp.draws (base := 0) hM ?ho ?_); (case ho => rfl); intro K hK; cbv; try simp only [hseg])
    | ((with_reducible refine need_nil ?_))
    | ((with_reducible refine need_cons ?hp ?_); case hp => first | exact True.intro | with_reducible rfl | exact nn_ok hO (by decide))
    | (fail)
  refine GWp.loop (nb := 0) (keep := fun t => t == 0 || t == 3 || t == 4 || t == 5) (kk := fun _ _ => none) (inv23 s) (by simp at hC; simp [hC]) ?_ ?_
  · cbv
    exact ⟨_, [], [], 0, 0, by cbv, rfl, ⟨fun _ => rfl, fun h => by omega⟩, by omega, by omega, by simp, rfl⟩
  rintro n σ ⟨els, out, fr, i, rfl, he, hg, g1, g2, g3, rfl⟩
  have eq1 : bin .add .i64 (Int.ofNat i) 1 = Int.ofNat (i + 1) := i_succ hO (by omega)
  have hsz : size s = s.size := by cases hO; rfl
  repeat' first
    | ((with_reducible refine hK _ ?_); clear hK K)
    | ((with_reducible refine thenA_n ?_))
    | ((with_reducible refine thenA_r ?_))
    | ((with_reducible refine thenA_e ?_))
    | ((with_reducible refine block_n ?_))
    | ((with_reducible refine block_r ?_))
    | ((with_reducible refine block_hit ?_))
    | ((with_reducible refine GWp.seq ?_))
    | ((with_reducible refine GWp.block ?_))
    | ((with_reducible refine GWp.skip ?_))
    | ((with_reducible refine GWp.ret ?_))
    | ((with_reducible refine GWp.exit ?_))
    | ((with_reducible refine block_miss ?hd ?_); case hd => rfl)
    | ((with_reducible refine gPost_r ?_); cbv; try simp only [hseg])
    | ((with_reducible refine gPost_n ?_); cbv; try simp only [hseg])
    | ((with_reducible refine fork_t ?_); cbv; try simp only [hseg])
    | ((with_reducible refine fork_f ?_); cbv; try simp only [hseg])
    | ((with_reducible refine GWp.cond_t ?hc ?_); case hc => rfl)
    | ((with_reducible refine GWp.cond_f ?hc ?_); case hc => rfl)
    | ((with_reducible refine GWp.region (base := 0) ?_); intro K hK; cbv; try simp only [hseg])
    | ((with_reducible refine GWp.draws (base := 0) hM ?ho ?_); (case ho => rfl); intro K hK; cbv; try simp only [hseg])
    | ((with_reducible refine need_nil ?_))
    | ((with_reducible refine need_cons ?hp ?_); case hp => first | exact True.intro | with_reducible rfl | exact nn_ok hO (by decide))
    | (fail)
  refine GWp.cond rfl (fun h3 => ?_) (fun h3 => ?_)
  · have hi : i ≤ s.size := by
      try clear hK K
      clear hM hP hC hR; cases hO
      simp only [Ops.std, stdCmp, stdBin, scmp_eql, scmp_neq, stdUn, Int.ofNat_eq_natCast] at *
      first | done | omega | (simp_all; done) | (simp_all; omega)
    repeat' first
      | ((with_reducible refine hK _ ?_); clear hK K)
      | ((with_reducible refine thenA_n ?_))
      | ((with_reducible refine thenA_r ?_))
      | ((with_reducible refine thenA_e ?_))
      | ((with_reducible refine block_n ?_))
      | ((with_reducible refine block_r ?_))
      | ((with_reducible refine block_hit ?_))
      | ((with_reducible refine GWp.seq ?_))
      | ((with_reducible refine GWp.block ?_))
      | ((with_reducible refine GWp.skip ?_))
      | ((with_reducible refine GWp.ret ?_))
      | ((with_reducible refine GWp.exit ?_))
      | ((with_reducible refine block_miss ?hd ?_); case hd => rfl)
      | ((with_reducible refine gPost_r ?_); cbv; try simp only [hseg])
      | ((with_reducible refine gPost_n ?_); cbv; try simp only [hseg])
      | ((with_reducible refine fork_t ?_); cbv; try simp only [hseg])
      | ((with_reducible refine fork_f ?_); cbv; try simp only [hseg])
      | ((with_reducible refine GWp.cond_t ?hc ?_); case hc => rfl)
      | ((with_reducible refine GWp.cond_f ?hc ?_); case hc => rfl)
      | ((with_reducible refine GWp.region (base := 0) ?_); intro K hK; cbv; try simp only [hseg])
      | ((with_reducible refine GWp.draws (base := 0) hM ?ho ?_); (case ho => rfl); intro K hK; cbv; try simp only [hseg])
      | ((with_reducible refine need_nil ?_))
      | ((with_reducible refine need_cons ?hp ?_); case hp => first | exact True.intro | with_reducible rfl | exact nn_ok hO (by decide))
      | (fail)
    refine GFork.mk (fun hf => ?_) (fun hf => ?_) <;> cbv
    · have hi2 : i < s.size := by
        try clear hK K
        clear hM hP hC hR; cases hO
        simp only [Ops.std, stdCmp, stdBin, scmp_eql, scmp_neq, stdUn, Int.ofNat_eq_natCast] at *
        first | done | omega | (simp_all; done) | (simp_all; omega)
      refine need_cons (idx_of hO (by simp; omega)) (need_nil ?_)
      refine GFork.mk (fun hf2 => ?_) (fun hf2 => ?_) <;> cbv
      · refine need_cons (idx_of hO (by simp; omega)) (need_nil ?_)
        repeat' first
          | ((with_reducible refine hK _ ?_); clear hK K)
          | ((with_reducible refine thenA_n ?_))
          | ((with_reducible refine thenA_r ?_))
          | ((with_reducible refine thenA_e ?_))
          | ((with_reducible refine block_n ?_))
          | ((with_reducible refine block_r ?_))
          | ((with_reducible refine block_hit ?_))
          | ((with_reducible refine GWp.seq ?_))
          | ((with_reducible refine GWp.block ?_))
          | ((with_reducible refine GWp.skip ?_))
          | ((with_reducible refine GWp.ret ?_))
          | ((with_reducible refine GWp.exit ?_))
          | ((with_reducible refine block_miss ?hd ?_); case hd => rfl)
          | ((with_reducible refine gPost_r ?_); cbv; try simp only [hseg])
          | ((with_reducible refine gPost_n ?_); cbv; try simp only [hseg])
          | ((with_reducible refine fork_t ?_); cbv; try simp only [hseg])
          | ((with_reducible refine fork_f ?_); cbv; try simp only [hseg])
          | ((with_reducible refine GWp.cond_t ?hc ?_); case hc => rfl)
          | ((with_reducible refine GWp.cond_f ?hc ?_); case hc => rfl)
          | ((with_reducible refine GWp.region (base := 0) ?_); intro K hK; cbv; try simp only [hseg])
          | ((with_reducible refine GWp.draws (base := 0) hM ?ho ?_); (case ho => rfl); intro K hK; cbv; try simp only [hseg])
          | ((with_reducible refine need_nil ?_))
          | ((with_reducible refine need_cons ?hp ?_); case hp => first | exact True.intro | with_reducible rfl | exact nn_ok hO (by decide))
          | (fail)
        refine GWp.cond rfl (fun h5 => ?_) (fun h5 => ?_)
        · have hb : isBl (byteAt s i) = false := by
            try clear hK K
            clear hM hP hC hR; cases hO
            simp only [Ops.std, stdCmp, stdBin, scmp_eql, scmp_neq, stdUn, Int.ofNat_eq_natCast] at *
            simp at hf2 h5; unfold isBl; simp; omega
          repeat' first
            | ((with_reducible refine hK _ ?_); clear hK K)
            | ((with_reducible refine thenA_n ?_))
            | ((with_reducible refine thenA_r ?_))
            | ((with_reducible refine thenA_e ?_))
            | ((with_reducible refine block_n ?_))
            | ((with_reducible refine block_r ?_))
            | ((with_reducible refine block_hit ?_))
            | ((with_reducible refine GWp.seq ?_))
            | ((with_reducible refine GWp.block ?_))
            | ((with_reducible refine GWp.skip ?_))
            | ((with_reducible refine GWp.ret ?_))
            | ((with_reducible refine GWp.exit ?_))
            | ((with_reducible refine block_miss ?hd ?_); case hd => rfl)
            | ((with_reducible refine gPost_r ?_); cbv; try simp only [hseg])
            | ((with_reducible refine gPost_n ?_); cbv; try simp only [hseg])
            | ((with_reducible refine fork_t ?_); cbv; try simp only [hseg])
            | ((with_reducible refine fork_f ?_); cbv; try simp only [hseg])
            | ((with_reducible refine GWp.cond_t ?hc ?_); case hc => rfl)
            | ((with_reducible refine GWp.cond_f ?hc ?_); case hc => rfl)
            | ((with_reducible refine GWp.region (base := 0) ?_); intro K hK; cbv; try simp only [hseg])
            | ((with_reducible refine GWp.draws (base := 0) hM ?ho ?_); (case ho => rfl); intro K hK; cbv; try simp only [hseg])
            | ((with_reducible refine need_nil ?_))
            | ((with_reducible refine need_cons ?hp ?_); case hp => first | exact True.intro | with_reducible rfl | exact nn_ok hO (by decide))
            | (fail)
          cbv
          rw [eq1]
          exact ⟨_, by omega, els, out, fr, i + 1, by cbv, he, going_next hi2 hb hg, by omega, by omega, by omega, rfl⟩
        · have hb : isBl (byteAt s i) = true := by
            try clear hK K
            clear hM hP hC hR; cases hO
            simp only [Ops.std, stdCmp, stdBin, scmp_eql, scmp_neq, stdUn, Int.ofNat_eq_natCast] at *
            simp at hf2 h5; unfold isBl; simp; omega
          have hcut := going_cut (.inr ⟨hi2, hb⟩) hg
          repeat' first
            | ((with_reducible refine hK _ ?_); clear hK K)
            | ((with_reducible refine thenA_n ?_))
            | ((with_reducible refine thenA_r ?_))
            | ((with_reducible refine thenA_e ?_))
            | ((with_reducible refine block_n ?_))
            | ((with_reducible refine block_r ?_))
            | ((with_reducible refine block_hit ?_))
            | ((with_reducible refine GWp.seq ?_))
            | ((with_reducible refine GWp.block ?_))
            | ((with_reducible refine GWp.skip ?_))
            | ((with_reducible refine GWp.ret ?_))
            | ((with_reducible refine GWp.exit ?_))
            | ((with_reducible refine block_miss ?hd ?_); case hd => rfl)
            | ((with_reducible refine gPost_r ?_); cbv; try simp only [hseg])
            | ((with_reducible refine gPost_n ?_); cbv; try simp only [hseg])
            | ((with_reducible refine fork_t ?_); cbv; try simp only [hseg])
            | ((with_reducible refine fork_f ?_); cbv; try simp only [hseg])
            | ((with_reducible refine GWp.cond_t ?hc ?_); case hc => rfl)
            | ((with_reducible refine GWp.cond_f ?hc ?_); case hc => rfl)
            | ((with_reducible refine GWp.region (base := 0) ?_); intro K hK; cbv; try simp only [hseg])
            | ((with_reducible refine GWp.draws (base := 0) hM ?ho ?_); (case ho => rfl); intro K hK; cbv; try simp only [hseg])
            | ((with_reducible refine need_nil ?_))
            | ((with_reducible refine need_cons ?hp ?_); case hp => first | exact True.intro | with_reducible rfl | exact nn_ok hO (by decide))
            | (fail)
          refine GWp.cond rfl (fun h7 => ?_) (fun h7 => ?_)
          · have hlt : fr < i := by
              try clear hK K
              clear hM hP hC hR; cases hO
              simp only [Ops.std, stdCmp, stdBin, scmp_eql, scmp_neq, stdUn, Int.ofNat_eq_natCast] at *
              first | done | omega | (simp_all; done) | (simp_all; omega)
            repeat' first
              | ((with_reducible refine hK _ ?_); clear hK K)
              | ((with_reducible refine thenA_n ?_))
              | ((with_reducible refine thenA_r ?_))
              | ((with_reducible refine thenA_e ?_))
              | ((with_reducible refine block_n ?_))
              | ((with_reducible refine block_r ?_))
              | ((with_reducible refine block_hit ?_))
              | ((with_reducible refine GWp.seq ?_))
              | ((with_reducible refine GWp.block ?_))
              | ((with_reducible refine GWp.skip ?_))
              | ((with_reducible refine GWp.ret ?_))
              | ((with_reducible refine GWp.exit ?_))
              | ((with_reducible refine block_miss ?hd ?_); case hd => rfl)
              | ((with_reducible refine gPost_r ?_); cbv; try simp only [hseg])
              | ((with_reducible refine gPost_n ?_); cbv; try simp only [hseg])
              | ((with_reducible refine fork_t ?_); cbv; try simp only [hseg])
              | ((with_reducible refine fork_f ?_); cbv; try simp only [hseg])
              | ((with_reducible refine GWp.cond_t ?hc ?_); case hc => rfl)
              | ((with_reducible refine GWp.cond_f ?hc ?_); case hc => rfl)
              | ((with_reducible refine GWp.region (base := 0) ?_); intro K hK; cbv; try simp only [hseg])
              | ((with_reducible refine GWp.draws (base := 0) hM ?ho ?_); (case ho => rfl); intro K hK; cbv; try simp only [hseg])
              | ((with_reducible refine need_nil ?_))
              | ((with_reducible refine need_cons ?hp ?_); case hp => first | exact True.intro | with_reducible rfl | exact nn_ok hO (by decide))
              | (fail)
            refine need_cons (bnd_of hO (by simp; omega)) (need_cons (bnd_of hO (by simp; omega)) (need_cons (le_of hO ?_) (need_cons ?_ (need_cons ?_ (need_nil ?_)))))
            · cases hO; simp; omega
            · cases hO; simp
            · refine aOk_of hO ?_ ?_
              · subst he; simp; omega
              · subst he; simp; omega
            have ev : sub s (nat (Int.ofNat fr)) (nat (Int.ofNat i)) = s.extract fr i := by cases hO; rfl
            generalize s.extract fr i = v at ev hcut
            rw [ev]
            have ea : app els [[T.lit (.string v)]] = strs (out ++ [v]) := app_strs hO he v
            generalize app els [[T.lit (.string v)]] = els2 at ea
            repeat' first
              | ((with_reducible refine hK _ ?_); clear hK K)
              | ((with_reducible refine thenA_n ?_))
              | ((with_reducible refine thenA_r ?_))
              | ((with_reducible refine thenA_e ?_))
              | ((with_reducible refine block_n ?_))
              | ((with_reducible refine block_r ?_))
              | ((with_reducible refine block_hit ?_))
              | ((with_reducible refine GWp.seq ?_))
              | ((with_reducible refine GWp.block ?_))
              | ((with_reducible refine GWp.skip ?_))
              | ((with_reducible refine GWp.ret ?_))
              | ((with_reducible refine GWp.exit ?_))
              | ((with_reducible refine block_miss ?hd ?_); case hd => rfl)
              | ((with_reducible refine gPost_r ?_); cbv; try simp only [hseg])
              | ((with_reducible refine gPost_n ?_); cbv; try simp only [hseg])
              | ((with_reducible refine fork_t ?_); cbv; try simp only [hseg])
              | ((with_reducible refine fork_f ?_); cbv; try simp only [hseg])
              | ((with_reducible refine GWp.cond_t ?hc ?_); case hc => rfl)
              | ((with_reducible refine GWp.cond_f ?hc ?_); case hc => rfl)
              | ((with_reducible refine GWp.region (base := 0) ?_); intro K hK; cbv; try simp only [hseg])
              | ((with_reducible refine GWp.draws (base := 0) hM ?ho ?_); (case ho => rfl); intro K hK; cbv; try simp only [hseg])
              | ((with_reducible refine need_nil ?_))
              | ((with_reducible refine need_cons ?hp ?_); case hp => first | exact True.intro | with_reducible rfl | exact nn_ok hO (by decide))
              | (fail)
            cbv
            rw [eq1]
            rw [if_pos hlt] at hcut
            exact ⟨_, by omega, els2, out ++ [v], i + 1, i + 1, by cbv, ea, hcut, by omega, by omega, by simp; omega, rfl⟩
          · have hlt : ¬ fr < i := by
              try clear hK K
              clear hM hP hC hR; cases hO
              simp only [Ops.std, stdCmp, stdBin, scmp_eql, scmp_neq, stdUn, Int.ofNat_eq_natCast] at *
              first | done | omega | (simp_all; done) | (simp_all; omega)
            repeat' first
              | ((with_reducible refine hK _ ?_); clear hK K)
              | ((with_reducible refine thenA_n ?_))
              | ((with_reducible refine thenA_r ?_))
              | ((with_reducible refine thenA_e ?_))
              | ((with_reducible refine block_n ?_))
              | ((with_reducible refine block_r ?_))
              | ((with_reducible refine block_hit ?_))
              | ((with_reducible refine GWp.seq ?_))
              | ((with_reducible refine GWp.block ?_))
              | ((with_reducible refine GWp.skip ?_))
              | ((with_reducible refine GWp.ret ?_))
              | ((with_reducible refine GWp.exit ?_))
              | ((with_reducible refine block_miss ?hd ?_); case hd => rfl)
              | ((with_reducible refine gPost_r ?_); cbv; try simp only [hseg])
              | ((with_reducible refine gPost_n ?_); cbv; try simp only [hseg])
              | ((with_reducible refine fork_t ?_); cbv; try simp only [hseg])
              | ((with_reducible refine fork_f ?_); cbv; try simp only [hseg])
              | ((with_reducible refine GWp.cond_t ?hc ?_); case hc => rfl)
              | ((with_reducible refine GWp.cond_f ?hc ?_); case hc => rfl)
              | ((with_reducible refine GWp.region (base := 0) ?_); intro K hK; cbv; try simp only [hseg])
              | ((with_reducible refine GWp.draws (base := 0) hM ?ho ?_); (case ho => rfl); intro K hK; cbv; try simp only [hseg])
              | ((with_reducible refine need_nil ?_))
              | ((with_reducible refine need_cons ?hp ?_); case hp => first | exact True.intro | with_reducible rfl | exact nn_ok hO (by decide))
              | (fail)
            cbv
            rw [eq1]
            rw [if_neg hlt] at hcut
            exact ⟨_, by omega, els, out, i + 1, i + 1, by cbv, he, hcut, by omega, by omega, by omega, rfl⟩
      · have hb : isBl (byteAt s i) = true := by
          try clear hK K
          clear hM hP hC hR; cases hO
          simp only [Ops.std, stdCmp, stdBin, scmp_eql, scmp_neq, stdUn, Int.ofNat_eq_natCast] at *
          simp at hf2; unfold isBl; simp; omega
        have hcut := going_cut (.inr ⟨hi2, hb⟩) hg
        repeat' first
          | ((with_reducible refine hK _ ?_); clear hK K)
          | ((with_reducible refine thenA_n ?_))
          | ((with_reducible refine thenA_r ?_))
          | ((with_reducible refine thenA_e ?_))
          | ((with_reducible refine block_n ?_))
          | ((with_reducible refine block_r ?_))
          | ((with_reducible refine block_hit ?_))
          | ((with_reducible refine GWp.seq ?_))
          | ((with_reducible refine GWp.block ?_))
          | ((with_reducible refine GWp.skip ?_))
          | ((with_reducible refine GWp.ret ?_))
          | ((with_reducible refine GWp.exit ?_))
          | ((with_reducible refine block_miss ?hd ?_); case hd => rfl)
          | ((with_reducible refine gPost_r ?_); cbv; try simp only [hseg])
          | ((with_reducible refine gPost_n ?_); cbv; try simp only [hseg])
          | ((with_reducible refine fork_t ?_); cbv; try simp only [hseg])
          | ((with_reducible refine fork_f ?_); cbv; try simp only [hseg])
          | ((with_reducible refine GWp.cond_t ?hc ?_); case hc => rfl)
          | ((with_reducible refine GWp.cond_f ?hc ?_); case hc => rfl)
          | ((with_reducible refine GWp.region (base := 0) ?_); intro K hK; cbv; try simp only [hseg])
          | ((with_reducible refine GWp.draws (base := 0) hM ?ho ?_); (case ho => rfl); intro K hK; cbv; try simp only [hseg])
          | ((with_reducible refine need_nil ?_))
          | ((with_reducible refine need_cons ?hp ?_); case hp => first | exact True.intro | with_reducible rfl | exact nn_ok hO (by decide))
          | (fail)
        refine GWp.cond rfl (fun h7 => ?_) (fun h7 => ?_)
        · have hlt : fr < i := by
            try clear hK K
            clear hM hP hC hR; cases hO
            simp only [Ops.std, stdCmp, stdBin, scmp_eql, scmp_neq, stdUn, Int.ofNat_eq_natCast] at *
            first | done | omega | (simp_all; done) | (simp_all; omega)
          repeat' first
            | ((with_reducible refine hK _ ?_); clear hK K)
            | ((with_reducible refine thenA_n ?_))
            | ((with_reducible refine thenA_r ?_))
            | ((with_reducible refine thenA_e ?_))
            | ((with_reducible refine block_n ?_))
            | ((with_reducible refine block_r ?_))
            | ((with_reducible refine block_hit ?_))
            | ((with_reducible refine GWp.seq ?_))
            | ((with_reducible refine GWp.block ?_))
            | ((with_reducible refine GWp.skip ?_))
            | ((with_reducible refine GWp.ret ?_))
            | ((with_reducible refine GWp.exit ?_))
            | ((with_reducible refine block_miss ?hd ?_); case hd => rfl)
            | ((with_reducible refine gPost_r ?_); cbv; try simp only [hseg])
            | ((with_reducible refine gPost_n ?_); cbv; try simp only [hseg])
            | ((with_reducible refine fork_t ?_); cbv; try simp only [hseg])
            | ((with_reducible refine fork_f ?_); cbv; try simp only [hseg])
            | ((with_reducible refine GWp.cond_t ?hc ?_); case hc => rfl)
            | ((with_reducible refine GWp.cond_f ?hc ?_); case hc => rfl)
            | ((with_reducible refine GWp.region (base := 0) ?_); intro K hK; cbv; try simp only [hseg])
            | ((with_reducible refine GWp.draws (base := 0) hM ?ho ?_); (case ho => rfl); intro K hK; cbv; try simp only [hseg])
            | ((with_reducible refine need_nil ?_))
            | ((with_reducible refine need_cons ?hp ?_); case hp => first | exact True.intro | with_reducible rfl | exact nn_ok hO (by decide))
            | (fail)
          refine need_cons (bnd_of hO (by simp; omega)) (need_cons (bnd_of hO (by simp; omega)) (need_cons (le_of hO ?_) (need_cons ?_ (need_cons ?_ (need_nil ?_)))))
          · cases hO; simp; omega
          · cases hO; simp
          · refine aOk_of hO ?_ ?_
            · subst he; simp; omega
            · subst he; simp; omega
          have ev : sub s (nat (Int.ofNat fr)) (nat (Int.ofNat i)) = s.extract fr i := by cases hO; rfl
          generalize s.extract fr i = v at ev hcut
          rw [ev]
          have ea : app els [[T.lit (.string v)]] = strs (out ++ [v]) := app_strs hO he v
          generalize app els [[T.lit (.string v)]] = els2 at ea
          repeat' first
            | ((with_reducible refine hK _ ?_); clear hK K)
            | ((with_reducible refine thenA_n ?_))
            | ((with_reducible refine thenA_r ?_))
            | ((with_reducible refine thenA_e ?_))
            | ((with_reducible refine block_n ?_))
            | ((with_reducible refine block_r ?_))
            | ((with_reducible refine block_hit ?_))
            | ((with_reducible refine GWp.seq ?_))
            | ((with_reducible refine GWp.block ?_))
            | ((with_reducible refine GWp.skip ?_))
            | ((with_reducible refine GWp.ret ?_))
            | ((with_reducible refine GWp.exit ?_))
            | ((with_reducible refine block_miss ?hd ?_); case hd => rfl)
            | ((with_reducible refine gPost_r ?_); cbv; try simp only [hseg])
            | ((with_reducible refine gPost_n ?_); cbv; try simp only [hseg])
            | ((with_reducible refine fork_t ?_); cbv; try simp only [hseg])
            | ((with_reducible refine fork_f ?_); cbv; try simp only [hseg])
            | ((with_reducible refine GWp.cond_t ?hc ?_); case hc => rfl)
            | ((with_reducible refine GWp.cond_f ?hc ?_); case hc => rfl)
            | ((with_reducible refine GWp.region (base := 0) ?_); intro K hK; cbv; try simp only [hseg])
            | ((with_reducible refine GWp.draws (base := 0) hM ?ho ?_); (case ho => rfl); intro K hK; cbv; try simp only [hseg])
            | ((with_reducible refine need_nil ?_))
            | ((with_reducible refine need_cons ?hp ?_); case hp => first | exact True.intro | with_reducible rfl | exact nn_ok hO (by decide))
            | (fail)
          cbv
          rw [eq1]
          rw [if_pos hlt] at hcut
          exact ⟨_, by omega, els2, out ++ [v], i + 1, i + 1, by cbv, ea, hcut, by omega, by omega, by simp; omega, rfl⟩
        · have hlt : ¬ fr < i := by
            try clear hK K
            clear hM hP hC hR; cases hO
            simp only [Ops.std, stdCmp, stdBin, scmp_eql, scmp_neq, stdUn, Int.ofNat_eq_natCast] at *
            first | done | omega | (simp_all; done) | (simp_all; omega)
          repeat' first
            | ((with_reducible refine hK _ ?_); clear hK K)
            | ((with_reducible refine thenA_n ?_))
            | ((with_reducible refine thenA_r ?_))
            | ((with_reducible refine thenA_e ?_))
            | ((with_reducible refine block_n ?_))
            | ((with_reducible refine block_r ?_))
            | ((with_reducible refine block_hit ?_))
            | ((with_reducible refine GWp.seq ?_))
            | ((with_reducible refine GWp.block ?_))
            | ((with_reducible refine GWp.skip ?_))
            | ((with_reducible refine GWp.ret ?_))
            | ((with_reducible refine GWp.exit ?_))
            | ((with_reducible refine block_miss ?hd ?_); case hd => rfl)
            | ((with_reducible refine gPost_r ?_); cbv; try simp only [hseg])
            | ((with_reducible refine gPost_n ?_); cbv; try simp only [hseg])
            | ((with_reducible refine fork_t ?_); cbv; try simp only [hseg])
            | ((with_reducible refine fork_f ?_); cbv; try simp only [hseg])
            | ((with_reducible refine GWp.cond_t ?hc ?_); case hc => rfl)
            | ((with_reducible refine GWp.cond_f ?hc ?_); case hc => rfl)
            | ((with_reducible refine GWp.region (base := 0) ?_); intro K hK; cbv; try simp only [hseg])
            | ((with_reducible refine GWp.draws (base := 0) hM ?ho ?_); (case ho => rfl); intro K hK; cbv; try simp only [hseg])
            | ((with_reducible refine need_nil ?_))
            | ((with_reducible refine need_cons ?hp ?_); case hp => first | exact True.intro | with_reducible rfl | exact nn_ok hO (by decide))
            | (fail)
          cbv
          rw [eq1]
          rw [if_neg hlt] at hcut
          exact ⟨_, by omega, els, out, i + 1, i + 1, by cbv, he, hcut, by omega, by omega, by omega, rfl⟩
    · have hi2 : i = s.size := by
        try clear hK K
        clear hM hP hC hR; cases hO
        simp only [Ops.std, stdCmp, stdBin, scmp_eql, scmp_neq, stdUn, Int.ofNat_eq_natCast] at *
        first | done | omega | (simp_all; done) | (simp_all; omega)
      have hcut := going_cut (.inl hi2) hg
      repeat' first
        | ((with_reducible refine hK _ ?_); clear hK K)
        | ((with_reducible refine thenA_n ?_))
        | ((with_reducible refine thenA_r ?_))
        | ((with_reducible refine thenA_e ?_))
        | ((with_reducible refine block_n ?_))
        | ((with_reducible refine block_r ?_))
        | ((with_reducible refine block_hit ?_))
        | ((with_reducible refine GWp.seq ?_))
        | ((with_reducible refine GWp.block ?_))
        | ((with_reducible refine GWp.skip ?_))
        | ((with_reducible refine GWp.ret ?_))
        | ((with_reducible refine GWp.exit ?_))
        | ((with_reducible refine block_miss ?hd ?_); case hd => rfl)
        | ((with_reducible refine gPost_r ?_); cbv; try simp only [hseg])
        | ((with_reducible refine gPost_n ?_); cbv; try simp only [hseg])
        | ((with_reducible refine fork_t ?_); cbv; try simp only [hseg])
        | ((with_reducible refine fork_f ?_); cbv; try simp only [hseg])
        | ((with_reducible refine GWp.cond_t ?hc ?_); case hc => rfl)
        | ((with_reducible refine GWp.cond_f ?hc ?_); case hc => rfl)
        | ((with_reducible refine GWp.region (base := 0) ?_); intro K hK; cbv; try simp only [hseg])
        | ((with_reducible refine GWp.draws (base := 0) hM ?ho ?_); (case ho => rfl); intro K hK; cbv; try simp only [hseg])
        | ((with_reducible refine need_nil ?_))
        | ((with_reducible refine need_cons ?hp ?_); case hp => first | exact True.intro | with_reducible rfl | exact nn_ok hO (by decide))
        | (fail)
      refine GWp.cond rfl (fun h7 => ?_) (fun h7 => ?_)
      · have hlt : fr < i := by
          try clear hK K
          clear hM hP hC hR; cases hO
          simp only [Ops.std, stdCmp, stdBin, scmp_eql, scmp_neq, stdUn, Int.ofNat_eq_natCast] at *
          first | done | omega | (simp_all; done) | (simp_all; omega)
        repeat' first
          | ((with_reducible refine hK _ ?_); clear hK K)
          | ((with_reducible refine thenA_n ?_))
          | ((with_reducible refine thenA_r ?_))
          | ((with_reducible refine thenA_e ?_))
          | ((with_reducible refine block_n ?_))
          | ((with_reducible refine block_r ?_))
          | ((with_reducible refine block_hit ?_))
          | ((with_reducible refine GWp.seq ?_))
          | ((with_reducible refine GWp.block ?_))
          | ((with_reducible refine GWp.skip ?_))
          | ((with_reducible refine GWp.ret ?_))
          | ((with_reducible refine GWp.exit ?_))
          | ((with_reducible refine block_miss ?hd ?_); case hd => rfl)
          | ((with_reducible refine gPost_r ?_); cbv; try simp only [hseg])
          | ((with_reducible refine gPost_n ?_); cbv; try simp only [hseg])
          | ((with_reducible refine fork_t ?_); cbv; try simp only [hseg])
          | ((with_reducible refine fork_f ?_); cbv; try simp only [hseg])
          | ((with_reducible refine GWp.cond_t ?hc ?_); case hc => rfl)
          | ((with_reducible refine GWp.cond_f ?hc ?_); case hc => rfl)
          | ((with_reducible refine GWp.region (base := 0) ?_); intro K hK; cbv; try simp only [hseg])
          | ((with_reducible refine GWp.draws (base := 0) hM ?ho ?_); (case ho => rfl); intro K hK; cbv; try simp only [hseg])
          | ((with_reducible refine need_nil ?_))
          | ((with_reducible refine need_cons ?hp ?_); case hp => first | exact True.intro | with_reducible rfl | exact nn_ok hO (by decide))
          | (fail)
        refine need_cons (bnd_of hO (by simp; omega)) (need_cons (bnd_of hO (by simp; omega)) (need_cons (le_of hO ?_) (need_cons ?_ (need_cons ?_ (need_nil ?_)))))
        · cases hO; simp; omega
        · cases hO; simp
        · refine aOk_of hO ?_ ?_
          · subst he; simp; omega
          · subst he; simp; omega
        have ev : sub s (nat (Int.ofNat fr)) (nat (Int.ofNat i)) = s.extract fr i := by cases hO; rfl
        generalize s.extract fr i = v at ev hcut
        rw [ev]
        have ea : app els [[T.lit (.string v)]] = strs (out ++ [v]) := app_strs hO he v
        generalize app els [[T.lit (.string v)]] = els2 at ea
        repeat' first
          | ((with_reducible refine hK _ ?_); clear hK K)
          | ((with_reducible refine thenA_n ?_))
          | ((with_reducible refine thenA_r ?_))
          | ((with_reducible refine thenA_e ?_))
          | ((with_reducible refine block_n ?_))
          | ((with_reducible refine block_r ?_))
          | ((with_reducible refine block_hit ?_))
          | ((with_reducible refine GWp.seq ?_))
          | ((with_reducible refine GWp.block ?_))
          | ((with_reducible refine GWp.skip ?_))
          | ((with_reducible refine GWp.ret ?_))
          | ((with_reducible refine GWp.exit ?_))
          | ((with_reducible refine block_miss ?hd ?_); case hd => rfl)
          | ((with_reducible refine gPost_r ?_); cbv; try simp only [hseg])
          | ((with_reducible refine gPost_n ?_); cbv; try simp only [hseg])
          | ((with_reducible refine fork_t ?_); cbv; try simp only [hseg])
          | ((with_reducible refine fork_f ?_); cbv; try simp only [hseg])
          | ((with_reducible refine GWp.cond_t ?hc ?_); case hc => rfl)
          | ((with_reducible refine GWp.cond_f ?hc ?_); case hc => rfl)
          | ((with_reducible refine GWp.region (base := 0) ?_); intro K hK; cbv; try simp only [hseg])
          | ((with_reducible refine GWp.draws (base := 0) hM ?ho ?_); (case ho => rfl); intro K hK; cbv; try simp only [hseg])
          | ((with_reducible refine need_nil ?_))
          | ((with_reducible refine need_cons ?hp ?_); case hp => first | exact True.intro | with_reducible rfl | exact nn_ok hO (by decide))
          | (fail)
        cbv
        rw [eq1]
        rw [if_pos hlt] at hcut
        exact ⟨_, by omega, els2, out ++ [v], i + 1, i + 1, by cbv, ea, hcut, by omega, by omega, by simp; omega, rfl⟩
      · have hlt : ¬ fr < i := by
          try clear hK K
          clear hM hP hC hR; cases hO
          simp only [Ops.std, stdCmp, stdBin, scmp_eql, scmp_neq, stdUn, Int.ofNat_eq_natCast] at *
          first | done | omega | (simp_all; done) | (simp_all; omega)
        repeat' first
          | ((with_reducible refine hK _ ?_); clear hK K)
          | ((with_reducible refine thenA_n ?_))
          | ((with_reducible refine thenA_r ?_))
          | ((with_reducible refine thenA_e ?_))
          | ((with_reducible refine block_n ?_))
          | ((with_reducible refine block_r ?_))
          | ((with_reducible refine block_hit ?_))
          | ((with_reducible refine GWp.seq ?_))
          | ((with_reducible refine GWp.block ?_))
          | ((with_reducible refine GWp.skip ?_))
          | ((with_reducible refine GWp.ret ?_))
          | ((with_reducible refine GWp.exit ?_))
          | ((with_reducible refine block_miss ?hd ?_); case hd => rfl)
          | ((with_reducible refine gPost_r ?_); cbv; try simp only [hseg])
          | ((with_reducible refine gPost_n ?_); cbv; try simp only [hseg])
          | ((with_reducible refine fork_t ?_); cbv; try simp only [hseg])
          | ((with_reducible refine fork_f ?_); cbv; try simp only [hseg])
          | ((with_reducible refine GWp.cond_t ?hc ?_); case hc => rfl)
          | ((with_reducible refine GWp.cond_f ?hc ?_); case hc => rfl)
          | ((with_reducible refine GWp.region (base := 0) ?_); intro K hK; cbv; try simp only [hseg])
          | ((with_reducible refine GWp.draws (base := 0) hM ?ho ?_); (case ho => rfl); intro K hK; cbv; try simp only [hseg])
          | ((with_reducible refine need_nil ?_))
          | ((with_reducible refine need_cons ?hp ?_); case hp => first | exact True.intro | with_reducible rfl | exact nn_ok hO (by decide))
          | (fail)
        cbv
        rw [eq1]
        rw [if_neg hlt] at hcut
        exact ⟨_, by omega, els, out, i + 1, i + 1, by cbv, he, hcut, by omega, by omega, by omega, rfl⟩
  · have hi : i = s.size + 1 := by
      try clear hK K
      clear hM hP hC hR; cases hO
      simp only [Ops.std, stdCmp, stdBin, scmp_eql, scmp_neq, stdUn, Int.ofNat_eq_natCast] at *
      first | done | omega | (simp_all; done) | (simp_all; omega)
    repeat' first
      | ((with_reducible refine hK _ ?_); clear hK K)
      | ((with_reducible refine thenA_n ?_))
      | ((with_reducible refine thenA_r ?_))
      | ((with_reducible refine thenA_e ?_))
      | ((with_reducible refine block_n ?_))
      | ((with_reducible refine block_r ?_))
      | ((with_reducible refine block_hit ?_))
      | ((with_reducible refine GWp.seq ?_))
      | ((with_reducible refine GWp.block ?_))
      | ((with_reducible refine GWp.skip ?_))
      | ((with_reducible refine GWp.ret ?_))
      | ((with_reducible refine GWp.exit ?_))
      | ((with_reducible refine block_miss ?hd ?_); case hd => rfl)
      | ((with_reducible refine gPost_r ?_); cbv; try simp only [hseg])
      | ((with_reducible refine gPost_n ?_); cbv; try simp only [hseg])
      | ((with_reducible refine fork_t ?_); cbv; try simp only [hseg])
      | ((with_reducible refine fork_f ?_); cbv; try simp only [hseg])
      | ((with_reducible refine GWp.cond_t ?hc ?_); case hc => rfl)
      | ((with_reducible refine GWp.cond_f ?hc ?_); case hc => rfl)
      | ((with_reducible refine GWp.region (base := 0) ?_); intro K hK; cbv; try simp only [hseg])
      | ((with_reducible refine GWp.draws (base := 0) hM ?ho ?_); (case ho => rfl); intro K hK; cbv; try simp only [hseg])
      | ((with_reducible refine need_nil ?_))
      | ((with_reducible refine need_cons ?hp ?_); case hp => first | exact True.intro | with_reducible rfl | exact nn_ok hO (by decide))
      | (fail)
    refine hR _ _ ⟨els, ?_, rfl, rfl⟩
    rw [he, hg.2 hi]
end Go.Gv

/- Plain: parting at blanks by runes is parting at blanks by bytes. -/
namespace Go.Gv
open Go.Av

theorem get!_byteAt {s : ByteArray} {i : Nat} : (s.get! i) = byteAt s i := by
  unfold byteAt
  by_cases h : i < s.size
  · rw [getElem?_pos s i h, Option.getD_some]
    show s.data[i]! = s.data[i]
    rw [getElem!_pos s.data i h]
  · rw [getElem?_neg s i h]
    show s.data[i]! = _
    rw [getElem!_neg s.data i h]; rfl

theorem decode_low {s : ByteArray} {i : Nat} (h : (byteAt s i).toNat < 128) : Utf8.decode s i = ((byteAt s i).toNat, 1) := by
  unfold Utf8.decode
  simp only [get!_byteAt, Nat.add_zero]
  rw [if_pos h]

theorem decode_high {s : ByteArray} {i : Nat} (hi : i < s.size) (h : ¬ (byteAt s i).toNat < 128) : 128 ≤ (Utf8.decode s i).1 ∧ 1 ≤ (Utf8.decode s i).2 ∧ i + (Utf8.decode s i).2 ≤ s.size ∧ ∀ j, j < (Utf8.decode s i).2 → 128 ≤ (byteAt s (i + j)).toNat := by
  have one : ∀ j, j < 1 → 128 ≤ (byteAt s (i + j)).toNat := fun j hj => by
    rw [show j = 0 by omega]; simp only [Nat.add_zero]; omega
  have re : 128 ≤ Utf8.runeError := by decide
  unfold Utf8.decode
  simp only [get!_byteAt, Nat.add_zero]
  rw [if_neg h]
  split
  · rename_i h1
    simp only [Bool.and_eq_true, decide_eq_true_eq, beq_iff_eq] at h1
    split
    · rename_i h2
      refine ⟨h2, by simp, by simp only; omega, fun j hj => ?_⟩
      simp only at hj
      have : j = 0 ∨ j = 1 := by omega
      rcases this with rfl | rfl
      · simp only [Nat.add_zero]; omega
      · omega
    · exact ⟨re, Nat.le_refl _, by simp only; omega, one⟩
  · split
    · rename_i h0 h1
      simp only [Bool.and_eq_true, decide_eq_true_eq, beq_iff_eq] at h1
      split
      · rename_i h2
        simp only [Bool.and_eq_true, decide_eq_true_eq] at h2
        refine ⟨by simp only; omega, by simp, by simp only; omega, fun j hj => ?_⟩
        simp only at hj
        have : j = 0 ∨ j = 1 ∨ j = 2 := by omega
        rcases this with rfl | rfl | rfl
        · simp only [Nat.add_zero]; omega
        · omega
        · omega
      · exact ⟨re, Nat.le_refl _, by simp only; omega, one⟩
    · split
      · rename_i h0 h01 h1
        simp only [Bool.and_eq_true, decide_eq_true_eq, beq_iff_eq] at h1
        split
        · rename_i h2
          simp only [Bool.and_eq_true, decide_eq_true_eq] at h2
          refine ⟨by simp only; omega, by simp, by simp only; omega, fun j hj => ?_⟩
          simp only at hj
          have : j = 0 ∨ j = 1 ∨ j = 2 ∨ j = 3 := by omega
          rcases this with rfl | rfl | rfl | rfl
          · simp only [Nat.add_zero]; omega
          · omega
          · omega
          · omega
        · exact ⟨re, Nat.le_refl _, by simp only; omega, one⟩
      · exact ⟨re, Nat.le_refl _, by simp only; omega, one⟩

theorem splitGo_skip {s : ByteArray} {fr : Nat} {out : List ByteArray} : ∀ (w i : Nat), i + w ≤ s.size → (∀ j, j < w → isBl (byteAt s (i + j)) = false) → splitGo s (s.size - i) i fr out = splitGo s (s.size - (i + w)) (i + w) fr out
  | 0, i, _, _ => rfl
  | w + 1, i, h, hb => by
    rw [show s.size - i = (s.size - (i + 1)) + 1 by omega]
    simp only [splitGo]
    have h0 := hb 0 (by omega)
    simp only [Nat.add_zero] at h0
    rw [h0]
    simp only [Bool.false_eq_true, if_false]
    rw [splitGo_skip w (i + 1) (by omega) (fun j hj => by have := hb (j + 1) (by omega); rwa [show i + (j + 1) = i + 1 + j by omega] at this), show i + 1 + w = i + (w + 1) by omega]

def pBl (r : Nat) : Bool := r == 32 || r == 9

theorem spans_split (s : ByteArray) : ∀ (f pos : Nat) (st : Option Nat) (acc : List (Nat × Nat)), s.size ≤ pos + f → pos ≤ s.size → (∀ a, st = some a → a < pos) →
    (Lib.closeSpans s (Lib.spansFromP pBl s f pos st acc)).map (fun x => s.extract x.1 x.2) = splitGo s (s.size - pos) pos (st.getD pos) (acc.map fun x => s.extract x.1 x.2) := by
  have fin : ∀ (pos : Nat) (st : Option Nat) (acc : List (Nat × Nat)), pos = s.size → (∀ a, st = some a → a < pos) →
      (Lib.closeSpans s (acc, st)).map (fun x => s.extract x.1 x.2) = splitGo s (s.size - pos) pos (st.getD pos) (acc.map fun x => s.extract x.1 x.2) := by
    intro pos st acc hp hst
    subst hp
    rw [Nat.sub_self]
    cases st with
    | none => simp [Lib.closeSpans, splitGo]
    | some a => simp [Lib.closeSpans, splitGo, hst a rfl]
  intro f
  induction f with
  | zero => intro pos st acc h1 h2 h3; exact fin pos st acc (by omega) h3
  | succ f ih =>
    intro pos st acc h1 h2 h3
    unfold Lib.spansFromP
    split
    · rename_i hlt
      by_cases hb : (byteAt s pos).toNat < 128
      · rw [decode_low hb]
        simp only
        rw [show s.size - pos = (s.size - (pos + 1)) + 1 by omega]
        have hp : pBl (byteAt s pos).toNat = isBl (byteAt s pos) := rfl
        rw [hp]
        simp only [splitGo]
        cases hbl : isBl (byteAt s pos) with
        | true =>
          simp only [if_true]
          cases st with
          | none =>
            simp only [Option.getD_none, Nat.lt_irrefl, if_false]
            exact ih (pos + 1) none acc (by omega) (by omega) (fun a h => by cases h)
          | some a =>
            simp only [Option.getD_some, h3 a rfl, if_true]
            have := ih (pos + 1) none (acc ++ [(a, pos)]) (by omega) (by omega) (fun a h => by cases h)
            simpa using this
        | false =>
          simp only [Bool.false_eq_true, if_false]
          cases st with
          | none => exact ih (pos + 1) (some pos) acc (by omega) (by omega) (fun a h => by simp at h; omega)
          | some a => exact ih (pos + 1) (some a) acc (by omega) (by omega) (fun a' h => by simp at h; have := h3 a rfl; omega)
      · obtain ⟨d1, d2, d3, d4⟩ := decode_high hlt hb
        generalize Utf8.decode s pos = dw at d1 d2 d3 d4
        obtain ⟨r, w⟩ := dw
        simp only at d1 d2 d3 d4 ⊢
        have hp : pBl r = false := by unfold pBl; simp; omega
        rw [hp]
        simp only [Bool.false_eq_true, if_false]
        rw [splitGo_skip w pos d3 (fun j hj => by have := d4 j hj; unfold isBl; simp; omega)]
        cases st with
        | none => exact ih (pos + w) (some pos) acc (by omega) d3 (fun a h => by simp at h; omega)
        | some a => exact ih (pos + w) (some a) acc (by omega) d3 (fun a' h => by simp at h; have := h3 a rfl; omega)
    · exact fin pos st acc (by omega) h3

theorem goFields_split (s : ByteArray) : Lib.goFieldsP pBl s = split s := spans_split s s.size 0 none [] (by omega) (by omega) (fun a h => by cases h)
end Go.Gv

namespace Go.Gv
open Go.Av Go.Proofs
set_option maxRecDepth 10000
set_option maxHeartbeats 4000000
set_option linter.unusedSimpArgs false

def recOw (line : ByteArray) (els : List (List T)) : AV := ⟨.agg, [.lit (.string line), .ow (0, 0) 1 els]⟩
def recLine (s : ByteArray) : ByteArray := if 200 < s.size then s.extract 0 200 else s
def recFields (s : ByteArray) : List ByteArray := (split (recLine s)).take 20

theorem recLine_size (s : ByteArray) : (recLine s).size ≤ 200 := by
  unfold recLine
  split
  · rw [ByteArray.size_extract]; omega
  · omega

theorem c_RecOf' (s : ByteArray) (hs : s.size ≤ 1048576) :
    ACalls Try.prog 8 [litS s] [] (fun res bx => ∃ line els, line = recLine s ∧ els = strs (recFields s) ∧ res = recOw line els ∧ bx = []) := by
  refine gcalls_by tys_ok 19 [.cell 2 27] (fn := Try.f8) rfl rfl rfl rfl ?_ ?_ ?_
  · simp [stampFree, litS, A.stamp, A.rstamp, stampIn]
  · simp
  intro O hO P hP C hC R hR
  have hM : P.follows .mixedOrders = true := by rw [hP]; rfl
  obtain ⟨bin, cmp, sadd, scmp, beq, bnot, un, wrap, size, byte, sub, len, seg, app, get, set, nat, nadd, nsub, repl, text, bytes, mn, mx, nz, nn, idx, bnd, le, all, one, lits, isB, sOk, aOk, mOk⟩ := O
  have hseg : ∀ e, seg 0 (len e) e = e := by intro e; cases hO; simp
  repeat' first
    | ((with_reducible refine hK _ ?_); clear hK K)
    | ((with_reducible refine thenA_n ?_))
    | ((with_reducible refine thenA_r ?_))
    | ((with_reducible refine thenA_e ?_))
    | ((with_reducible refine block_n ?_))
    | ((with_reducible refine block_r ?_))
    | ((with_reducible refine block_hit ?_))
    | ((with_reducible refine GWp.seq ?_))
    | ((with_reducible refine GWp.block ?_))
    | ((with_reducible refine GWp.skip ?_))
    | ((with_reducible refine GWp.ret ?_))
    | ((with_reducible refine GWp.exit ?_))
    | ((with_reducible refine block_miss ?hd ?_); case hd => rfl)
    | ((with_reducible refine gPost_r ?_); cbv; try simp only [hseg])
    | ((with_reducible refine gPost_n ?_); cbv; try simp only [hseg])
    | ((with_reducible refine fork_t ?_); cbv; try simp only [hseg])
    | ((with_reducible refine fork_f ?_); cbv; try simp only [hseg])
    | ((with_reducible refine GWp.cond_t ?hc ?_); case hc => rfl)
    | ((with_reducible refine GWp.cond_f ?hc ?_); case hc => rfl)
    | ((with_reducible refine GWp.region (base := 0) ?_); intro K hK; cbv; try simp only [hseg])
    | ((with_reducible refine GWp.draws (base := 0) hM ?ho ?_); (case ho => rfl); intro K hK; cbv; try simp only [hseg])
    | ((with_reducible refine need_nil ?_))
    | ((with_reducible refine need_cons ?hp ?_); case hp => first | exact True.intro | with_reducible rfl | exact nn_ok hO (by decide))
    | (fail)
  refine GWp.cond rfl (fun h3 => ?_) (fun h3 => ?_)
  · have h200 : 200 < s.size := by
      try clear hK K
      clear hM hP hC hR; cases hO
      simp only [Ops.std, stdCmp, stdBin, scmp_eql, scmp_neq, stdUn, Int.ofNat_eq_natCast] at *
      first | done | omega | (simp_all; done) | (simp_all; omega)
    have hl : recLine s = s.extract 0 200 := if_pos h200
    have hsz := recLine_size s
    have ev : sub s 0 (nat 200) = s.extract 0 200 := by cases hO; rfl
    generalize s.extract 0 200 = line at hl ev
    rw [hl] at hsz
    repeat' first
      | ((with_reducible refine hK _ ?_); clear hK K)
      | ((with_reducible refine thenA_n ?_))
      | ((with_reducible refine thenA_r ?_))
      | ((with_reducible refine thenA_e ?_))
      | ((with_reducible refine block_n ?_))
      | ((with_reducible refine block_r ?_))
      | ((with_reducible refine block_hit ?_))
      | ((with_reducible refine GWp.seq ?_))
      | ((with_reducible refine GWp.block ?_))
      | ((with_reducible refine GWp.skip ?_))
      | ((with_reducible refine GWp.ret ?_))
      | ((with_reducible refine GWp.exit ?_))
      | ((with_reducible refine block_miss ?hd ?_); case hd => rfl)
      | ((with_reducible refine gPost_r ?_); cbv; try simp only [hseg])
      | ((with_reducible refine gPost_n ?_); cbv; try simp only [hseg])
      | ((with_reducible refine fork_t ?_); cbv; try simp only [hseg])
      | ((with_reducible refine fork_f ?_); cbv; try simp only [hseg])
      | ((with_reducible refine GWp.cond_t ?hc ?_); case hc => rfl)
      | ((with_reducible refine GWp.cond_f ?hc ?_); case hc => rfl)
      | ((with_reducible refine GWp.region (base := 0) ?_); intro K hK; cbv; try simp only [hseg])
      | ((with_reducible refine GWp.draws (base := 0) hM ?ho ?_); (case ho => rfl); intro K hK; cbv; try simp only [hseg])
      | ((with_reducible refine need_nil ?_))
      | ((with_reducible refine need_cons ?hp ?_); case hp => first | exact True.intro | with_reducible rfl | exact nn_ok hO (by decide))
      | (fail)
    simp only [ev]
    refine need_cons (by
      try clear hK K
      clear hM hP hC hR; cases hO
      simp only [Ops.std, stdCmp, stdBin, scmp_eql, scmp_neq, stdUn, Int.ofNat_eq_natCast] at *
      simp; omega) ?_
    refine need_cons (by
      try clear hK K
      clear hM hP hC hR; cases hO
      simp only [Ops.std, stdCmp, stdBin, scmp_eql, scmp_neq, stdUn, Int.ofNat_eq_natCast] at *
      exact Nat.zero_le _) ?_
    repeat' first
      | ((with_reducible refine hK _ ?_); clear hK K)
      | ((with_reducible refine thenA_n ?_))
      | ((with_reducible refine thenA_r ?_))
      | ((with_reducible refine thenA_e ?_))
      | ((with_reducible refine block_n ?_))
      | ((with_reducible refine block_r ?_))
      | ((with_reducible refine block_hit ?_))
      | ((with_reducible refine GWp.seq ?_))
      | ((with_reducible refine GWp.block ?_))
      | ((with_reducible refine GWp.skip ?_))
      | ((with_reducible refine GWp.ret ?_))
      | ((with_reducible refine GWp.exit ?_))
      | ((with_reducible refine block_miss ?hd ?_); case hd => rfl)
      | ((with_reducible refine gPost_r ?_); cbv; try simp only [hseg])
      | ((with_reducible refine gPost_n ?_); cbv; try simp only [hseg])
      | ((with_reducible refine fork_t ?_); cbv; try simp only [hseg])
      | ((with_reducible refine fork_f ?_); cbv; try simp only [hseg])
      | ((with_reducible refine GWp.cond_t ?hc ?_); case hc => rfl)
      | ((with_reducible refine GWp.cond_f ?hc ?_); case hc => rfl)
      | ((with_reducible refine GWp.region (base := 0) ?_); intro K hK; cbv; try simp only [hseg])
      | ((with_reducible refine GWp.draws (base := 0) hM ?ho ?_); (case ho => rfl); intro K hK; cbv; try simp only [hseg])
      | ((with_reducible refine need_nil ?_))
      | ((with_reducible refine need_cons ?hp ?_); case hp => first | exact True.intro | with_reducible rfl | exact nn_ok hO (by decide))
      | (fail)
    refine GCall.by ⟨fun _ _ => false, fun _ _ => false, []⟩ ?_
    cbv
    try simp only [hseg]
    refine GCallD.by hP rfl (c_SplitText' line (by omega)) ?_
    rintro res bx ⟨els, he, rfl, rfl⟩
    cbv
    try simp only [hseg]
    have hlen : len els = (split line).length := by cases hO; subst he; simp
    repeat' first
      | ((with_reducible refine hK _ ?_); clear hK K)
      | ((with_reducible refine thenA_n ?_))
      | ((with_reducible refine thenA_r ?_))
      | ((with_reducible refine thenA_e ?_))
      | ((with_reducible refine block_n ?_))
      | ((with_reducible refine block_r ?_))
      | ((with_reducible refine block_hit ?_))
      | ((with_reducible refine GWp.seq ?_))
      | ((with_reducible refine GWp.block ?_))
      | ((with_reducible refine GWp.skip ?_))
      | ((with_reducible refine GWp.ret ?_))
      | ((with_reducible refine GWp.exit ?_))
      | ((with_reducible refine block_miss ?hd ?_); case hd => rfl)
      | ((with_reducible refine gPost_r ?_); cbv; try simp only [hseg])
      | ((with_reducible refine gPost_n ?_); cbv; try simp only [hseg])
      | ((with_reducible refine fork_t ?_); cbv; try simp only [hseg])
      | ((with_reducible refine fork_f ?_); cbv; try simp only [hseg])
      | ((with_reducible refine GWp.cond_t ?hc ?_); case hc => rfl)
      | ((with_reducible refine GWp.cond_f ?hc ?_); case hc => rfl)
      | ((with_reducible refine GWp.region (base := 0) ?_); intro K hK; cbv; try simp only [hseg])
      | ((with_reducible refine GWp.draws (base := 0) hM ?ho ?_); (case ho => rfl); intro K hK; cbv; try simp only [hseg])
      | ((with_reducible refine need_nil ?_))
      | ((with_reducible refine need_cons ?hp ?_); case hp => first | exact True.intro | with_reducible rfl | exact nn_ok hO (by decide))
      | (fail)
    refine GWp.cond rfl (fun h4 => ?_) (fun h4 => ?_)
    · have h5 : 20 < (split line).length := by
        try clear hK K
        clear hM hP hC hR; cases hO
        simp only [Ops.std, stdCmp, stdBin, scmp_eql, scmp_neq, stdUn, Int.ofNat_eq_natCast] at *
        first | done | omega | (simp_all; done) | (simp_all; omega)
      repeat' first
        | ((with_reducible refine hK _ ?_); clear hK K)
        | ((with_reducible refine thenA_n ?_))
        | ((with_reducible refine thenA_r ?_))
        | ((with_reducible refine thenA_e ?_))
        | ((with_reducible refine block_n ?_))
        | ((with_reducible refine block_r ?_))
        | ((with_reducible refine block_hit ?_))
        | ((with_reducible refine GWp.seq ?_))
        | ((with_reducible refine GWp.block ?_))
        | ((with_reducible refine GWp.skip ?_))
        | ((with_reducible refine GWp.ret ?_))
        | ((with_reducible refine GWp.exit ?_))
        | ((with_reducible refine block_miss ?hd ?_); case hd => rfl)
        | ((with_reducible refine gPost_r ?_); cbv; try simp only [hseg])
        | ((with_reducible refine gPost_n ?_); cbv; try simp only [hseg])
        | ((with_reducible refine fork_t ?_); cbv; try simp only [hseg])
        | ((with_reducible refine fork_f ?_); cbv; try simp only [hseg])
        | ((with_reducible refine GWp.cond_t ?hc ?_); case hc => rfl)
        | ((with_reducible refine GWp.cond_f ?hc ?_); case hc => rfl)
        | ((with_reducible refine GWp.region (base := 0) ?_); intro K hK; cbv; try simp only [hseg])
        | ((with_reducible refine GWp.draws (base := 0) hM ?ho ?_); (case ho => rfl); intro K hK; cbv; try simp only [hseg])
        | ((with_reducible refine need_nil ?_))
        | ((with_reducible refine need_cons ?hp ?_); case hp => first | exact True.intro | with_reducible rfl | exact nn_ok hO (by decide))
        | (fail)
      refine need_cons (by
        try clear hK K
        clear hM hP hC hR; cases hO
        simp only [Ops.std, stdCmp, stdBin, scmp_eql, scmp_neq, stdUn, Int.ofNat_eq_natCast] at *
        simp; omega) ?_
      refine need_cons (by
        try clear hK K
        clear hM hP hC hR; cases hO
        simp only [Ops.std, stdCmp, stdBin, scmp_eql, scmp_neq, stdUn, Int.ofNat_eq_natCast] at *
        exact Nat.zero_le _) ?_
      have es : seg (nadd 0 0) (nsub (nat 20) 0) els = strs ((split line).take 20) := by cases hO; subst he; simp [strs, List.map_take]
      generalize seg (nadd 0 0) (nsub (nat 20) 0) els = els2 at es
      repeat' first
        | ((with_reducible refine hK _ ?_); clear hK K)
        | ((with_reducible refine thenA_n ?_))
        | ((with_reducible refine thenA_r ?_))
        | ((with_reducible refine thenA_e ?_))
        | ((with_reducible refine block_n ?_))
        | ((with_reducible refine block_r ?_))
        | ((with_reducible refine block_hit ?_))
        | ((with_reducible refine GWp.seq ?_))
        | ((with_reducible refine GWp.block ?_))
        | ((with_reducible refine GWp.skip ?_))
        | ((with_reducible refine GWp.ret ?_))
        | ((with_reducible refine GWp.exit ?_))
        | ((with_reducible refine block_miss ?hd ?_); case hd => rfl)
        | ((with_reducible refine gPost_r ?_); cbv; try simp only [hseg])
        | ((with_reducible refine gPost_n ?_); cbv; try simp only [hseg])
        | ((with_reducible refine fork_t ?_); cbv; try simp only [hseg])
        | ((with_reducible refine fork_f ?_); cbv; try simp only [hseg])
        | ((with_reducible refine GWp.cond_t ?hc ?_); case hc => rfl)
        | ((with_reducible refine GWp.cond_f ?hc ?_); case hc => rfl)
        | ((with_reducible refine GWp.region (base := 0) ?_); intro K hK; cbv; try simp only [hseg])
        | ((with_reducible refine GWp.draws (base := 0) hM ?ho ?_); (case ho => rfl); intro K hK; cbv; try simp only [hseg])
        | ((with_reducible refine need_nil ?_))
        | ((with_reducible refine need_cons ?hp ?_); case hp => first | exact True.intro | with_reducible rfl | exact nn_ok hO (by decide))
        | (fail)
      refine hR _ _ ⟨line, els2, hl.symm, ?_, rfl, rfl⟩
      rw [es, recFields, hl]
    · have h5 : ¬ 20 < (split line).length := by
        try clear hK K
        clear hM hP hC hR; cases hO
        simp only [Ops.std, stdCmp, stdBin, scmp_eql, scmp_neq, stdUn, Int.ofNat_eq_natCast] at *
        first | done | omega | (simp_all; done) | (simp_all; omega)
      repeat' first
        | ((with_reducible refine hK _ ?_); clear hK K)
        | ((with_reducible refine thenA_n ?_))
        | ((with_reducible refine thenA_r ?_))
        | ((with_reducible refine thenA_e ?_))
        | ((with_reducible refine block_n ?_))
        | ((with_reducible refine block_r ?_))
        | ((with_reducible refine block_hit ?_))
        | ((with_reducible refine GWp.seq ?_))
        | ((with_reducible refine GWp.block ?_))
        | ((with_reducible refine GWp.skip ?_))
        | ((with_reducible refine GWp.ret ?_))
        | ((with_reducible refine GWp.exit ?_))
        | ((with_reducible refine block_miss ?hd ?_); case hd => rfl)
        | ((with_reducible refine gPost_r ?_); cbv; try simp only [hseg])
        | ((with_reducible refine gPost_n ?_); cbv; try simp only [hseg])
        | ((with_reducible refine fork_t ?_); cbv; try simp only [hseg])
        | ((with_reducible refine fork_f ?_); cbv; try simp only [hseg])
        | ((with_reducible refine GWp.cond_t ?hc ?_); case hc => rfl)
        | ((with_reducible refine GWp.cond_f ?hc ?_); case hc => rfl)
        | ((with_reducible refine GWp.region (base := 0) ?_); intro K hK; cbv; try simp only [hseg])
        | ((with_reducible refine GWp.draws (base := 0) hM ?ho ?_); (case ho => rfl); intro K hK; cbv; try simp only [hseg])
        | ((with_reducible refine need_nil ?_))
        | ((with_reducible refine need_cons ?hp ?_); case hp => first | exact True.intro | with_reducible rfl | exact nn_ok hO (by decide))
        | (fail)
      refine hR _ _ ⟨line, els, hl.symm, ?_, rfl, rfl⟩
      rw [he, recFields, hl, List.take_of_length_le (by omega)]
  · have h200 : ¬ 200 < s.size := by
      try clear hK K
      clear hM hP hC hR; cases hO
      simp only [Ops.std, stdCmp, stdBin, scmp_eql, scmp_neq, stdUn, Int.ofNat_eq_natCast] at *
      first | done | omega | (simp_all; done) | (simp_all; omega)
    obtain ⟨line, hq⟩ : ∃ line, line = s := ⟨_, rfl⟩
    have hl : recLine s = line := (if_neg h200).trans hq.symm
    have hsz : line.size ≤ 200 := by rw [hq]; omega
    rw [← hq]
    repeat' first
      | ((with_reducible refine hK _ ?_); clear hK K)
      | ((with_reducible refine thenA_n ?_))
      | ((with_reducible refine thenA_r ?_))
      | ((with_reducible refine thenA_e ?_))
      | ((with_reducible refine block_n ?_))
      | ((with_reducible refine block_r ?_))
      | ((with_reducible refine block_hit ?_))
      | ((with_reducible refine GWp.seq ?_))
      | ((with_reducible refine GWp.block ?_))
      | ((with_reducible refine GWp.skip ?_))
      | ((with_reducible refine GWp.ret ?_))
      | ((with_reducible refine GWp.exit ?_))
      | ((with_reducible refine block_miss ?hd ?_); case hd => rfl)
      | ((with_reducible refine gPost_r ?_); cbv; try simp only [hseg])
      | ((with_reducible refine gPost_n ?_); cbv; try simp only [hseg])
      | ((with_reducible refine fork_t ?_); cbv; try simp only [hseg])
      | ((with_reducible refine fork_f ?_); cbv; try simp only [hseg])
      | ((with_reducible refine GWp.cond_t ?hc ?_); case hc => rfl)
      | ((with_reducible refine GWp.cond_f ?hc ?_); case hc => rfl)
      | ((with_reducible refine GWp.region (base := 0) ?_); intro K hK; cbv; try simp only [hseg])
      | ((with_reducible refine GWp.draws (base := 0) hM ?ho ?_); (case ho => rfl); intro K hK; cbv; try simp only [hseg])
      | ((with_reducible refine need_nil ?_))
      | ((with_reducible refine need_cons ?hp ?_); case hp => first | exact True.intro | with_reducible rfl | exact nn_ok hO (by decide))
      | (fail)
    refine GCall.by ⟨fun _ _ => false, fun _ _ => false, []⟩ ?_
    cbv
    try simp only [hseg]
    refine GCallD.by hP rfl (c_SplitText' line (by omega)) ?_
    rintro res bx ⟨els, he, rfl, rfl⟩
    cbv
    try simp only [hseg]
    have hlen : len els = (split line).length := by cases hO; subst he; simp
    repeat' first
      | ((with_reducible refine hK _ ?_); clear hK K)
      | ((with_reducible refine thenA_n ?_))
      | ((with_reducible refine thenA_r ?_))
      | ((with_reducible refine thenA_e ?_))
      | ((with_reducible refine block_n ?_))
      | ((with_reducible refine block_r ?_))
      | ((with_reducible refine block_hit ?_))
      | ((with_reducible refine GWp.seq ?_))
      | ((with_reducible refine GWp.block ?_))
      | ((with_reducible refine GWp.skip ?_))
      | ((with_reducible refine GWp.ret ?_))
      | ((with_reducible refine GWp.exit ?_))
      | ((with_reducible refine block_miss ?hd ?_); case hd => rfl)
      | ((with_reducible refine gPost_r ?_); cbv; try simp only [hseg])
      | ((with_reducible refine gPost_n ?_); cbv; try simp only [hseg])
      | ((with_reducible refine fork_t ?_); cbv; try simp only [hseg])
      | ((with_reducible refine fork_f ?_); cbv; try simp only [hseg])
      | ((with_reducible refine GWp.cond_t ?hc ?_); case hc => rfl)
      | ((with_reducible refine GWp.cond_f ?hc ?_); case hc => rfl)
      | ((with_reducible refine GWp.region (base := 0) ?_); intro K hK; cbv; try simp only [hseg])
      | ((with_reducible refine GWp.draws (base := 0) hM ?ho ?_); (case ho => rfl); intro K hK; cbv; try simp only [hseg])
      | ((with_reducible refine need_nil ?_))
      | ((with_reducible refine need_cons ?hp ?_); case hp => first | exact True.intro | with_reducible rfl | exact nn_ok hO (by decide))
      | (fail)
    refine GWp.cond rfl (fun h4 => ?_) (fun h4 => ?_)
    · have h5 : 20 < (split line).length := by
        try clear hK K
        clear hM hP hC hR; cases hO
        simp only [Ops.std, stdCmp, stdBin, scmp_eql, scmp_neq, stdUn, Int.ofNat_eq_natCast] at *
        first | done | omega | (simp_all; done) | (simp_all; omega)
      repeat' first
        | ((with_reducible refine hK _ ?_); clear hK K)
        | ((with_reducible refine thenA_n ?_))
        | ((with_reducible refine thenA_r ?_))
        | ((with_reducible refine thenA_e ?_))
        | ((with_reducible refine block_n ?_))
        | ((with_reducible refine block_r ?_))
        | ((with_reducible refine block_hit ?_))
        | ((with_reducible refine GWp.seq ?_))
        | ((with_reducible refine GWp.block ?_))
        | ((with_reducible refine GWp.skip ?_))
        | ((with_reducible refine GWp.ret ?_))
        | ((with_reducible refine GWp.exit ?_))
        | ((with_reducible refine block_miss ?hd ?_); case hd => rfl)
        | ((with_reducible refine gPost_r ?_); cbv; try simp only [hseg])
        | ((with_reducible refine gPost_n ?_); cbv; try simp only [hseg])
        | ((with_reducible refine fork_t ?_); cbv; try simp only [hseg])
        | ((with_reducible refine fork_f ?_); cbv; try simp only [hseg])
        | ((with_reducible refine GWp.cond_t ?hc ?_); case hc => rfl)
        | ((with_reducible refine GWp.cond_f ?hc ?_); case hc => rfl)
        | ((with_reducible refine GWp.region (base := 0) ?_); intro K hK; cbv; try simp only [hseg])
        | ((with_reducible refine GWp.draws (base := 0) hM ?ho ?_); (case ho => rfl); intro K hK; cbv; try simp only [hseg])
        | ((with_reducible refine need_nil ?_))
        | ((with_reducible refine need_cons ?hp ?_); case hp => first | exact True.intro | with_reducible rfl | exact nn_ok hO (by decide))
        | (fail)
      refine need_cons (by
        try clear hK K
        clear hM hP hC hR; cases hO
        simp only [Ops.std, stdCmp, stdBin, scmp_eql, scmp_neq, stdUn, Int.ofNat_eq_natCast] at *
        simp; omega) ?_
      refine need_cons (by
        try clear hK K
        clear hM hP hC hR; cases hO
        simp only [Ops.std, stdCmp, stdBin, scmp_eql, scmp_neq, stdUn, Int.ofNat_eq_natCast] at *
        exact Nat.zero_le _) ?_
      have es : seg (nadd 0 0) (nsub (nat 20) 0) els = strs ((split line).take 20) := by cases hO; subst he; simp [strs, List.map_take]
      generalize seg (nadd 0 0) (nsub (nat 20) 0) els = els2 at es
      repeat' first
        | ((with_reducible refine hK _ ?_); clear hK K)
        | ((with_reducible refine thenA_n ?_))
        | ((with_reducible refine thenA_r ?_))
        | ((with_reducible refine thenA_e ?_))
        | ((with_reducible refine block_n ?_))
        | ((with_reducible refine block_r ?_))
        | ((with_reducible refine block_hit ?_))
        | ((with_reducible refine GWp.seq ?_))
        | ((with_reducible refine GWp.block ?_))
        | ((with_reducible refine GWp.skip ?_))
        | ((with_reducible refine GWp.ret ?_))
        | ((with_reducible refine GWp.exit ?_))
        | ((with_reducible refine block_miss ?hd ?_); case hd => rfl)
        | ((with_reducible refine gPost_r ?_); cbv; try simp only [hseg])
        | ((with_reducible refine gPost_n ?_); cbv; try simp only [hseg])
        | ((with_reducible refine fork_t ?_); cbv; try simp only [hseg])
        | ((with_reducible refine fork_f ?_); cbv; try simp only [hseg])
        | ((with_reducible refine GWp.cond_t ?hc ?_); case hc => rfl)
        | ((with_reducible refine GWp.cond_f ?hc ?_); case hc => rfl)
        | ((with_reducible refine GWp.region (base := 0) ?_); intro K hK; cbv; try simp only [hseg])
        | ((with_reducible refine GWp.draws (base := 0) hM ?ho ?_); (case ho => rfl); intro K hK; cbv; try simp only [hseg])
        | ((with_reducible refine need_nil ?_))
        | ((with_reducible refine need_cons ?hp ?_); case hp => first | exact True.intro | with_reducible rfl | exact nn_ok hO (by decide))
        | (fail)
      refine hR _ _ ⟨line, els2, hl.symm, ?_, rfl, rfl⟩
      rw [es, recFields, hl]
    · have h5 : ¬ 20 < (split line).length := by
        try clear hK K
        clear hM hP hC hR; cases hO
        simp only [Ops.std, stdCmp, stdBin, scmp_eql, scmp_neq, stdUn, Int.ofNat_eq_natCast] at *
        first | done | omega | (simp_all; done) | (simp_all; omega)
      repeat' first
        | ((with_reducible refine hK _ ?_); clear hK K)
        | ((with_reducible refine thenA_n ?_))
        | ((with_reducible refine thenA_r ?_))
        | ((with_reducible refine thenA_e ?_))
        | ((with_reducible refine block_n ?_))
        | ((with_reducible refine block_r ?_))
        | ((with_reducible refine block_hit ?_))
        | ((with_reducible refine GWp.seq ?_))
        | ((with_reducible refine GWp.block ?_))
        | ((with_reducible refine GWp.skip ?_))
        | ((with_reducible refine GWp.ret ?_))
        | ((with_reducible refine GWp.exit ?_))
        | ((with_reducible refine block_miss ?hd ?_); case hd => rfl)
        | ((with_reducible refine gPost_r ?_); cbv; try simp only [hseg])
        | ((with_reducible refine gPost_n ?_); cbv; try simp only [hseg])
        | ((with_reducible refine fork_t ?_); cbv; try simp only [hseg])
        | ((with_reducible refine fork_f ?_); cbv; try simp only [hseg])
        | ((with_reducible refine GWp.cond_t ?hc ?_); case hc => rfl)
        | ((with_reducible refine GWp.cond_f ?hc ?_); case hc => rfl)
        | ((with_reducible refine GWp.region (base := 0) ?_); intro K hK; cbv; try simp only [hseg])
        | ((with_reducible refine GWp.draws (base := 0) hM ?ho ?_); (case ho => rfl); intro K hK; cbv; try simp only [hseg])
        | ((with_reducible refine need_nil ?_))
        | ((with_reducible refine need_cons ?hp ?_); case hp => first | exact True.intro | with_reducible rfl | exact nn_ok hO (by decide))
        | (fail)
      refine hR _ _ ⟨line, els, hl.symm, ?_, rfl, rfl⟩
      rw [he, recFields, hl, List.take_of_length_le (by omega)]
end Go.Gv
