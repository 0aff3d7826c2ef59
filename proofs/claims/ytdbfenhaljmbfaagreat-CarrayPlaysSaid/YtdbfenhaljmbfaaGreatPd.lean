/- Parts of the proof: Nat1, Nat2, Nat3, Nat4, Nat5, Nat6, Rat1, Text1, Tape1, Float1, Flip1, Flip2, Morris1, Chain1, YuM, DivM, Nat7, Yu1, YuX, YuW, YuAt. -/
import Derived.Test.YtdbfenhaljmbfaaGreatPc
namespace Go.Proofs.YtdbfenhaljmbfaaGreat.Am
section
set_option linter.unusedVariables false
set_option linter.unusedSimpArgs false
open Go.RowKit
set_option maxRecDepth 100000
set_option linter.unusedSimpArgs false
set_option linter.unusedVariables false

/-- words, as data -/
def W (ws : List Nat) : D := .sl ws.length (ws.map fun x : Nat => .int .u64 x)

/-- the words of a number -/
def wordsF : Nat → Nat → List Nat
  | 0, _ => []
  | f + 1, n => if n = 0 then [] else (n % 18446744073709551616) :: wordsF f (n / 18446744073709551616)
def words (n : Nat) : List Nat := wordsF n n

theorem wordsF_ok : ∀ (f n : Nat), n ≤ f → wval (wordsF f n) = n ∧ small (wordsF f n) ∧ top1 (wordsF f n)
  | 0, n, h => by
    obtain rfl : n = 0 := by omega
    exact ⟨rfl, by simp [small, wordsF], by intro k hk; simp [wordsF] at hk⟩
  | f + 1, n, h => by
    by_cases h0 : n = 0
    · subst h0
      simp only [wordsF, if_true]
      exact ⟨rfl, by simp [small], by intro k hk; simp at hk⟩
    · obtain ⟨h1, h2, h3⟩ := wordsF_ok f (n / 18446744073709551616) (by omega)
      simp only [wordsF, if_neg h0]
      refine ⟨by simp only [wval, h1]; omega, fun x hx => ?_, fun k hk => ?_⟩
      · rcases List.mem_cons.1 hx with rfl | hx
        · omega
        · exact h2 x hx
      · cases hl : wordsF f (n / 18446744073709551616) with
        | nil =>
          rw [hl] at h1 hk
          simp [wval] at h1 hk
          subst hk
          simp; omega
        | cons y r =>
          rw [hl] at hk h3
          simp at hk
          subst hk
          have := h3 r.length rfl
          simpa using this
theorem words_val (n : Nat) : wval (words n) = n := (wordsF_ok n n (Nat.le_refl _)).1
theorem words_small (n : Nat) : small (words n) := (wordsF_ok n n (Nat.le_refl _)).2.1
theorem words_top (n : Nat) : top1 (words n) := (wordsF_ok n n (Nat.le_refl _)).2.2
theorem words_of {ws : List Nat} (h : small ws) (ht : top1 ws) : words (wval ws) = ws := words_eq (words_small _) h (words_top _) ht (words_val _)
theorem words_nil {n : Nat} : words n = [] ↔ n = 0 := by
  constructor
  · intro h; have := words_val n; rw [h] at this; exact this.symm
  · rintro rfl; rfl

/-- a number -/
def natW (n : Nat) : D := W (words n)
theorem natW_of {ws : List Nat} (h : small ws) (ht : top1 ws) : natW (wval ws) = W ws := by rw [natW, words_of h ht]
/-- how many words -/
def size (n : Nat) : Nat := (words n).length

theorem clone64_ok (n : Nat) (l : List D) (hl : l.length = n) (hn : n ≤ 4000000000) : Eqn Tryz.prog n_slices_Clone_uint64_uint64 [.d (.sl n l)] [] (.d (.sl n l)) [] := by
  refine Eqn.pure r_slices_Clone_uint64_uint64 (plain_d _) ?_
  simp only [c_slices_Clone_uint64_uint64]
  rcases Nat.eq_zero_or_pos n with rfl | h0
  · have : l = [] := List.eq_nil_of_length_eq_zero hl
    subst this
    refine AW.empty 0 rfl ?_ ?_
    · simp
      repeat (first | refine AW.seq ?_ | refine AW.block ?_ | (refine AW.reg mix ?_; simp (implicitDefEqProofs := false); try simp (disch := omega) only [w64, wu64]) | (refine need.of (by first | omega | kernel_rfl) ?_) | (refine AW.fin ?_; try simp (implicitDefEqProofs := false)))
      refine AW.cond rfl (fun h => ?_) (fun h => ?_)
      · repeat (first | refine AW.seq ?_ | refine AW.block ?_ | (refine AW.reg mix ?_; simp (implicitDefEqProofs := false); try simp (disch := omega) only [w64, wu64]) | (refine need.of (by first | omega | kernel_rfl) ?_) | (refine AW.fin ?_; try simp (implicitDefEqProofs := false)))
        exact Sub1.nil
      · simp at h
    · simp
      repeat (first | refine AW.seq ?_ | refine AW.block ?_ | (refine AW.reg mix ?_; simp (implicitDefEqProofs := false); try simp (disch := omega) only [w64, wu64]) | (refine need.of (by first | omega | kernel_rfl) ?_) | (refine AW.fin ?_; try simp (implicitDefEqProofs := false)))
      refine AW.cond rfl (fun h => ?_) (fun h => ?_)
      · simp at h
      · repeat (first | refine AW.seq ?_ | refine AW.block ?_ | (refine AW.reg mix ?_; simp (implicitDefEqProofs := false); try simp (disch := omega) only [w64, wu64]) | (refine need.of (by first | omega | kernel_rfl) ?_) | (refine AW.fin ?_; try simp (implicitDefEqProofs := false)))
        exact Sub1.sl0
  · repeat (first | refine AW.seq ?_ | refine AW.block ?_ | (refine AW.reg mix ?_; simp (implicitDefEqProofs := false) [h0]; try simp (disch := omega) only [w64, wu64]) | (refine need.of (by first | omega | kernel_rfl) ?_) | (refine AW.fin ?_; try simp (implicitDefEqProofs := false) [h0]))
    refine AW.cond rfl (fun h => ?_) (fun h => ?_)
    · simp at h
    · repeat (first | refine AW.seq ?_ | refine AW.block ?_ | (refine AW.reg mix ?_; simp (implicitDefEqProofs := false); try simp (disch := omega) only [w64, wu64]) | (refine need.of (by first | omega | kernel_rfl) ?_) | (refine AW.fin ?_; try simp (implicitDefEqProofs := false)))
      have h1 : ¬ n = 0 := by omega
      simp [h1, hl]
      refine need.of (by omega) ?_
      refine AW.freeze 0 1 ⟨80, l.map .d⟩ l (by simp) rfl ?_
      simp
      repeat (first | refine AW.seq ?_ | refine AW.block ?_ | (refine AW.reg mix ?_; simp (implicitDefEqProofs := false); try simp (disch := omega) only [w64, wu64]) | (refine need.of (by first | omega | kernel_rfl) ?_) | (refine AW.fin ?_; try simp (implicitDefEqProofs := false)))
      have : l.take n = l := List.take_of_length_le (by omega)
      simp [this]

theorem W_get {ws : List Nat} {k : Nat} (h : k < ws.length) : ws[k] = ws.getD k 0 := by simp [List.getD, h]

theorem trimmed_ok (ws : List Nat) (hs : small ws) (hn : ws.length ≤ 4000000000) : Eqn Tryz.prog n_nat_trimmed [.d (W ws)] [] (.d (.agg [natW (wval ws)])) [] := by
  refine Eqn.pure r_nat_trimmed (plain_d _) ?_
  simp only [c_nat_trimmed, W]
  repeat (first | refine AW.seq ?_ | refine AW.block ?_ | (refine AW.reg mix ?_; simp (implicitDefEqProofs := false); try simp (disch := omega) only [w64, wu64]) | (refine need.of (by first | omega | kernel_rfl) ?_) | (refine AW.fin ?_; try simp (implicitDefEqProofs := false)))
  refine AW.loopT (α := Nat) 1 (fun m => [(3, .d (.int .i64 (m : Int)))]) (fun _ => []) (fun m => m ≤ ws.length ∧ trimN ws m = trimN ws ws.length) (fun m => m) ws.length ?_ ?_ ⟨Nat.le_refl _, rfl⟩ ?_ ?_ ?_
  · simp
  · simp
  · simp
  · simp
  rintro m ⟨hm, ht⟩
  simp
  have fin : ∀ k, k = trimN ws ws.length → W (ws.take k) = natW (wval ws) := by
    rintro k rfl
    have := natW_of (hs.take (trimN ws ws.length)) (trimN_top ws _ (Nat.le_refl _))
    rw [← this, trimN_val _ _ (Nat.le_refl _), List.take_length]
  cases m with
  | zero =>
    repeat (first | refine AW.seq ?_ | refine AW.block ?_ | (refine AW.reg mix ?_; simp (implicitDefEqProofs := false); try simp (disch := omega) only [w64, wu64]) | (refine need.of (by first | omega | kernel_rfl) ?_) | (refine AW.fin ?_; try simp (implicitDefEqProofs := false)))
    refine AW.cond rfl (fun h => ?_) (fun h => ?_)
    · simp at h
    repeat (first | refine AW.seq ?_ | refine AW.block ?_ | (refine AW.reg mix ?_; simp (implicitDefEqProofs := false); try simp (disch := omega) only [w64, wu64]) | (refine need.of (by first | omega | kernel_rfl) ?_) | (refine AW.fin ?_; try simp (implicitDefEqProofs := false)))
    refine Sub1.of ?_
    rw [← fin 0 ht]
    simp [W]
  | succ m =>
    have hm' : m < ws.length := hm
    have hp : (0 : Int) < (m : Int) + 1 := by omega
    have e : (m : Int) + 1 - 1 = m := by omega
    have ew : IntKind.i64.wrap (m : Int) = m := w64 (by omega) (by omega)
    repeat (first | refine AW.seq ?_ | refine AW.block ?_ | (refine AW.reg mix ?_; simp (implicitDefEqProofs := false) [hp, e, ew, hm']; try simp (disch := omega) only [w64, wu64]) | (refine need.of (by first | omega | kernel_rfl) ?_) | (refine AW.fin ?_; try simp (implicitDefEqProofs := false) [hp, e, ew, hm']))
    refine AW.cond rfl (fun h => ?_) (fun h => ?_)
    · simp at h
      repeat (first | refine AW.seq ?_ | refine AW.block ?_ | (refine AW.reg mix ?_; simp (implicitDefEqProofs := false) [hp, e, ew]; try simp (disch := omega) only [w64, wu64]) | (refine need.of (by first | omega | kernel_rfl) ?_) | (refine AW.fin ?_; try simp (implicitDefEqProofs := false) [hp, e, ew]))
      refine ⟨m, ⟨by omega, ?_⟩, ?_⟩
      · rw [← ht, trimN, if_pos]
        rw [← W_get hm']; omega
      · simp
    · simp at h
      repeat (first | refine AW.seq ?_ | refine AW.block ?_ | (refine AW.reg mix ?_; simp (implicitDefEqProofs := false); try simp (disch := omega) only [w64, wu64]) | (refine need.of (by first | omega | kernel_rfl) ?_) | (refine AW.fin ?_; try simp (implicitDefEqProofs := false)))
      have hk : m + 1 = trimN ws ws.length := by
        rw [← ht, trimN, if_neg]
        rw [← W_get hm']; omega
      repeat (first | refine AW.seq ?_ | refine AW.block ?_ | (refine AW.reg mix ?_; simp (implicitDefEqProofs := false); try simp (disch := omega) only [w64, wu64]) | (refine need.of (by first | omega | kernel_rfl) ?_) | (refine AW.fin ?_; try simp (implicitDefEqProofs := false)))
      refine Sub1.of ?_
      rw [← fin _ hk]
      simp [W]
      omega

theorem of_ok (ws : List Nat) (hs : small ws) (hn : ws.length ≤ 4000000000) : Eqn Tryz.prog n_nat_Of [.d (W ws)] [] (.d (.agg [natW (wval ws)])) [] := by
  refine Eqn.pure r_nat_Of (plain_d _) ?_
  simp only [c_nat_Of, W]
  repeat (first | refine AW.seq ?_ | refine AW.block ?_ | (refine AW.reg mix ?_; simp (implicitDefEqProofs := false); try simp (disch := omega) only [w64, wu64]) | (refine need.of (by first | omega | kernel_rfl) ?_) | (refine AW.fin ?_; try simp (implicitDefEqProofs := false)))
  refine CallS.pu (clone64_ok _ (ws.map fun x : Nat => .int .u64 x) (by simp) hn) ?_
  (try (simp (implicitDefEqProofs := false); try simp (disch := omega) only [w64, wu64]))
  repeat (first | refine AW.seq ?_ | refine AW.block ?_ | (refine AW.reg mix ?_; simp (implicitDefEqProofs := false); try simp (disch := omega) only [w64, wu64]) | (refine need.of (by first | omega | kernel_rfl) ?_) | (refine AW.fin ?_; try simp (implicitDefEqProofs := false)))
  refine CallS.pu (trimmed_ok ws hs hn) ?_
  (try (simp (implicitDefEqProofs := false); try simp (disch := omega) only [w64, wu64]))
  repeat (first | refine AW.seq ?_ | refine AW.block ?_ | (refine AW.reg mix ?_; simp (implicitDefEqProofs := false); try simp (disch := omega) only [w64, wu64]) | (refine need.of (by first | omega | kernel_rfl) ?_) | (refine AW.fin ?_; try simp (implicitDefEqProofs := false)))
  repeat (first | refine AW.seq ?_ | refine AW.block ?_ | (refine AW.reg mix ?_; simp (implicitDefEqProofs := false); try simp (disch := omega) only [w64, wu64]) | (refine need.of (by first | omega | kernel_rfl) ?_) | (refine AW.fin ?_; try simp (implicitDefEqProofs := false)))

theorem zero_ok (n : Nat) : Eqn Tryz.prog n_nat_Nat_Zero [.d (.agg [natW n])] [] (.d (.bool (n == 0))) [] := by
  refine Eqn.pure r_nat_Nat_Zero (plain_d _) ?_
  simp only [c_nat_Nat_Zero, natW, W]
  repeat (first | refine AW.seq ?_ | refine AW.block ?_ | (refine AW.reg mix ?_; simp (implicitDefEqProofs := false); try simp (disch := omega) only [w64, wu64]) | (refine need.of (by first | omega | kernel_rfl) ?_) | (refine AW.fin ?_; try simp (implicitDefEqProofs := false)))
  refine Sub1.bool ?_
  rw [Bool.eq_iff_iff]
  simp [words_nil]

theorem size_lt {m n : Nat} (h : size m < size n) : m < n := by
  have := shorter_lt (words_small m) (words_top n) h
  rwa [words_val, words_val] at this

theorem cmp_ok (m n : Nat) (hm : size m ≤ 1000000) (hn : size n ≤ 1000000) : Eqn Tryz.prog n_nat_Cmp [.d (.agg [natW m]), .d (.agg [natW n])] [] (.d (.int .i64 (cmpZ m n))) [] := by
  refine Eqn.pure r_nat_Cmp (plain_d _) ?_
  unfold size at hm hn
  have sa := words_small m
  have sb := words_small n
  simp only [c_nat_Cmp, natW, W]
  have hz : cmpZ m n = if (words m).length < (words n).length then -1 else if (words n).length < (words m).length then 1 else cmpN (words m) (words n) (words m).length := by
    split
    · rename_i h; rw [cmpZ, if_pos (size_lt h)]
    · split
      · rename_i h; have := size_lt h; rw [cmpZ, if_neg (by omega), if_pos this]
      · have := cmpN_val sa sb (words m).length
        rw [List.take_length, show (words m).length = (words n).length by omega, List.take_length, words_val, words_val] at this
        rw [show (words m).length = (words n).length by omega, this]
        rfl
  rw [hz]
  clear hz
  generalize words m = xs at *
  generalize words n = ys at *
  by_cases hl : xs.length = ys.length
  · repeat (first | refine AW.seq ?_ | refine AW.block ?_ | (refine AW.reg mix ?_; simp (implicitDefEqProofs := false) [hl]; try simp (disch := omega) only [w64, wu64]) | (refine need.of (by first | omega | kernel_rfl) ?_) | (refine AW.fin ?_; try simp (implicitDefEqProofs := false) [hl]))
    refine AW.cond rfl (fun h => ?_) (fun h => ?_)
    · simp [w64] at h
    repeat (first | refine AW.seq ?_ | refine AW.block ?_ | (refine AW.reg mix ?_; simp (implicitDefEqProofs := false) [hl]; try simp (disch := omega) only [w64, wu64]) | (refine need.of (by first | omega | kernel_rfl) ?_) | (refine AW.fin ?_; try simp (implicitDefEqProofs := false) [hl]))
    refine AW.loopT (α := Nat) 2 (fun m => [(6, .d (.int .i64 ((m : Int) - 1)))]) (fun _ => []) (fun m => m ≤ ys.length ∧ cmpN xs ys m = cmpN xs ys ys.length) (fun m => m) ys.length ?_ ?_ ⟨Nat.le_refl _, rfl⟩ ?_ ?_ ?_
    · simp
    · simp
    · simp [hl]
    · simp
    rintro m ⟨hm', hc⟩
    simp
    cases m with
    | zero =>
      repeat (first | refine AW.seq ?_ | refine AW.block ?_ | (refine AW.reg mix ?_; simp (implicitDefEqProofs := false); try simp (disch := omega) only [w64, wu64]) | (refine need.of (by first | omega | kernel_rfl) ?_) | (refine AW.fin ?_; try simp (implicitDefEqProofs := false)))
      refine AW.cond rfl (fun h => ?_) (fun h => ?_)
      · simp at h
      repeat (first | refine AW.seq ?_ | refine AW.block ?_ | (refine AW.reg mix ?_; simp (implicitDefEqProofs := false); try simp (disch := omega) only [w64, wu64]) | (refine need.of (by first | omega | kernel_rfl) ?_) | (refine AW.fin ?_; try simp (implicitDefEqProofs := false)))
      refine Sub1.int ?_
      rw [← hc]; rfl
    | succ m =>
      have h1 : m < xs.length := by omega
      have h2 : m < ys.length := hm'
      have e : (m : Int) + 1 - 1 = m := by omega
      have ew : IntKind.i64.wrap ((m : Int) - 1) = (m : Int) - 1 := w64 (by omega) (by omega)
      rw [cmpN, ← W_get h1, ← W_get h2] at hc
      repeat (first | refine AW.seq ?_ | refine AW.block ?_ | (refine AW.reg mix ?_; simp (implicitDefEqProofs := false) [e, h1, h2]; try simp (disch := omega) only [w64, wu64]) | (refine need.of (by first | omega | kernel_rfl) ?_) | (refine AW.fin ?_; try simp (implicitDefEqProofs := false) [e, h1, h2]))
      refine AW.cond rfl (fun h => ?_) (fun h => ?_)
      · repeat (first | refine AW.seq ?_ | refine AW.block ?_ | (refine AW.reg mix ?_; simp (implicitDefEqProofs := false) [e, h1, h2]; try simp (disch := omega) only [w64, wu64]) | (refine need.of (by first | omega | kernel_rfl) ?_) | (refine AW.fin ?_; try simp (implicitDefEqProofs := false) [e, h1, h2]))
        refine AW.cond rfl (fun h => ?_) (fun h => ?_)
        · simp at h
          repeat (first | refine AW.seq ?_ | refine AW.block ?_ | (refine AW.reg mix ?_; simp (implicitDefEqProofs := false); try simp (disch := omega) only [w64, wu64]) | (refine need.of (by first | omega | kernel_rfl) ?_) | (refine AW.fin ?_; try simp (implicitDefEqProofs := false)))
          refine Sub1.int ?_
          rw [if_pos h] at hc
          exact hc
        · simp at h
          rw [if_neg (by omega)] at hc
          repeat (first | refine AW.seq ?_ | refine AW.block ?_ | (refine AW.reg mix ?_; simp (implicitDefEqProofs := false); try simp (disch := omega) only [w64, wu64]) | (refine need.of (by first | omega | kernel_rfl) ?_) | (refine AW.fin ?_; try simp (implicitDefEqProofs := false)))
          refine AW.cond rfl (fun h => ?_) (fun h => ?_)
          · simp at h
            repeat (first | refine AW.seq ?_ | refine AW.block ?_ | (refine AW.reg mix ?_; simp (implicitDefEqProofs := false); try simp (disch := omega) only [w64, wu64]) | (refine need.of (by first | omega | kernel_rfl) ?_) | (refine AW.fin ?_; try simp (implicitDefEqProofs := false)))
            refine Sub1.int ?_
            rw [if_pos h] at hc
            exact hc
          · simp at h
            rw [if_neg (by omega)] at hc
            repeat (first | refine AW.seq ?_ | refine AW.block ?_ | (refine AW.reg mix ?_; simp (implicitDefEqProofs := false) [ew]; try simp (disch := omega) only [w64, wu64]) | (refine need.of (by first | omega | kernel_rfl) ?_) | (refine AW.fin ?_; try simp (implicitDefEqProofs := false) [ew]))
            exact ⟨m, ⟨by omega, hc⟩, by simp⟩
      · simp at h
  · repeat (first | refine AW.seq ?_ | refine AW.block ?_ | (refine AW.reg mix ?_; simp (implicitDefEqProofs := false); try simp (disch := omega) only [w64, wu64]) | (refine need.of (by first | omega | kernel_rfl) ?_) | (refine AW.fin ?_; try simp (implicitDefEqProofs := false)))
    refine AW.cond rfl (fun h => ?_) (fun h => ?_)
    · repeat (first | refine AW.seq ?_ | refine AW.block ?_ | (refine AW.reg mix ?_; simp (implicitDefEqProofs := false); try simp (disch := omega) only [w64, wu64]) | (refine need.of (by first | omega | kernel_rfl) ?_) | (refine AW.fin ?_; try simp (implicitDefEqProofs := false)))
      refine Sub1.int ?_
      split <;> omega
    · simp at h
      omega
end
end Go.Proofs.YtdbfenhaljmbfaaGreat.Am
namespace Go.Proofs.YtdbfenhaljmbfaaGreat.Am
section
set_option linter.unusedVariables false
set_option linter.unusedSimpArgs false
open Go.RowKit
set_option maxRecDepth 100000
set_option linter.unusedSimpArgs false
set_option linter.unusedVariables false

/-- words, as cells -/
abbrev U (ws : List Nat) : List V := ws.map fun x : Nat => V.d (.int .u64 x)

theorem add64_ok (x y c s d : Nat) (hx : x < 18446744073709551616) (hy : y < 18446744073709551616) (hc : c ≤ 1) (hs : s < 18446744073709551616) (e : x + y + c = s + 18446744073709551616 * d) : Eqn Tryz.prog n_math_bits_Add64 [.d (.int .u64 x), .d (.int .u64 y), .d (.int .u64 c)] [] (.tup [.d (.int .u64 s), .d (.int .u64 d)]) [] := by
  refine Eqn.extern x_math_bits_Add64 (by kernel_rfl) (by kernel_rfl) (by kernel_rfl) (e := add64Entry) (by kernel_rfl) rfl fun m vs h => ?_
  obtain ⟨v1, r1, rfl, h1, h⟩ := V.reps_cons'.1 h
  obtain ⟨v2, r2, rfl, h2, h⟩ := V.reps_cons'.1 h
  obtain ⟨v3, r3, rfl, h3, h⟩ := V.reps_cons'.1 h
  simp at h; subst h
  rw [V.rep_int] at h1 h2 h3
  subst h1 h2 h3
  have := run_add64 (P := Tryz.prog) x y c (by omega) (by omega) (by omega) (by omega) m.w
  refine ⟨_, this, ?_⟩
  unfold V.rep
  refine ⟨[.int .u64 (((x : Int) + y + c) % 18446744073709551616), .int .u64 (((x : Int) + y + c) / 18446744073709551616)], rfl, ?_⟩
  simp only [V.reps_cons, V.rep_int, V.reps_nil, and_true]
  constructor <;> congr 1 <;> omega

theorem sub64_ok (x y c s d : Nat) (hx : x < 18446744073709551616) (hy : y < 18446744073709551616) (hc : c ≤ 1) (hs : s < 18446744073709551616) (e : x + 18446744073709551616 * d = s + y + c) : Eqn Tryz.prog n_math_bits_Sub64 [.d (.int .u64 x), .d (.int .u64 y), .d (.int .u64 c)] [] (.tup [.d (.int .u64 s), .d (.int .u64 d)]) [] := by
  refine Eqn.extern x_math_bits_Sub64 (by kernel_rfl) (by kernel_rfl) (by kernel_rfl) (e := sub64Entry) (by kernel_rfl) rfl fun m vs h => ?_
  obtain ⟨v1, r1, rfl, h1, h⟩ := V.reps_cons'.1 h
  obtain ⟨v2, r2, rfl, h2, h⟩ := V.reps_cons'.1 h
  obtain ⟨v3, r3, rfl, h3, h⟩ := V.reps_cons'.1 h
  simp at h; subst h
  rw [V.rep_int] at h1 h2 h3
  subst h1 h2 h3
  have := run_sub64 (P := Tryz.prog) x y c hc m.w
  refine ⟨_, this, ?_⟩
  unfold V.rep
  refine ⟨[.int .u64 s, .int .u64 d], ?_, by simp only [V.reps_cons, V.rep_int, V.reps_nil, and_true]⟩
  congr 4
  · omega
  · congr 2
    split <;> omega

theorem addW_eq (a b : List Nat) (i : Nat) : a.getD i 0 + b.getD i 0 + carryW a b i = addW a b i + 18446744073709551616 * carryW a b (i + 1) := by
  rw [addW, carryW]; exact (Nat.mod_add_div _ _).symm
theorem W_out {ws : List Nat} {k : Nat} (h : ¬ k < ws.length) : ws.getD k 0 = 0 := by simp [List.getD, show ws.length ≤ k by omega]
theorem plain_tup (l : List D) : (V.tup (l.map .d)).plain := by
  have h1 : V.lowl 0 (l.map V.d) = true := by induction l <;> simp_all [V.lowl, V.low]
  have h2 : ∀ θ, V.rens θ (l.map V.d) = l.map V.d := fun θ => by induction l <;> simp_all [V.rens, V.ren]
  exact ⟨by simp [V.low, h1], fun θ => by simp [V.ren, h2]⟩

/-- a row that is being filled -/
def rowV (f : Nat → D) (n i : Nat) : List V := (List.range i).map (fun k => V.d (f k)) ++ List.replicate (n - i) (.d (.int .u64 0))
@[simp] theorem rowV_length (f : Nat → D) (n i : Nat) : (rowV f n i).length = i + (n - i) := by simp [rowV]
theorem out0 (n : Nat) (f : Nat → D) : List.replicate n (V.d (.int .u64 0)) = rowV f n 0 := by simp [rowV]
theorem rowV_set {f : Nat → D} {n i : Nat} (h : i < n) : (rowV f n i).set i (.d (f i)) = rowV f n (i + 1) := by
  obtain ⟨k, rfl⟩ : ∃ k, n = i + k + 1 := ⟨n - i - 1, by omega⟩
  rw [rowV, rowV, List.set_append_right _ _ (by simp), List.range_succ, List.map_append, List.append_assoc]
  congr 1
  simp only [List.length_map, List.length_range, Nat.sub_self]
  rw [show i + k + 1 - i = k + 1 by omega, show i + k + 1 - (i + 1) = k by omega]
  simp [List.replicate_succ]
@[simp] theorem lowl_row (n : Nat) (f : Nat → D) (k i : Nat) : V.lowl n (rowV f k i) = true := by
  have h1 : ∀ l : List D, V.lowl n (l.map V.d) = true := fun l => by induction l <;> simp_all [V.lowl, V.low]
  have : rowV f k i = ((List.range i).map f ++ List.replicate (k - i) (D.int .u64 0)).map .d := by simp [rowV]
  rw [this, h1]
@[simp] theorem subs_refl (l : List V) : Subs l l ↔ True := iff_true_intro (Subs.refl l)
theorem rowV_fin {f : Nat → D} {n : Nat} {z : D} : (rowV f (n + 1) n).set n (.d z) = ((List.range n).map f ++ [z]).map .d := by
  rw [rowV, List.set_append_right _ _ (by simp)]
  simp
theorem rowV_end {f : Nat → D} {n : Nat} : rowV f n n = ((List.range n).map f).map .d := by simp [rowV]

theorem plain_tup2 (a b : D) : (V.tup [.d a, .d b]).plain := plain_tup [a, b]
theorem plain_tup3 (a b c : D) : (V.tup [.d a, .d b, .d c]).plain := plain_tup [a, b, c]

theorem add_ok (m n : Nat) (hm : size m ≤ 1000000) (hn : size n ≤ 1000000) : Eqn Tryz.prog n_nat_Add [.d (.agg [natW m]), .d (.agg [natW n])] [] (.d (.agg [natW (m + n)])) [] := by
  refine Eqn.pure r_nat_Add (plain_d _) ?_
  -- the longer one, the other one
  obtain ⟨A, B, hAB, hsA, hsB, hle, hsum, hca, hcb⟩ : ∃ A B : List Nat, (A, B) = (if (words m).length < (words n).length then (words n, words m) else (words m, words n)) ∧ small A ∧ small B ∧ B.length ≤ A.length ∧ wval A + wval B = m + n ∧ A.length ≤ 1000000 ∧ B.length ≤ 1000000 := by
    unfold size at hm hn
    by_cases h : (words m).length < (words n).length
    · exact ⟨words n, words m, by rw [if_pos h], words_small _, words_small _, by omega, by rw [words_val, words_val]; omega, by omega, by omega⟩
    · exact ⟨words m, words n, by rw [if_neg h], words_small _, words_small _, by omega, by rw [words_val, words_val], by omega, by omega⟩
  simp only [c_nat_Add, natW, W]
  generalize words m = xs at *
  generalize words n = ys at *
  unfold size at hm hn
  refine AW.seq (AW.reg mix ?_)
  (simp (implicitDefEqProofs := false); try simp (disch := omega) only [w64, wu64])
  refine AW.cut 3 [] [(0, ⟨t_nat_Nat, [.d (W A)]⟩), (1, ⟨t_nat_Nat, [.d (W B)]⟩)] ?_ ?_ ?_ ?_
  · simp
  · simp
  · repeat (first | refine AW.seq ?_ | refine AW.block ?_ | (refine AW.reg mix ?_; simp (implicitDefEqProofs := false); try simp (disch := omega) only [w64, wu64]) | (refine need.of (by first | omega | kernel_rfl) ?_) | (refine AW.fin ?_; try simp (implicitDefEqProofs := false)))
    refine AW.cond rfl (fun h => ?_) (fun h => ?_)
    · simp at h
      rw [if_pos h] at hAB
      cases hAB
      repeat (first | refine AW.seq ?_ | refine AW.block ?_ | (refine AW.reg mix ?_; simp (implicitDefEqProofs := false); try simp (disch := omega) only [w64, wu64]) | (refine need.of (by first | omega | kernel_rfl) ?_) | (refine AW.fin ?_; try simp (implicitDefEqProofs := false)))
      simp [W]
    · simp at h
      rw [if_neg (by omega)] at hAB
      cases hAB
      repeat (first | refine AW.seq ?_ | refine AW.block ?_ | (refine AW.reg mix ?_; simp (implicitDefEqProofs := false); try simp (disch := omega) only [w64, wu64]) | (refine need.of (by first | omega | kernel_rfl) ?_) | (refine AW.fin ?_; try simp (implicitDefEqProofs := false)))
      simp [W]
  clear hAB hm hn
  simp [W]
  repeat (first | refine AW.seq ?_ | refine AW.block ?_ | (refine AW.reg mix ?_; simp (implicitDefEqProofs := false); try simp (disch := omega) only [w64, wu64]) | (refine need.of (by first | omega | kernel_rfl) ?_) | (refine AW.fin ?_; try simp (implicitDefEqProofs := false)))

  rw [out0 _ (fun k => .int .u64 (addW A B k : Nat))]
  repeat (first | refine AW.seq ?_ | refine AW.block ?_ | (refine AW.reg mix ?_; simp (implicitDefEqProofs := false); try simp (disch := omega) only [w64, wu64]) | (refine need.of (by first | omega | kernel_rfl) ?_) | (refine AW.fin ?_; try simp (implicitDefEqProofs := false)))
  refine AW.loopT (α := Nat) 4 (fun i => [(27, .d (.int .i64 (i : Int))), (6, .d (.int .u64 (carryW A B i : Nat)))]) (fun i => [(3, ⟨80, rowV (fun k => .int .u64 (addW A B k : Nat)) (A.length + 1) i⟩)]) (fun i => i ≤ A.length) (fun i => A.length - i) 0 ?_ ?_ (Nat.zero_le _) ?_ ?_ ?_
  · simp
  · simp
  · simp [carryW]
  · simp
  rintro i hi
  simp
  by_cases h : i = A.length
  · subst h
    repeat (first | refine AW.seq ?_ | refine AW.block ?_ | (refine AW.reg mix ?_; simp (implicitDefEqProofs := false); try simp (disch := omega) only [w64, wu64]) | (refine need.of (by first | omega | kernel_rfl) ?_) | (refine AW.fin ?_; try simp (implicitDefEqProofs := false)))
    refine AW.cond rfl (fun h => ?_) (fun h => ?_)
    · simp at h
    refine AW.exit ?_
    (try (simp (implicitDefEqProofs := false); try simp (disch := omega) only [w64, wu64]))
    repeat (first | refine AW.seq ?_ | refine AW.block ?_)
    refine AW.reg mix ?_
    (simp (implicitDefEqProofs := false); try simp (disch := omega) only [w64, wu64])
    try refine need.of (by first | omega | kernel_rfl) ?_
    obtain ⟨ws, hl, hr, hv, hs⟩ : ∃ ws : List Nat, ws.length = A.length + 1 ∧ (rowV (fun k => .int .u64 (addW A B k : Nat)) (A.length + 1) A.length).set A.length (.d (.int .u64 (carryW A B A.length : Nat))) = U ws ∧ wval ws = m + n ∧ small ws := by
      refine ⟨(List.range A.length).map (addW A B) ++ [carryW A B A.length], by simp, by rw [rowV_fin]; simp [U], ?_, ?_⟩
      · rw [wval_append, ← hsum]
        have := addW_val A B A.length
        rw [List.take_length, List.take_of_length_le hle] at this
        simp [wval]
        rw [← this]
      · intro x hx
        rcases List.mem_append.1 hx with hx | hx
        · obtain ⟨k, -, rfl⟩ := List.mem_map.1 hx; exact addW_lt _ _ _
        · simp at hx; subst hx; have := carryW_le hsA hsB A.length; omega
    rw [hr]
    refine AW.freeze 3 1 ⟨80, _⟩ (ws.map fun x : Nat => .int .u64 x) (by rfl) (by simp) ?_
    simp [← hl, List.take_of_length_le]
    repeat (first | refine AW.seq ?_ | refine AW.block ?_ | (refine AW.reg mix ?_; simp (implicitDefEqProofs := false); try simp (disch := omega) only [w64, wu64]) | (refine need.of (by first | omega | kernel_rfl) ?_) | (refine AW.fin ?_; try simp (implicitDefEqProofs := false)))
    refine CallS.pu (trimmed_ok ws hs (by omega)) ?_
    (try (simp (implicitDefEqProofs := false); try simp (disch := omega) only [w64, wu64]))
    repeat (first | refine AW.seq ?_ | refine AW.block ?_ | (refine AW.reg mix ?_; simp (implicitDefEqProofs := false); try simp (disch := omega) only [w64, wu64]) | (refine need.of (by first | omega | kernel_rfl) ?_) | (refine AW.fin ?_; try simp (implicitDefEqProofs := false)))
    refine Sub1.of ?_
    rw [hv]; rfl
  · have hi' : i < A.length := by omega
    have hp : (i : Int) < A.length := by omega
    have hc := carryW_le hsA hsB i
    have hset := rowV_set (f := fun k => .int .u64 (addW A B k : Nat)) (n := A.length + 1) (i := i) (by omega)
    have ew : IntKind.i64.wrap ((i : Int) + 1) = (i : Int) + 1 := w64 (by omega) (by omega)
    repeat (first | refine AW.seq ?_ | refine AW.block ?_ | (refine AW.reg mix ?_; simp (implicitDefEqProofs := false) [hi', hp]; try simp (disch := omega) only [w64, wu64]) | (refine need.of (by first | omega | kernel_rfl) ?_) | (refine AW.fin ?_; try simp (implicitDefEqProofs := false) [hi', hp]))
    refine AW.cond rfl (fun h => ?_) (fun h => ?_)
    · clear h
      by_cases hb : i < B.length
      · have e : A[i] + B[i] + carryW A B i = addW A B i + 18446744073709551616 * carryW A B (i + 1) := by
          rw [← addW_eq, W_get hi', W_get hb]
        repeat (first | refine AW.seq ?_ | refine AW.block ?_ | (refine AW.reg mix ?_; simp (implicitDefEqProofs := false) [hi', hp, hb]; try simp (disch := omega) only [w64, wu64]) | (refine need.of (by first | omega | kernel_rfl) ?_) | (refine AW.fin ?_; try simp (implicitDefEqProofs := false) [hi', hp, hb]))
        refine AW.cond rfl (fun h => ?_) (fun h => ?_)
        · clear h
          repeat (first | refine AW.seq ?_ | refine AW.block ?_ | (refine AW.reg mix ?_; simp (implicitDefEqProofs := false) [hi', hp, hb]; try simp (disch := omega) only [w64, wu64]) | (refine need.of (by first | omega | kernel_rfl) ?_) | (refine AW.fin ?_; try simp (implicitDefEqProofs := false) [hi', hp, hb]))
          refine CallS.pu (add64_ok _ _ _ (addW A B i) (carryW A B (i + 1)) (hsA _ (List.getElem_mem _)) (hsB _ (List.getElem_mem _)) hc (addW_lt _ _ _) e) ?_
          (try (simp (implicitDefEqProofs := false) [hset, ew]; try simp (disch := omega) only [w64, wu64]))
          repeat (first | refine AW.seq ?_ | refine AW.block ?_ | (refine AW.reg mix ?_; simp (implicitDefEqProofs := false) [hset, ew]; try simp (disch := omega) only [w64, wu64]) | (refine need.of (by first | omega | kernel_rfl) ?_) | (refine AW.fin ?_; try simp (implicitDefEqProofs := false) [hset, ew]))
          exact ⟨i + 1, by omega, by omega, by simp [wk, ew], by simp [wkH]⟩
        · simp [hb] at h
      · have e : A[i] + 0 + carryW A B i = addW A B i + 18446744073709551616 * carryW A B (i + 1) := by
          rw [← addW_eq, W_get hi', W_out hb]
        repeat (first | refine AW.seq ?_ | refine AW.block ?_ | (refine AW.reg mix ?_; simp (implicitDefEqProofs := false) [hi', hp, hb]; try simp (disch := omega) only [w64, wu64]) | (refine need.of (by first | omega | kernel_rfl) ?_) | (refine AW.fin ?_; try simp (implicitDefEqProofs := false) [hi', hp, hb]))
        refine AW.cond rfl (fun h => ?_) (fun h => ?_)
        · simp [hb] at h
        · clear h
          repeat (first | refine AW.seq ?_ | refine AW.block ?_ | (refine AW.reg mix ?_; simp (implicitDefEqProofs := false) [hi', hp, hb]; try simp (disch := omega) only [w64, wu64]) | (refine need.of (by first | omega | kernel_rfl) ?_) | (refine AW.fin ?_; try simp (implicitDefEqProofs := false) [hi', hp, hb]))
          refine CallS.pu (add64_ok _ 0 _ (addW A B i) (carryW A B (i + 1)) (hsA _ (List.getElem_mem _)) (by omega) hc (addW_lt _ _ _) e) ?_
          (try (simp (implicitDefEqProofs := false) [hset, ew]; try simp (disch := omega) only [w64, wu64]))
          repeat (first | refine AW.seq ?_ | refine AW.block ?_ | (refine AW.reg mix ?_; simp (implicitDefEqProofs := false) [hset, ew]; try simp (disch := omega) only [w64, wu64]) | (refine need.of (by first | omega | kernel_rfl) ?_) | (refine AW.fin ?_; try simp (implicitDefEqProofs := false) [hset, ew]))
          exact ⟨i + 1, by omega, by omega, by simp [wk, ew], by simp [wkH]⟩
    · simp at h
end
end Go.Proofs.YtdbfenhaljmbfaaGreat.Am
namespace Go.Proofs.YtdbfenhaljmbfaaGreat.Am
section
set_option linter.unusedVariables false
set_option linter.unusedSimpArgs false
open Go.RowKit
set_option maxRecDepth 100000
set_option linter.unusedSimpArgs false
set_option linter.unusedVariables false

theorem subW_eq {a b : List Nat} (ha : small a) (hb : small b) (i : Nat) : a.getD i 0 + 18446744073709551616 * borrowW a b (i + 1) = subW a b i + b.getD i 0 + borrowW a b i := by
  have h1 := ha.getD i
  have h2 := hb.getD i
  have h3 := borrowW_le a b i
  simp only [subW, borrowW]
  split <;> omega
theorem borrow_end {a b : List Nat} (ha : small a) (hb : small b) (hl : b.length ≤ a.length) (h : wval b ≤ wval a) : wval ((List.range a.length).map (subW a b)) = wval a - wval b := by
  have h1 := subW_val ha hb a.length
  rw [List.take_length, List.take_of_length_le hl] at h1
  have h2 := borrowW_le a b a.length
  have h3 := wval_lt (range_small (subW_lt a b) a.length)
  rw [List.length_map, List.length_range] at h3
  have : borrowW a b a.length = 0 ∨ borrowW a b a.length = 1 := by omega
  rcases this with e | e
  · rw [e] at h1; omega
  · rw [e] at h1; omega
theorem size_le {m n : Nat} (h : m ≤ n) : size m ≤ size n := by
  apply Nat.le_of_not_lt
  intro hlt
  have := size_lt hlt
  omega

theorem sub_ok (m n : Nat) (hm : size m ≤ 1000000) (hle : n ≤ m) : Eqn Tryz.prog n_nat_Sub [.d (.agg [natW m]), .d (.agg [natW n])] [] (.tup [.d (.agg [natW (m - n)]), .d (.int .i64 0)]) [] := by
  refine Eqn.pure r_nat_Sub (plain_tup2 _ _) ?_
  have hs := size_le hle
  simp only [c_nat_Sub]
  repeat (first | refine AW.seq ?_ | refine AW.block ?_ | (refine AW.reg mix ?_; simp (implicitDefEqProofs := false); try simp (disch := omega) only [w64, wu64]) | (refine need.of (by first | omega | kernel_rfl) ?_) | (refine AW.fin ?_; try simp (implicitDefEqProofs := false)))
  refine CallS.pu (cmp_ok m n hm (by omega)) ?_
  (try (simp (implicitDefEqProofs := false); try simp (disch := omega) only [w64, wu64]))
  repeat (first | refine AW.seq ?_ | refine AW.block ?_ | (refine AW.reg mix ?_; simp (implicitDefEqProofs := false); try simp (disch := omega) only [w64, wu64]) | (refine need.of (by first | omega | kernel_rfl) ?_) | (refine AW.fin ?_; try simp (implicitDefEqProofs := false)))
  have hc : ¬ cmpZ m n < 0 := by unfold cmpZ; split <;> (try split) <;> omega
  refine AW.cond rfl (fun h => ?_) (fun h => ?_)
  · simp [hc] at h
  clear h
  repeat (first | refine AW.seq ?_ | refine AW.block ?_ | (refine AW.reg mix ?_; simp (implicitDefEqProofs := false); try simp (disch := omega) only [w64, wu64]) | (refine need.of (by first | omega | kernel_rfl) ?_) | (refine AW.fin ?_; try simp (implicitDefEqProofs := false)))
  unfold size at hm hs
  obtain ⟨A, hA⟩ : ∃ A, A = words m := ⟨_, rfl⟩
  obtain ⟨B, hB⟩ : ∃ B, B = words n := ⟨_, rfl⟩
  have hsA : small A := hA ▸ words_small m
  have hsB : small B := hB ▸ words_small n
  have hvA : wval A = m := by rw [hA, words_val]
  have hvB : wval B = n := by rw [hB, words_val]
  rw [show natW m = .sl A.length (A.map fun x : Nat => .int .u64 x) by rw [hA]; rfl, show natW n = .sl B.length (B.map fun x : Nat => .int .u64 x) by rw [hB]; rfl]
  rw [← hA, ← hB] at hs
  rw [← hA] at hm
  clear hA hB
  repeat (first | refine AW.seq ?_ | refine AW.block ?_ | (refine AW.reg mix ?_; simp (implicitDefEqProofs := false); try simp (disch := omega) only [w64, wu64]) | (refine need.of (by first | omega | kernel_rfl) ?_) | (refine AW.fin ?_; try simp (implicitDefEqProofs := false)))
  rw [out0 _ (fun k => .int .u64 (subW A B k : Nat))]
  refine AW.loopT (α := Nat) 4 (fun i => [(23, .d (.int .i64 (i : Int))), (7, .d (.int .u64 (borrowW A B i : Nat)))]) (fun i => [(3, ⟨80, rowV (fun k => .int .u64 (subW A B k : Nat)) A.length i⟩)]) (fun i => i ≤ A.length) (fun i => A.length - i) 0 ?_ ?_ (Nat.zero_le _) ?_ ?_ ?_
  · simp
  · simp
  · simp [borrowW]
  · simp
  rintro i hi
  simp
  by_cases h : i = A.length
  · subst h
    repeat (first | refine AW.seq ?_ | refine AW.block ?_ | (refine AW.reg mix ?_; simp (implicitDefEqProofs := false); try simp (disch := omega) only [w64, wu64]) | (refine need.of (by first | omega | kernel_rfl) ?_) | (refine AW.fin ?_; try simp (implicitDefEqProofs := false)))
    refine AW.cond rfl (fun h => ?_) (fun h => ?_)
    · simp at h
    refine AW.exit ?_
    (try (simp (implicitDefEqProofs := false); try simp (disch := omega) only [w64, wu64]))
    obtain ⟨ws, hl, hr, hv, hs'⟩ : ∃ ws : List Nat, ws.length = A.length ∧ rowV (fun k => .int .u64 (subW A B k : Nat)) A.length A.length = U ws ∧ wval ws = m - n ∧ small ws := by
      refine ⟨(List.range A.length).map (subW A B), by simp, by rw [rowV_end]; simp [U], ?_, range_small (subW_lt A B) _⟩
      rw [← hvA, ← hvB]
      exact borrow_end hsA hsB hs (by omega)
    rw [hr]
    refine AW.freeze 3 1 ⟨80, _⟩ (ws.map fun x : Nat => .int .u64 x) (by rfl) (by simp) ?_
    simp [← hl, List.take_of_length_le]
    repeat (first | refine AW.seq ?_ | refine AW.block ?_ | (refine AW.reg mix ?_; simp (implicitDefEqProofs := false); try simp (disch := omega) only [w64, wu64]) | (refine need.of (by first | omega | kernel_rfl) ?_) | (refine AW.fin ?_; try simp (implicitDefEqProofs := false)))
    refine CallS.pu (trimmed_ok ws hs' (by omega)) ?_
    (try (simp (implicitDefEqProofs := false); try simp (disch := omega) only [w64, wu64]))
    repeat (first | refine AW.seq ?_ | refine AW.block ?_ | (refine AW.reg mix ?_; simp (implicitDefEqProofs := false); try simp (disch := omega) only [w64, wu64]) | (refine need.of (by first | omega | kernel_rfl) ?_) | (refine AW.fin ?_; try simp (implicitDefEqProofs := false)))
    refine Sub1.of ?_
    rw [hv]
  · have hi' : i < A.length := by omega
    have hp : (i : Int) < A.length := by omega
    have hc := borrowW_le A B i
    have hset := rowV_set (f := fun k => .int .u64 (subW A B k : Nat)) (n := A.length) (i := i) (by omega)
    have ew : IntKind.i64.wrap ((i : Int) + 1) = (i : Int) + 1 := w64 (by omega) (by omega)
    have e := subW_eq hsA hsB i
    repeat (first | refine AW.seq ?_ | refine AW.block ?_ | (refine AW.reg mix ?_; simp (implicitDefEqProofs := false) [hi', hp]; try simp (disch := omega) only [w64, wu64]) | (refine need.of (by first | omega | kernel_rfl) ?_) | (refine AW.fin ?_; try simp (implicitDefEqProofs := false) [hi', hp]))
    refine AW.cond rfl (fun h => ?_) (fun h => ?_)
    · clear h
      by_cases hb : i < B.length
      · rw [← W_get hi', ← W_get hb] at e
        repeat (first | refine AW.seq ?_ | refine AW.block ?_ | (refine AW.reg mix ?_; simp (implicitDefEqProofs := false) [hi', hp, hb]; try simp (disch := omega) only [w64, wu64]) | (refine need.of (by first | omega | kernel_rfl) ?_) | (refine AW.fin ?_; try simp (implicitDefEqProofs := false) [hi', hp, hb]))
        refine AW.cond rfl (fun h => ?_) (fun h => ?_)
        · clear h
          repeat (first | refine AW.seq ?_ | refine AW.block ?_ | (refine AW.reg mix ?_; simp (implicitDefEqProofs := false) [hi', hp, hb]; try simp (disch := omega) only [w64, wu64]) | (refine need.of (by first | omega | kernel_rfl) ?_) | (refine AW.fin ?_; try simp (implicitDefEqProofs := false) [hi', hp, hb]))
          refine CallS.pu (sub64_ok _ _ _ (subW A B i) (borrowW A B (i + 1)) (hsA _ (List.getElem_mem _)) (hsB _ (List.getElem_mem _)) hc (subW_lt _ _ _) e) ?_
          (try (simp (implicitDefEqProofs := false) [hset, ew]; try simp (disch := omega) only [w64, wu64]))
          repeat (first | refine AW.seq ?_ | refine AW.block ?_ | (refine AW.reg mix ?_; simp (implicitDefEqProofs := false) [hset, ew]; try simp (disch := omega) only [w64, wu64]) | (refine need.of (by first | omega | kernel_rfl) ?_) | (refine AW.fin ?_; try simp (implicitDefEqProofs := false) [hset, ew]))
          exact ⟨i + 1, by omega, by omega, by simp [wk, ew], by simp [wkH]⟩
        · simp [hb] at h
      · rw [← W_get hi', W_out hb] at e
        repeat (first | refine AW.seq ?_ | refine AW.block ?_ | (refine AW.reg mix ?_; simp (implicitDefEqProofs := false) [hi', hp, hb]; try simp (disch := omega) only [w64, wu64]) | (refine need.of (by first | omega | kernel_rfl) ?_) | (refine AW.fin ?_; try simp (implicitDefEqProofs := false) [hi', hp, hb]))
        refine AW.cond rfl (fun h => ?_) (fun h => ?_)
        · simp [hb] at h
        · clear h
          repeat (first | refine AW.seq ?_ | refine AW.block ?_ | (refine AW.reg mix ?_; simp (implicitDefEqProofs := false) [hi', hp, hb]; try simp (disch := omega) only [w64, wu64]) | (refine need.of (by first | omega | kernel_rfl) ?_) | (refine AW.fin ?_; try simp (implicitDefEqProofs := false) [hi', hp, hb]))
          refine CallS.pu (sub64_ok _ 0 _ (subW A B i) (borrowW A B (i + 1)) (hsA _ (List.getElem_mem _)) (by omega) hc (subW_lt _ _ _) e) ?_
          (try (simp (implicitDefEqProofs := false) [hset, ew]; try simp (disch := omega) only [w64, wu64]))
          repeat (first | refine AW.seq ?_ | refine AW.block ?_ | (refine AW.reg mix ?_; simp (implicitDefEqProofs := false) [hset, ew]; try simp (disch := omega) only [w64, wu64]) | (refine need.of (by first | omega | kernel_rfl) ?_) | (refine AW.fin ?_; try simp (implicitDefEqProofs := false) [hset, ew]))
          exact ⟨i + 1, by omega, by omega, by simp [wk, ew], by simp [wkH]⟩
    · simp at h
end
end Go.Proofs.YtdbfenhaljmbfaaGreat.Am
namespace Go.Proofs.YtdbfenhaljmbfaaGreat.Am
section
set_option linter.unusedVariables false
set_option linter.unusedSimpArgs false
open Go.RowKit
set_option maxRecDepth 100000
set_option linter.unusedSimpArgs false
set_option linter.unusedVariables false

/-- words moved so far -/
def rowM (k : Nat) (A : List Nat) (i : Nat) : List Nat := movedL k 0 (A.take i) ++ List.replicate (A.length - i) 0
theorem rowM_length (k : Nat) (A : List Nat) (i : Nat) (h : i ≤ A.length) : (rowM k A i).length = A.length + 1 := by
  rw [rowM, List.length_append, movedL_len, List.length_take, List.length_replicate]; omega
theorem rowM_zero (k : Nat) (A : List Nat) : rowM k A 0 = List.replicate (A.length + 1) 0 := by simp [rowM, movedL, List.replicate_succ]
theorem rowM_end (k : Nat) (A : List Nat) : rowM k A A.length = movedL k 0 A := by simp [rowM]
theorem rowM_get (k : Nat) (A : List Nat) (i : Nat) (h : i < A.length) : (rowM k A i).getD i 0 = movedC k 0 (A.take i) := by
  have e : i = (movedB k 0 (A.take i)).length := by rw [movedB_len, List.length_take]; omega
  rw [rowM, movedL_eq, List.append_assoc, List.getD, List.getElem?_append_right (by omega), show i - (movedB k 0 (A.take i)).length = 0 by omega]
  rfl
theorem rowM_set (k : Nat) (A : List Nat) (i : Nat) (h : i < A.length) : ((rowM k A i).set i (A.getD i 0 * 2 ^ k % 18446744073709551616 + movedC k 0 (A.take i))).set (i + 1) (A.getD i 0 * 2 ^ k / 18446744073709551616) = rowM k A (i + 1) := by
  have e : (movedB k 0 (A.take i)).length = i := by rw [movedB_len, List.length_take]; omega
  obtain ⟨r, hr⟩ : ∃ r, A.length = i + r + 1 := ⟨A.length - i - 1, by omega⟩
  rw [rowM, rowM, movedL_eq, movedL_eq, take_succ_getD _ _ h, movedB_snoc, movedC_snoc, hr, show i + r + 1 - i = r + 1 by omega, show i + r + 1 - (i + 1) = r by omega, List.replicate_succ]
  simp only [List.append_assoc, List.cons_append, List.nil_append]
  rw [List.set_append_right _ _ (by omega), List.set_append_right _ _ (by omega), e]
  simp

def cellM (k : Nat) (A : List Nat) (i : Nat) : List V := U (rowM k A i)
@[simp] theorem lowl_U (n : Nat) (l : List Nat) : V.lowl n (U l) = true := by induction l <;> simp_all [U, V.lowl, V.low]

set_option maxHeartbeats 1000000 in
theorem moved_ok (A : List Nat) (k : Nat) (hk : k < 64) (hs : small A) (hn : A.length ≤ 1000000) : Eqn Tryz.prog n_nat_moved [.d (W A), .d (.int .i64 k)] [] (.d (W (movedL k 0 A))) [] := by
  refine Eqn.pure r_nat_moved (plain_d _) ?_
  simp only [c_nat_moved, W]
  repeat (first | refine AW.seq ?_ | refine AW.block ?_ | (refine AW.reg mix ?_; simp (implicitDefEqProofs := false); try simp (disch := omega) only [w64, wu64]) | (refine need.of (by first | omega | kernel_rfl) ?_) | (refine AW.fin ?_; try simp (implicitDefEqProofs := false)))
  rw [show List.replicate (A.length + 1) (V.d (.int .u64 0)) = cellM k A 0 by rw [cellM, rowM_zero]; simp [U]]
  have hlow : ∀ i, V.lowl 1 (cellM k A i) = true := fun i => lowl_U 1 _
  refine AW.loopT (α := Nat) 1 (fun i => [(14, .d (.int .i64 (i : Int)))]) (fun i => [(0, ⟨80, cellM k A i⟩)]) (fun i => i ≤ A.length) (fun i => A.length - i) 0 ?_ ?_ (Nat.zero_le _) ?_ ?_ ?_
  · simp
  · simp
  · simp
  · simp [hlow]
  rintro i hi
  simp
  by_cases h : i = A.length
  · subst h
    repeat (first | refine AW.seq ?_ | refine AW.block ?_ | (refine AW.reg mix ?_; simp (implicitDefEqProofs := false); try simp (disch := omega) only [w64, wu64]) | (refine need.of (by first | omega | kernel_rfl) ?_) | (refine AW.fin ?_; try simp (implicitDefEqProofs := false)))
    refine AW.cond rfl (fun h => ?_) (fun h => ?_)
    · simp at h
    refine AW.exit ?_
    (try (simp (implicitDefEqProofs := false); try simp (disch := omega) only [w64, wu64]))
    have hl : (movedL k 0 A).length = A.length + 1 := movedL_len _ _ _
    rw [cellM, rowM_end]
    generalize movedL k 0 A = ws at hl
    refine AW.freeze 0 1 ⟨80, _⟩ (ws.map fun x : Nat => .int .u64 x) (by rfl) (by simp) ?_
    simp [← hl, List.take_of_length_le]
    repeat (first | refine AW.seq ?_ | refine AW.block ?_ | (refine AW.reg mix ?_; simp (implicitDefEqProofs := false); try simp (disch := omega) only [w64, wu64]) | (refine need.of (by first | omega | kernel_rfl) ?_) | (refine AW.fin ?_; try simp (implicitDefEqProofs := false)))
  · have hi' : i < A.length := by omega
    have hp : (i : Int) < A.length := by omega
    obtain ⟨c, y, u, hl, hq, hor, hw, hd, hset⟩ : ∃ c z u : Nat, (cellM k A i).length = A.length + 1 ∧ (cellM k A i)[i]? = some (.d (.int .u64 c)) ∧ bits BinOp.or IntKind.u64 (c : Int) (IntKind.u64.wrap ((A[i] : Int) * 2 ^ k)) = (z : Int) ∧
        True ∧ (A[i] : Int) / 2 ^ (64 - k) = (u : Int) ∧ ((cellM k A i).set i (.d (.int .u64 z))).set (i + 1) (.d (.int .u64 u)) = cellM k A (i + 1) := by
      have hl := rowM_length k A i hi
      have hc := movedC_lt (k := k) (l := A.take i) (c := 0) (hs.take i) (Nat.two_pow_pos k)
      have hset := rowM_set k A i hi'
      rw [← W_get hi'] at hset
      refine ⟨movedC k 0 (A.take i), A[i] * 2 ^ k % 18446744073709551616 + movedC k 0 (A.take i), A[i] * 2 ^ k / 18446744073709551616, by simp [cellM, U, hl], ?_, ?_, trivial, ?_, ?_⟩
      · have := rowM_get k A i hi'
        rw [List.getD, List.getElem?_eq_getElem (by omega)] at this
        rw [cellM, U, List.getElem?_map, List.getElem?_eq_getElem (by omega)]
        simp at this
        simp [this]
      · rw [show IntKind.u64.wrap ((A[i] : Int) * 2 ^ k) = ((A[i] * 2 ^ k % 18446744073709551616 : Nat) : Int) by rw [IntKind.wrap_u64, Int.natCast_emod, Int.natCast_mul, Int.natCast_pow]; rfl]
        rw [bits_or_u64_nat _ _ (Nat.lt_of_lt_of_le hc (by rw [show (18446744073709551616 : Nat) = 2 ^ 64 by rfl]; exact Nat.pow_le_pow_right (by decide) (by omega))) (Nat.mod_lt _ (by decide)), or_moved hk hc]
      · rw [moved_div (by omega), Int.natCast_ediv, Int.natCast_pow]; rfl
      · rw [cellM, cellM, ← hset, U, U, List.map_set, List.map_set]
    have hn : ((64 : Int) - k).toNat = 64 - k := by omega
    have e1 : IntKind.i64.wrap ((i : Int) + 1) = (i : Int) + 1 := w64 (by omega) (by omega)
    have e2 : IntKind.i64.wrap ((64 : Int) - k) = (64 : Int) - k := w64 (by omega) (by omega)
    generalize cellM k A i = cm at hl hq hset
    repeat (first | refine AW.seq ?_ | refine AW.block ?_ | (refine AW.reg mix ?_; simp (implicitDefEqProofs := false) [hi', hp]; try simp (disch := omega) only [w64, wu64]) | (refine need.of (by first | omega | kernel_rfl) ?_) | (refine AW.fin ?_; try simp (implicitDefEqProofs := false) [hi', hp]))
    refine AW.cond rfl (fun h => ?_) (fun h => ?_)
    · clear h
      repeat (first | refine AW.seq ?_ | refine AW.block ?_ | (refine AW.reg mix ?_; simp (implicitDefEqProofs := false) [hi', hp, hl, hq, hor, e1, e2, hn, hd, hset]; try simp (disch := omega) only [w64, wu64]) | (refine need.of (by first | omega | kernel_rfl) ?_) | (refine AW.fin ?_; try simp (implicitDefEqProofs := false) [hi', hp, hl, hq, hor, e1, e2, hn, hd, hset]))
      exact ⟨i + 1, by omega, by omega, by simp [wk], by simp [wkH, hlow]⟩
    · simp at h
end
end Go.Proofs.YtdbfenhaljmbfaaGreat.Am
namespace Go.Proofs.YtdbfenhaljmbfaaGreat.Am
section
set_option linter.unusedVariables false
set_option linter.unusedSimpArgs false
open Go.RowKit
set_option maxRecDepth 100000
set_option linter.unusedSimpArgs false
set_option linter.unusedVariables false

set_option maxHeartbeats 1000000 in
theorem shl_ok (a n : Nat) (ha : size a ≤ 1000000) (hn : n ≤ 8192) : Eqn Tryz.prog n_nat_Shl [.d (.agg [natW a]), .d (.int .i64 n)] [] (.tup [.d (.agg [natW (a * 2 ^ n)]), .d (.int .i64 0)]) [] := by
  refine Eqn.pure r_nat_Shl (plain_tup2 _ _) ?_
  simp only [c_nat_Shl, natW, W]
  have h1 : ¬ (n : Int) < 0 := by omega
  have h2 : ¬ (8192 : Int) < n := by omega
  repeat (first | refine AW.seq ?_ | refine AW.block ?_ | (refine AW.reg mix ?_; simp (implicitDefEqProofs := false) [h1, h2]; try simp (disch := omega) only [w64, wu64]) | (refine need.of (by first | omega | kernel_rfl) ?_) | (refine AW.fin ?_; try simp (implicitDefEqProofs := false) [h1, h2]))
  refine AW.cond rfl (fun h => ?_) (fun h => ?_)
  · simp [h1, h2] at h
  have hq : (n : Int) / 64 = (n / 64 : Nat) := rfl
  have hr : (n : Int).tmod 64 = (n % 64 : Nat) := by rw [Int.tmod_eq_emod_of_nonneg (by omega)]; rfl
  have hd : n / 64 ≤ 128 := by omega
  have hm : n % 64 < 64 := by omega
  have hv : ∀ l : List Nat, wval l = a → wval (List.replicate (n / 64) 0 ++ movedL (n % 64) 0 l) = a * 2 ^ n := by
    intro l hl
    rw [wval_append, wval_zeros, movedL_val, List.length_replicate, hl, Nat.zero_add, Nat.add_zero]
    rw [show (18446744073709551616 : Nat) = 2 ^ 64 by rfl, ← Nat.pow_mul, Nat.mul_left_comm, ← Nat.pow_add, Nat.div_add_mod]
  replace hv := hv (words a) (words_val a)
  have hsm : small (List.replicate (n / 64) 0 ++ movedL (n % 64) 0 (words a)) := by
    intro x hx
    rcases List.mem_append.1 hx with hx | hx
    · rw [List.eq_of_mem_replicate hx]; omega
    · exact movedL_small hm (words_small a) (Nat.two_pow_pos _) x hx
  have hl := movedL_len (n % 64) (words a) 0
  generalize n / 64 = q at *
  generalize n % 64 = r at *
  unfold size at ha
  repeat (first | refine AW.seq ?_ | refine AW.block ?_ | (refine AW.reg mix ?_; simp (implicitDefEqProofs := false) [hq, hr]; try simp (disch := omega) only [w64, wu64]) | (refine need.of (by first | omega | kernel_rfl) ?_) | (refine AW.fin ?_; try simp (implicitDefEqProofs := false) [hq, hr]))
  refine CallS.pu (moved_ok (words a) r hm (words_small a) (by omega)) ?_
  (try (simp (implicitDefEqProofs := false) [W, hl]; try simp (disch := omega) only [w64, wu64]))
  repeat (first | refine AW.seq ?_ | refine AW.block ?_ | (refine AW.reg mix ?_; simp (implicitDefEqProofs := false) [W, hl]; try simp (disch := omega) only [w64, wu64]) | (refine need.of (by first | omega | kernel_rfl) ?_) | (refine AW.fin ?_; try simp (implicitDefEqProofs := false) [W, hl]))
  have hlen : (List.replicate q 0 ++ movedL r 0 (words a)).length = q + ((words a).length + 1) := by simp [hl]
  have hcell : List.replicate q (V.d (.int .u64 0)) ++ List.map (V.d ∘ fun x : Nat => D.int .u64 x) (movedL r 0 (words a)) = ((List.replicate q 0 ++ movedL r 0 (words a)).map fun x : Nat => D.int .u64 x).map V.d := by simp
  rw [hcell]
  generalize List.replicate q 0 ++ movedL r 0 (words a) = ws at *
  have hlen2 : q + ((words a).length + 1) = ws.length := hlen.symm
  refine CallS.pf 3 1 ⟨80, _⟩ (ws.map fun x : Nat => .int .u64 x) (trimmed_ok ws hsm (by omega)) (by first | rfl | (simp [natW, W, hlen2, List.take_of_length_le]; done)) ?_
  (try (simp (implicitDefEqProofs := false) [natW, W, hlen2, List.take_of_length_le]; try simp (disch := omega) only [w64, wu64]))
  repeat (first | refine AW.seq ?_ | refine AW.block ?_ | (refine AW.reg mix ?_; simp (implicitDefEqProofs := false) [natW, W, hlen2, List.take_of_length_le]; try simp (disch := omega) only [w64, wu64]) | (refine need.of (by first | omega | kernel_rfl) ?_) | (refine AW.fin ?_; try simp (implicitDefEqProofs := false) [natW, W, hlen2, List.take_of_length_le]))
  refine Sub1.of ?_
  rw [hv]
end
end Go.Proofs.YtdbfenhaljmbfaaGreat.Am
namespace Go.Proofs.YtdbfenhaljmbfaaGreat.Am
section
set_option linter.unusedVariables false
set_option linter.unusedSimpArgs false
open Go.RowKit
set_option maxRecDepth 100000
set_option linter.unusedSimpArgs false
set_option linter.unusedVariables false

theorem words_one {x : Nat} (h0 : 0 < x) (h : x < 18446744073709551616) : words x = [x] := by
  have := words_of (ws := [x]) (by intro y hy; simp at hy; omega) (by intro k hk; simp at hk; subst hk; simp; omega)
  simpa [wval] using this
theorem small_one {x : Nat} (h : x < 18446744073709551616) : small [x] := by intro y hy; simp at hy; omega

theorem Sub1.tup {l r : List V} (h : Subs l r) : Sub1 (.tup l) (.tup r) := fun m v k => by
  unfold V.rep at k ⊢
  obtain ⟨vs, h1, h2⟩ := k
  exact ⟨vs, h1, h m vs h2⟩
theorem Subs.cons {x y : V} {l r : List V} (h : Sub1 x y) (h' : Subs l r) : Subs (x :: l) (y :: r) := fun m vs k => by
  obtain ⟨v, r, rfl, h1, h2⟩ := V.reps_cons'.1 k
  exact V.reps_cons.2 ⟨h m v h1, h' m r h2⟩
theorem Sub1.nat0 : Sub1 (.d (.agg [.nilsl])) (.d (.agg [natW 0])) := fun m v k => by
  rw [V.rep_d] at k ⊢
  unfold D.rep at k ⊢
  obtain ⟨vs, h1, h2, h3⟩ := k
  refine ⟨vs, h1, h2, ?_⟩
  obtain ⟨u, r, rfl, h4, h5⟩ := D.reps_cons'.1 h3
  have := (V.rep_d (m := m)).1 (Sub1.nil m u (V.rep_d.2 h4))
  exact D.reps_cons.2 ⟨this, h5⟩

theorem cmpZ_lt {m n : Nat} : cmpZ m n < 0 ↔ m < n := by unfold cmpZ; split <;> (try split) <;> omega
end
end Go.Proofs.YtdbfenhaljmbfaaGreat.Am
namespace Go.Proofs.YtdbfenhaljmbfaaGreat.Am
section
set_option linter.unusedVariables false
set_option linter.unusedSimpArgs false
open Go.RowKit
set_option maxRecDepth 100000
set_option linter.unusedSimpArgs false
set_option linter.unusedVariables false

theorem size_one {x : Nat} (h : x < 18446744073709551616) : size x ≤ 1 := by
  rw [size]
  rcases Nat.eq_zero_or_pos x with rfl | h0
  · simp [words, wordsF]
  · rw [words_one h0 h]; simp
end
end Go.Proofs.YtdbfenhaljmbfaaGreat.Am
namespace Go.Proofs.YtdbfenhaljmbfaaGreat.Am
section
set_option linter.unusedVariables false
set_option linter.unusedSimpArgs false
open Go.RowKit
set_option maxRecDepth 100000
set_option linter.unusedSimpArgs false
set_option linter.unusedVariables false

def lit1 : ByteArray := ⟨#[48, 49, 50, 51, 52, 53, 54, 55, 56, 57, 97, 98, 99, 100, 101, 102, 103, 104, 105, 106, 107, 108, 109, 110, 111, 112, 113, 114, 115, 116, 117, 118, 119, 120, 121, 122]⟩
def lit2 : ByteArray := ⟨#[48, 48, 48, 49, 48, 50, 48, 51, 48, 52, 48, 53, 48, 54, 48, 55, 48, 56, 48, 57, 49, 48, 49, 49, 49, 50, 49, 51, 49, 52, 49, 53, 49, 54, 49, 55, 49, 56, 49, 57, 50, 48, 50, 49, 50, 50, 50, 51, 50, 52, 50, 53, 50, 54, 50, 55, 50, 56, 50, 57, 51, 48, 51, 49, 51, 50, 51, 51, 51, 52, 51, 53, 51, 54, 51, 55, 51, 56, 51, 57, 52, 48, 52, 49, 52, 50, 52, 51, 52, 52, 52, 53, 52, 54, 52, 55, 52, 56, 52, 57, 53, 48, 53, 49, 53, 50, 53, 51, 53, 52, 53, 53, 53, 54, 53, 55, 53, 56, 53, 57, 54, 48, 54, 49, 54, 50, 54, 51, 54, 52, 54, 53, 54, 54, 54, 55, 54, 56, 54, 57, 55, 48, 55, 49, 55, 50, 55, 51, 55, 52, 55, 53, 55, 54, 55, 55, 55, 56, 55, 57, 56, 48, 56, 49, 56, 50, 56, 51, 56, 52, 56, 53, 56, 54, 56, 55, 56, 56, 56, 57, 57, 48, 57, 49, 57, 50, 57, 51, 57, 52, 57, 53, 57, 54, 57, 55, 57, 56, 57, 57]⟩
/-- the text of a number below 100 -/
def smallS (n : Nat) : ByteArray := if n < 10 then lit1.extract n (n + 1) else lit2.extract (n * 2) (n * 2 + 2)

@[simp] theorem size_nil : ByteArray.size ⟨#[]⟩ = 0 := rfl
@[simp] theorem size_47 : ByteArray.size ⟨#[47]⟩ = 1 := rfl
theorem app_nil (s : ByteArray) : s ++ (⟨#[]⟩ : ByteArray) = s := by
  exact ByteArray.append_empty
end
end Go.Proofs.YtdbfenhaljmbfaaGreat.Am
namespace Go.Proofs.YtdbfenhaljmbfaaGreat.Am
section
set_option linter.unusedVariables false
set_option linter.unusedSimpArgs false
open Go.RowKit
set_option maxRecDepth 100000
set_option linter.unusedSimpArgs false
set_option linter.unusedVariables false

/-- coins, as data -/
def BL (cs : List Bool) : D := .sl cs.length (cs.map .bool)
/-- a tape: where it is, is it dead, its coins -/
abbrev tapeO (cs : List Bool) (p : Nat) (dead : Bool) : Ob := ⟨t_tape_Tape, [.d (.int .i64 p), .d (.bool dead), .d (BL cs)]⟩

/-- a coin: is there one, which, and what the tape is then -/
def flipB (cs : List Bool) (p : Nat) (dead : Bool) : Bool := if dead ∨ p = cs.length then false else cs.getD p false
def flipE (cs : List Bool) (p : Nat) (dead : Bool) : Int := if dead ∨ p = cs.length then 8 else 0
def flipP (cs : List Bool) (p : Nat) (dead : Bool) : Nat := if dead ∨ p = cs.length then p else p + 1
def flipD (cs : List Bool) (p : Nat) (dead : Bool) : Bool := if dead ∨ p = cs.length then true else dead

theorem cloneB_ok (n : Nat) (l : List D) (hl : l.length = n) (hn : n ≤ 4000000) : Eqn Tryz.prog n_slices_Clone_bool_bool [.d (.sl n l)] [] (.d (.sl n l)) [] := by
  refine Eqn.pure r_slices_Clone_bool_bool (plain_d _) ?_
  simp only [c_slices_Clone_bool_bool]
  rcases Nat.eq_zero_or_pos n with rfl | h0
  · have : l = [] := List.eq_nil_of_length_eq_zero hl
    subst this
    refine AW.empty 0 rfl ?_ ?_
    · simp
      repeat (first | refine AW.seq ?_ | refine AW.block ?_ | (refine AW.reg mix ?_; simp (implicitDefEqProofs := false); try simp (disch := omega) only [w64, wu64]) | (refine need.of (by first | omega | kernel_rfl) ?_) | (refine AW.fin ?_; try simp (implicitDefEqProofs := false)))
      refine AW.cond rfl (fun h => ?_) (fun h => ?_)
      · repeat (first | refine AW.seq ?_ | refine AW.block ?_ | (refine AW.reg mix ?_; simp (implicitDefEqProofs := false); try simp (disch := omega) only [w64, wu64]) | (refine need.of (by first | omega | kernel_rfl) ?_) | (refine AW.fin ?_; try simp (implicitDefEqProofs := false)))
        exact Sub1.nil
      · simp at h
    · simp
      repeat (first | refine AW.seq ?_ | refine AW.block ?_ | (refine AW.reg mix ?_; simp (implicitDefEqProofs := false); try simp (disch := omega) only [w64, wu64]) | (refine need.of (by first | omega | kernel_rfl) ?_) | (refine AW.fin ?_; try simp (implicitDefEqProofs := false)))
      refine AW.cond rfl (fun h => ?_) (fun h => ?_)
      · simp at h
      · repeat (first | refine AW.seq ?_ | refine AW.block ?_ | (refine AW.reg mix ?_; simp (implicitDefEqProofs := false); try simp (disch := omega) only [w64, wu64]) | (refine need.of (by first | omega | kernel_rfl) ?_) | (refine AW.fin ?_; try simp (implicitDefEqProofs := false)))
        exact Sub1.sl0
  · repeat (first | refine AW.seq ?_ | refine AW.block ?_ | (refine AW.reg mix ?_; simp (implicitDefEqProofs := false) [h0]; try simp (disch := omega) only [w64, wu64]) | (refine need.of (by first | omega | kernel_rfl) ?_) | (refine AW.fin ?_; try simp (implicitDefEqProofs := false) [h0]))
    refine AW.cond rfl (fun h => ?_) (fun h => ?_)
    · simp at h
    · repeat (first | refine AW.seq ?_ | refine AW.block ?_ | (refine AW.reg mix ?_; simp (implicitDefEqProofs := false); try simp (disch := omega) only [w64, wu64]) | (refine need.of (by first | omega | kernel_rfl) ?_) | (refine AW.fin ?_; try simp (implicitDefEqProofs := false)))
      have h1 : ¬ n = 0 := by omega
      simp [h1, hl]
      refine need.of (by omega) ?_
      refine AW.freeze 0 1 ⟨4, l.map .d⟩ l (by simp) rfl ?_
      simp
      repeat (first | refine AW.seq ?_ | refine AW.block ?_ | (refine AW.reg mix ?_; simp (implicitDefEqProofs := false); try simp (disch := omega) only [w64, wu64]) | (refine need.of (by first | omega | kernel_rfl) ?_) | (refine AW.fin ?_; try simp (implicitDefEqProofs := false)))
      have : l.take n = l := List.take_of_length_le (by omega)
      simp [this]

theorem flip_ok (cs : List Bool) (p : Nat) (dd : Bool) (hp : p ≤ cs.length) (hn : cs.length ≤ 4000000) : Eqn Tryz.prog n_tape_Tape_Flip [.p 0 0] [tapeO cs p dd] (.tup [.d (.bool (flipB cs p dd)), .d (.int .i64 (flipE cs p dd))]) [tapeO cs (flipP cs p dd) (flipD cs p dd)] := by
  refine Eqn.obj1 r_tape_Tape_Flip (plain_tup2 _ _) ⟨rfl, fun _ => rfl⟩ ?_
  simp only [c_tape_Tape_Flip, tapeO, BL]
  cases dd with
  | true =>
    repeat (first | refine AW.seq ?_ | refine AW.block ?_ | (refine AW.reg mix ?_; simp (implicitDefEqProofs := false); try simp (disch := omega) only [w64, wu64]) | (refine need.of (by first | omega | kernel_rfl) ?_) | (refine AW.fin ?_; try simp (implicitDefEqProofs := false)))
    refine AW.cond rfl (fun h => ?_) (fun h => ?_)
    · repeat (first | refine AW.seq ?_ | refine AW.block ?_ | (refine AW.reg mix ?_; simp (implicitDefEqProofs := false); try simp (disch := omega) only [w64, wu64]) | (refine need.of (by first | omega | kernel_rfl) ?_) | (refine AW.fin ?_; try simp (implicitDefEqProofs := false)))
      simp [flipB, flipE, flipP, flipD]
    · simp at h
  | false =>
    by_cases h : p = cs.length
    · subst h
      repeat (first | refine AW.seq ?_ | refine AW.block ?_ | (refine AW.reg mix ?_; simp (implicitDefEqProofs := false); try simp (disch := omega) only [w64, wu64]) | (refine need.of (by first | omega | kernel_rfl) ?_) | (refine AW.fin ?_; try simp (implicitDefEqProofs := false)))
      refine AW.cond rfl (fun h => ?_) (fun h => ?_)
      · repeat (first | refine AW.seq ?_ | refine AW.block ?_ | (refine AW.reg mix ?_; simp (implicitDefEqProofs := false); try simp (disch := omega) only [w64, wu64]) | (refine need.of (by first | omega | kernel_rfl) ?_) | (refine AW.fin ?_; try simp (implicitDefEqProofs := false)))
        simp [flipB, flipE, flipP, flipD]
      · simp at h
    · have h1 : ¬ (p : Int) = cs.length := by omega
      have h2 : p < cs.length := by omega
      repeat (first | refine AW.seq ?_ | refine AW.block ?_ | (refine AW.reg mix ?_; simp (implicitDefEqProofs := false) [h1, h]; try simp (disch := omega) only [w64, wu64]) | (refine need.of (by first | omega | kernel_rfl) ?_) | (refine AW.fin ?_; try simp (implicitDefEqProofs := false) [h1, h]))
      refine AW.cond rfl (fun h => ?_) (fun h => ?_)
      · simp [h1] at h
      · have e1 : IntKind.i64.wrap ((p : Int) + 1) = (p : Int) + 1 := w64 (by omega) (by omega)
        have e2 : IntKind.i64.wrap ((p : Int) + 1 - 1) = (p : Int) := by rw [Int.add_sub_cancel]; exact w64 (by omega) (by omega)
        repeat (first | refine AW.seq ?_ | refine AW.block ?_ | (refine AW.reg mix ?_; simp (implicitDefEqProofs := false) [h1, h2, e1, e2]; try simp (disch := omega) only [w64, wu64]) | (refine need.of (by first | omega | kernel_rfl) ?_) | (refine AW.fin ?_; try simp (implicitDefEqProofs := false) [h1, h2, e1, e2]))
        have h4 : ¬ p = cs.length := by omega
        have h3 : cs[p]?.getD false = cs[p] := by simp [h2]
        simp [flipB, flipE, flipP, flipD, h4, h3]

/-- so many coins that are true -/
def halfR (cs : List Bool) : Nat → Nat → Bool → Bool × Int × Nat × Bool
  | 0, p, dd => (true, 0, p, dd)
  | k + 1, p, dd => if flipB cs p dd then halfR cs k (flipP cs p dd) (flipD cs p dd) else (false, flipE cs p dd, flipP cs p dd, flipD cs p dd)

theorem flipP_le {cs : List Bool} {p : Nat} {dd : Bool} (h : p ≤ cs.length) : flipP cs p dd ≤ cs.length := by
  unfold flipP; split
  · exact h
  · rename_i h'; rw [not_or] at h'; omega

theorem half_ok (cs : List Bool) (p : Nat) (dd : Bool) (k : Int) (hk : k ≤ 4000000) (hp : p ≤ cs.length) (hn : cs.length ≤ 4000000) :
    Eqn Tryz.prog n_flip_Half [.p 0 0, .d (.int .i64 k)] [tapeO cs p dd] (.tup [.d (.bool (halfR cs k.toNat p dd).1), .d (.int .i64 (halfR cs k.toNat p dd).2.1)]) [tapeO cs (halfR cs k.toNat p dd).2.2.1 (halfR cs k.toNat p dd).2.2.2] := by
  refine Eqn.obj1 r_flip_Half (plain_tup2 _ _) ⟨rfl, fun _ => rfl⟩ ?_
  simp only [c_flip_Half]
  obtain ⟨K, hK, hK2⟩ : ∃ K : Nat, K = k.toNat ∧ max 0 k = (K : Int) := ⟨k.toNat, rfl, by omega⟩
  rw [← hK]
  repeat (first | refine AW.seq ?_ | refine AW.block ?_ | (refine AW.reg mix ?_; simp (implicitDefEqProofs := false) [hK2]; try simp (disch := omega) only [w64, wu64]) | (refine need.of (by first | omega | kernel_rfl) ?_) | (refine AW.fin ?_; try simp (implicitDefEqProofs := false) [hK2]))
  refine AW.loopT (α := Nat × Nat × Bool) 1 (fun s => [(10, .d (.int .i64 (s.1 : Int)))]) (fun s => [(0, tapeO cs s.2.1 s.2.2)]) (fun s => s.1 ≤ K ∧ s.2.1 ≤ cs.length ∧ halfR cs (K - s.1) s.2.1 s.2.2 = halfR cs K p dd) (fun s => K - s.1) (0, p, dd) ?_ ?_ ⟨Nat.zero_le _, hp, rfl⟩ ?_ ?_ ?_
  · simp
  · simp
  · simp
  · simp
  rintro ⟨i, q, d⟩ ⟨hi, hq, hR⟩
  simp only at hi hq hR
  rw [← hR]
  simp [-Bool.exists_bool]
  by_cases h : i = K
  · subst h
    repeat (first | refine AW.seq ?_ | refine AW.block ?_ | (refine AW.reg mix ?_; simp (implicitDefEqProofs := false); try simp (disch := omega) only [w64, wu64]) | (refine need.of (by first | omega | kernel_rfl) ?_) | (refine AW.fin ?_; try simp (implicitDefEqProofs := false)))
    refine AW.cond rfl (fun h => ?_) (fun h => ?_)
    · simp at h
    repeat (first | refine AW.seq ?_ | refine AW.block ?_ | (refine AW.reg mix ?_; simp (implicitDefEqProofs := false); try simp (disch := omega) only [w64, wu64]) | (refine need.of (by first | omega | kernel_rfl) ?_) | (refine AW.fin ?_; try simp (implicitDefEqProofs := false)))
    simp [halfR]
  · have hlt : (i : Int) < K := by omega
    have hlt' : i < K := by omega
    obtain ⟨r, hr⟩ : ∃ r, K - i = r + 1 := ⟨K - i - 1, by omega⟩
    repeat (first | refine AW.seq ?_ | refine AW.block ?_ | (refine AW.reg mix ?_; simp (implicitDefEqProofs := false) [hlt, hlt', -Bool.exists_bool]; try simp (disch := omega) only [w64, wu64]) | (refine need.of (by first | omega | kernel_rfl) ?_) | (refine AW.fin ?_; try simp (implicitDefEqProofs := false) [hlt, hlt', -Bool.exists_bool]))
    refine AW.cond rfl (fun h => ?_) (fun h => ?_)
    · repeat (first | refine AW.seq ?_ | refine AW.block ?_ | (refine AW.reg mix ?_; simp (implicitDefEqProofs := false) [-Bool.exists_bool]; try simp (disch := omega) only [w64, wu64]) | (refine need.of (by first | omega | kernel_rfl) ?_) | (refine AW.fin ?_; try simp (implicitDefEqProofs := false) [-Bool.exists_bool]))
      refine CallS.o1 0 (flip_ok cs q d hq hn) ?_
      (try (simp (implicitDefEqProofs := false) [-Bool.exists_bool]; try simp (disch := omega) only [w64, wu64]))
      repeat (first | refine AW.seq ?_ | refine AW.block ?_ | (refine AW.reg mix ?_; simp (implicitDefEqProofs := false) [-Bool.exists_bool]; try simp (disch := omega) only [w64, wu64]) | (refine need.of (by first | omega | kernel_rfl) ?_) | (refine AW.fin ?_; try simp (implicitDefEqProofs := false) [-Bool.exists_bool]))
      refine AW.cond rfl (fun h => ?_) (fun h => ?_)
      · have hb : flipB cs q d = false := by simpa using h
        repeat (first | refine AW.seq ?_ | refine AW.block ?_ | (refine AW.reg mix ?_; simp (implicitDefEqProofs := false); try simp (disch := omega) only [w64, wu64]) | (refine need.of (by first | omega | kernel_rfl) ?_) | (refine AW.fin ?_; try simp (implicitDefEqProofs := false)))
        simp [hr, halfR, hb]
      · have hb : flipB cs q d = true := by simpa using h
        have ew : IntKind.i64.wrap ((i : Int) + 1) = (i : Int) + 1 := w64 (by omega) (by omega)
        repeat (first | refine AW.seq ?_ | refine AW.block ?_ | (refine AW.reg mix ?_; simp (implicitDefEqProofs := false) [ew, -Bool.exists_bool]; try simp (disch := omega) only [w64, wu64]) | (refine need.of (by first | omega | kernel_rfl) ?_) | (refine AW.fin ?_; try simp (implicitDefEqProofs := false) [ew, -Bool.exists_bool]))
        refine ⟨i + 1, flipP cs q d, flipD cs q d, ⟨hlt', flipP_le hq, ?_⟩, by omega, by simp, by simp⟩
        rw [hr, halfR, if_pos hb, show K - (i + 1) = r by omega]
    · simp [hlt'] at h
end
end Go.Proofs.YtdbfenhaljmbfaaGreat.Am
namespace Go.Proofs.YtdbfenhaljmbfaaGreat.Am
section
set_option linter.unusedVariables false
set_option linter.unusedSimpArgs false
open Go.RowKit
set_option maxRecDepth 100000
set_option linter.unusedSimpArgs false
set_option linter.unusedVariables false

theorem good_ok (d : Int) : Eqn Tryz.prog n_float_Good [.d (.int .i64 d)] [] (.d (.bool (decide (0 ≤ d ∧ d ≤ 8)))) [] := by
  refine Eqn.pure r_float_Good (plain_d _) ?_
  simp only [c_float_Good]
  by_cases h : 0 ≤ d
  · repeat (first | refine AW.seq ?_ | refine AW.block ?_ | (refine AW.reg mix ?_; simp (implicitDefEqProofs := false) [h]; try simp (disch := omega) only [w64, wu64]) | (refine need.of (by first | omega | kernel_rfl) ?_) | (refine AW.fin ?_; try simp (implicitDefEqProofs := false) [h]))
  · repeat (first | refine AW.seq ?_ | refine AW.block ?_ | (refine AW.reg mix ?_; simp (implicitDefEqProofs := false) [h]; try simp (disch := omega) only [w64, wu64]) | (refine need.of (by first | omega | kernel_rfl) ?_) | (refine AW.fin ?_; try simp (implicitDefEqProofs := false) [h]))

def okK (k : Int) : Bool := decide (0 ≤ k ∧ k ≤ 1023)
/-- what is wrong -/
def wrongZ (d : Int) (ks : List Int) : Int := if 0 ≤ d ∧ d ≤ 8 then (if ks.all okK then 0 else 2) else 10

theorem wrong_ok (d : Int) (ks : List Int) (hn : ks.length ≤ 1000000) : Eqn Tryz.prog n_float_wrong [.d (.int .i64 d), .d (.sl ks.length (ks.map fun k : Int => .int .i64 k))] [] (.d (.int .i64 (wrongZ d ks))) [] := by
  refine Eqn.pure r_float_wrong (plain_d _) ?_
  simp only [c_float_wrong]
  repeat (first | refine AW.seq ?_ | refine AW.block ?_ | (refine AW.reg mix ?_; simp (implicitDefEqProofs := false); try simp (disch := omega) only [w64, wu64]) | (refine need.of (by first | omega | kernel_rfl) ?_) | (refine AW.fin ?_; try simp (implicitDefEqProofs := false)))
  refine CallS.pu (good_ok d) ?_
  (try (simp (implicitDefEqProofs := false); try simp (disch := omega) only [w64, wu64]))
  repeat (first | refine AW.seq ?_ | refine AW.block ?_ | (refine AW.reg mix ?_; simp (implicitDefEqProofs := false); try simp (disch := omega) only [w64, wu64]) | (refine need.of (by first | omega | kernel_rfl) ?_) | (refine AW.fin ?_; try simp (implicitDefEqProofs := false)))
  by_cases hd : 0 ≤ d ∧ d ≤ 8
  · refine AW.cond rfl (fun h => ?_) (fun h => ?_)
    · simp [hd] at h
    repeat (first | refine AW.seq ?_ | refine AW.block ?_ | (refine AW.reg mix ?_; simp (implicitDefEqProofs := false); try simp (disch := omega) only [w64, wu64]) | (refine need.of (by first | omega | kernel_rfl) ?_) | (refine AW.fin ?_; try simp (implicitDefEqProofs := false)))
    refine AW.loopT (α := Nat) 0 (fun i => [(12, .d (.int .i64 (i : Int)))]) (fun i => []) (fun i => i ≤ ks.length ∧ (ks.take i).all okK = true) (fun i => ks.length - i) 0 ?_ ?_ ⟨Nat.zero_le _, by simp⟩ ?_ ?_ ?_
    · simp
    · simp
    · simp
    · simp
    rintro i ⟨hi, hall⟩
    simp
    by_cases h : i = ks.length
    · subst h
      rw [List.take_length] at hall
      repeat (first | refine AW.seq ?_ | refine AW.block ?_ | (refine AW.reg mix ?_; simp (implicitDefEqProofs := false); try simp (disch := omega) only [w64, wu64]) | (refine need.of (by first | omega | kernel_rfl) ?_) | (refine AW.fin ?_; try simp (implicitDefEqProofs := false)))
      refine AW.cond rfl (fun h => ?_) (fun h => ?_)
      · simp at h
      repeat (first | refine AW.seq ?_ | refine AW.block ?_ | (refine AW.reg mix ?_; simp (implicitDefEqProofs := false); try simp (disch := omega) only [w64, wu64]) | (refine need.of (by first | omega | kernel_rfl) ?_) | (refine AW.fin ?_; try simp (implicitDefEqProofs := false)))
      refine Sub1.int ?_
      rw [wrongZ, if_pos hd, if_pos hall]
    · have hi' : i < ks.length := by omega
      have hp : (i : Int) < ks.length := by omega
      repeat (first | refine AW.seq ?_ | refine AW.block ?_ | (refine AW.reg mix ?_; simp (implicitDefEqProofs := false) [hi', hp]; try simp (disch := omega) only [w64, wu64]) | (refine need.of (by first | omega | kernel_rfl) ?_) | (refine AW.fin ?_; try simp (implicitDefEqProofs := false) [hi', hp]))
      refine AW.cond rfl (fun h => ?_) (fun h => ?_)
      · have hbad : okK ks[i] = false → wrongZ d ks = 2 := by
          intro hb
          rw [wrongZ, if_pos hd, if_neg]
          intro ha
          rw [List.all_eq_true] at ha
          have := ha ks[i] (List.getElem_mem _)
          rw [hb] at this; cases this
        by_cases h0 : ks[i] < 0
        · repeat (first | refine AW.seq ?_ | refine AW.block ?_ | (refine AW.reg mix ?_; simp (implicitDefEqProofs := false) [hi', hp, h0]; try simp (disch := omega) only [w64, wu64]) | (refine need.of (by first | omega | kernel_rfl) ?_) | (refine AW.fin ?_; try simp (implicitDefEqProofs := false) [hi', hp, h0]))
          refine AW.cond rfl (fun h => ?_) (fun h => ?_)
          · repeat (first | refine AW.seq ?_ | refine AW.block ?_ | (refine AW.reg mix ?_; simp (implicitDefEqProofs := false); try simp (disch := omega) only [w64, wu64]) | (refine need.of (by first | omega | kernel_rfl) ?_) | (refine AW.fin ?_; try simp (implicitDefEqProofs := false)))
            refine Sub1.int ?_
            rw [hbad (by simp [okK]; omega)]
          · simp [h0] at h
        · by_cases h1 : 1023 < ks[i]
          · repeat (first | refine AW.seq ?_ | refine AW.block ?_ | (refine AW.reg mix ?_; simp (implicitDefEqProofs := false) [hi', hp, h0, h1]; try simp (disch := omega) only [w64, wu64]) | (refine need.of (by first | omega | kernel_rfl) ?_) | (refine AW.fin ?_; try simp (implicitDefEqProofs := false) [hi', hp, h0, h1]))
            refine AW.cond rfl (fun h => ?_) (fun h => ?_)
            · repeat (first | refine AW.seq ?_ | refine AW.block ?_ | (refine AW.reg mix ?_; simp (implicitDefEqProofs := false); try simp (disch := omega) only [w64, wu64]) | (refine need.of (by first | omega | kernel_rfl) ?_) | (refine AW.fin ?_; try simp (implicitDefEqProofs := false)))
              refine Sub1.int ?_
              rw [hbad (by simp [okK]; omega)]
            · simp [h0, h1] at h
          · repeat (first | refine AW.seq ?_ | refine AW.block ?_ | (refine AW.reg mix ?_; simp (implicitDefEqProofs := false) [hi', hp, h0, h1]; try simp (disch := omega) only [w64, wu64]) | (refine need.of (by first | omega | kernel_rfl) ?_) | (refine AW.fin ?_; try simp (implicitDefEqProofs := false) [hi', hp, h0, h1]))
            refine AW.cond rfl (fun h => ?_) (fun h => ?_)
            · simp [h0, h1] at h
            have ew : IntKind.i64.wrap ((i : Int) + 1) = (i : Int) + 1 := w64 (by omega) (by omega)
            repeat (first | refine AW.seq ?_ | refine AW.block ?_ | (refine AW.reg mix ?_; simp (implicitDefEqProofs := false) [ew]; try simp (disch := omega) only [w64, wu64]) | (refine need.of (by first | omega | kernel_rfl) ?_) | (refine AW.fin ?_; try simp (implicitDefEqProofs := false) [ew]))
            refine ⟨i + 1, ⟨by omega, ?_⟩, by omega, by simp⟩
            rw [List.take_add_one, List.getElem?_eq_getElem hi']
            intro x hx
            rcases List.mem_append.1 hx with hx | hx
            · exact List.all_eq_true.1 hall x hx
            · simp at hx
              subst hx
              simp [okK]; omega
      · simp [hi'] at h
  · refine AW.cond rfl (fun h => ?_) (fun h => ?_)
    · repeat (first | refine AW.seq ?_ | refine AW.block ?_ | (refine AW.reg mix ?_; simp (implicitDefEqProofs := false); try simp (disch := omega) only [w64, wu64]) | (refine need.of (by first | omega | kernel_rfl) ?_) | (refine AW.fin ?_; try simp (implicitDefEqProofs := false)))
      refine Sub1.int ?_
      rw [wrongZ, if_neg hd]
    · simp at h
      exact absurd h hd

/-- the second part of a place -/
def partV (d k : Nat) : Int := bits .and .i64 k (IntKind.i64.wrap (IntKind.i64.wrap (2 ^ d) - 1))
theorem parts_ok (d k : Nat) (hd : d ≤ 8) (hk : k ≤ 1023) : Eqn Tryz.prog n_float_parts [.d (.int .i64 d), .d (.int .i64 k)] [] (.tup [.d (.int .i64 (k / 2 ^ d : Nat)), .d (.int .i64 (partV d k))]) [] := by
  refine Eqn.pure r_float_parts (plain_tup2 _ _) ?_
  simp only [c_float_parts]
  repeat (first | refine AW.seq ?_ | refine AW.block ?_ | (refine AW.reg mix ?_; simp (implicitDefEqProofs := false); try simp (disch := omega) only [w64, wu64]) | (refine need.of (by first | omega | kernel_rfl) ?_) | (refine AW.fin ?_; try simp (implicitDefEqProofs := false)))
  exact Sub1.of rfl

theorem wrong1_ok (d k : Int) : Eqn Tryz.prog n_float_wrong [.d (.int .i64 d), .d (.sl 1 [.int .i64 k])] [] (.d (.int .i64 (wrongZ d [k]))) [] := wrong_ok d [k] (by simp)
theorem wrong_zero {d k : Int} {ks : List Int} (h : wrongZ d (k :: ks) = 0) : 0 ≤ d ∧ d ≤ 8 ∧ 0 ≤ k ∧ k ≤ 1023 := by
  unfold wrongZ at h
  split at h
  · split at h
    · rename_i h1 h2
      simp [okK] at h2
      omega
    · omega
  · omega

/-- what a step at another place is here -/
def againR (cs : List Bool) (d k j : Int) : Bool × Int × Nat × Bool := if wrongZ d [k, j] = 0 then halfR cs (k.toNat / 2 ^ d.toNat - j.toNat / 2 ^ d.toNat) 0 false else (false, wrongZ d [k, j], 0, false)

/-- a step at a place -/
def stepR (cs : List Bool) (d k : Int) : Bool × Int × Nat × Bool := if wrongZ d [k] = 0 then halfR cs (k.toNat / 2 ^ d.toNat) 0 false else (false, wrongZ d [k], 0, false)
end
end Go.Proofs.YtdbfenhaljmbfaaGreat.Am
namespace Go.Proofs.YtdbfenhaljmbfaaGreat.Am
section
set_option linter.unusedVariables false
set_option linter.unusedSimpArgs false
open Go.RowKit
set_option maxRecDepth 100000
set_option linter.unusedSimpArgs false
set_option linter.unusedVariables false

theorem sub_less (m n : Nat) (hm : size m ≤ 1000000) (hn : size n ≤ 1000000) (h : m < n) : Eqn Tryz.prog n_nat_Sub [.d (.agg [natW m]), .d (.agg [natW n])] [] (.tup [.d (.agg [.nilsl]), .d (.int .i64 2)]) [] := by
  refine Eqn.pure r_nat_Sub (plain_tup2 _ _) ?_
  simp only [c_nat_Sub]
  repeat (first | refine AW.seq ?_ | refine AW.block ?_ | (refine AW.reg mix ?_; simp (implicitDefEqProofs := false); try simp (disch := omega) only [w64, wu64]) | (refine need.of (by first | omega | kernel_rfl) ?_) | (refine AW.fin ?_; try simp (implicitDefEqProofs := false)))
  refine CallS.pu (cmp_ok m n hm hn) ?_
  (try (simp (implicitDefEqProofs := false); try simp (disch := omega) only [w64, wu64]))
  repeat (first | refine AW.seq ?_ | refine AW.block ?_ | (refine AW.reg mix ?_; simp (implicitDefEqProofs := false); try simp (disch := omega) only [w64, wu64]) | (refine need.of (by first | omega | kernel_rfl) ?_) | (refine AW.fin ?_; try simp (implicitDefEqProofs := false)))
  have hc : cmpZ m n = -1 := by unfold cmpZ; rw [if_pos h]
  refine AW.cond rfl (fun h => ?_) (fun h => ?_)
  · repeat (first | refine AW.seq ?_ | refine AW.block ?_ | (refine AW.reg mix ?_; simp (implicitDefEqProofs := false); try simp (disch := omega) only [w64, wu64]) | (refine need.of (by first | omega | kernel_rfl) ?_) | (refine AW.fin ?_; try simp (implicitDefEqProofs := false)))
  · simp [hc] at h

theorem fgood_ok (p q : Nat) (hp : size p ≤ 1000000) (hq : size q ≤ 1000000) : Eqn Tryz.prog n_flip_good [.d (.agg [natW p]), .d (.agg [natW q])] [] (.d (.bool (decide (0 < q ∧ p ≤ q)))) [] := by
  refine Eqn.pure r_flip_good (plain_d _) ?_
  simp only [c_flip_good]
  by_cases h : q = 0
  · subst h
    repeat (first | refine AW.seq ?_ | refine AW.block ?_ | (refine AW.reg mix ?_; simp (implicitDefEqProofs := false); try simp (disch := omega) only [w64, wu64]) | (refine need.of (by first | omega | kernel_rfl) ?_) | (refine AW.fin ?_; try simp (implicitDefEqProofs := false)))
    refine CallS.pu (zero_ok 0) ?_
    (try (simp (implicitDefEqProofs := false); try simp (disch := omega) only [w64, wu64]))
    repeat (first | refine AW.seq ?_ | refine AW.block ?_ | (refine AW.reg mix ?_; simp (implicitDefEqProofs := false); try simp (disch := omega) only [w64, wu64]) | (refine need.of (by first | omega | kernel_rfl) ?_) | (refine AW.fin ?_; try simp (implicitDefEqProofs := false)))
  · have h0 : (q == 0) = false := by simpa using h
    have hc : decide (cmpZ p q ≤ 0) = decide (0 < q ∧ p ≤ q) := by
      unfold cmpZ
      split
      · simp; omega
      · split
        · simp; omega
        · simp; omega
    repeat (first | refine AW.seq ?_ | refine AW.block ?_ | (refine AW.reg mix ?_; simp (implicitDefEqProofs := false); try simp (disch := omega) only [w64, wu64]) | (refine need.of (by first | omega | kernel_rfl) ?_) | (refine AW.fin ?_; try simp (implicitDefEqProofs := false)))
    refine CallS.pu (zero_ok q) ?_
    (try (simp (implicitDefEqProofs := false) [h0, h]; try simp (disch := omega) only [w64, wu64]))
    repeat (first | refine AW.seq ?_ | refine AW.block ?_ | (refine AW.reg mix ?_; simp (implicitDefEqProofs := false) [h0, h]; try simp (disch := omega) only [w64, wu64]) | (refine need.of (by first | omega | kernel_rfl) ?_) | (refine AW.fin ?_; try simp (implicitDefEqProofs := false) [h0, h]))
    refine CallS.pu (cmp_ok p q hp hq) ?_
    (try (simp (implicitDefEqProofs := false) [h0, h]; try simp (disch := omega) only [w64, wu64]))
    repeat (first | refine AW.seq ?_ | refine AW.block ?_ | (refine AW.reg mix ?_; simp (implicitDefEqProofs := false) [h0, h]; try simp (disch := omega) only [w64, wu64]) | (refine need.of (by first | omega | kernel_rfl) ?_) | (refine AW.fin ?_; try simp (implicitDefEqProofs := false) [h0, h]))
    try simp [hc]

/-- so many coins as it takes: p by q -/
def ratioR (cs : List Bool) (q : Nat) : Nat → Nat → Nat → Bool → Bool × Int × Nat × Bool
  | 0, _, p, dd => (true, 0, p, dd)
  | f + 1, r, p, dd =>
    if r < q then
      if flipE cs p dd = 0 then
        if flipB cs p dd ≠ decide (q ≤ r + r) ∨ (if q ≤ r + r then r + r - q else r + r) = 0 then (decide (q ≤ r + r) && !flipB cs p dd, 0, flipP cs p dd, flipD cs p dd)
        else ratioR cs q f (if q ≤ r + r then r + r - q else r + r) (flipP cs p dd) (flipD cs p dd)
      else (false, flipE cs p dd, flipP cs p dd, flipD cs p dd)
    else (true, 0, p, dd)
/-- of p by q -/
def ratioA (cs : List Bool) (a q : Nat) (p : Nat) (dd : Bool) : Bool × Int × Nat × Bool := if a = 0 then (false, 0, p, dd) else ratioR cs q (cs.length + 1 - p) a p dd

theorem ratio_ok (cs : List Bool) (a q p : Nat) (dd : Bool) (ha : a ≤ q) (h0 : 0 < q) (hq : q < 9223372036854775808) (hp : p ≤ cs.length) (hn : cs.length ≤ 4000000) :
    Eqn Tryz.prog n_flip_Ratio [.p 0 0, .d (.agg [natW a]), .d (.agg [natW q])] [tapeO cs p dd] (.tup [.d (.bool (ratioA cs a q p dd).1), .d (.int .i64 (ratioA cs a q p dd).2.1)]) [tapeO cs (ratioA cs a q p dd).2.2.1 (ratioA cs a q p dd).2.2.2] := by
  refine Eqn.obj1 r_flip_Ratio (plain_tup2 _ _) ⟨rfl, fun _ => rfl⟩ ?_
  simp only [c_flip_Ratio]
  have sz : ∀ {x : Nat}, x < 18446744073709551616 → size x ≤ 1000000 := fun hx => Nat.le_trans (size_one hx) (by omega)
  have hg := fgood_ok a q (sz (by omega)) (sz (by omega))
  rw [show decide (0 < q ∧ a ≤ q) = true by simp; omega] at hg
  repeat (first | refine AW.seq ?_ | refine AW.block ?_ | (refine AW.reg mix ?_; simp (implicitDefEqProofs := false) [-Bool.exists_bool]; try simp (disch := omega) only [w64, wu64]) | (refine need.of (by first | omega | kernel_rfl) ?_) | (refine AW.fin ?_; try simp (implicitDefEqProofs := false) [-Bool.exists_bool]))
  refine CallS.pu (hg) ?_
  (try (simp (implicitDefEqProofs := false) [-Bool.exists_bool]; try simp (disch := omega) only [w64, wu64]))
  repeat (first | refine AW.seq ?_ | refine AW.block ?_ | (refine AW.reg mix ?_; simp (implicitDefEqProofs := false) [-Bool.exists_bool]; try simp (disch := omega) only [w64, wu64]) | (refine need.of (by first | omega | kernel_rfl) ?_) | (refine AW.fin ?_; try simp (implicitDefEqProofs := false) [-Bool.exists_bool]))
  refine AW.cond rfl (fun h => ?_) (fun h => ?_)
  · simp at h
  clear h
  repeat (first | refine AW.seq ?_ | refine AW.block ?_ | (refine AW.reg mix ?_; simp (implicitDefEqProofs := false) [-Bool.exists_bool]; try simp (disch := omega) only [w64, wu64]) | (refine need.of (by first | omega | kernel_rfl) ?_) | (refine AW.fin ?_; try simp (implicitDefEqProofs := false) [-Bool.exists_bool]))
  refine CallS.pu (zero_ok a) ?_
  (try (simp (implicitDefEqProofs := false) [-Bool.exists_bool]; try simp (disch := omega) only [w64, wu64]))
  repeat (first | refine AW.seq ?_ | refine AW.block ?_ | (refine AW.reg mix ?_; simp (implicitDefEqProofs := false) [-Bool.exists_bool]; try simp (disch := omega) only [w64, wu64]) | (refine need.of (by first | omega | kernel_rfl) ?_) | (refine AW.fin ?_; try simp (implicitDefEqProofs := false) [-Bool.exists_bool]))
  refine AW.cond rfl (fun h => ?_) (fun h => ?_)
  · have ha0 : a = 0 := by simpa using h
    subst ha0
    repeat (first | refine AW.seq ?_ | refine AW.block ?_ | (refine AW.reg mix ?_; simp (implicitDefEqProofs := false) [-Bool.exists_bool]; try simp (disch := omega) only [w64, wu64]) | (refine need.of (by first | omega | kernel_rfl) ?_) | (refine AW.fin ?_; try simp (implicitDefEqProofs := false) [-Bool.exists_bool]))
    simp [ratioA]
  have ha0 : ¬ a = 0 := by simpa using h
  clear h
  rw [ratioA, if_neg ha0]
  obtain ⟨R, hR⟩ : ∃ R, R = ratioR cs q (cs.length + 1 - p) a p dd := ⟨_, rfl⟩
  rw [← hR]
  repeat (first | refine AW.seq ?_ | refine AW.block ?_ | (refine AW.reg mix ?_; simp (implicitDefEqProofs := false) [-Bool.exists_bool]; try simp (disch := omega) only [w64, wu64]) | (refine need.of (by first | omega | kernel_rfl) ?_) | (refine AW.fin ?_; try simp (implicitDefEqProofs := false) [-Bool.exists_bool]))
  refine AW.loopS (α := Nat × Nat × Bool) 4 3 (fun s => [(8, .p 3 0)]) (fun s => [(0, tapeO cs s.2.1 s.2.2), (3, ⟨91, [.d (natW s.1)]⟩)]) (fun s => s.1 ≤ q ∧ s.2.1 ≤ cs.length ∧ R = ratioR cs q (cs.length + 1 - s.2.1) s.1 s.2.1 s.2.2) (fun s => cs.length + 1 - s.2.1) (a, p, dd) ?_ ?_ ?_ ?_ ⟨ha, hp, hR⟩ ?_ ?_ ?_
  · simp
  · simp
  · simp
  · simp
  · simp
  · simp
  rintro ⟨r, z, d⟩ ⟨hr, hz, hR⟩
  simp only at hr hz hR
  simp [-Bool.exists_bool]
  obtain ⟨f, hf⟩ : ∃ f, cs.length + 1 - z = f + 1 := ⟨cs.length - z, by omega⟩
  rw [hf, ratioR] at hR
  repeat (first | refine AW.seq ?_ | refine AW.block ?_ | (refine AW.reg mix ?_; simp (implicitDefEqProofs := false) [-Bool.exists_bool]; try simp (disch := omega) only [w64, wu64]) | (refine need.of (by first | omega | kernel_rfl) ?_) | (refine AW.fin ?_; try simp (implicitDefEqProofs := false) [-Bool.exists_bool]))
  refine CallS.pu (cmp_ok r q (sz (by omega)) (sz (by omega))) ?_
  (try (simp (implicitDefEqProofs := false) [-Bool.exists_bool]; try simp (disch := omega) only [w64, wu64]))
  repeat (first | refine AW.seq ?_ | refine AW.block ?_ | (refine AW.reg mix ?_; simp (implicitDefEqProofs := false) [-Bool.exists_bool]; try simp (disch := omega) only [w64, wu64]) | (refine need.of (by first | omega | kernel_rfl) ?_) | (refine AW.fin ?_; try simp (implicitDefEqProofs := false) [-Bool.exists_bool]))
  refine AW.cond rfl (fun h => ?_) (fun h => ?_)
  · have hlt : r < q := by simpa [cmpZ_lt] using h
    clear h
    rw [if_pos hlt] at hR
    repeat (first | refine AW.seq ?_ | refine AW.block ?_ | (refine AW.reg mix ?_; simp (implicitDefEqProofs := false) [-Bool.exists_bool]; try simp (disch := omega) only [w64, wu64]) | (refine need.of (by first | omega | kernel_rfl) ?_) | (refine AW.fin ?_; try simp (implicitDefEqProofs := false) [-Bool.exists_bool]))
    refine CallS.o1 0 (flip_ok cs z d hz hn) ?_
    (try (simp (implicitDefEqProofs := false) [-Bool.exists_bool]; try simp (disch := omega) only [w64, wu64]))
    repeat (first | refine AW.seq ?_ | refine AW.block ?_ | (refine AW.reg mix ?_; simp (implicitDefEqProofs := false) [-Bool.exists_bool]; try simp (disch := omega) only [w64, wu64]) | (refine need.of (by first | omega | kernel_rfl) ?_) | (refine AW.fin ?_; try simp (implicitDefEqProofs := false) [-Bool.exists_bool]))
    by_cases hE : flipE cs z d = 0
    · have hE2 : flipP cs z d = z + 1 ∧ z < cs.length := by
        unfold flipE at hE
        unfold flipP
        split at hE
        · omega
        · rename_i h'
          rw [if_neg h']
          rw [not_or] at h'
          omega
      rw [if_pos hE] at hR
      have ha2 := add_ok r r (sz (by omega)) (sz (by omega))
      generalize flipB cs z d = b at *
      generalize flipD cs z d = d' at *
      rw [hE2.1] at hR ⊢
      have hz' := hE2.2
      clear hE2
      refine AW.cond rfl (fun h => ?_) (fun h => ?_)
      · simp [hE] at h
      clear h
      repeat (first | refine AW.seq ?_ | refine AW.block ?_ | (refine AW.reg mix ?_; simp (implicitDefEqProofs := false) [-Bool.exists_bool]; try simp (disch := omega) only [w64, wu64]) | (refine need.of (by first | omega | kernel_rfl) ?_) | (refine AW.fin ?_; try simp (implicitDefEqProofs := false) [-Bool.exists_bool]))
      refine CallS.pu (ha2) ?_
      (try (simp (implicitDefEqProofs := false) [-Bool.exists_bool]; try simp (disch := omega) only [w64, wu64]))
      repeat (first | refine AW.seq ?_ | refine AW.block ?_ | (refine AW.reg mix ?_; simp (implicitDefEqProofs := false) [-Bool.exists_bool]; try simp (disch := omega) only [w64, wu64]) | (refine need.of (by first | omega | kernel_rfl) ?_) | (refine AW.fin ?_; try simp (implicitDefEqProofs := false) [-Bool.exists_bool]))
      by_cases hd : q ≤ r + r
      · rw [if_pos hd, show decide (q ≤ r + r) = true by simp [hd]] at hR
        refine CallS.pu (sub_ok (r + r) q (sz (by omega)) hd) ?_
        (try (simp (implicitDefEqProofs := false) [-Bool.exists_bool]; try simp (disch := omega) only [w64, wu64]))
        repeat (first | refine AW.seq ?_ | refine AW.block ?_ | (refine AW.reg mix ?_; simp (implicitDefEqProofs := false) [-Bool.exists_bool]; try simp (disch := omega) only [w64, wu64]) | (refine need.of (by first | omega | kernel_rfl) ?_) | (refine AW.fin ?_; try simp (implicitDefEqProofs := false) [-Bool.exists_bool]))
        refine AW.cond rfl (fun h => ?_) (fun h => ?_)
        · clear h
          cases b with
          | true =>
            simp only [ne_eq, not_true_eq_false, not_false_eq_true, Bool.true_eq_false, Bool.false_eq_true, reduceCtorEq, false_or, true_or, if_true] at hR
            repeat (first | refine AW.seq ?_ | refine AW.block ?_ | (refine AW.reg mix ?_; simp (implicitDefEqProofs := false) [-Bool.exists_bool]; try simp (disch := omega) only [w64, wu64]) | (refine need.of (by first | omega | kernel_rfl) ?_) | (refine AW.fin ?_; try simp (implicitDefEqProofs := false) [-Bool.exists_bool]))
            refine CallS.pu (zero_ok (r + r - q)) ?_
            (try (simp (implicitDefEqProofs := false) [-Bool.exists_bool]; try simp (disch := omega) only [w64, wu64]))
            repeat (first | refine AW.seq ?_ | refine AW.block ?_ | (refine AW.reg mix ?_; simp (implicitDefEqProofs := false) [-Bool.exists_bool]; try simp (disch := omega) only [w64, wu64]) | (refine need.of (by first | omega | kernel_rfl) ?_) | (refine AW.fin ?_; try simp (implicitDefEqProofs := false) [-Bool.exists_bool]))
            by_cases hz0 : r + r - q = 0
            · rw [if_pos hz0] at hR
              refine AW.cond rfl (fun h => ?_) (fun h => ?_)
              · repeat (first | refine AW.seq ?_ | refine AW.block ?_ | (refine AW.reg mix ?_; simp (implicitDefEqProofs := false) [-Bool.exists_bool]; try simp (disch := omega) only [w64, wu64]) | (refine need.of (by first | omega | kernel_rfl) ?_) | (refine AW.fin ?_; try simp (implicitDefEqProofs := false) [-Bool.exists_bool]))
                simp [hR]
              · first | (simp [hz0] at h; done) | (exfalso; simp at h; omega)
            · rw [if_neg hz0] at hR
              refine AW.cond rfl (fun h => ?_) (fun h => ?_)
              · first | (simp [hz0] at h; done) | (exfalso; simp at h; omega)
              · clear h
                repeat (first | refine AW.seq ?_ | refine AW.block ?_ | (refine AW.reg mix ?_; simp (implicitDefEqProofs := false) [-Bool.exists_bool]; try simp (disch := omega) only [w64, wu64]) | (refine need.of (by first | omega | kernel_rfl) ?_) | (refine AW.fin ?_; try simp (implicitDefEqProofs := false) [-Bool.exists_bool]))
                refine ⟨r + r - q, z + 1, d', 5, by omega, by omega, ⟨by omega, by omega, by rw [show cs.length + 1 - (z + 1) = f by omega]; exact hR⟩, by omega, ?_⟩
                simp [swT, swH, sw, Ob.sw, V.ren, V.rens, tapeO]
          | false =>
            simp only [ne_eq, not_true_eq_false, not_false_eq_true, Bool.true_eq_false, Bool.false_eq_true, reduceCtorEq, false_or, true_or, if_true] at hR
            repeat (first | refine AW.seq ?_ | refine AW.block ?_ | (refine AW.reg mix ?_; simp (implicitDefEqProofs := false) [-Bool.exists_bool]; try simp (disch := omega) only [w64, wu64]) | (refine need.of (by first | omega | kernel_rfl) ?_) | (refine AW.fin ?_; try simp (implicitDefEqProofs := false) [-Bool.exists_bool]))
            refine AW.cond rfl (fun h => ?_) (fun h => ?_)
            · repeat (first | refine AW.seq ?_ | refine AW.block ?_ | (refine AW.reg mix ?_; simp (implicitDefEqProofs := false) [-Bool.exists_bool]; try simp (disch := omega) only [w64, wu64]) | (refine need.of (by first | omega | kernel_rfl) ?_) | (refine AW.fin ?_; try simp (implicitDefEqProofs := false) [-Bool.exists_bool]))
              simp [hR]
            · simp at h
        · simp at h
      · rw [if_neg hd, show decide (q ≤ r + r) = false by simp [hd]] at hR
        refine CallS.pu (sub_less (r + r) q (sz (by omega)) (sz (by omega)) (by omega)) ?_
        (try (simp (implicitDefEqProofs := false) [-Bool.exists_bool]; try simp (disch := omega) only [w64, wu64]))
        repeat (first | refine AW.seq ?_ | refine AW.block ?_ | (refine AW.reg mix ?_; simp (implicitDefEqProofs := false) [-Bool.exists_bool]; try simp (disch := omega) only [w64, wu64]) | (refine need.of (by first | omega | kernel_rfl) ?_) | (refine AW.fin ?_; try simp (implicitDefEqProofs := false) [-Bool.exists_bool]))
        refine AW.cond rfl (fun h => ?_) (fun h => ?_)
        · simp at h
        · clear h
          cases b with
          | false =>
            simp only [ne_eq, not_true_eq_false, not_false_eq_true, Bool.true_eq_false, Bool.false_eq_true, reduceCtorEq, false_or, true_or, if_true] at hR
            repeat (first | refine AW.seq ?_ | refine AW.block ?_ | (refine AW.reg mix ?_; simp (implicitDefEqProofs := false) [-Bool.exists_bool]; try simp (disch := omega) only [w64, wu64]) | (refine need.of (by first | omega | kernel_rfl) ?_) | (refine AW.fin ?_; try simp (implicitDefEqProofs := false) [-Bool.exists_bool]))
            refine CallS.pu (zero_ok (r + r)) ?_
            (try (simp (implicitDefEqProofs := false) [-Bool.exists_bool]; try simp (disch := omega) only [w64, wu64]))
            repeat (first | refine AW.seq ?_ | refine AW.block ?_ | (refine AW.reg mix ?_; simp (implicitDefEqProofs := false) [-Bool.exists_bool]; try simp (disch := omega) only [w64, wu64]) | (refine need.of (by first | omega | kernel_rfl) ?_) | (refine AW.fin ?_; try simp (implicitDefEqProofs := false) [-Bool.exists_bool]))
            by_cases hz0 : r + r = 0
            · rw [if_pos hz0] at hR
              refine AW.cond rfl (fun h => ?_) (fun h => ?_)
              · repeat (first | refine AW.seq ?_ | refine AW.block ?_ | (refine AW.reg mix ?_; simp (implicitDefEqProofs := false) [-Bool.exists_bool]; try simp (disch := omega) only [w64, wu64]) | (refine need.of (by first | omega | kernel_rfl) ?_) | (refine AW.fin ?_; try simp (implicitDefEqProofs := false) [-Bool.exists_bool]))
                simp [hR]
              · first | (simp [hz0] at h; done) | (exfalso; simp at h; omega)
            · rw [if_neg hz0] at hR
              refine AW.cond rfl (fun h => ?_) (fun h => ?_)
              · first | (simp [hz0] at h; done) | (exfalso; simp at h; omega)
              · clear h
                repeat (first | refine AW.seq ?_ | refine AW.block ?_ | (refine AW.reg mix ?_; simp (implicitDefEqProofs := false) [-Bool.exists_bool]; try simp (disch := omega) only [w64, wu64]) | (refine need.of (by first | omega | kernel_rfl) ?_) | (refine AW.fin ?_; try simp (implicitDefEqProofs := false) [-Bool.exists_bool]))
                refine ⟨r + r, z + 1, d', 5, by omega, by omega, ⟨by omega, by omega, by rw [show cs.length + 1 - (z + 1) = f by omega]; exact hR⟩, by omega, ?_⟩
                simp [swT, swH, sw, Ob.sw, V.ren, V.rens, tapeO]
          | true =>
            simp only [ne_eq, not_true_eq_false, not_false_eq_true, Bool.true_eq_false, Bool.false_eq_true, reduceCtorEq, false_or, true_or, if_true] at hR
            repeat (first | refine AW.seq ?_ | refine AW.block ?_ | (refine AW.reg mix ?_; simp (implicitDefEqProofs := false) [-Bool.exists_bool]; try simp (disch := omega) only [w64, wu64]) | (refine need.of (by first | omega | kernel_rfl) ?_) | (refine AW.fin ?_; try simp (implicitDefEqProofs := false) [-Bool.exists_bool]))
            refine AW.cond rfl (fun h => ?_) (fun h => ?_)
            · repeat (first | refine AW.seq ?_ | refine AW.block ?_ | (refine AW.reg mix ?_; simp (implicitDefEqProofs := false) [-Bool.exists_bool]; try simp (disch := omega) only [w64, wu64]) | (refine need.of (by first | omega | kernel_rfl) ?_) | (refine AW.fin ?_; try simp (implicitDefEqProofs := false) [-Bool.exists_bool]))
              simp [hR]
            · simp at h
    · rw [if_neg hE] at hR
      refine AW.cond rfl (fun h => ?_) (fun h => ?_)
      · repeat (first | refine AW.seq ?_ | refine AW.block ?_ | (refine AW.reg mix ?_; simp (implicitDefEqProofs := false) [-Bool.exists_bool]; try simp (disch := omega) only [w64, wu64]) | (refine need.of (by first | omega | kernel_rfl) ?_) | (refine AW.fin ?_; try simp (implicitDefEqProofs := false) [-Bool.exists_bool]))
        simp [hR]
      · simp [hE] at h
  · have hlt : ¬ r < q := by simpa [cmpZ_lt] using h
    rw [if_neg hlt] at hR
    refine AW.exit ?_
    (try (simp (implicitDefEqProofs := false) [-Bool.exists_bool]; try simp (disch := omega) only [w64, wu64]))
    repeat (first | refine AW.seq ?_ | refine AW.block ?_ | (refine AW.reg mix ?_; simp (implicitDefEqProofs := false) [-Bool.exists_bool]; try simp (disch := omega) only [w64, wu64]) | (refine need.of (by first | omega | kernel_rfl) ?_) | (refine AW.fin ?_; try simp (implicitDefEqProofs := false) [-Bool.exists_bool]))
    simp [hR]
end
end Go.Proofs.YtdbfenhaljmbfaaGreat.Am
namespace Go.Proofs.YtdbfenhaljmbfaaGreat.Am
section
set_option linter.unusedVariables false
set_option linter.unusedSimpArgs false
open Go.RowKit
set_option maxRecDepth 100000
set_option linter.unusedSimpArgs false
set_option linter.unusedVariables false

theorem ratioR_le {cs : List Bool} {q : Nat} : ∀ (f r p : Nat) (dd : Bool), p ≤ cs.length → (ratioR cs q f r p dd).2.2.1 ≤ cs.length
  | 0, _, _, _, h => h
  | f + 1, r, p, dd, h => by
    rw [ratioR]
    generalize (if q ≤ r + r then r + r - q else r + r) = r3
    split
    · split
      · split
        · exact flipP_le h
        · exact ratioR_le f _ _ _ (flipP_le h)
      · exact flipP_le h
    · exact h
theorem ratioA_le {cs : List Bool} {a q p : Nat} {dd : Bool} (h : p ≤ cs.length) : (ratioA cs a q p dd).2.2.1 ≤ cs.length := by
  rw [ratioA]
  split
  · exact h
  · exact ratioR_le _ _ _ _ h

/-- so many of these -/
def powerR (cs : List Bool) (a q : Nat) : Nat → Nat → Bool → Bool × Int × Nat × Bool
  | 0, p, dd => (true, 0, p, dd)
  | k + 1, p, dd => if (ratioA cs a q p dd).1 then powerR cs a q k (ratioA cs a q p dd).2.2.1 (ratioA cs a q p dd).2.2.2 else ratioA cs a q p dd

theorem power_ok (cs : List Bool) (a q p : Nat) (dd : Bool) (k : Int) (ha : a ≤ q) (h0 : 0 < q) (hq : q < 9223372036854775808) (hk : k ≤ 4000000) (hp : p ≤ cs.length) (hn : cs.length ≤ 4000000) :
    Eqn Tryz.prog n_flip_Power [.p 0 0, .d (.agg [natW a]), .d (.agg [natW q]), .d (.int .i64 k)] [tapeO cs p dd] (.tup [.d (.bool (powerR cs a q k.toNat p dd).1), .d (.int .i64 (powerR cs a q k.toNat p dd).2.1)]) [tapeO cs (powerR cs a q k.toNat p dd).2.2.1 (powerR cs a q k.toNat p dd).2.2.2] := by
  refine Eqn.obj1 r_flip_Power (plain_tup2 _ _) ⟨rfl, fun _ => rfl⟩ ?_
  simp only [c_flip_Power]
  have sz : ∀ {x : Nat}, x < 18446744073709551616 → size x ≤ 1000000 := fun hx => Nat.le_trans (size_one hx) (by omega)
  have hg := fgood_ok a q (sz (by omega)) (sz (by omega))
  rw [show decide (0 < q ∧ a ≤ q) = true by simp; omega] at hg
  obtain ⟨K, hK, hK2⟩ : ∃ K : Nat, K = k.toNat ∧ max 0 k = (K : Int) := ⟨k.toNat, rfl, by omega⟩
  rw [← hK]
  obtain ⟨R, hR⟩ : ∃ R, R = powerR cs a q K p dd := ⟨_, rfl⟩
  rw [← hR]
  repeat (first | refine AW.seq ?_ | refine AW.block ?_ | (refine AW.reg mix ?_; simp (implicitDefEqProofs := false) [-Bool.exists_bool]; try simp (disch := omega) only [w64, wu64]) | (refine need.of (by first | omega | kernel_rfl) ?_) | (refine AW.fin ?_; try simp (implicitDefEqProofs := false) [-Bool.exists_bool]))
  refine CallS.pu (hg) ?_
  (try (simp (implicitDefEqProofs := false) [-Bool.exists_bool]; try simp (disch := omega) only [w64, wu64]))
  repeat (first | refine AW.seq ?_ | refine AW.block ?_ | (refine AW.reg mix ?_; simp (implicitDefEqProofs := false) [-Bool.exists_bool]; try simp (disch := omega) only [w64, wu64]) | (refine need.of (by first | omega | kernel_rfl) ?_) | (refine AW.fin ?_; try simp (implicitDefEqProofs := false) [-Bool.exists_bool]))
  refine AW.cond rfl (fun h => ?_) (fun h => ?_)
  · simp at h
  clear h
  repeat (first | refine AW.seq ?_ | refine AW.block ?_ | (refine AW.reg mix ?_; simp (implicitDefEqProofs := false) [hK2, -Bool.exists_bool]; try simp (disch := omega) only [w64, wu64]) | (refine need.of (by first | omega | kernel_rfl) ?_) | (refine AW.fin ?_; try simp (implicitDefEqProofs := false) [hK2, -Bool.exists_bool]))
  refine AW.loopT (α := Nat × Nat × Bool) 3 (fun s => [(18, .d (.int .i64 (s.1 : Int)))]) (fun s => [(0, tapeO cs s.2.1 s.2.2)]) (fun s => s.1 ≤ K ∧ s.2.1 ≤ cs.length ∧ R = powerR cs a q (K - s.1) s.2.1 s.2.2) (fun s => K - s.1) (0, p, dd) ?_ ?_ ⟨Nat.zero_le _, hp, hR⟩ ?_ ?_ ?_
  · simp
  · simp
  · simp
  · simp
  rintro ⟨i, z, d⟩ ⟨hi, hz, hR⟩
  simp only at hi hz hR
  simp [-Bool.exists_bool]
  by_cases h : i = K
  · subst h
    rw [Nat.sub_self, powerR] at hR
    repeat (first | refine AW.seq ?_ | refine AW.block ?_ | (refine AW.reg mix ?_; simp (implicitDefEqProofs := false) [-Bool.exists_bool]; try simp (disch := omega) only [w64, wu64]) | (refine need.of (by first | omega | kernel_rfl) ?_) | (refine AW.fin ?_; try simp (implicitDefEqProofs := false) [-Bool.exists_bool]))
    refine AW.cond rfl (fun h => ?_) (fun h => ?_)
    · simp at h
    refine AW.exit ?_
    (try (simp (implicitDefEqProofs := false) [-Bool.exists_bool]; try simp (disch := omega) only [w64, wu64]))
    repeat (first | refine AW.seq ?_ | refine AW.block ?_ | (refine AW.reg mix ?_; simp (implicitDefEqProofs := false) [-Bool.exists_bool]; try simp (disch := omega) only [w64, wu64]) | (refine need.of (by first | omega | kernel_rfl) ?_) | (refine AW.fin ?_; try simp (implicitDefEqProofs := false) [-Bool.exists_bool]))
    simp [hR]
  · have hlt : (i : Int) < K := by omega
    have hlt' : i < K := by omega
    obtain ⟨r, hr⟩ : ∃ r, K - i = r + 1 := ⟨K - i - 1, by omega⟩
    rw [hr, powerR] at hR
    have hra := ratio_ok cs a q z d ha h0 hq hz hn
    have hle := ratioA_le (cs := cs) (a := a) (q := q) (dd := d) hz
    generalize ratioA cs a q z d = S at *
    obtain ⟨S1, S2, S3, S4⟩ := S
    simp only at hra hR hle
    repeat (first | refine AW.seq ?_ | refine AW.block ?_ | (refine AW.reg mix ?_; simp (implicitDefEqProofs := false) [hlt, hlt', -Bool.exists_bool]; try simp (disch := omega) only [w64, wu64]) | (refine need.of (by first | omega | kernel_rfl) ?_) | (refine AW.fin ?_; try simp (implicitDefEqProofs := false) [hlt, hlt', -Bool.exists_bool]))
    refine AW.cond rfl (fun h => ?_) (fun h => ?_)
    · clear h
      repeat (first | refine AW.seq ?_ | refine AW.block ?_ | (refine AW.reg mix ?_; simp (implicitDefEqProofs := false) [-Bool.exists_bool]; try simp (disch := omega) only [w64, wu64]) | (refine need.of (by first | omega | kernel_rfl) ?_) | (refine AW.fin ?_; try simp (implicitDefEqProofs := false) [-Bool.exists_bool]))
      refine CallS.o1 0 (hra) ?_
      (try (simp (implicitDefEqProofs := false) [-Bool.exists_bool]; try simp (disch := omega) only [w64, wu64]))
      repeat (first | refine AW.seq ?_ | refine AW.block ?_ | (refine AW.reg mix ?_; simp (implicitDefEqProofs := false) [-Bool.exists_bool]; try simp (disch := omega) only [w64, wu64]) | (refine need.of (by first | omega | kernel_rfl) ?_) | (refine AW.fin ?_; try simp (implicitDefEqProofs := false) [-Bool.exists_bool]))
      refine AW.cond rfl (fun h => ?_) (fun h => ?_)
      · have hb : S1 = false := by simpa using h
        subst hb
        repeat (first | refine AW.seq ?_ | refine AW.block ?_ | (refine AW.reg mix ?_; simp (implicitDefEqProofs := false) [-Bool.exists_bool]; try simp (disch := omega) only [w64, wu64]) | (refine need.of (by first | omega | kernel_rfl) ?_) | (refine AW.fin ?_; try simp (implicitDefEqProofs := false) [-Bool.exists_bool]))
        simp [hR]
      · have hb : S1 = true := by simpa using h
        subst hb
        rw [if_pos rfl] at hR
        have ew : IntKind.i64.wrap ((i : Int) + 1) = (i : Int) + 1 := w64 (by omega) (by omega)
        repeat (first | refine AW.seq ?_ | refine AW.block ?_ | (refine AW.reg mix ?_; simp (implicitDefEqProofs := false) [ew, -Bool.exists_bool]; try simp (disch := omega) only [w64, wu64]) | (refine need.of (by first | omega | kernel_rfl) ?_) | (refine AW.fin ?_; try simp (implicitDefEqProofs := false) [ew, -Bool.exists_bool]))
        refine ⟨i + 1, S3, S4, ⟨hlt', hle, by rw [show K - (i + 1) = r by omega]; exact hR⟩, by omega, by simp, by simp⟩
    · simp [hlt'] at h
end
end Go.Proofs.YtdbfenhaljmbfaaGreat.Am
namespace Go.Proofs.YtdbfenhaljmbfaaGreat.Am
section
set_option linter.unusedVariables false
set_option linter.unusedSimpArgs false
open Go.RowKit
set_option maxRecDepth 100000
set_option linter.unusedSimpArgs false
set_option linter.unusedVariables false

theorem mgood_ok (d : Int) : Eqn Tryz.prog n_morris_Good [.d (.int .i64 d)] [] (.d (.bool (decide (1 ≤ d ∧ d ≤ 4096)))) [] := by
  refine Eqn.pure r_morris_Good (plain_d _) ?_
  simp only [c_morris_Good]
  by_cases h : 1 ≤ d
  · repeat (first | refine AW.seq ?_ | refine AW.block ?_ | (refine AW.reg mix ?_; simp (implicitDefEqProofs := false) [h]; try simp (disch := omega) only [w64, wu64]) | (refine need.of (by first | omega | kernel_rfl) ?_) | (refine AW.fin ?_; try simp (implicitDefEqProofs := false) [h]))
  · repeat (first | refine AW.seq ?_ | refine AW.block ?_ | (refine AW.reg mix ?_; simp (implicitDefEqProofs := false) [h]; try simp (disch := omega) only [w64, wu64]) | (refine need.of (by first | omega | kernel_rfl) ?_) | (refine AW.fin ?_; try simp (implicitDefEqProofs := false) [h]))

/-- what is wrong -/
def wrongM (d : Int) (ks : List Int) : Int := if 1 ≤ d ∧ d ≤ 4096 then (if ks.all okK then 0 else 2) else 10

theorem mwrong_ok (d : Int) (ks : List Int) (hn : ks.length ≤ 1000000) : Eqn Tryz.prog n_morris_wrong [.d (.int .i64 d), .d (.sl ks.length (ks.map fun k : Int => .int .i64 k))] [] (.d (.int .i64 (wrongM d ks))) [] := by
  refine Eqn.pure r_morris_wrong (plain_d _) ?_
  simp only [c_morris_wrong]
  repeat (first | refine AW.seq ?_ | refine AW.block ?_ | (refine AW.reg mix ?_; simp (implicitDefEqProofs := false); try simp (disch := omega) only [w64, wu64]) | (refine need.of (by first | omega | kernel_rfl) ?_) | (refine AW.fin ?_; try simp (implicitDefEqProofs := false)))
  refine CallS.pu (mgood_ok d) ?_
  (try (simp (implicitDefEqProofs := false); try simp (disch := omega) only [w64, wu64]))
  repeat (first | refine AW.seq ?_ | refine AW.block ?_ | (refine AW.reg mix ?_; simp (implicitDefEqProofs := false); try simp (disch := omega) only [w64, wu64]) | (refine need.of (by first | omega | kernel_rfl) ?_) | (refine AW.fin ?_; try simp (implicitDefEqProofs := false)))
  by_cases hd : 1 ≤ d ∧ d ≤ 4096
  · refine AW.cond rfl (fun h => ?_) (fun h => ?_)
    · simp [hd] at h
    repeat (first | refine AW.seq ?_ | refine AW.block ?_ | (refine AW.reg mix ?_; simp (implicitDefEqProofs := false); try simp (disch := omega) only [w64, wu64]) | (refine need.of (by first | omega | kernel_rfl) ?_) | (refine AW.fin ?_; try simp (implicitDefEqProofs := false)))
    refine AW.loopT (α := Nat) 0 (fun i => [(12, .d (.int .i64 (i : Int)))]) (fun i => []) (fun i => i ≤ ks.length ∧ (ks.take i).all okK = true) (fun i => ks.length - i) 0 ?_ ?_ ⟨Nat.zero_le _, by simp⟩ ?_ ?_ ?_
    · simp
    · simp
    · simp
    · simp
    rintro i ⟨hi, hall⟩
    simp
    by_cases h : i = ks.length
    · subst h
      rw [List.take_length] at hall
      repeat (first | refine AW.seq ?_ | refine AW.block ?_ | (refine AW.reg mix ?_; simp (implicitDefEqProofs := false); try simp (disch := omega) only [w64, wu64]) | (refine need.of (by first | omega | kernel_rfl) ?_) | (refine AW.fin ?_; try simp (implicitDefEqProofs := false)))
      refine AW.cond rfl (fun h => ?_) (fun h => ?_)
      · simp at h
      repeat (first | refine AW.seq ?_ | refine AW.block ?_ | (refine AW.reg mix ?_; simp (implicitDefEqProofs := false); try simp (disch := omega) only [w64, wu64]) | (refine need.of (by first | omega | kernel_rfl) ?_) | (refine AW.fin ?_; try simp (implicitDefEqProofs := false)))
      refine Sub1.int ?_
      rw [wrongM, if_pos hd, if_pos hall]
    · have hi' : i < ks.length := by omega
      have hp : (i : Int) < ks.length := by omega
      repeat (first | refine AW.seq ?_ | refine AW.block ?_ | (refine AW.reg mix ?_; simp (implicitDefEqProofs := false) [hi', hp]; try simp (disch := omega) only [w64, wu64]) | (refine need.of (by first | omega | kernel_rfl) ?_) | (refine AW.fin ?_; try simp (implicitDefEqProofs := false) [hi', hp]))
      refine AW.cond rfl (fun h => ?_) (fun h => ?_)
      · have hbad : okK ks[i] = false → wrongM d ks = 2 := by
          intro hb
          rw [wrongM, if_pos hd, if_neg]
          intro ha
          rw [List.all_eq_true] at ha
          have := ha ks[i] (List.getElem_mem _)
          rw [hb] at this; cases this
        by_cases h0 : ks[i] < 0
        · repeat (first | refine AW.seq ?_ | refine AW.block ?_ | (refine AW.reg mix ?_; simp (implicitDefEqProofs := false) [hi', hp, h0]; try simp (disch := omega) only [w64, wu64]) | (refine need.of (by first | omega | kernel_rfl) ?_) | (refine AW.fin ?_; try simp (implicitDefEqProofs := false) [hi', hp, h0]))
          refine AW.cond rfl (fun h => ?_) (fun h => ?_)
          · repeat (first | refine AW.seq ?_ | refine AW.block ?_ | (refine AW.reg mix ?_; simp (implicitDefEqProofs := false); try simp (disch := omega) only [w64, wu64]) | (refine need.of (by first | omega | kernel_rfl) ?_) | (refine AW.fin ?_; try simp (implicitDefEqProofs := false)))
            refine Sub1.int ?_
            rw [hbad (by simp [okK]; omega)]
          · simp [h0] at h
        · by_cases h1 : 1023 < ks[i]
          · repeat (first | refine AW.seq ?_ | refine AW.block ?_ | (refine AW.reg mix ?_; simp (implicitDefEqProofs := false) [hi', hp, h0, h1]; try simp (disch := omega) only [w64, wu64]) | (refine need.of (by first | omega | kernel_rfl) ?_) | (refine AW.fin ?_; try simp (implicitDefEqProofs := false) [hi', hp, h0, h1]))
            refine AW.cond rfl (fun h => ?_) (fun h => ?_)
            · repeat (first | refine AW.seq ?_ | refine AW.block ?_ | (refine AW.reg mix ?_; simp (implicitDefEqProofs := false); try simp (disch := omega) only [w64, wu64]) | (refine need.of (by first | omega | kernel_rfl) ?_) | (refine AW.fin ?_; try simp (implicitDefEqProofs := false)))
              refine Sub1.int ?_
              rw [hbad (by simp [okK]; omega)]
            · simp [h0, h1] at h
          · repeat (first | refine AW.seq ?_ | refine AW.block ?_ | (refine AW.reg mix ?_; simp (implicitDefEqProofs := false) [hi', hp, h0, h1]; try simp (disch := omega) only [w64, wu64]) | (refine need.of (by first | omega | kernel_rfl) ?_) | (refine AW.fin ?_; try simp (implicitDefEqProofs := false) [hi', hp, h0, h1]))
            refine AW.cond rfl (fun h => ?_) (fun h => ?_)
            · simp [h0, h1] at h
            have ew : IntKind.i64.wrap ((i : Int) + 1) = (i : Int) + 1 := w64 (by omega) (by omega)
            repeat (first | refine AW.seq ?_ | refine AW.block ?_ | (refine AW.reg mix ?_; simp (implicitDefEqProofs := false) [ew]; try simp (disch := omega) only [w64, wu64]) | (refine need.of (by first | omega | kernel_rfl) ?_) | (refine AW.fin ?_; try simp (implicitDefEqProofs := false) [ew]))
            refine ⟨i + 1, ⟨by omega, ?_⟩, by omega, by simp⟩
            rw [List.take_add_one, List.getElem?_eq_getElem hi']
            intro x hx
            rcases List.mem_append.1 hx with hx | hx
            · exact List.all_eq_true.1 hall x hx
            · simp at hx
              subst hx
              simp [okK]; omega
      · simp [hi'] at h
  · refine AW.cond rfl (fun h => ?_) (fun h => ?_)
    · repeat (first | refine AW.seq ?_ | refine AW.block ?_ | (refine AW.reg mix ?_; simp (implicitDefEqProofs := false); try simp (disch := omega) only [w64, wu64]) | (refine need.of (by first | omega | kernel_rfl) ?_) | (refine AW.fin ?_; try simp (implicitDefEqProofs := false)))
      refine Sub1.int ?_
      rw [wrongM, if_neg hd]
    · simp at h
      exact absurd h hd

theorem mwrong1_ok (d k : Int) : Eqn Tryz.prog n_morris_wrong [.d (.int .i64 d), .d (.sl 1 [.int .i64 k])] [] (.d (.int .i64 (wrongM d [k]))) [] := mwrong_ok d [k] (by simp)
theorem wrongM_zero {d k : Int} {ks : List Int} (h : wrongM d (k :: ks) = 0) : 1 ≤ d ∧ d ≤ 4096 ∧ 0 ≤ k ∧ k ≤ 1023 := by
  unfold wrongM at h
  split at h
  · split at h
    · rename_i h1 h2
      simp [okK] at h2
      omega
    · omega
  · omega

theorem wval_one (x : Nat) : wval [x] = x := by simp [wval]
theorem mpower_ok (cs : List Bool) (a : Nat) (k : Int) (p : Nat) (dd : Bool) (h1 : 1 ≤ a) (h2 : a ≤ 4096) (hk : k ≤ 4000000) (hp : p ≤ cs.length) (hn : cs.length ≤ 4000000) :
    Eqn Tryz.prog n_morris_power [.p 0 0, .d (.int .i64 a), .d (.int .i64 k)] [tapeO cs p dd] (.tup [.d (.bool (powerR cs a (a + 1) k.toNat p dd).1), .d (.int .i64 (powerR cs a (a + 1) k.toNat p dd).2.1)]) [tapeO cs (powerR cs a (a + 1) k.toNat p dd).2.2.1 (powerR cs a (a + 1) k.toNat p dd).2.2.2] := by
  refine Eqn.obj1 r_morris_power (plain_tup2 _ _) ⟨rfl, fun _ => rfl⟩ ?_
  simp only [c_morris_power]
  have hh := power_ok cs a (a + 1) p dd k (by omega) (by omega) (by omega) hk hp hn
  generalize powerR cs a (a + 1) k.toNat p dd = R at *
  obtain ⟨R1, R2, R3, R4⟩ := R
  simp only at hh ⊢
  have e1 : IntKind.u64.wrap (a : Int) = a := wu64 (by omega) (by omega)
  have e2 : IntKind.i64.wrap ((a : Int) + 1) = ((a + 1 : Nat) : Int) := w64 (by omega) (by omega)
  have e3 : IntKind.u64.wrap ((a + 1 : Nat) : Int) = ((a + 1 : Nat) : Int) := wu64 (by omega) (by omega)
  obtain ⟨b, hb⟩ : ∃ b, b = a + 1 := ⟨_, rfl⟩
  rw [← hb] at hh e2 e3
  repeat (first | refine AW.seq ?_ | refine AW.block ?_ | (refine AW.reg mix ?_; simp (implicitDefEqProofs := false) [e1, -Bool.exists_bool]; try simp (disch := omega) only [w64, wu64]) | (refine need.of (by first | omega | kernel_rfl) ?_) | (refine AW.fin ?_; try simp (implicitDefEqProofs := false) [e1, -Bool.exists_bool]))
  refine CallS.pf 1 1 ⟨80, _⟩ [.int .u64 (a : Nat)] (of_ok [a] (small_one (by omega)) (by simp)) (by first | rfl | (simp [e2, e3, wval_one, -Bool.exists_bool]; done)) ?_
  (try (simp (implicitDefEqProofs := false) [e2, e3, wval_one, -Bool.exists_bool]; try simp (disch := omega) only [w64, wu64]))
  repeat (first | refine AW.seq ?_ | refine AW.block ?_ | (refine AW.reg mix ?_; simp (implicitDefEqProofs := false) [e2, e3, wval_one, -Bool.exists_bool]; try simp (disch := omega) only [w64, wu64]) | (refine need.of (by first | omega | kernel_rfl) ?_) | (refine AW.fin ?_; try simp (implicitDefEqProofs := false) [e2, e3, wval_one, -Bool.exists_bool]))
  refine CallS.pf 2 1 ⟨80, _⟩ [.int .u64 (b : Nat)] (of_ok [b] (small_one (by omega)) (by simp)) (by first | rfl | (simp [wval_one, -Bool.exists_bool]; done)) ?_
  (try (simp (implicitDefEqProofs := false) [wval_one, -Bool.exists_bool]; try simp (disch := omega) only [w64, wu64]))
  repeat (first | refine AW.seq ?_ | refine AW.block ?_ | (refine AW.reg mix ?_; simp (implicitDefEqProofs := false) [wval_one, -Bool.exists_bool]; try simp (disch := omega) only [w64, wu64]) | (refine need.of (by first | omega | kernel_rfl) ?_) | (refine AW.fin ?_; try simp (implicitDefEqProofs := false) [wval_one, -Bool.exists_bool]))
  refine CallS.o1 0 (hh) ?_
  (try (simp (implicitDefEqProofs := false) [-Bool.exists_bool]; try simp (disch := omega) only [w64, wu64]))
  repeat (first | refine AW.seq ?_ | refine AW.block ?_ | (refine AW.reg mix ?_; simp (implicitDefEqProofs := false) [-Bool.exists_bool]; try simp (disch := omega) only [w64, wu64]) | (refine need.of (by first | omega | kernel_rfl) ?_) | (refine AW.fin ?_; try simp (implicitDefEqProofs := false) [-Bool.exists_bool]))

/-- a step at a place -/
def stepM (cs : List Bool) (d k : Int) (p : Nat) (dd : Bool) : Bool × Int × Nat × Bool := if wrongM d [k] = 0 then powerR cs d.toNat (d.toNat + 1) k.toNat p dd else (false, wrongM d [k], p, dd)

theorem mstep_ok (cs : List Bool) (d k : Int) (p : Nat) (dd : Bool) (hp : p ≤ cs.length) (hn : cs.length ≤ 4000000) :
    Eqn Tryz.prog n_morris_Step [.p 0 0, .d (.int .i64 d), .d (.int .i64 k)] [tapeO cs p dd] (.tup [.d (.bool (stepM cs d k p dd).1), .d (.int .i64 (stepM cs d k p dd).2.1)]) [tapeO cs (stepM cs d k p dd).2.2.1 (stepM cs d k p dd).2.2.2] := by
  refine Eqn.obj1 r_morris_Step (plain_tup2 _ _) ⟨rfl, fun _ => rfl⟩ ?_
  simp only [c_morris_Step]
  repeat (first | refine AW.seq ?_ | refine AW.block ?_ | (refine AW.reg mix ?_; simp (implicitDefEqProofs := false) [-Bool.exists_bool]; try simp (disch := omega) only [w64, wu64]) | (refine need.of (by first | omega | kernel_rfl) ?_) | (refine AW.fin ?_; try simp (implicitDefEqProofs := false) [-Bool.exists_bool]))
  refine CallS.pf 1 1 ⟨3, _⟩ [.int .i64 k] (mwrong1_ok d k) (by first | rfl | (simp [-Bool.exists_bool]; done)) ?_
  (try (simp (implicitDefEqProofs := false) [-Bool.exists_bool]; try simp (disch := omega) only [w64, wu64]))
  repeat (first | refine AW.seq ?_ | refine AW.block ?_ | (refine AW.reg mix ?_; simp (implicitDefEqProofs := false) [-Bool.exists_bool]; try simp (disch := omega) only [w64, wu64]) | (refine need.of (by first | omega | kernel_rfl) ?_) | (refine AW.fin ?_; try simp (implicitDefEqProofs := false) [-Bool.exists_bool]))
  by_cases h : wrongM d [k] = 0
  · obtain ⟨h1, h2, h3, h4⟩ := wrongM_zero h
    obtain ⟨d, rfl⟩ : ∃ n : Nat, d = n := ⟨d.toNat, by omega⟩
    rw [stepM, if_pos h]
    have hh := mpower_ok cs d k p dd (by omega) (by omega) (by omega) hp hn
    simp only [Int.toNat_natCast]
    generalize powerR cs d (d + 1) k.toNat p dd = R at *
    obtain ⟨R1, R2, R3, R4⟩ := R
    simp only at hh ⊢
    refine AW.cond rfl (fun h => ?_) (fun h => ?_)
    · simp [*] at h
    clear h
    repeat (first | refine AW.seq ?_ | refine AW.block ?_ | (refine AW.reg mix ?_; simp (implicitDefEqProofs := false) [-Bool.exists_bool]; try simp (disch := omega) only [w64, wu64]) | (refine need.of (by first | omega | kernel_rfl) ?_) | (refine AW.fin ?_; try simp (implicitDefEqProofs := false) [-Bool.exists_bool]))
    refine CallS.o1 0 (hh) ?_
    (try (simp (implicitDefEqProofs := false) [-Bool.exists_bool]; try simp (disch := omega) only [w64, wu64]))
    repeat (first | refine AW.seq ?_ | refine AW.block ?_ | (refine AW.reg mix ?_; simp (implicitDefEqProofs := false) [-Bool.exists_bool]; try simp (disch := omega) only [w64, wu64]) | (refine need.of (by first | omega | kernel_rfl) ?_) | (refine AW.fin ?_; try simp (implicitDefEqProofs := false) [-Bool.exists_bool]))
  · rw [stepM, if_neg h]
    refine AW.cond rfl (fun h => ?_) (fun h => ?_)
    · repeat (first | refine AW.seq ?_ | refine AW.block ?_ | (refine AW.reg mix ?_; simp (implicitDefEqProofs := false) [-Bool.exists_bool]; try simp (disch := omega) only [w64, wu64]) | (refine need.of (by first | omega | kernel_rfl) ?_) | (refine AW.fin ?_; try simp (implicitDefEqProofs := false) [-Bool.exists_bool]))
    · simp [*] at h
end
end Go.Proofs.YtdbfenhaljmbfaaGreat.Am
namespace Go.Proofs.YtdbfenhaljmbfaaGreat.Am
section
set_option linter.unusedVariables false
set_option linter.unusedSimpArgs false
open Go.RowKit
set_option maxRecDepth 100000
set_option linter.unusedSimpArgs false
set_option linter.unusedVariables false

theorem meth_mgood : MethOK Tryz.prog 206 "tallymark/chain.good" n_chain_aMorris_good := fun v w => by kernel_rfl
theorem meth_fgood : MethOK Tryz.prog 207 "tallymark/chain.good" n_chain_aFloat_good := fun v w => by kernel_rfl
theorem meth_ygood : MethOK Tryz.prog 208 "tallymark/chain.good" n_chain_aYu_good := fun v w => by kernel_rfl
theorem meth_mstep : MethOK Tryz.prog 206 "tallymark/chain.step" n_chain_aMorris_step := fun v w => by kernel_rfl
theorem meth_fstep : MethOK Tryz.prog 207 "tallymark/chain.step" n_chain_aFloat_step := fun v w => by kernel_rfl
theorem meth_ystep : MethOK Tryz.prog 208 "tallymark/chain.step" n_chain_aYu_step := fun v w => by kernel_rfl

theorem cmgood_ok (a : Int) : Eqn Tryz.prog n_chain_aMorris_good [.d (.int .i64 a)] [] (.d (.bool (decide (1 ≤ a ∧ a ≤ 4096)))) [] := by
  refine Eqn.pure r_chain_aMorris_good (plain_d _) ?_
  simp only [c_chain_aMorris_good]
  repeat (first | refine AW.seq ?_ | refine AW.block ?_ | (refine AW.reg mix ?_; simp (implicitDefEqProofs := false); try simp (disch := omega) only [w64, wu64]) | (refine need.of (by first | omega | kernel_rfl) ?_) | (refine AW.fin ?_; try simp (implicitDefEqProofs := false)))
  refine CallS.pu (mgood_ok a) ?_
  (try (simp (implicitDefEqProofs := false); try simp (disch := omega) only [w64, wu64]))
  repeat (first | refine AW.seq ?_ | refine AW.block ?_ | (refine AW.reg mix ?_; simp (implicitDefEqProofs := false); try simp (disch := omega) only [w64, wu64]) | (refine need.of (by first | omega | kernel_rfl) ?_) | (refine AW.fin ?_; try simp (implicitDefEqProofs := false)))
theorem cfgood_ok (a : Int) : Eqn Tryz.prog n_chain_aFloat_good [.d (.int .i64 a)] [] (.d (.bool (decide (0 ≤ a ∧ a ≤ 8)))) [] := by
  refine Eqn.pure r_chain_aFloat_good (plain_d _) ?_
  simp only [c_chain_aFloat_good]
  repeat (first | refine AW.seq ?_ | refine AW.block ?_ | (refine AW.reg mix ?_; simp (implicitDefEqProofs := false); try simp (disch := omega) only [w64, wu64]) | (refine need.of (by first | omega | kernel_rfl) ?_) | (refine AW.fin ?_; try simp (implicitDefEqProofs := false)))
  refine CallS.pu (good_ok a) ?_
  (try (simp (implicitDefEqProofs := false); try simp (disch := omega) only [w64, wu64]))
  repeat (first | refine AW.seq ?_ | refine AW.block ?_ | (refine AW.reg mix ?_; simp (implicitDefEqProofs := false); try simp (disch := omega) only [w64, wu64]) | (refine need.of (by first | omega | kernel_rfl) ?_) | (refine AW.fin ?_; try simp (implicitDefEqProofs := false)))

/-- what a kind does -/
def kindD (k a : Int) : D := if k = 1 then .ifc 206 (.int .i64 a) else if k = 2 then .ifc 207 (.int .i64 a) else if k = 3 then .ifc 208 (.int .i64 a) else .nilifc
theorem kind_ok (k a w : Int) : Eqn Tryz.prog n_chain_Param_kind [.d (.agg [.int .i64 k, .int .i64 a, .int .i64 w])] [] (.d (kindD k a)) [] := by
  refine Eqn.pure r_chain_Param_kind (plain_d _) ?_
  simp only [c_chain_Param_kind, kindD]
  repeat (first | refine AW.seq ?_ | refine AW.block ?_ | (refine AW.reg mix ?_; simp (implicitDefEqProofs := false); try simp (disch := omega) only [w64, wu64]) | (refine need.of (by first | omega | kernel_rfl) ?_) | (refine AW.fin ?_; try simp (implicitDefEqProofs := false)))
  refine AW.cond rfl (fun h => ?_) (fun h => ?_)
  · have hk : k = 1 := by simpa using h
    subst hk
    repeat (first | refine AW.seq ?_ | refine AW.block ?_ | (refine AW.reg mix ?_; simp (implicitDefEqProofs := false); try simp (disch := omega) only [w64, wu64]) | (refine need.of (by first | omega | kernel_rfl) ?_) | (refine AW.fin ?_; try simp (implicitDefEqProofs := false)))
  have h1 : ¬ k = 1 := by simpa using h
  clear h
  repeat (first | refine AW.seq ?_ | refine AW.block ?_ | (refine AW.reg mix ?_; simp (implicitDefEqProofs := false) [h1]; try simp (disch := omega) only [w64, wu64]) | (refine need.of (by first | omega | kernel_rfl) ?_) | (refine AW.fin ?_; try simp (implicitDefEqProofs := false) [h1]))
  refine AW.cond rfl (fun h => ?_) (fun h => ?_)
  · have hk : k = 2 := by simpa using h
    subst hk
    repeat (first | refine AW.seq ?_ | refine AW.block ?_ | (refine AW.reg mix ?_; simp (implicitDefEqProofs := false); try simp (disch := omega) only [w64, wu64]) | (refine need.of (by first | omega | kernel_rfl) ?_) | (refine AW.fin ?_; try simp (implicitDefEqProofs := false)))
  have h2 : ¬ k = 2 := by simpa using h
  clear h
  repeat (first | refine AW.seq ?_ | refine AW.block ?_ | (refine AW.reg mix ?_; simp (implicitDefEqProofs := false) [h1, h2]; try simp (disch := omega) only [w64, wu64]) | (refine need.of (by first | omega | kernel_rfl) ?_) | (refine AW.fin ?_; try simp (implicitDefEqProofs := false) [h1, h2]))
  refine AW.cond rfl (fun h => ?_) (fun h => ?_)
  · have hk : k = 3 := by simpa using h
    subst hk
    repeat (first | refine AW.seq ?_ | refine AW.block ?_ | (refine AW.reg mix ?_; simp (implicitDefEqProofs := false); try simp (disch := omega) only [w64, wu64]) | (refine need.of (by first | omega | kernel_rfl) ?_) | (refine AW.fin ?_; try simp (implicitDefEqProofs := false)))
  have h3 : ¬ k = 3 := by simpa using h
  clear h
  repeat (first | refine AW.seq ?_ | refine AW.block ?_ | (refine AW.reg mix ?_; simp (implicitDefEqProofs := false) [h1, h2, h3]; try simp (disch := omega) only [w64, wu64]) | (refine need.of (by first | omega | kernel_rfl) ?_) | (refine AW.fin ?_; try simp (implicitDefEqProofs := false) [h1, h2, h3]))
end
end Go.Proofs.YtdbfenhaljmbfaaGreat.Am
namespace Go.Proofs.YtdbfenhaljmbfaaGreat.Am
section
set_option linter.unusedVariables false
set_option linter.unusedSimpArgs false
/-- how many bits -/
def bitsN (n : Nat) : Nat := if n = 0 then 0 else Nat.log2 n + 1
theorem lt_bitsN (n : Nat) : n < 2 ^ bitsN n := by
  unfold bitsN
  split
  · omega
  · exact Nat.lt_log2_self
theorem bitsN_le {n k : Nat} (h : n < 2 ^ k) : bitsN n ≤ k := by
  unfold bitsN
  split
  · omega
  · rename_i h0
    have := (Nat.log2_lt h0).2 h
    omega
/-- the next block's number -/
def moreY (s t : Nat) : Nat := t + (if t / 2 ^ s * 2 ^ s < t then t / 2 ^ s + 1 else t / 2 ^ s)
def shiftY (s t : Nat) : Nat := bitsN t - 1 - 2 * s
structure Pl where
  x : Nat
  shift : Nat
  value : Nat
  reply : Nat
def nextY (s : Nat) (p : Pl) : Pl := if p.reply ≤ p.value + 2 ^ p.shift then ⟨p.x + 1, shiftY s (moreY s p.reply), p.value + 2 ^ p.shift, moreY s p.reply⟩ else ⟨p.x, p.shift, p.value + 2 ^ p.shift, p.reply⟩
def placeY (s : Nat) : Nat → Pl
  | 0 => ⟨0, 0, 0, 2 ^ (2 * s)⟩
  | k + 1 => nextY s (placeY s k)

theorem bitsN_div {n k : Nat} (h : 2 ^ k ≤ n) : bitsN n = k + bitsN (n / 2 ^ k) := by
  have hp := Nat.two_pow_pos k
  have hq : 0 < n / 2 ^ k := Nat.div_pos h hp
  have h1 := lt_bitsN (n / 2 ^ k)
  have h2 : 2 ^ (bitsN (n / 2 ^ k) - 1) ≤ n / 2 ^ k := by
    unfold bitsN
    rw [if_neg (by omega), Nat.add_sub_cancel]
    exact Nat.log2_self_le (by omega)
  have h3 : 0 < bitsN (n / 2 ^ k) := by unfold bitsN; rw [if_neg (by omega)]; omega
  apply Nat.le_antisymm
  · apply bitsN_le
    rw [Nat.pow_add, Nat.mul_comm]
    exact (Nat.div_lt_iff_lt_mul hp).1 h1
  · apply Nat.le_of_not_lt
    intro hlt
    have h4 := lt_bitsN n
    have h5 : 2 ^ bitsN n ≤ 2 ^ (k + (bitsN (n / 2 ^ k) - 1)) := Nat.pow_le_pow_right (by omega) (by omega)
    rw [Nat.pow_add] at h5
    have h6 : 2 ^ k * 2 ^ (bitsN (n / 2 ^ k) - 1) ≤ n := by
      rw [Nat.mul_comm]; exact Nat.le_trans (Nat.mul_le_mul_right _ h2) (Nat.div_mul_le_self _ _)
    omega
theorem moreY_le {s t : Nat} (hs : 1 ≤ s) (ht : 2 ≤ t) : moreY s t ≤ 2 * t := by
  unfold moreY
  have h2 : 2 ≤ 2 ^ s := by
    calc 2 = 2 ^ 1 := by decide
      _ ≤ 2 ^ s := Nat.pow_le_pow_right (by decide) hs
  have h1 : t / 2 ^ s ≤ t / 2 := Nat.div_le_div_left h2 (by decide)
  split <;> omega

theorem placeY_le {s : Nat} (hs : 1 ≤ s) : ∀ k, 4 ≤ (placeY s k).reply ∧ (placeY s k).reply ≤ 2 ^ (2 * s + k) ∧ (placeY s k).shift ≤ 2 * s + k ∧ (placeY s k).value ≤ k * 2 ^ (2 * s + k) ∧ (placeY s k).x ≤ k := by
  intro k
  induction k with
  | zero =>
    simp only [placeY]
    have : 2 ^ 2 ≤ 2 ^ (2 * s) := Nat.pow_le_pow_right (by decide) (by omega)
    rw [Nat.add_zero]
    omega
  | succ k ih =>
    obtain ⟨h1, h2, h3, h4, h5⟩ := ih
    have hp : 2 ^ (2 * s + (k + 1)) = 2 * 2 ^ (2 * s + k) := by rw [show 2 * s + (k + 1) = 2 * s + k + 1 by omega, Nat.pow_succ]; omega
    have hm := moreY_le hs (show 2 ≤ (placeY s k).reply by omega)
    have hm4 : (placeY s k).reply ≤ moreY s (placeY s k).reply := by unfold moreY; omega
    have hsh : 2 ^ (placeY s k).shift ≤ 2 ^ (2 * s + k) := Nat.pow_le_pow_right (by decide) h3
    have hv : (placeY s k).value + 2 ^ (placeY s k).shift ≤ (k + 1) * 2 ^ (2 * s + (k + 1)) := by
      rw [hp, Nat.add_mul, Nat.one_mul, Nat.mul_left_comm]
      generalize 2 ^ (2 * s + k) = P at *
      generalize k * P = Q at *
      omega
    have hb : bitsN (moreY s (placeY s k).reply) ≤ 2 * s + (k + 1) + 1 := bitsN_le (by
      rw [Nat.pow_succ, hp]
      have : 0 < 2 ^ (2 * s + k) := Nat.pow_pos (by decide)
      omega)
    simp only [placeY, nextY]
    split
    · refine ⟨by simp only; omega, by simp only; omega, ?_, hv, by simp only; omega⟩
      simp only [shiftY]
      omega
    · refine ⟨by simp only; omega, by simp only; omega, by simp only; omega, hv, by simp only; omega⟩
end
end Go.Proofs.YtdbfenhaljmbfaaGreat.Am
namespace Go.Proofs.YtdbfenhaljmbfaaGreat.Am
section
set_option linter.unusedVariables false
set_option linter.unusedSimpArgs false
set_option maxRecDepth 10000
set_option linter.unusedVariables false

/-- words moved down by less than a word -/
def shrL (k : Nat) : List Nat → List Nat
  | [] => []
  | x :: l => (x / 2 ^ k + l.getD 0 0 * 2 ^ (64 - k) % 18446744073709551616) :: shrL k l
theorem shrL_len (k : Nat) : ∀ l, (shrL k l).length = l.length
  | [] => rfl
  | x :: l => by simp [shrL, shrL_len k l]
theorem wval_head : ∀ l : List Nat, small l → wval l % 18446744073709551616 = l.getD 0 0
  | [], _ => rfl
  | x :: l, h => by
    have := h x (by simp)
    simp only [wval, List.getD_cons_zero]
    omega
theorem shrL_val {k : Nat} (hk : k < 64) : ∀ l : List Nat, small l → wval (shrL k l) = wval l / 2 ^ k ∧ small (shrL k l)
  | [], _ => ⟨by simp [shrL, wval], by simp [shrL, small]⟩
  | x :: l, h => by
    have hl : small l := fun y hy => h y (by simp [hy])
    obtain ⟨h1, h2⟩ := shrL_val hk l hl
    have hx := h x (by simp)
    have hhd := wval_head l hl
    have hB : (18446744073709551616 : Nat) = 2 ^ k * 2 ^ (64 - k) := by rw [← Nat.pow_add, show k + (64 - k) = 64 by omega]
    have hp := Nat.two_pow_pos k
    have hp' := Nat.two_pow_pos (64 - k)
    -- the part that comes from above
    have h3 : l.getD 0 0 * 2 ^ (64 - k) % 18446744073709551616 = wval l % 2 ^ k * 2 ^ (64 - k) := by
      rw [hB, Nat.mul_mod_mul_right, ← hhd]
      congr 1
      rw [hB, Nat.mod_mul_right_mod]
    have h4 : wval (x :: l) / 2 ^ k = x / 2 ^ k + 2 ^ (64 - k) * wval l := by
      rw [wval]
      conv => lhs; rw [hB]
      rw [Nat.mul_assoc, Nat.add_mul_div_left _ _ hp]
    have h5 : 2 ^ (64 - k) * wval l = 18446744073709551616 * (wval l / 2 ^ k) + wval l % 2 ^ k * 2 ^ (64 - k) := by
      conv => lhs; rw [← Nat.div_add_mod (wval l) (2 ^ k)]
      rw [Nat.mul_add, ← Nat.mul_assoc, Nat.mul_comm (2 ^ (64 - k)) (2 ^ k), ← hB, Nat.mul_comm (2 ^ (64 - k))]
    have h6 : x / 2 ^ k < 2 ^ (64 - k) := by
      rw [Nat.div_lt_iff_lt_mul hp, Nat.mul_comm, ← hB]; exact hx
    have h7 : wval l % 2 ^ k * 2 ^ (64 - k) + 2 ^ (64 - k) ≤ 18446744073709551616 := by
      have := Nat.mul_le_mul_right (2 ^ (64 - k)) (Nat.succ_le_of_lt (Nat.mod_lt (wval l) hp))
      rw [Nat.succ_mul, ← hB] at this
      exact this
    refine ⟨?_, ?_⟩
    · rw [h4, h5, shrL, wval, h1, h3]
      omega
    · intro y hy
      rw [shrL, List.mem_cons] at hy
      rcases hy with rfl | hy
      · rw [h3]; omega
      · exact h2 y hy
theorem wval_drop : ∀ (q : Nat) (l : List Nat), small l → wval (l.drop q) = wval l / 18446744073709551616 ^ q
  | 0, l, _ => by simp
  | q + 1, [], _ => by simp [wval]
  | q + 1, x :: l, h => by
    have hx := h x (by simp)
    rw [List.drop_succ_cons, wval_drop q l (fun y hy => h y (by simp [hy])), wval, Nat.pow_succ, Nat.mul_comm (18446744073709551616 ^ q), ← Nat.div_div_eq_div_mul]
    congr 1
    omega
end
end Go.Proofs.YtdbfenhaljmbfaaGreat.Am
namespace Go.Proofs.YtdbfenhaljmbfaaGreat.Am
section
set_option linter.unusedVariables false
set_option linter.unusedSimpArgs false
open Go.RowKit
set_option maxRecDepth 100000
set_option linter.unusedSimpArgs false
set_option linter.unusedVariables false

theorem lenTab_ok : ∀ i : Nat, i < 256 → (([0, 1, 2, 2, 3, 3, 3, 3, 4, 4, 4, 4, 4, 4, 4, 4, 5, 5, 5, 5, 5, 5, 5, 5, 5, 5, 5, 5, 5, 5, 5, 5, 6, 6, 6, 6, 6, 6, 6, 6, 6, 6, 6, 6, 6, 6, 6, 6, 6, 6, 6, 6, 6, 6, 6, 6, 6, 6, 6, 6, 6, 6, 6, 6, 7, 7, 7, 7, 7, 7, 7, 7, 7, 7, 7, 7, 7, 7, 7, 7, 7, 7, 7, 7, 7, 7, 7, 7, 7, 7, 7, 7, 7, 7, 7, 7, 7, 7, 7, 7, 7, 7, 7, 7, 7, 7, 7, 7, 7, 7, 7, 7, 7, 7, 7, 7, 7, 7, 7, 7, 7, 7, 7, 7, 7, 7, 7, 7, 8, 8, 8, 8, 8, 8, 8, 8, 8, 8, 8, 8, 8, 8, 8, 8, 8, 8, 8, 8, 8, 8, 8, 8, 8, 8, 8, 8, 8, 8, 8, 8, 8, 8, 8, 8, 8, 8, 8, 8, 8, 8, 8, 8, 8, 8, 8, 8, 8, 8, 8, 8, 8, 8, 8, 8, 8, 8, 8, 8, 8, 8, 8, 8, 8, 8, 8, 8, 8, 8, 8, 8, 8, 8, 8, 8, 8, 8, 8, 8, 8, 8, 8, 8, 8, 8, 8, 8, 8, 8, 8, 8, 8, 8, 8, 8, 8, 8, 8, 8, 8, 8, 8, 8, 8, 8, 8, 8, 8, 8, 8, 8, 8, 8, 8, 8, 8, 8, 8, 8, 8, 8, 8, 8, 8, 8, 8, 8] : List UInt8)[i]?.getD 0).toNat = bitsN i := by
  have h : ((List.range 256).all fun i => (([0, 1, 2, 2, 3, 3, 3, 3, 4, 4, 4, 4, 4, 4, 4, 4, 5, 5, 5, 5, 5, 5, 5, 5, 5, 5, 5, 5, 5, 5, 5, 5, 6, 6, 6, 6, 6, 6, 6, 6, 6, 6, 6, 6, 6, 6, 6, 6, 6, 6, 6, 6, 6, 6, 6, 6, 6, 6, 6, 6, 6, 6, 6, 6, 7, 7, 7, 7, 7, 7, 7, 7, 7, 7, 7, 7, 7, 7, 7, 7, 7, 7, 7, 7, 7, 7, 7, 7, 7, 7, 7, 7, 7, 7, 7, 7, 7, 7, 7, 7, 7, 7, 7, 7, 7, 7, 7, 7, 7, 7, 7, 7, 7, 7, 7, 7, 7, 7, 7, 7, 7, 7, 7, 7, 7, 7, 7, 7, 8, 8, 8, 8, 8, 8, 8, 8, 8, 8, 8, 8, 8, 8, 8, 8, 8, 8, 8, 8, 8, 8, 8, 8, 8, 8, 8, 8, 8, 8, 8, 8, 8, 8, 8, 8, 8, 8, 8, 8, 8, 8, 8, 8, 8, 8, 8, 8, 8, 8, 8, 8, 8, 8, 8, 8, 8, 8, 8, 8, 8, 8, 8, 8, 8, 8, 8, 8, 8, 8, 8, 8, 8, 8, 8, 8, 8, 8, 8, 8, 8, 8, 8, 8, 8, 8, 8, 8, 8, 8, 8, 8, 8, 8, 8, 8, 8, 8, 8, 8, 8, 8, 8, 8, 8, 8, 8, 8, 8, 8, 8, 8, 8, 8, 8, 8, 8, 8, 8, 8, 8, 8, 8, 8, 8, 8, 8, 8] : List UInt8)[i]?.getD 0).toNat == bitsN i) = true := by kernel_rfl
  intro i hi
  have := List.all_eq_true.1 h i (List.mem_range.2 hi)
  exact eq_of_beq this

set_option maxHeartbeats 1000000 in
theorem len64_ok (x : Nat) (hx : x < 18446744073709551616) : Eqn Tryz.prog n_math_bits_Len64 [.d (.int .u64 x)] [] (.d (.int .i64 (bitsN x))) [] := by
  refine Eqn.pure r_math_bits_Len64 (plain_d _) ?_
  simp only [c_math_bits_Len64]
  obtain ⟨x1, n1, h1, hx1, hn1, e1⟩ : ∃ x1 n1 : Nat, (x1, n1) = (if 4294967296 ≤ x then (x / 4294967296, 32) else (x, 0)) ∧ x1 < 4294967296 ∧ n1 ≤ 32 ∧ bitsN x = n1 + bitsN x1 := by
    by_cases h : 4294967296 ≤ x
    · exact ⟨x / 4294967296, 32, by rw [if_pos h], by omega, by omega, bitsN_div (k := 32) h⟩
    · exact ⟨x, 0, by rw [if_neg h], by omega, by omega, by omega⟩
  obtain ⟨x2, n2, h2, hx2, hn2, e2⟩ : ∃ x2 n2 : Nat, (x2, n2) = (if 65536 ≤ x1 then (x1 / 65536, n1 + 16) else (x1, n1)) ∧ x2 < 65536 ∧ n2 ≤ 48 ∧ bitsN x = n2 + bitsN x2 := by
    by_cases h : 65536 ≤ x1
    · exact ⟨x1 / 65536, n1 + 16, by rw [if_pos h], by omega, by omega, by have := bitsN_div (k := 16) h; rw [e1, this]; simp; omega⟩
    · exact ⟨x1, n1, by rw [if_neg h], by omega, by omega, by omega⟩
  obtain ⟨x3, n3, h3, hx3, hn3, e3⟩ : ∃ x3 n3 : Nat, (x3, n3) = (if 256 ≤ x2 then (x2 / 256, n2 + 8) else (x2, n2)) ∧ x3 < 256 ∧ n3 ≤ 56 ∧ bitsN x = n3 + bitsN x3 := by
    by_cases h : 256 ≤ x2
    · exact ⟨x2 / 256, n2 + 8, by rw [if_pos h], by omega, by omega, by have := bitsN_div (k := 8) h; rw [e2, this]; simp; omega⟩
    · exact ⟨x2, n2, by rw [if_neg h], by omega, by omega, by omega⟩
  rw [e3]
  clear e1 e2 e3
  refine AW.seq (AW.reg mix ?_)
  (simp (implicitDefEqProofs := false); try simp (disch := omega) only [w64, wu64])
  refine AW.cut 0 [(0, .d (.int .u64 x1)), (2, .d (.int .i64 n1))] [] (by simp) (by simp) ?_ ?_
  · have hd : (x : Int) / 4294967296 = (x / 4294967296 : Nat) := rfl
    repeat (first | refine AW.seq ?_ | refine AW.block ?_ | (refine AW.reg mix ?_; simp (implicitDefEqProofs := false); try simp (disch := omega) only [w64, wu64]) | (refine need.of (by first | omega | kernel_rfl) ?_) | (refine AW.fin ?_; try simp (implicitDefEqProofs := false)))
    refine AW.cond rfl (fun h => ?_) (fun h => ?_)
    · rw [if_pos (by simp at h; omega)] at h1
      cases h1
      generalize x / 4294967296 = q at *
      repeat (first | refine AW.seq ?_ | refine AW.block ?_ | (refine AW.reg mix ?_; simp (implicitDefEqProofs := false) [hd]; try simp (disch := omega) only [w64, wu64]) | (refine need.of (by first | omega | kernel_rfl) ?_) | (refine AW.fin ?_; try simp (implicitDefEqProofs := false) [hd]))
    · rw [if_neg (by simp at h; omega)] at h1
      cases h1
      repeat (first | refine AW.seq ?_ | refine AW.block ?_ | (refine AW.reg mix ?_; simp (implicitDefEqProofs := false); try simp (disch := omega) only [w64, wu64]) | (refine need.of (by first | omega | kernel_rfl) ?_) | (refine AW.fin ?_; try simp (implicitDefEqProofs := false)))
  clear h1 hx
  simp
  refine AW.cut 0 [(0, .d (.int .u64 x2)), (2, .d (.int .i64 n2))] [] (by simp) (by simp) ?_ ?_
  · have hd : (x1 : Int) / 65536 = (x1 / 65536 : Nat) := rfl
    have ew : IntKind.i64.wrap ((n1 : Int) + 16) = ((n1 + 16 : Nat) : Int) := w64 (by omega) (by omega)
    repeat (first | refine AW.seq ?_ | refine AW.block ?_ | (refine AW.reg mix ?_; simp (implicitDefEqProofs := false); try simp (disch := omega) only [w64, wu64]) | (refine need.of (by first | omega | kernel_rfl) ?_) | (refine AW.fin ?_; try simp (implicitDefEqProofs := false)))
    refine AW.cond rfl (fun h => ?_) (fun h => ?_)
    · rw [if_pos (by simp at h; omega)] at h2
      cases h2
      generalize x1 / 65536 = q at *
      repeat (first | refine AW.seq ?_ | refine AW.block ?_ | (refine AW.reg mix ?_; simp (implicitDefEqProofs := false) [hd, ew]; try simp (disch := omega) only [w64, wu64]) | (refine need.of (by first | omega | kernel_rfl) ?_) | (refine AW.fin ?_; try simp (implicitDefEqProofs := false) [hd, ew]))
    · rw [if_neg (by simp at h; omega)] at h2
      cases h2
      repeat (first | refine AW.seq ?_ | refine AW.block ?_ | (refine AW.reg mix ?_; simp (implicitDefEqProofs := false); try simp (disch := omega) only [w64, wu64]) | (refine need.of (by first | omega | kernel_rfl) ?_) | (refine AW.fin ?_; try simp (implicitDefEqProofs := false)))
  clear h2 hx1 hn1
  simp
  refine AW.cut 0 [(0, .d (.int .u64 x3)), (2, .d (.int .i64 n3))] [] (by simp) (by simp) ?_ ?_
  · have hd : (x2 : Int) / 256 = (x2 / 256 : Nat) := rfl
    have ew : IntKind.i64.wrap ((n2 : Int) + 8) = ((n2 + 8 : Nat) : Int) := w64 (by omega) (by omega)
    repeat (first | refine AW.seq ?_ | refine AW.block ?_ | (refine AW.reg mix ?_; simp (implicitDefEqProofs := false); try simp (disch := omega) only [w64, wu64]) | (refine need.of (by first | omega | kernel_rfl) ?_) | (refine AW.fin ?_; try simp (implicitDefEqProofs := false)))
    refine AW.cond rfl (fun h => ?_) (fun h => ?_)
    · rw [if_pos (by simp at h; omega)] at h3
      cases h3
      generalize x2 / 256 = q at *
      repeat (first | refine AW.seq ?_ | refine AW.block ?_ | (refine AW.reg mix ?_; simp (implicitDefEqProofs := false) [hd, ew]; try simp (disch := omega) only [w64, wu64]) | (refine need.of (by first | omega | kernel_rfl) ?_) | (refine AW.fin ?_; try simp (implicitDefEqProofs := false) [hd, ew]))
    · rw [if_neg (by simp at h; omega)] at h3
      cases h3
      repeat (first | refine AW.seq ?_ | refine AW.block ?_ | (refine AW.reg mix ?_; simp (implicitDefEqProofs := false); try simp (disch := omega) only [w64, wu64]) | (refine need.of (by first | omega | kernel_rfl) ?_) | (refine AW.fin ?_; try simp (implicitDefEqProofs := false)))
  clear h3 hx2 hn2
  simp
  have ew1 : IntKind.u8.wrap (x3 : Int) = x3 := by rw [show IntKind.u8.wrap (x3 : Int) = (x3 : Int) % 256 from rfl]; omega
  have hb := lenTab_ok x3 hx3
  have hB : bitsN x3 ≤ 8 := bitsN_le (by omega)
  have ew2 : IntKind.i64.wrap (bitsN x3 : Int) = bitsN x3 := w64 (by omega) (by omega)
  have ew3 : IntKind.i64.wrap ((n3 : Int) + bitsN x3) = (n3 : Int) + bitsN x3 := w64 (by omega) (by omega)
  refine AW.seq (AW.reg mix ?_)
  simp [ew1, hb, ew2, ew3]
  refine need.of (Nat.lt_of_lt_of_le hx3 (by decide)) ?_
  repeat (first | refine AW.seq ?_ | refine AW.block ?_ | (refine AW.reg mix ?_; simp (implicitDefEqProofs := false); try simp (disch := omega) only [w64, wu64]) | (refine need.of (by first | omega | kernel_rfl) ?_) | (refine AW.fin ?_; try simp (implicitDefEqProofs := false)))

theorem wval_snoc_bits {l : List Nat} {x : Nat} (hs : small l) (h0 : 0 < x) : bitsN (wval (l ++ [x])) = 64 * l.length + bitsN x := by
  have hp : (18446744073709551616 : Nat) ^ l.length = 2 ^ (64 * l.length) := by rw [show (18446744073709551616 : Nat) = 2 ^ 64 by rfl, ← Nat.pow_mul]
  have hlt := wval_lt hs
  have hv : wval (l ++ [x]) = wval l + 2 ^ (64 * l.length) * x := by rw [wval_append, hp]; simp [wval]
  rw [hp] at hlt
  rw [hv, bitsN_div (k := 64 * l.length) (by have := Nat.le_mul_of_pos_right (2 ^ (64 * l.length)) h0; omega), Nat.add_mul_div_left _ _ (Nat.two_pow_pos _), Nat.div_eq_of_lt hlt, Nat.zero_add]

theorem bits_ok (n : Nat) (hn : size n ≤ 1000000) : Eqn Tryz.prog n_nat_Nat_Bits [.d (.agg [natW n])] [] (.d (.int .i64 (bitsN n))) [] := by
  refine Eqn.pure r_nat_Nat_Bits (plain_d _) ?_
  simp only [c_nat_Nat_Bits, natW, W]
  unfold size at hn
  have hs := words_small n
  have ht := words_top n
  have hv := words_val n
  generalize words n = ws at *
  rcases List.eq_nil_or_concat ws with rfl | ⟨l, x, rfl⟩
  · repeat (first | refine AW.seq ?_ | refine AW.block ?_ | (refine AW.reg mix ?_; simp (implicitDefEqProofs := false); try simp (disch := omega) only [w64, wu64]) | (refine need.of (by first | omega | kernel_rfl) ?_) | (refine AW.fin ?_; try simp (implicitDefEqProofs := false)))
    refine AW.cond rfl (fun h => ?_) (fun h => ?_)
    · repeat (first | refine AW.seq ?_ | refine AW.block ?_ | (refine AW.reg mix ?_; simp (implicitDefEqProofs := false); try simp (disch := omega) only [w64, wu64]) | (refine need.of (by first | omega | kernel_rfl) ?_) | (refine AW.fin ?_; try simp (implicitDefEqProofs := false)))
      rw [← hv]
      exact Sub1.refl _
    · simp at h
  · rw [List.concat_eq_append] at *
    have hx0 : 0 < x := by
      have := ht l.length (by simp)
      simp [List.getD] at this
      omega
    have hx : x < 18446744073709551616 := hs x (by simp)
    have hb := wval_snoc_bits (l := l) (x := x) (fun y hy => hs y (by simp [hy])) hx0
    rw [hv] at hb
    have hB : bitsN x ≤ 64 := bitsN_le (by omega)
    have hll : l.length ≤ 1000000 := by simp at hn; omega
    have e1 : IntKind.i64.wrap ((l.length : Int) + 1 - 1) = (l.length : Int) := by rw [Int.add_sub_cancel]; exact w64 (by omega) (by omega)
    have e2 : IntKind.i64.wrap ((64 : Int) * l.length) = ((64 * l.length : Nat) : Int) := w64 (by omega) (by omega)
    have e0 : IntKind.i64.wrap (l.length : Int) = (l.length : Int) := w64 (by omega) (by omega)
    have hne : ¬ (l.length : Int) + 1 = 0 := by omega
    repeat (first | refine AW.seq ?_ | refine AW.block ?_ | (refine AW.reg mix ?_; simp (implicitDefEqProofs := false) [hne, e1, e2, e0]; try simp (disch := omega) only [w64, wu64]) | (refine need.of (by first | omega | kernel_rfl) ?_) | (refine AW.fin ?_; try simp (implicitDefEqProofs := false) [hne, e1, e2, e0]))
    refine AW.cond rfl (fun h => ?_) (fun h => ?_)
    · simp at h
      omega
    rw [hb]
    have e3 : IntKind.i64.wrap (((64 * l.length : Nat) : Int) + bitsN x) = ((64 * l.length + bitsN x : Nat) : Int) := w64 (by omega) (by omega)
    generalize 64 * l.length = q at *
    repeat (first | refine AW.seq ?_ | refine AW.block ?_ | (refine AW.reg mix ?_; simp (implicitDefEqProofs := false) [hne, e1, e2, e0]; try simp (disch := omega) only [w64, wu64]) | (refine need.of (by first | omega | kernel_rfl) ?_) | (refine AW.fin ?_; try simp (implicitDefEqProofs := false) [hne, e1, e2, e0]))
    refine CallS.pu (len64_ok x hx) ?_
    (try (simp (implicitDefEqProofs := false) [e3]; try simp (disch := omega) only [w64, wu64]))
    repeat (first | refine AW.seq ?_ | refine AW.block ?_ | (refine AW.reg mix ?_; simp (implicitDefEqProofs := false) [e3]; try simp (disch := omega) only [w64, wu64]) | (refine need.of (by first | omega | kernel_rfl) ?_) | (refine AW.fin ?_; try simp (implicitDefEqProofs := false) [e3]))

theorem clone64_own (n : Nat) (l : List D) (hl : l.length = n) (h0 : 0 < n) (hn : n ≤ 4000000000) : Eqn Tryz.prog n_slices_Clone_uint64_uint64 [.d (.sl n l)] [] (.own 0 1 n) [⟨80, l.map .d⟩] := by
  refine Eqn.newX r_slices_Clone_uint64_uint64 rfl (plainL_d _) (fun n => rfl) ?_
  simp only [c_slices_Clone_uint64_uint64]
  repeat (first | refine AW.seq ?_ | refine AW.block ?_ | (refine AW.reg mix ?_; simp (implicitDefEqProofs := false) [h0]; try simp (disch := omega) only [w64, wu64]) | (refine need.of (by first | omega | kernel_rfl) ?_) | (refine AW.fin ?_; try simp (implicitDefEqProofs := false) [h0]))
  refine AW.cond rfl (fun h => ?_) (fun h => ?_)
  · simp at h
  · repeat (first | refine AW.seq ?_ | refine AW.block ?_ | (refine AW.reg mix ?_; simp (implicitDefEqProofs := false); try simp (disch := omega) only [w64, wu64]) | (refine need.of (by first | omega | kernel_rfl) ?_) | (refine AW.fin ?_; try simp (implicitDefEqProofs := false)))
    have h1 : ¬ n = 0 := by omega
    simp [h1, hl]
    refine need.of (by omega) ?_
    repeat (first | refine AW.seq ?_ | refine AW.block ?_ | (refine AW.reg mix ?_; simp (implicitDefEqProofs := false); try simp (disch := omega) only [w64, wu64]) | (refine need.of (by first | omega | kernel_rfl) ?_) | (refine AW.fin ?_; try simp (implicitDefEqProofs := false)))
    exact ⟨0, Sub1.refl _, _, rfl, rfl, Subs.refl _⟩

/-- words so far moved down -/
def shrI (k : Nat) (A : List Nat) (i : Nat) : List Nat := (shrL k A).take i ++ A.drop i
theorem shrL_get (k : Nat) : ∀ (A : List Nat) (i : Nat), i < A.length → (shrL k A).getD i 0 = A.getD i 0 / 2 ^ k + A.getD (i + 1) 0 * 2 ^ (64 - k) % 18446744073709551616
  | [], i, h => by simp at h
  | x :: l, 0, h => by simp [shrL]
  | x :: l, i + 1, h => by
    have := shrL_get k l i (by simpa using h)
    simpa [shrL] using this
theorem shrI_len (k : Nat) (A : List Nat) (i : Nat) (h : i ≤ A.length) : (shrI k A i).length = A.length := by
  rw [shrI, List.length_append, List.length_take, shrL_len, List.length_drop]; omega
theorem shrI_get (k : Nat) (A : List Nat) (i j : Nat) (h : i ≤ j) (hj : j < A.length) : (shrI k A i)[j]? = some (A.getD j 0) := by
  rw [shrI, List.getElem?_append_right (by rw [List.length_take, shrL_len]; omega), List.length_take, shrL_len, List.getElem?_drop, show i + (j - min i A.length) = j by omega]
  simp [List.getD, hj]
theorem shrI_set (k : Nat) (A : List Nat) (i : Nat) (h : i < A.length) (y : Nat) (hy : y = (shrL k A).getD i 0) : (shrI k A i).set i y = shrI k A (i + 1) := by
  have hi : ((shrL k A).take i).length = i := by rw [List.length_take, shrL_len]; omega
  rw [shrI, shrI, List.set_append_right _ _ (by omega), hi, Nat.sub_self, take_succ_getD _ _ (by rw [shrL_len]; exact h), ← hy, List.append_assoc]
  congr 1
  rw [List.drop_eq_getElem_cons h]
  rfl
theorem shrI_end (k : Nat) (A : List Nat) : shrI k A A.length = shrL k A := by
  rw [shrI, List.drop_length, List.append_nil, List.take_of_length_le (by rw [shrL_len]; omega)]

theorem or_shr {k x y : Nat} (hk : k < 64) (hx : x < 18446744073709551616) : x / 2 ^ k ||| (y * 2 ^ (64 - k) % 18446744073709551616) = x / 2 ^ k + y * 2 ^ (64 - k) % 18446744073709551616 := by
  have hB : (18446744073709551616 : Nat) = 2 ^ k * 2 ^ (64 - k) := by rw [← Nat.pow_add, show k + (64 - k) = 64 by omega]
  have h6 : x / 2 ^ k < 2 ^ (64 - k) := by
    rw [Nat.div_lt_iff_lt_mul (Nat.two_pow_pos k), Nat.mul_comm, ← hB]; exact hx
  have e : y * 2 ^ (64 - k) % 18446744073709551616 = 2 ^ (64 - k) * (y % 2 ^ k) := by rw [hB, Nat.mul_mod_mul_right, Nat.mul_comm]
  rw [e, Nat.or_comm, ← Nat.two_pow_add_eq_or_of_lt h6, Nat.add_comm]

set_option maxHeartbeats 2000000 in
theorem shr_ok (a n : Nat) (ha : size a ≤ 1000000) (hn : n ≤ 1000000000) : Eqn Tryz.prog n_nat_Shr [.d (.agg [natW a]), .d (.int .i64 n)] [] (.d (.agg [natW (a / 2 ^ n)])) [] := by
  refine Eqn.pure r_nat_Shr (plain_d _) ?_
  simp only [c_nat_Shr]
  rw [show natW a = .sl (words a).length ((words a).map fun x : Nat => .int .u64 x) from rfl]
  unfold size at ha
  have hs := words_small a
  have hv := words_val a
  generalize words a = ws at *
  have hm : max 0 (n : Int) = n := by omega
  have hq : (n : Int) / 64 = (n / 64 : Nat) := rfl
  have hr : (n : Int).tmod 64 = (n % 64 : Nat) := by rw [Int.tmod_eq_emod_of_nonneg (by omega)]; rfl
  have hval : wval (shrL (n % 64) (ws.drop (n / 64))) = a / 2 ^ n ∧ small (shrL (n % 64) (ws.drop (n / 64))) := by
    obtain ⟨h1, h2⟩ := shrL_val (k := n % 64) (by omega) (ws.drop (n / 64)) (fun x hx => hs x (List.mem_of_mem_drop hx))
    refine ⟨?_, h2⟩
    rw [h1, wval_drop _ _ hs, hv, show (18446744073709551616 : Nat) = 2 ^ 64 by rfl, ← Nat.pow_mul, Nat.div_div_eq_div_mul, ← Nat.pow_add, Nat.div_add_mod]
  have hmk : n % 64 < 64 := by omega
  have hqn : n / 64 ≤ n := Nat.div_le_self _ _
  generalize hk : n % 64 = k at *
  generalize n / 64 = q at *
  repeat (first | refine AW.seq ?_ | refine AW.block ?_ | (refine AW.reg mix ?_; simp (implicitDefEqProofs := false) [hm, hq]; try simp (disch := omega) only [w64, wu64]) | (refine need.of (by first | omega | kernel_rfl) ?_) | (refine AW.fin ?_; try simp (implicitDefEqProofs := false) [hm, hq]))
  refine AW.cond rfl (fun h => ?_) (fun h => ?_)
  · have hlen : ws.length ≤ q := by simp at h; omega
    repeat (first | refine AW.seq ?_ | refine AW.block ?_ | (refine AW.reg mix ?_; simp (implicitDefEqProofs := false); try simp (disch := omega) only [w64, wu64]) | (refine need.of (by first | omega | kernel_rfl) ?_) | (refine AW.fin ?_; try simp (implicitDefEqProofs := false)))
    rw [List.drop_of_length_le hlen] at hval
    rw [← hval.1]
    exact Sub1.nat0
  · have hlt : q < ws.length := by simp at h; omega
    have hlt' : (q : Int) < ws.length := by omega
    have hb1 : ((ws.length : Int) - q).toNat = (ws.drop q).length := by rw [List.length_drop]; omega
    have hbp : 0 < (ws.drop q).length ∧ (ws.drop q).length ≤ 1000000 := by rw [List.length_drop]; omega
    have hsB : small (ws.drop q) := fun x hx => hs x (List.mem_of_mem_drop hx)
    have htk : (V.d (.sl ((ws.length : Int) - q).toNat (((ws.map fun x : Nat => D.int .u64 x).drop ((q : Int)).toNat).take ((ws.length : Int) - q).toNat)) : V) = .d (.sl (ws.drop q).length ((ws.drop q).map fun x : Nat => D.int .u64 x)) := by
      rw [hb1, Int.toNat_natCast, ← List.map_drop, List.take_of_length_le (by simp)]
    repeat (first | refine AW.seq ?_ | refine AW.block ?_ | (refine AW.reg mix ?_; simp (implicitDefEqProofs := false) [hm, hq, hlt']; try simp (disch := omega) only [w64, wu64]) | (refine need.of (by first | omega | kernel_rfl) ?_) | (refine AW.fin ?_; try simp (implicitDefEqProofs := false) [hm, hq, hlt']))
    generalize hB : ws.drop q = B at *
    refine CallS.newX (clone64_own B.length (B.map fun x : Nat => .int .u64 x) (by simp) hbp.1 (by omega)) (plainL_d _) rfl (fun _ => rfl) (Subs.of (by rw [htk])) ?_
    rw [show ((B.map fun x : Nat => D.int .u64 x).map V.d) = U (shrI k B 0) by simp [U, shrI]]
    simp
    repeat (first | refine AW.seq ?_ | refine AW.block ?_ | (refine AW.reg mix ?_; simp (implicitDefEqProofs := false) [hr]; try simp (disch := omega) only [w64, wu64]) | (refine need.of (by first | omega | kernel_rfl) ?_) | (refine AW.fin ?_; try simp (implicitDefEqProofs := false) [hr]))
    clear htk hb1 hv hs ha hB hlt hlt'
    refine AW.loopT (α := Nat) 3 (fun i => [(6, .d (.int .i64 (i : Int)))]) (fun i => [(2, ⟨80, U (shrI k B i)⟩)]) (fun i => i ≤ B.length) (fun i => B.length - i) 0 ?_ ?_ (Nat.zero_le _) ?_ ?_ ?_
    · simp
    · simp
    · simp
    · simp
    rintro i hi
    simp
    by_cases h : i = B.length
    · subst h
      repeat (first | refine AW.seq ?_ | refine AW.block ?_ | (refine AW.reg mix ?_; simp (implicitDefEqProofs := false); try simp (disch := omega) only [w64, wu64]) | (refine need.of (by first | omega | kernel_rfl) ?_) | (refine AW.fin ?_; try simp (implicitDefEqProofs := false)))
      refine AW.cond rfl (fun h => ?_) (fun h => ?_)
      · simp at h
      refine AW.exit ?_
      (try (simp (implicitDefEqProofs := false); try simp (disch := omega) only [w64, wu64]))
      rw [shrI_end]
      have hl : (shrL k B).length = B.length := shrL_len k B
      have hvw : natW (a / 2 ^ n) = natW (wval (shrL k B)) := by rw [hval.1]
      rw [hvw]
      have hsm := hval.2
      generalize shrL k B = r at hl hsm ⊢
      have hcell : U r = (r.map fun x : Nat => D.int .u64 x).map V.d := by simp [U]
      rw [hcell]
      refine AW.freeze 2 1 ⟨80, _⟩ (r.map fun x : Nat => .int .u64 x) (by rfl) (by rfl) ?_
      simp [← hl, List.take_of_length_le]
      repeat (first | refine AW.seq ?_ | refine AW.block ?_ | (refine AW.reg mix ?_; simp (implicitDefEqProofs := false); try simp (disch := omega) only [w64, wu64]) | (refine need.of (by first | omega | kernel_rfl) ?_) | (refine AW.fin ?_; try simp (implicitDefEqProofs := false)))
      refine CallS.pu (trimmed_ok r hsm (by omega)) ?_
      (try (simp (implicitDefEqProofs := false); try simp (disch := omega) only [w64, wu64]))
      repeat (first | refine AW.seq ?_ | refine AW.block ?_ | (refine AW.reg mix ?_; simp (implicitDefEqProofs := false); try simp (disch := omega) only [w64, wu64]) | (refine need.of (by first | omega | kernel_rfl) ?_) | (refine AW.fin ?_; try simp (implicitDefEqProofs := false)))
    · have hi' : i < B.length := by omega
      have hp : (i : Int) < B.length := by omega
      have hxB : B.getD i 0 < 18446744073709551616 := hsB.getD i
      have hset : ∀ z : Nat, z = (shrL k B).getD i 0 → (U (shrI k B i)).set i (.d (.int .u64 z)) = U (shrI k B (i + 1)) := fun z hz => by
        rw [← shrI_set k B i hi' z hz, U, U, List.map_set]
      have hg := shrL_get k B i hi'
      have hl : (U (shrI k B i)).length = B.length := by simp [U, shrI_len k B i hi]
      have hq1 : (U (shrI k B i))[i]? = some (.d (.int .u64 (B.getD i 0 : Nat))) := by
        rw [U, List.getElem?_map, shrI_get k B i i (Nat.le_refl _) hi']; rfl
      have hq2 : i + 1 < B.length → (U (shrI k B i))[i + 1]? = some (.d (.int .u64 (B.getD (i + 1) 0 : Nat))) := fun h => by
        rw [U, List.getElem?_map, shrI_get k B i (i + 1) (by omega) h]; rfl
      have hor := or_shr (k := k) (x := B.getD i 0) (y := B.getD (i + 1) 0) hmk hxB
      rw [← hg] at hor
      have hu : ((B.getD i 0 : Nat) : Int) / 2 ^ k = ((B.getD i 0 / 2 ^ k : Nat) : Int) := by rw [Int.natCast_ediv, Int.natCast_pow]; rfl
      have hule : B.getD i 0 / 2 ^ k ≤ B.getD i 0 := Nat.div_le_self _ _
      have hw : IntKind.u64.wrap (((B.getD (i + 1) 0 : Nat) : Int) * 2 ^ (64 - k)) = ((B.getD (i + 1) 0 * 2 ^ (64 - k) % 18446744073709551616 : Nat) : Int) := by
        rw [IntKind.wrap_u64, Int.natCast_emod, Int.natCast_mul, Int.natCast_pow]; rfl
      have hwl : B.getD (i + 1) 0 * 2 ^ (64 - k) % 18446744073709551616 < 18446744073709551616 := Nat.mod_lt _ (by decide)
      have hlast : ¬ i + 1 < B.length → B.getD i 0 / 2 ^ k = (shrL k B).getD i 0 := fun h => by
        rw [hg, W_out h]; simp
      have hls : (shrL k B).length = B.length := shrL_len k B
      generalize B.getD i 0 / 2 ^ k = u at *
      generalize B.getD i 0 = x at *
      generalize B.getD (i + 1) 0 * 2 ^ (64 - k) % 18446744073709551616 = t at *
      generalize B.getD (i + 1) 0 = y at *
      have hb := bits_or_u64_nat u t (by omega) hwl
      rw [hor] at hb
      have hz := hset _ rfl
      generalize (shrL k B).getD i 0 = z at *
      generalize U (shrI k B i) = cm at *
      have e1 : IntKind.i64.wrap ((i : Int) + 1) = (i : Int) + 1 := w64 (by omega) (by omega)
      have e2 : IntKind.i64.wrap ((64 : Int) - k) = (64 : Int) - k := w64 (by omega) (by omega)
      have hn : ((64 : Int) - k).toNat = 64 - k := by omega
      have e3 : (((i : Int) + 1)).toNat = i + 1 := by omega
      have hkl : (k : Int) ≤ 64 := by omega
      have hg1 : ∀ h, cm[i]'h = .d (.int .u64 x) := fun h => by
        have := List.getElem?_eq_getElem h
        rw [hq1] at this
        exact (Option.some.inj this).symm
      have hg2 : ∀ h, cm[i + 1]'h = .d (.int .u64 y) := fun h => by
        have := List.getElem?_eq_getElem h
        rw [hq2 (by omega)] at this
        exact (Option.some.inj this).symm
      repeat (first | refine AW.seq ?_ | refine AW.block ?_ | (refine AW.reg mix ?_; simp (implicitDefEqProofs := false) [hi', hp]; try simp (disch := omega) only [w64, wu64]) | (refine need.of (by first | omega | kernel_rfl) ?_) | (refine AW.fin ?_; try simp (implicitDefEqProofs := false) [hi', hp]))
      refine AW.cond rfl (fun h => ?_) (fun h => ?_)
      · by_cases hl1 : i + 1 < B.length
        · have hlp : (i : Int) + 1 < B.length := by omega
          repeat (first | refine AW.seq ?_ | refine AW.block ?_ | (refine AW.reg mix ?_; simp (implicitDefEqProofs := false) [hi', hp, hl, hg1, hu, e1, hlp]; try simp (disch := omega) only [w64, wu64]) | (refine need.of (by first | omega | kernel_rfl) ?_) | (refine AW.fin ?_; try simp (implicitDefEqProofs := false) [hi', hp, hl, hg1, hu, e1, hlp]))
          refine AW.cond rfl (fun h => ?_) (fun h => ?_)
          · have hne : ¬ i = i + 1 := by omega
            have h64 : (64 - k : Int) ≤ 64 := by omega
            repeat (first | refine AW.seq ?_ | refine AW.block ?_ | (refine AW.reg mix ?_; simp (implicitDefEqProofs := false) [hi', hp, hl, hg1, hg2, hu, e1, hlp, hl1, e2, hn, e3, hne, hw, hb, hz]; try simp (disch := omega) only [w64, wu64]) | (refine need.of (by first | omega | kernel_rfl) ?_) | (refine AW.fin ?_; try simp (implicitDefEqProofs := false) [hi', hp, hl, hg1, hg2, hu, e1, hlp, hl1, e2, hn, e3, hne, hw, hb, hz]))
            exact ⟨i + 1, by omega, by omega, by simp, by simp⟩
          · simp at h
        · have hlp : ¬ (i : Int) + 1 < B.length := by omega
          repeat (first | refine AW.seq ?_ | refine AW.block ?_ | (refine AW.reg mix ?_; simp (implicitDefEqProofs := false) [hi', hp, hl, hg1, hu, e1, hlp]; try simp (disch := omega) only [w64, wu64]) | (refine need.of (by first | omega | kernel_rfl) ?_) | (refine AW.fin ?_; try simp (implicitDefEqProofs := false) [hi', hp, hl, hg1, hu, e1, hlp]))
          refine AW.cond rfl (fun h => ?_) (fun h => ?_)
          · simp at h
          · have := hlast hl1
            subst this
            repeat (first | refine AW.seq ?_ | refine AW.block ?_ | (refine AW.reg mix ?_; simp (implicitDefEqProofs := false) [e1]; try simp (disch := omega) only [w64, wu64]) | (refine need.of (by first | omega | kernel_rfl) ?_) | (refine AW.fin ?_; try simp (implicitDefEqProofs := false) [e1]))
            refine ⟨i + 1, by omega, by omega, by simp, ?_⟩
            rw [hset u rfl]
            exact Subs.refl _
      · simp at h
end
end Go.Proofs.YtdbfenhaljmbfaaGreat.Am
namespace Go.Proofs.YtdbfenhaljmbfaaGreat.Am
section
set_option linter.unusedVariables false
set_option linter.unusedSimpArgs false
open Go.RowKit
set_option maxRecDepth 100000
set_option linter.unusedSimpArgs false
set_option linter.unusedVariables false

theorem ygood_ok (s : Int) : Eqn Tryz.prog n_yu_Good [.d (.int .i64 s)] [] (.d (.bool (decide (1 ≤ s ∧ s ≤ 5)))) [] := by
  refine Eqn.pure r_yu_Good (plain_d _) ?_
  simp only [c_yu_Good]
  by_cases h : 1 ≤ s
  · repeat (first | refine AW.seq ?_ | refine AW.block ?_ | (refine AW.reg mix ?_; simp (implicitDefEqProofs := false) [h]; try simp (disch := omega) only [w64, wu64]) | (refine need.of (by first | omega | kernel_rfl) ?_) | (refine AW.fin ?_; try simp (implicitDefEqProofs := false) [h]))
  · repeat (first | refine AW.seq ?_ | refine AW.block ?_ | (refine AW.reg mix ?_; simp (implicitDefEqProofs := false) [h]; try simp (disch := omega) only [w64, wu64]) | (refine need.of (by first | omega | kernel_rfl) ?_) | (refine AW.fin ?_; try simp (implicitDefEqProofs := false) [h]))

theorem size_lt_two {x m : Nat} (h : x < 2 ^ (64 * m)) : size x ≤ m := by
  apply words_le (words_top x)
  rw [words_val, show (18446744073709551616 : Nat) = 2 ^ 64 by rfl, ← Nat.pow_mul]
  exact h

theorem size_add {a b m : Nat} (ha : size a ≤ m) (hb : size b ≤ m) : size (a + b) ≤ m + 1 := by
  refine size_lt_two ?_
  have h1 := wval_lt (words_small a)
  have h2 := wval_lt (words_small b)
  rw [words_val, show (18446744073709551616 : Nat) = 2 ^ 64 by rfl, ← Nat.pow_mul] at h1 h2
  have h3 : (2 : Nat) ^ (64 * (words a).length) ≤ 2 ^ (64 * m) := Nat.pow_le_pow_right (by omega) (by unfold size at ha; omega)
  have h4 : (2 : Nat) ^ (64 * (words b).length) ≤ 2 ^ (64 * m) := Nat.pow_le_pow_right (by omega) (by unfold size at hb; omega)
  have h5 : (2 : Nat) ^ (64 * (m + 1)) = 2 ^ (64 * m) * 18446744073709551616 := by rw [show 64 * (m + 1) = 64 * m + 64 by omega, Nat.pow_add]
  rw [h5]
  generalize (2 : Nat) ^ (64 * m) = z at *
  omega

theorem size_pow {x n m : Nat} (h : x < 2 ^ n) (hm : n ≤ 64 * m) : size x ≤ m :=
  size_lt_two (Nat.lt_of_lt_of_le h (Nat.pow_le_pow_right (by omega) hm))
theorem bits_size (t : Nat) : bitsN t ≤ 64 * size t := by
  apply bitsN_le
  have h1 := wval_lt (words_small t)
  rw [words_val, show (18446744073709551616 : Nat) = 2 ^ 64 by rfl, ← Nat.pow_mul] at h1
  exact h1
theorem shift_ok (s t : Nat) (hs : s ≤ 5) (ht : size t ≤ 1000) : Eqn Tryz.prog n_yu_shift [.d (.int .i64 s), .d (.agg [natW t])] [] (.d (.int .i64 (shiftY s t))) [] := by
  refine Eqn.pure r_yu_shift (plain_d _) ?_
  simp only [c_yu_shift]
  have hb := bits_size t
  repeat (first | refine AW.seq ?_ | refine AW.block ?_ | (refine AW.reg mix ?_; simp (implicitDefEqProofs := false); try simp (disch := omega) only [w64, wu64]) | (refine need.of (by first | omega | kernel_rfl) ?_) | (refine AW.fin ?_; try simp (implicitDefEqProofs := false)))
  refine CallS.pu (bits_ok t (by omega)) ?_
  (try (simp (implicitDefEqProofs := false); try simp (disch := omega) only [w64, wu64]))
  repeat (first | refine AW.seq ?_ | refine AW.block ?_ | (refine AW.reg mix ?_; simp (implicitDefEqProofs := false); try simp (disch := omega) only [w64, wu64]) | (refine need.of (by first | omega | kernel_rfl) ?_) | (refine AW.fin ?_; try simp (implicitDefEqProofs := false)))
  have e1 : IntKind.i64.wrap ((bitsN t : Int) - 1) = (bitsN t : Int) - 1 := w64 (by omega) (by omega)
  have e2 : IntKind.i64.wrap (2 * (s : Int)) = 2 * (s : Int) := w64 (by omega) (by omega)
  have e3 : IntKind.i64.wrap ((bitsN t : Int) - 1 - 2 * (s : Int)) = (bitsN t : Int) - 1 - 2 * (s : Int) := w64 (by omega) (by omega)
  have e4 : max 0 ((bitsN t : Int) - 1 - 2 * (s : Int)) = (shiftY s t : Int) := by unfold shiftY; omega
  simp [e1, e2, e3, e4]
  repeat (first | refine AW.seq ?_ | refine AW.block ?_ | (refine AW.reg mix ?_; simp (implicitDefEqProofs := false); try simp (disch := omega) only [w64, wu64]) | (refine need.of (by first | omega | kernel_rfl) ?_) | (refine AW.fin ?_; try simp (implicitDefEqProofs := false)))

theorem more_ok (s t : Nat) (hs : s ≤ 5) (ht : size t ≤ 1000) : Eqn Tryz.prog n_yu_more [.d (.int .i64 s), .d (.agg [natW t])] [] (.d (.agg [natW (moreY s t)])) [] := by
  refine Eqn.pure r_yu_more (plain_d _) ?_
  simp only [c_yu_more]
  have hq := Nat.div_le_self t (2 ^ s)
  have hq2 := Nat.div_mul_le_self t (2 ^ s)
  have hm : moreY s t = t + (if t / 2 ^ s * 2 ^ s < t then t / 2 ^ s + 1 else t / 2 ^ s) := rfl
  rw [hm]
  have s1 := size_le hq
  have s2 := size_le hq2
  have s1' : size 1 ≤ 1 := size_one (by omega)
  repeat (first | refine AW.seq ?_ | refine AW.block ?_ | (refine AW.reg mix ?_; simp (implicitDefEqProofs := false); try simp (disch := omega) only [w64, wu64]) | (refine need.of (by first | omega | kernel_rfl) ?_) | (refine AW.fin ?_; try simp (implicitDefEqProofs := false)))
  refine CallS.pu (shr_ok t s (by omega) (by omega)) ?_
  (try (simp (implicitDefEqProofs := false); try simp (disch := omega) only [w64, wu64]))
  repeat (first | refine AW.seq ?_ | refine AW.block ?_ | (refine AW.reg mix ?_; simp (implicitDefEqProofs := false); try simp (disch := omega) only [w64, wu64]) | (refine need.of (by first | omega | kernel_rfl) ?_) | (refine AW.fin ?_; try simp (implicitDefEqProofs := false)))
  refine CallS.pu (shl_ok (t / 2 ^ s) s (by omega) (by omega)) ?_
  (try (simp (implicitDefEqProofs := false); try simp (disch := omega) only [w64, wu64]))
  repeat (first | refine AW.seq ?_ | refine AW.block ?_ | (refine AW.reg mix ?_; simp (implicitDefEqProofs := false); try simp (disch := omega) only [w64, wu64]) | (refine need.of (by first | omega | kernel_rfl) ?_) | (refine AW.fin ?_; try simp (implicitDefEqProofs := false)))
  generalize hQ : t / 2 ^ s = q at *
  generalize q * 2 ^ s = b at *
  refine CallS.pu (cmp_ok b t (by omega) (by omega)) ?_
  (try (simp (implicitDefEqProofs := false); try simp (disch := omega) only [w64, wu64]))
  repeat (first | refine AW.seq ?_ | refine AW.block ?_ | (refine AW.reg mix ?_; simp (implicitDefEqProofs := false); try simp (disch := omega) only [w64, wu64]) | (refine need.of (by first | omega | kernel_rfl) ?_) | (refine AW.fin ?_; try simp (implicitDefEqProofs := false)))
  have hb : size (q + 1) ≤ 1001 := by
    have := size_add (a := q) (b := 1) (m := 1000) (by omega) (by omega)
    omega
  by_cases hlt : b < t
  · simp only [if_pos hlt]
    refine AW.cond rfl (fun h => ?_) (fun h => ?_)
    · repeat (first | refine AW.seq ?_ | refine AW.block ?_ | (refine AW.reg mix ?_; simp (implicitDefEqProofs := false); try simp (disch := omega) only [w64, wu64]) | (refine need.of (by first | omega | kernel_rfl) ?_) | (refine AW.fin ?_; try simp (implicitDefEqProofs := false)))
      refine CallS.pf 4 1 ⟨80, _⟩ [.int .u64 (1 : Nat)] (of_ok [1] (small_one (by omega)) (by simp)) (by first | rfl | (simp; done)) ?_
      (try (simp (implicitDefEqProofs := false); try simp (disch := omega) only [w64, wu64]))
      repeat (first | refine AW.seq ?_ | refine AW.block ?_ | (refine AW.reg mix ?_; simp (implicitDefEqProofs := false); try simp (disch := omega) only [w64, wu64]) | (refine need.of (by first | omega | kernel_rfl) ?_) | (refine AW.fin ?_; try simp (implicitDefEqProofs := false)))
      refine CallS.pu (add_ok q 1 (by omega) (by omega)) ?_
      (try (simp (implicitDefEqProofs := false); try simp (disch := omega) only [w64, wu64]))
      repeat (first | refine AW.seq ?_ | refine AW.block ?_ | (refine AW.reg mix ?_; simp (implicitDefEqProofs := false); try simp (disch := omega) only [w64, wu64]) | (refine need.of (by first | omega | kernel_rfl) ?_) | (refine AW.fin ?_; try simp (implicitDefEqProofs := false)))
      refine CallS.pu (add_ok t (q + 1) (by omega) (by omega)) ?_
      (try (simp (implicitDefEqProofs := false); try simp (disch := omega) only [w64, wu64]))
      repeat (first | refine AW.seq ?_ | refine AW.block ?_ | (refine AW.reg mix ?_; simp (implicitDefEqProofs := false); try simp (disch := omega) only [w64, wu64]) | (refine need.of (by first | omega | kernel_rfl) ?_) | (refine AW.fin ?_; try simp (implicitDefEqProofs := false)))
    · simp [cmpZ_lt, hlt] at h
  · simp only [if_neg hlt]
    refine AW.cond rfl (fun h => ?_) (fun h => ?_)
    · simp [cmpZ_lt, hlt] at h
    · repeat (first | refine AW.seq ?_ | refine AW.block ?_ | (refine AW.reg mix ?_; simp (implicitDefEqProofs := false); try simp (disch := omega) only [w64, wu64]) | (refine need.of (by first | omega | kernel_rfl) ?_) | (refine AW.fin ?_; try simp (implicitDefEqProofs := false)))
      refine CallS.pu (add_ok t q (by omega) (by omega)) ?_
      (try (simp (implicitDefEqProofs := false); try simp (disch := omega) only [w64, wu64]))
      repeat (first | refine AW.seq ?_ | refine AW.block ?_ | (refine AW.reg mix ?_; simp (implicitDefEqProofs := false); try simp (disch := omega) only [w64, wu64]) | (refine need.of (by first | omega | kernel_rfl) ?_) | (refine AW.fin ?_; try simp (implicitDefEqProofs := false)))

/-- a place, as data -/
def plD (p : Pl) : D := .agg [.int .i64 p.x, .int .i64 p.shift, natW p.value, natW p.reply]

theorem moreY_le' {s t : Nat} : moreY s t ≤ 4 * t := by
  unfold moreY
  have h1 := Nat.div_le_self t (2 ^ s)
  split
  · rename_i h
    have : 0 < t := by omega
    omega
  · omega

theorem next_ok (s : Nat) (p : Pl) (hs : s ≤ 5) (hx : p.x ≤ 100000) (h1 : p.shift ≤ 8192) (h2 : size p.value ≤ 900) (h3 : size p.reply ≤ 900) :
    Eqn Tryz.prog n_yu_Place_next [.d (plD p), .d (.int .i64 s)] [] (.d (plD (nextY s p))) [] := by
  refine Eqn.pure r_yu_Place_next (plain_d _) ?_
  obtain ⟨x, sh, v, r⟩ := p
  simp only at hx h1 h2 h3
  simp only [c_yu_Place_next, plD, nextY]
  have s1 : size 1 ≤ 1 := size_one (by omega)
  have hsz : size (1 * 2 ^ sh) ≤ 129 := size_pow (n := sh + 1) (by rw [Nat.one_mul]; exact Nat.pow_lt_pow_right (by omega) (Nat.lt_succ_self _)) (by omega)
  have hv := size_add (m := 900) h2 (by omega : size (1 * 2 ^ sh) ≤ 900)
  repeat (first | refine AW.seq ?_ | refine AW.block ?_ | (refine AW.reg mix ?_; simp (implicitDefEqProofs := false); try simp (disch := omega) only [w64, wu64]) | (refine need.of (by first | omega | kernel_rfl) ?_) | (refine AW.fin ?_; try simp (implicitDefEqProofs := false)))
  refine CallS.pf 2 1 ⟨80, _⟩ [.int .u64 (1 : Nat)] (of_ok [1] (small_one (by omega)) (by simp)) (by first | rfl | (simp; done)) ?_
  (try (simp (implicitDefEqProofs := false); try simp (disch := omega) only [w64, wu64]))
  repeat (first | refine AW.seq ?_ | refine AW.block ?_ | (refine AW.reg mix ?_; simp (implicitDefEqProofs := false); try simp (disch := omega) only [w64, wu64]) | (refine need.of (by first | omega | kernel_rfl) ?_) | (refine AW.fin ?_; try simp (implicitDefEqProofs := false)))
  refine CallS.pu (shl_ok 1 sh (by omega) h1) ?_
  (try (simp (implicitDefEqProofs := false); try simp (disch := omega) only [w64, wu64]))
  repeat (first | refine AW.seq ?_ | refine AW.block ?_ | (refine AW.reg mix ?_; simp (implicitDefEqProofs := false); try simp (disch := omega) only [w64, wu64]) | (refine need.of (by first | omega | kernel_rfl) ?_) | (refine AW.fin ?_; try simp (implicitDefEqProofs := false)))
  rw [Nat.one_mul] at hsz hv
  generalize 2 ^ sh = st at *
  refine CallS.pu (add_ok v st (by omega) (by omega)) ?_
  (try (simp (implicitDefEqProofs := false); try simp (disch := omega) only [w64, wu64]))
  repeat (first | refine AW.seq ?_ | refine AW.block ?_ | (refine AW.reg mix ?_; simp (implicitDefEqProofs := false); try simp (disch := omega) only [w64, wu64]) | (refine need.of (by first | omega | kernel_rfl) ?_) | (refine AW.fin ?_; try simp (implicitDefEqProofs := false)))
  refine CallS.pu (cmp_ok (v + st) r (by omega) (by omega)) ?_
  (try (simp (implicitDefEqProofs := false); try simp (disch := omega) only [w64, wu64]))
  repeat (first | refine AW.seq ?_ | refine AW.block ?_ | (refine AW.reg mix ?_; simp (implicitDefEqProofs := false); try simp (disch := omega) only [w64, wu64]) | (refine need.of (by first | omega | kernel_rfl) ?_) | (refine AW.fin ?_; try simp (implicitDefEqProofs := false)))
  have hge : (0 ≤ cmpZ (v + st) r) ↔ r ≤ v + st := by
    unfold cmpZ; split <;> (try split) <;> omega
  by_cases hr : r ≤ v + st
  · simp only [if_pos hr]
    have ew : IntKind.i64.wrap ((x : Int) + 1) = (x : Int) + 1 := w64 (by omega) (by omega)
    refine AW.cond rfl (fun h => ?_) (fun h => ?_)
    · have hm := moreY_le' (s := s) (t := r)
      have hms := size_le hm
      have hrr := size_add h3 h3
      have hmsz : size (moreY s r) ≤ 1000 := by
        have := size_add hrr hrr
        have h4 : r + r + (r + r) = 4 * r := by omega
        rw [h4] at this
        omega
      repeat (first | refine AW.seq ?_ | refine AW.block ?_ | (refine AW.reg mix ?_; simp (implicitDefEqProofs := false) [ew]; try simp (disch := omega) only [w64, wu64]) | (refine need.of (by first | omega | kernel_rfl) ?_) | (refine AW.fin ?_; try simp (implicitDefEqProofs := false) [ew]))
      refine CallS.pu (more_ok s r hs (by omega)) ?_
      (try (simp (implicitDefEqProofs := false); try simp (disch := omega) only [w64, wu64]))
      repeat (first | refine AW.seq ?_ | refine AW.block ?_ | (refine AW.reg mix ?_; simp (implicitDefEqProofs := false); try simp (disch := omega) only [w64, wu64]) | (refine need.of (by first | omega | kernel_rfl) ?_) | (refine AW.fin ?_; try simp (implicitDefEqProofs := false)))
      refine CallS.pu (shift_ok s (moreY s r) hs hmsz) ?_
      (try (simp (implicitDefEqProofs := false); try simp (disch := omega) only [w64, wu64]))
      repeat (first | refine AW.seq ?_ | refine AW.block ?_ | (refine AW.reg mix ?_; simp (implicitDefEqProofs := false); try simp (disch := omega) only [w64, wu64]) | (refine need.of (by first | omega | kernel_rfl) ?_) | (refine AW.fin ?_; try simp (implicitDefEqProofs := false)))
    · simp [hge, hr] at h
  · simp only [if_neg hr]
    refine AW.cond rfl (fun h => ?_) (fun h => ?_)
    · simp [hge, hr] at h
    · repeat (first | refine AW.seq ?_ | refine AW.block ?_ | (refine AW.reg mix ?_; simp (implicitDefEqProofs := false); try simp (disch := omega) only [w64, wu64]) | (refine need.of (by first | omega | kernel_rfl) ?_) | (refine AW.fin ?_; try simp (implicitDefEqProofs := false)))
end
end Go.Proofs.YtdbfenhaljmbfaaGreat.Am
namespace Go.Proofs.YtdbfenhaljmbfaaGreat.Am
section
set_option linter.unusedVariables false
set_option linter.unusedSimpArgs false
open Go.RowKit
set_option maxRecDepth 100000
set_option linter.unusedSimpArgs false
set_option linter.unusedVariables false

theorem walk_ok (s : Nat) : Eqn Tryz.prog n_yu_walk [.d (.int .i64 s)] [] (.fn (.func n_yu_walk_1) [.p 0 0]) [⟨3, [.d (.int .i64 s)]⟩] := by
  refine Eqn.newX r_yu_walk rfl ⟨rfl, fun _ => rfl⟩ (fun n => rfl) ?_
  simp only [c_yu_walk]
  repeat (first | refine AW.seq ?_ | refine AW.block ?_ | (refine AW.reg mix ?_; simp (implicitDefEqProofs := false); try simp (disch := omega) only [w64, wu64]) | (refine need.of (by first | omega | kernel_rfl) ?_) | (refine AW.fin ?_; try simp (implicitDefEqProofs := false)))
  exact ⟨0, Sub1.refl _, _, rfl, rfl, Subs.refl _⟩

/-- the walk's code, in its pieces -/
structure WalkS where
  r0 : C
  r1 : C
  g : C
  os : List O
  call : Option (Nat × List Nat × Option Nat)
  o4 : O
  cy : X
  r5 : C
  r6 : C
  ids : Nat × Nat
  calm : Bool
  res : Nat
  nt : Nat
def callS (o : Oper) : Option (Nat × List Nat × Option Nat) := match o.op, o.guard with
  | .call c, none => match c.callee, c.args.toList with
    | .value (.tmp f), [.tmp x, .tmp y] => some (f, [x, y], o.dst)
    | _, _ => none
  | _, _ => none
def walkS (P : Program) (f : FuncId) : Option WalkS := match P.funcs[f]? with
  | some fn => match fn.body with
    | some (.seq r0 (.seq r1 (.block i0 (.loop (.seq g (.seq (.block i1 (.seq (.seq (.region _ ops false) (.cond cy .ret .skip)) r5)) r6)))))) => match ops.toList with
      | [o0, o1, o2, o3, o4] => some ⟨resolveC P r0, resolveC P r1, resolveC P g, [o0, o1, o2].map (resolveO P ops), callS o3, resolveO P ops o4, X.of cy, resolveC P r5, resolveC P r6, (i0, i1), [o0, o1, o2].all notDefer && [o4].all notDefer, fn.results.size, fn.ntmps⟩
      | _ => none
    | _ => none
  | none => none
theorem walkS_spec {P : Program} {f : FuncId} {s : WalkS} (h : walkS P f = some s) : ∃ (fn : Func) (r0 r1 g r5 r6 : Code) (i id : Nat) (ops : Array Oper) (o0 o1 o2 o3 o4 : Oper) (cy : Operand),
    P.funcs[f]? = some fn ∧ fn.body = some (.seq r0 (.seq r1 (.block s.ids.1 (.loop (.seq g (.seq (.block s.ids.2 (.seq (.seq (.region id ops false) (.cond cy .ret .skip)) r5)) r6)))))) ∧ ops.toList = [o0, o1, o2, o3, o4] ∧
    resolveC P r0 = s.r0 ∧ resolveC P r1 = s.r1 ∧ resolveC P g = s.g ∧ [o0, o1, o2].map (resolveO P ops) = s.os ∧ callS o3 = s.call ∧ resolveO P ops o4 = s.o4 ∧ X.of cy = s.cy ∧ resolveC P r5 = s.r5 ∧ resolveC P r6 = s.r6 ∧ ([o0, o1, o2].all notDefer && [o4].all notDefer) = s.calm ∧ fn.results.size = s.res ∧ fn.ntmps = s.nt := by
  unfold walkS at h
  split at h
  · rename_i fn hf
    split at h
    · rename_i r0 r1 i0 g i1 id ops cy r5 r6 hb
      split at h
      · rename_i o0 o1 o2 o3 o4 ho
        cases h
        exact ⟨fn, r0, r1, g, r5, r6, 0, id, ops, o0, o1, o2, o3, o4, cy, hf, hb, ho, rfl, rfl, rfl, rfl, rfl, rfl, rfl, rfl, rfl, rfl, rfl, rfl⟩
      · cases h
    · cases h
  · cases h
theorem callS_spec {o : Oper} {f x y : Nat} {d : Option Nat} (h : callS o = some (f, [x, y], d)) : ∃ c, o.op = .call c ∧ o.guard = none ∧ c.callee = .value (.tmp f) ∧ c.args.toList = [.tmp x, .tmp y] ∧ o.dst = d := by
  unfold callS at h
  split at h
  · rename_i c ho hg
    split at h
    · rename_i hc ha
      cases h
      exact ⟨c, ho, hg, hc, ha, rfl⟩
    · cases h
  · cases h

/-- the asker's code -/
structure AtS where
  a1 : C
  a2 : C
  a3 : C
  a4 : C
  g : X
  ps : List Nat
  asg : C
  bd : C
  a5 : List O
  id : Nat
  calm : Bool
  rs : List RV
  nt : Nat
def atS (P : Program) (f : FuncId) : Option AtS := match P.funcs[f]? with
  | some fn => match fn.body with
    | some (.seq a1 (.seq a2 (.seq a3 (.seq (.seq a4 (.block id (.rangeFunc g ps asg bd))) (.seq (.region _ ops false) .ret))))) =>
      some ⟨resolveC P a1, resolveC P a2, resolveC P a3, resolveC P a4, X.of g, ps.toList, resolveC P asg, resolveC P bd, ops.toList.map (resolveO P ops), id, Code.calm asg && (Code.calm bd && ops.toList.all notDefer), fn.results.toList.map (resolveR P), fn.ntmps⟩
    | _ => none
  | none => none
theorem atS_spec {P : Program} {f : FuncId} {s : AtS} (h : atS P f = some s) : ∃ (fn : Func) (a1 a2 a3 a4 asg bd : Code) (g : Operand) (ps : Array Nat) (id : Nat) (ops : Array Oper),
    P.funcs[f]? = some fn ∧ fn.body = some (.seq a1 (.seq a2 (.seq a3 (.seq (.seq a4 (.block s.id (.rangeFunc g ps asg bd))) (.seq (.region id ops false) .ret))))) ∧
    resolveC P a1 = s.a1 ∧ resolveC P a2 = s.a2 ∧ resolveC P a3 = s.a3 ∧ resolveC P a4 = s.a4 ∧ X.of g = s.g ∧ ps.toList = s.ps ∧ resolveC P asg = s.asg ∧ resolveC P bd = s.bd ∧ ops.toList.map (resolveO P ops) = s.a5 ∧ (Code.calm asg && (Code.calm bd && ops.toList.all notDefer)) = s.calm ∧ fn.results.toList.map (resolveR P) = s.rs ∧ fn.ntmps = s.nt := by
  unfold atS at h
  split at h
  · rename_i fn hf
    split at h
    · rename_i a1 a2 a3 a4 id g ps asg bd id' ops hb
      cases h
      exact ⟨fn, a1, a2, a3, a4, asg, bd, g, ps, id', ops, hf, hb, rfl, rfl, rfl, rfl, rfl, rfl, rfl, rfl, rfl, rfl, rfl, rfl⟩
    · cases h
  · cases h

def C.l : C → C
  | .seq a _ => a
  | c => c
def C.r : C → C
  | .seq _ b => b
  | c => c
def C.b : C → C
  | .block _ a | .loop a => a
  | c => c
def C.os : C → List O
  | .reg _ l => l
  | _ => []
/-- the assignment to the loop's variables -/
def cAsg : C := .seq (.reg false [⟨some 7, .mv (.t 24), none, []⟩]) (.reg false [⟨some 8, .new 259 [.int .i64 0, .int .i64 0, .nilsl, .nilsl], none, []⟩, ⟨none, .store 4 (.t 8) (.t 25), none, [0, 0]⟩])
/-- the loop's body -/
def cBd : C := .block 2 (.seq (.reg false [⟨some 26, .load true 4 (.t 8), none, []⟩, ⟨none, .store 4 (.t 6) (.t 26), none, [0, 0]⟩])
  (.seq (.reg false [⟨some 27, .mv (.t 7), none, []⟩, ⟨some 28, .load false 1 (.t 3), none, []⟩, ⟨some 29, .bin .eql (.t 27) (.t 28), none, [0, 1]⟩]) (.cond (.t 29) (.exit 1) .skip)))
theorem at_s : atS Tryz.prog n_yu_At = some ⟨c_yu_At.l, c_yu_At.r.l, c_yu_At.r.r.l, c_yu_At.r.r.r.l.l, .t 23, [24, 25], cAsg, cBd, c_yu_At.r.r.r.r.l.os, 1, true, [.cell 4 true 4, .t 5], 31⟩ := by kernel_rfl
abbrev cWb : C := c_yu_walk_1.r.r.b.b
theorem walk_s : walkS Tryz.prog n_yu_walk_1 = some ⟨c_yu_walk_1.l, c_yu_walk_1.r.l, cWb.l, (cWb.r.l.b.l.l.os).take 3, some (15, [16, 17], some 18), ((cWb.r.l.b.l.l.os).drop 4).headD ⟨none, .bad, none, []⟩, .t 19, cWb.r.l.b.r, cWb.r.r, (0, 1), true, 0, 23⟩ := by kernel_rfl

abbrev kO (K : Nat) : Ob := ⟨3, [.d (.int .i64 K)]⟩
abbrev plO (c : List V) : Ob := ⟨259, c⟩

def Tr (i : Nat) (p : List D) : List V := [.junk, .junk, .junk, .p 0 0, .junk, .junk, .p 2 0] ++ List.replicate 17 .junk ++ [.d (.int .i64 i), .d (.agg p)] ++ List.replicate 5 .junk

theorem asg_ok (l n K i : Nat) (c : List V) (p : List D) (hp : p.length = 4) : AWr Tryz.prog (some l) n 3 cAsg (thenQ (fun T H => T = ((Tr i p).set 7 (.d (.int .i64 i))).set 8 (.p 3 0) ∧ H = [some (kO K), none, some (plO c), some (plO (p.map .d))]) noQ) (Tr i p) [some (kO K), none, some (plO c)] := by
  obtain ⟨p1, p2, p3, p4, rfl⟩ : ∃ a b c d, p = [a, b, c, d] := by
    match p, hp with
    | [a, b, c, d], _ => exact ⟨a, b, c, d, rfl⟩
  simp only [cAsg, Tr]
  refine AWr.seq (AWr.reg ?_)
  simp
  refine AWr.reg ?_
  simp

theorem bd_ok (l n K i : Nat) (c : List V) (hc : c.length = 4) (p : List D) (hp : p.length = 4) : AWr Tryz.prog (some l) n 3 cBd (fun e T H => H = [some (kO K), none, some (plO (p.map .d)), some (plO (p.map .d))] ∧ e = if i = K then .exit 1 else .normal) (((Tr i p).set 7 (.d (.int .i64 i))).set 8 (.p 3 0)) [some (kO K), none, some (plO c), some (plO (p.map .d))] := by
  obtain ⟨p1, p2, p3, p4, rfl⟩ : ∃ a b c d, p = [a, b, c, d] := by
    match p, hp with
    | [a, b, c, d], _ => exact ⟨a, b, c, d, rfl⟩
  obtain ⟨c1, c2, c3, c4, rfl⟩ : ∃ a b c' d, c = [a, b, c', d] := by
    match c, hc with
    | [a, b, c, d], _ => exact ⟨a, b, c, d, rfl⟩
  simp only [cBd, Tr]
  refine AWr.block ?_
  refine AWr.seq (AWr.reg ?_)
  simp
  refine AWr.seq (AWr.reg ?_)
  by_cases h : i = K
  · subst h
    simp
    refine AWr.cond rfl (fun h => ?_) (fun h => ?_)
    · refine AWr.exit ?_
      simp
    · simp at h
  · have h' : ¬ (i : Int) = K := by omega
    simp [h, h']
    refine AWr.cond rfl (fun h => ?_) (fun h => ?_)
    · simp at h
      omega
    · refine AWr.skip ?_
      simp

theorem obj_rho {m : Mem} {n : Nat} {o : Ob} (h : m.obj n o) : ∃ b, m.ρ n = some b := by
  obtain ⟨b, _, _, h1, _⟩ := h; exact ⟨b, h1⟩

/-- what a round leaves behind -/
def RoundR (K i : Nat) (p : List D) (m : Mem) (l : Nat) (rec : LoopState → Option Code → Loop) (e : Ending) (w' : World) : Prop :=
  ∃ m' : Mem, m'.w = w' ∧ m'.base ∧ m'.obj 0 (kO K) ∧ m'.obj 2 (plO (p.map .d)) ∧
    if i = K then e = .returned (.bool false) ∧ (m.at (m.w.putObj l (.loop (rec .done (some (.exit 1)))))).le m' (· < 3) else e = .returned (.bool true) ∧ m.le m' (· < 3)

theorem round_ok {asg bd : Code} (hasg : resolveC Tryz.prog asg = cAsg) (hbd : resolveC Tryz.prog bd = cBd) (ca : Code.calm asg = true) (cb : Code.calm bd = true) {fn df : Nat} {tmps : Array Value} {rec : LoopState → Option Code → Loop}
    (hrec : rec = fun st pe => { state := st, pending := pe, fn, tmps, params := #[24, 25], assign := asg, body := bd, defers := df }) (n K i : Nat) (p : List D) (hp : p.length = 4) {m : Mem} {l : Nat} {c : List V} (mb : m.base) (h0 : m.obj 0 (kO K)) (h2 : m.obj 2 (plO c)) (hc : c.length = 4)
    (hinj : ∀ b, m.ρ 0 = some b → m.ρ 2 ≠ some b) (htop : ∀ n, n ≠ 0 → n ≠ 2 → m.ρ n = none) (t3 : (V.p 0 0).rep m (tmps.getD 3 undef)) (t6 : (V.p 2 0).rep m (tmps.getD 6 undef)) (hsz : tmps.size = 31) (hlo : m.loose l) (hl : m.w.heap[l]? = some (.loop (rec .ready none))) {v : Value} (hv : (V.d (.agg p)).rep m v) :
    YieldAt Fence.wide n Tryz.prog l #[.int .i64 i, v] m.w (RoundR K i p m l rec) := by
  have hy := run_yield (P := Tryz.prog) (args := #[.int .i64 i, v]) hl (by rw [hrec]; rfl)
  refine ⟨_, _, _, _, hy, ?_⟩
  have ht : ((rec .ready none).params.zip #[.int .i64 i, v]).foldl (fun tmps (t, a) => tmps.setIfInBounds t a) (rec .ready none).tmps = (tmps.setIfInBounds 24 (.int .i64 i)).setIfInBounds 25 v := by
    rw [hrec]; simp
  rw [ht, show (rec .ready none).assign = asg by rw [hrec], show (rec .ready none).body = bd by rw [hrec]]
  clear hy ht
  have sat : Sat m ⟨(tmps.setIfInBounds 24 (.int .i64 i)).setIfInBounds 25 v, []⟩ (Tr i p) [some (kO K), none, some (plO c)] := by
    refine ⟨mb, fun s => ?_, fun n ob h => ?_, fun n k b ln lk h1 h3 => ?_, fun n h => htop n (by simp at h; omega) (by simp at h; omega), by simp [Tr, hsz], rfl⟩
    · have g : ((tmps.setIfInBounds 24 (.int .i64 i)).setIfInBounds 25 v).getD s undef = if s = 25 then v else if s = 24 then .int .i64 i else tmps.getD s undef := by
        rw [Array.getD_eq_getD_getElem?, Array.getElem?_setIfInBounds]
        by_cases e1 : s = 25
        · subst e1; simp [hsz]
        · rw [if_neg (by omega), if_neg e1, Array.getElem?_setIfInBounds]
          by_cases e2 : s = 24
          · subst e2; simp [hsz]
          · rw [if_neg (by omega), if_neg e2, Array.getD_eq_getD_getElem?]
      have g2 : (Tr i p).getD s .junk = if s = 25 then .d (.agg p) else if s = 24 then .d (.int .i64 i) else if s = 3 then .p 0 0 else if s = 6 then .p 2 0 else .junk := by
        rcases Nat.lt_or_ge s 31 with hs | hs
        · have : ∀ s, s < 31 → (Tr i p).getD s .junk = if s = 25 then .d (.agg p) else if s = 24 then .d (.int .i64 i) else if s = 3 then .p 0 0 else if s = 6 then .p 2 0 else .junk := by
            intro s hs
            iterate 31 (rcases s with _ | s; · rfl)
            omega
          exact this s hs
        · rw [if_neg (by omega), if_neg (by omega), if_neg (by omega), if_neg (by omega), List.getD_eq_getElem?_getD, List.getElem?_eq_none (by simp [Tr]; omega)]; rfl
      rw [g, g2]
      split
      · exact hv
      · split
        · exact V.rep_int.2 rfl
        · split
          · rename_i e; subst e; exact t3
          · split
            · rename_i e; subst e; exact t6
            · unfold V.rep; trivial
    · rcases n with _ | _ | _ | n
      · simp at h; subst h; exact h0
      · simp at h
      · simp at h; subst h; exact h2
      · simp at h
    · have l2 : ∀ n, live [some (kO K), none, some (plO c)] n → n = 0 ∨ n = 2 := fun n h => by
        rcases n with _ | _ | _ | n
        · exact .inl rfl
        · simp [live] at h
        · exact .inr rfl
        · simp [live] at h
      rcases l2 n ln with rfl | rfl <;> rcases l2 k lk with rfl | rfl
      · rfl
      · exact (hinj b h1 h3).elim
      · exact (hinj b h3 h1).elim
      · rfl
  have htop3 : ∀ n, 3 ≤ n → m.ρ n = none := fun n h => htop n (by omega) (by omega)
  refine roundIn_of_wpIn trivial (wpIn_mono (asg_ok l n K i c p hp asg hasg ca m m _ sat (Mem.le.refl _ _) htop3 (by simp)) ?_)
  rintro e a1 w1 ⟨T1, H1, m1, rfl, hq, sat1, hle1, _⟩
  cases e with
  | normal =>
    obtain ⟨rfl, rfl⟩ := hq
    obtain ⟨lo1, hl1⟩ := hlo.keep hle1
    have hl1' := hl1.trans hl
    refine ⟨_, run_beginRound hl1' (by rw [hrec]), ?_⟩
    have nc : ∀ (r : Loop) c t f, Obj.loop r ≠ .cells c t f := by intro r c t f h; cases h
    have hle2 := hlo.le hle1 (o := .loop { rec .ready none with state := .busy }) (o' := .loop { rec .ready none with state := .busy }) hl (nc _) (nc _) (nc _) rfl
    have sat2 := lo1.sat (.loop { rec .ready none with state := .busy }) sat1
    refine wpIn_mono (bd_ok l n K i c hc p hp bd hbd cb (m.at (m.w.putObj l (.loop { rec .ready none with state := .busy }))) _ a1 sat2 hle2 htop3 (by simp)) ?_
    rintro e a3 w3 ⟨T3, H3, m3, rfl, ⟨rfl, rfl⟩, sat3, hle3, _⟩
    obtain ⟨lo3, hl3⟩ := (hlo.put (.loop { rec .ready none with state := .busy })).keep hle3
    rw [World.putObj_heap_same hlo.lt] at hl3
    have hend := fun jump => run_endRound (P := Tryz.prog) jump hl3
    have hle4 := fun o (ho : ∀ c t f, o ≠ Obj.cells c t f) => (hlo.put (.loop { rec .ready none with state := .busy })).le hle3 (o := o) (o' := o) (World.putObj_heap_same hlo.lt) (nc _) ho ho rfl
    have sat4 := fun o => lo3.sat o sat3
    by_cases hik : i = K
    · simp only [if_pos hik]
      refine ⟨_, _, hend (some (.exit 1)), ⟨_, rfl, (sat4 _).base, (sat4 _).obj 0 _ rfl, (sat4 _).obj 2 _ rfl, ?_⟩⟩
      rw [if_pos hik]
      refine ⟨rfl, ?_⟩
      have := hle4 (.loop { rec .ready none with state := .done, pending := some (.exit 1) }) (nc _)
      simp only [putObj_put] at this
      rw [hrec] at this ⊢
      exact this
    · simp only [if_neg hik]
      refine ⟨_, _, hend none, ⟨_, rfl, (sat4 _).base, (sat4 _).obj 0 _ rfl, (sat4 _).obj 2 _ rfl, ?_⟩⟩
      rw [if_neg hik]
      refine ⟨rfl, ?_⟩
      have := hle4 (.loop (rec .ready none)) (nc _)
      simp only [putObj_put, putObj_same hl] at this
      rw [hrec] at this ⊢
      exact this
  | _ => exact hq.elim
end
end Go.Proofs.YtdbfenhaljmbfaaGreat.Am
namespace Go.Proofs.YtdbfenhaljmbfaaGreat.Am
section
set_option linter.unusedVariables false
set_option linter.unusedSimpArgs false
open Go.RowKit
set_option maxRecDepth 100000
set_option linter.unusedSimpArgs false
set_option linter.unusedVariables false

theorem Sat.put {m : Mem} {a : Act} {T : List V} {H : List (Option Ob)} (sat : Sat m a T H) (s : Nat) {x : V} {v : Value} (hv : x.rep m v) : Sat m (a.put (some s) v) (T.set s x) H := by
  refine ⟨sat.base, fun i => ?_, sat.obj, sat.inj, sat.top, by rw [put_size]; simpa using sat.size, by rw [put_defers']; exact sat.defers⟩
  have h1 : T.set s x = putT T (some s) x := rfl
  rw [h1, putT_getD, put_getD, sat.size]
  split
  · exact hv
  · exact sat.slots i

abbrev sO (s : Nat) : Ob := ⟨3, [.d (.int .i64 s)]⟩
def plC (p : Pl) : List D := [.int .i64 p.x, .int .i64 p.shift, natW p.value, natW p.reply]
abbrev fnY (l : Nat) : V := .fn (.yield l) []
def Tw0 (l : Nat) : List V := [fnY l, .p 3 0, .junk, .p 5 0] ++ List.replicate 19 .junk
def Tw (l i : Nat) : List V := [fnY l, .p 3 0, .junk, .p 5 0, .d (.int .i64 i)] ++ List.replicate 18 .junk
def Hw (K s i : Nat) (c : List V) : List (Option Ob) := [some (kO K), none, some (plO c), some (sO s), none, some (plO ((plC (placeY s i)).map .d))]

theorem placeY_size {s k : Nat} (h1 : 1 ≤ s) (h5 : s ≤ 5) (hk : k ≤ 1024) : (placeY s k).x ≤ 100000 ∧ (placeY s k).shift ≤ 8192 ∧ size (placeY s k).value ≤ 900 ∧ size (placeY s k).reply ≤ 900 := by
  obtain ⟨a1, a2, a3, a4, a5⟩ := placeY_le h1 k
  refine ⟨by omega, by omega, ?_, ?_⟩
  · refine Nat.le_trans (size_pow (n := 11 + (2 * s + k)) (m := 20) (Nat.lt_of_le_of_lt a4 ?_) (by omega)) (by omega)
    have hp := Nat.two_pow_pos (2 * s + k)
    rw [Nat.pow_add 2 11]
    generalize 2 ^ (2 * s + k) = z at *
    have h1 : k * z ≤ 1024 * z := Nat.mul_le_mul_right _ hk
    have h2 : (2 : Nat) ^ 11 * z = 2048 * z := rfl
    rw [h2]
    omega
  · exact Nat.le_trans (size_pow (n := 2 * s + k + 1) (m := 20) (Nat.lt_of_le_of_lt a2 (Nat.pow_lt_pow_right (by omega) (Nat.lt_succ_self _))) (by omega)) (by omega)

theorem w_r0 (l K s : Nat) (h1 : 1 ≤ s) (h5 : s ≤ 5) (c : List V) (hc : V.lowl 6 c = true) : AW Tryz.prog 4 c_yu_walk_1.l (thenQ (fun T H => wk 6 T (Tw0 l) ∧ wkH 6 H (Hw K s 0 c)) noQ) ([fnY l, .p 3 0] ++ List.replicate 21 .junk) [some (kO K), none, some (plO c), some (sO s)] := by
  simp only [c_yu_walk_1, C.l, Tw0, Hw]
  have e1 : IntKind.i64.wrap (2 * (s : Int)) = 2 * (s : Int) := w64 (by omega) (by omega)
  have e2 : ((2 : Int) * s).toNat = 2 * s := by omega
  have e3 : (2 : Int) ^ (2 * s) = (2 ^ (2 * s) : Nat) := by rw [Int.natCast_pow]; rfl
  have hlt : 2 ^ (2 * s) ≤ 2 ^ 10 := Nat.pow_le_pow_right (by omega) (by omega)
  have hp0 : placeY s 0 = ⟨0, 0, 0, 2 ^ (2 * s)⟩ := rfl
  rw [hp0]
  generalize 2 ^ (2 * s) = q at *
  have e4 : IntKind.u64.wrap (q : Int) = q := wu64 (by omega) (by omega)
  have e5 : (2 : Int) * s ≤ 64 := by omega
  repeat (first | refine AW.seq ?_ | refine AW.block ?_ | (refine AW.reg mix ?_; simp (implicitDefEqProofs := false) [e1, e2, e3, e4, e5]; try simp (disch := omega) only [w64, wu64]) | (refine need.of (by first | omega | kernel_rfl) ?_) | (refine AW.fin ?_; try simp (implicitDefEqProofs := false) [e1, e2, e3, e4, e5]))
  refine CallS.pf 4 1 ⟨80, _⟩ [.int .u64 q] (of_ok [q] (small_one (by omega)) (by simp)) (by first | rfl | (simp; done)) ?_
  (try (simp (implicitDefEqProofs := false); try simp (disch := omega) only [w64, wu64]))
  repeat (first | refine AW.seq ?_ | refine AW.block ?_ | (refine AW.reg mix ?_; simp (implicitDefEqProofs := false); try simp (disch := omega) only [w64, wu64]) | (refine need.of (by first | omega | kernel_rfl) ?_) | (refine AW.fin ?_; try simp (implicitDefEqProofs := false)))
  exact ⟨Subs.cons (Sub1.refl _) (Subs.cons (Sub1.refl _) (Subs.cons Sub1.nil (Subs.of (by simp [wval])))), rfl⟩

theorem w_r1 (l K s : Nat) (c : List V) (hc : V.lowl 6 c = true) : AW Tryz.prog 4 c_yu_walk_1.r.l (thenQ (fun T H => wk 6 T (Tw l 0) ∧ wkH 6 H (Hw K s 0 c)) noQ) (Tw0 l) (Hw K s 0 c) := by
  simp only [c_yu_walk_1, C.l, C.r, Tw0, Tw, Hw]
  have hp : V.lowl 6 ((plC (placeY s 0)).map V.d) = true := rfl
  repeat (first | refine AW.seq ?_ | refine AW.block ?_ | (refine AW.reg mix ?_; simp (implicitDefEqProofs := false) [hc, hp]; try simp (disch := omega) only [w64, wu64]) | (refine need.of (by first | omega | kernel_rfl) ?_) | (refine AW.fin ?_; try simp (implicitDefEqProofs := false) [hc, hp]))

theorem w_g (l K s i : Nat) (hi : i ≤ 1023) (c : List V) (hc : V.lowl 6 c = true) : AW Tryz.prog 4 cWb.l (thenQ (fun T H => wk 6 T (Tw l i) ∧ wkH 6 H (Hw K s i c)) noQ) (Tw l i) (Hw K s i c) := by
  simp only [c_yu_walk_1, C.l, C.r, C.b, Tw, Hw]
  have hp : V.lowl 6 ((plC (placeY s i)).map V.d) = true := rfl
  have h1 : (i : Int) ≤ 1023 := by omega
  repeat (first | refine AW.seq ?_ | refine AW.block ?_ | (refine AW.reg mix ?_; simp (implicitDefEqProofs := false) [hc, hp, h1]; try simp (disch := omega) only [w64, wu64]) | (refine need.of (by first | omega | kernel_rfl) ?_) | (refine AW.fin ?_; try simp (implicitDefEqProofs := false) [hc, hp, h1]))
  refine AW.cond rfl (fun h => ?_) (fun h => ?_)
  · repeat (first | refine AW.seq ?_ | refine AW.block ?_ | (refine AW.reg mix ?_; simp (implicitDefEqProofs := false) [hc, hp]; try simp (disch := omega) only [w64, wu64]) | (refine need.of (by first | omega | kernel_rfl) ?_) | (refine AW.fin ?_; try simp (implicitDefEqProofs := false) [hc, hp]))
  · simp [h1] at h

theorem w_r5 (l K s i : Nat) (h1 : 1 ≤ s) (h5 : s ≤ 5) (hi : i ≤ 1023) (c : List V) (hc : V.lowl 6 c = true) : AW Tryz.prog 4 cWb.r.l.b.r (thenQ (fun T H => wk 6 T (Tw l i) ∧ wkH 6 H (Hw K s (i + 1) c)) noQ) (Tw l i) (Hw K s i c) := by
  simp only [c_yu_walk_1, C.l, C.r, C.b, Tw, Hw]
  obtain ⟨b1, b2, b3, b4⟩ := placeY_size h1 h5 (k := i) (by omega)
  have hn := next_ok s (placeY s i) h5 b1 b2 b3 b4
  rw [show nextY s (placeY s i) = placeY s (i + 1) from rfl] at hn
  generalize placeY s i = p at *
  generalize placeY s (i + 1) = p' at *
  simp only [plC, List.map_cons, List.map_nil, plD] at hn ⊢
  repeat (first | refine AW.seq ?_ | refine AW.block ?_ | (refine AW.reg mix ?_; simp (implicitDefEqProofs := false) [hc]; try simp (disch := omega) only [w64, wu64]) | (refine need.of (by first | omega | kernel_rfl) ?_) | (refine AW.fin ?_; try simp (implicitDefEqProofs := false) [hc]))
  refine CallS.pu (hn) ?_
  (try (simp (implicitDefEqProofs := false) [hc]; try simp (disch := omega) only [w64, wu64]))
  repeat (first | refine AW.seq ?_ | refine AW.block ?_ | (refine AW.reg mix ?_; simp (implicitDefEqProofs := false) [hc]; try simp (disch := omega) only [w64, wu64]) | (refine need.of (by first | omega | kernel_rfl) ?_) | (refine AW.fin ?_; try simp (implicitDefEqProofs := false) [hc]))

theorem w_r6 (l K s i : Nat) (hi : i ≤ 1023) (c : List V) (hc : V.lowl 6 c = true) : AW Tryz.prog 4 cWb.r.r (thenQ (fun T H => wk 6 T (Tw l (i + 1)) ∧ wkH 6 H (Hw K s (i + 1) c)) noQ) (Tw l i) (Hw K s (i + 1) c) := by
  simp only [c_yu_walk_1, C.l, C.r, C.b, Tw, Hw]
  have hp : V.lowl 6 ((plC (placeY s (i + 1))).map V.d) = true := rfl
  generalize (plC (placeY s (i + 1))).map V.d = pc at *
  have ew : IntKind.i64.wrap ((i : Int) + 1) = (i : Int) + 1 := w64 (by omega) (by omega)
  repeat (first | refine AW.seq ?_ | refine AW.block ?_ | (refine AW.reg mix ?_; simp (implicitDefEqProofs := false) [hc, hp, ew]; try simp (disch := omega) only [w64, wu64]) | (refine need.of (by first | omega | kernel_rfl) ?_) | (refine AW.fin ?_; try simp (implicitDefEqProofs := false) [hc, hp, ew]))

/-- what is read ahead of the call of yield -/
theorem w_os (l K s i : Nat) (c : List V) (ops : Array Oper) {K' : List V → List (Option Ob) → Prop} (h : K' ((((Tw l i).set 15 (fnY l)).set 16 (.d (.int .i64 i))).set 17 (.d (.agg (plC (placeY s i))))) (Hw K s i c)) :
    vops Tryz.prog false K' ((cWb.r.l.b.l.l.os).take 3) [] (Tw l i) (Hw K s i c) := by
  simp only [cWb, c_yu_walk_1, C.l, C.r, C.b, C.os, Tw, Hw] at h ⊢
  generalize placeY s i = p at *
  simp only [plC, List.map_cons, List.map_nil] at h ⊢
  simp
  simpa using h
theorem w_o4 (l K s i : Nat) (p : D) (b : Bool) (H : List (Option Ob)) {K' : List V → List (Option Ob) → Prop} (h : K' (((((Tw l i).set 15 (fnY l)).set 16 (.d (.int .i64 i))).set 17 (.d p)).set 18 (.d (.bool b)) |>.set 19 (.d (.bool !b))) H) :
    vops Tryz.prog false K' [((cWb.r.l.b.l.l.os).drop 4).headD ⟨none, .bad, none, []⟩] [] (((((Tw l i).set 15 (fnY l)).set 16 (.d (.int .i64 i))).set 17 (.d p)).set 18 (.d (.bool b))) H := by
  simp only [cWb, c_yu_walk_1, C.l, C.r, C.b, C.os, Tw] at h ⊢
  simp
  simpa using h
end
end Go.Proofs.YtdbfenhaljmbfaaGreat.Am
namespace Go.Proofs.YtdbfenhaljmbfaaGreat.Am
section
set_option linter.unusedVariables false
set_option linter.unusedSimpArgs false
open Go.RowKit
set_option maxRecDepth 100000
set_option linter.unusedSimpArgs false
set_option linter.unusedVariables false

theorem lowl_plC (n : Nat) (p : Pl) : V.lowl n ((plC p).map V.d) = true := rfl
theorem getD_of_rep {m : Mem} {a : Act} {T : List V} {H : List (Option Ob)} (sat : Sat m a T H) {s : Nat} {x : V} (h : T.getD s .junk = x) : x.rep m (a.tmps.getD s undef) := h ▸ sat.slots s
theorem nloop (r : Loop) : ∀ c t f, Obj.loop r ≠ .cells c t f := by intro c t f h; cases h

theorem reps_data {m m' : Mem} (hI : m'.I = m.I) (hw : m'.w = m.w) {ds : List D} {vs : List Value} (h : V.reps m (ds.map V.d) vs) : V.reps m' (ds.map V.d) vs := by
  rw [V.reps_map_d] at h ⊢
  rw [hI, hw]; exact h
theorem wpIn_eval {m : Mem} {a : Act} {T : List V} {H : List (Option Ob)} (sat : Sat m a T H) {c : Operand} {s : Nat} (hc : X.of c = .t s) {b : Bool} (h : T.getD s .junk = .d (.bool b)) : a.eval c = .bool b :=
  V.rep_bool.1 (X.rep' (T := T) (fun s _ => sat.slots s) (by rw [hc]; exact h))
def zD : List D := [.int .i64 0, .int .i64 0, .nilsl, .nilsl]
def SS : Nat → Bool := fun n => n == 0 || n == 2

set_option maxHeartbeats 4000000 in
theorem walk1_ok {asg bd : Code} (hasg : resolveC Tryz.prog asg = cAsg) (hbd : resolveC Tryz.prog bd = cBd) (ca : Code.calm asg = true) (cb : Code.calm bd = true) {fn df : Nat} {tmps : Array Value} {rec : LoopState → Option Code → Loop}
    (hrec : rec = fun st pe => { state := st, pending := pe, fn, tmps, params := #[24, 25], assign := asg, body := bd, defers := df }) (s K : Nat) (s1 : 1 ≤ s) (s5 : s ≤ 5) (hK : K ≤ 1023) {m : Mem} {l : Nat} {sv : Value}
    (sat : ∀ a : Act, a.tmps = #[.func (.yield l) #[] #[], sv] ++ Array.replicate 21 undef → a.defers = [] → Sat m a ([fnY l, .p 3 0] ++ List.replicate 21 .junk) [some (kO K), none, some (plO (zD.map V.d)), some (sO s)])
    (t3 : (V.p 0 0).rep m (tmps.getD 3 undef)) (t6 : (V.p 2 0).rep m (tmps.getD 6 undef)) (hsz : tmps.size = 31) (hlo : m.loose l) (hl : m.w.heap[l]? = some (.loop (rec .ready none))) :
    Calls Tryz.prog n_yu_walk_1 #[.func (.yield l) #[] #[], sv] m.w fun e w' => (∃ v, e = .returned v) ∧ ∃ m' : Mem, m'.w = w' ∧ m'.base ∧ m'.obj 2 (plO ((plC (placeY s K)).map .d)) ∧ (m.at (m.w.putObj l (.loop (rec .done (some (.exit 1)))))).le m' (· < 4) := by
  obtain ⟨f67, r0, r1, g, r5, r6, -, id, ops, o0, o1, o2, o3, o4, cy, hf, hb, hops, e0, e1, eg, eos, ecall, eo4, ecy, er5, er6, ecalm, eres, ent⟩ := walkS_spec walk_s
  simp only at hb e0 e1 eg eos ecall eo4 ecy er5 er6 ecalm eres ent
  obtain ⟨cc, ho3, hg3, hc3, ha3, hd3⟩ := callS_spec ecall
  rw [Bool.and_eq_true] at ecalm
  refine calls_of_wp hf hb ((wpIn_wide (n := 0)).1 ?_)
  have sat0 := sat { tmps := #[.func (.yield l) #[] #[], sv] ++ Array.replicate (f67.ntmps - #[Value.func (.yield l) #[] #[], sv].size) undef, defers := [] } (by rw [ent]; rfl) rfl
  have htop : ∀ n, 4 ≤ n → m.ρ n = none := sat0.top
  refine AW.then (L := 4) e0 (w_r0 l K s s1 s5 (zD.map V.d) rfl) sat0 (Mem.le.refl _ _) htop (by simp) fun T1 H1 m1 a1 hq st1 le1 L1 => ?_
  obtain ⟨m1', hw1, st1', le1', L1'⟩ := Sat.weaken (T1 := Tw0 l) (H1 := Hw K s 0 (zD.map V.d)) (Weak.of hq.1 hq.2) st1 le1 htop (by simp [Hw])
  rw [← hw1]
  refine AW.then (L := 4) e1 (w_r1 l K s (zD.map V.d) rfl) st1' le1' htop (by simp [Hw]) fun T2 H2 m2 a2 hq st2 le2 L2 => ?_
  obtain ⟨m2', hw2, st2', le2', L2'⟩ := Sat.weaken (T1 := Tw l 0) (H1 := Hw K s 0 (zD.map V.d)) (Weak.of hq.1 hq.2) st2 le2 htop (by simp [Hw])
  rw [← hw2]
  clear hw1 hw2 st1 st2 sat0 sat le1 le2 L1 L2 st1' le1' L1' hq
  refine wpIn_block (wpIn_wide.2 (wp_loop_ex (fun k a w => ∃ (i : Nat) (c : List D) (m' : Mem), m'.w = w ∧ k = 1024 - i ∧ i ≤ K ∧ c.length = 4 ∧ Sat m' a (Tw l i) (Hw K s i (c.map V.d)) ∧ m.le m' (· < 4)) ?_ 1024 a2 m2'.w ⟨0, _, m2', rfl, rfl, Nat.zero_le _, rfl, st2', le2'⟩))
  clear st2' le2' L2' hq m2 m2' a2 T2 H2 m1 m1' a1 T1 H1
  rintro k a w ⟨i, c, mw, rfl, rfl, hi, hc, st, le⟩
  have hlc : V.lowl 6 (c.map V.d) = true := V.lowl_mono (by omega) _ (plainL_d c).1
  refine (wpIn_wide (n := 0)).1 ?_
  refine AW.then (L := 4) eg (w_g l K s i (by omega) (c.map V.d) hlc) st le htop (by simp [Hw]) fun T1 H1 m1 a1 hq st1 le1 L1 => ?_
  obtain ⟨m1', hw1, st1', le1', L1'⟩ := Sat.weaken (T1 := Tw l i) (H1 := Hw K s i (c.map V.d)) (Weak.of hq.1 hq.2) st1 le1 htop (by simp [Hw])
  rw [← hw1]
  clear hw1 st1 le1 L1 hq st le m1 T1 H1 a mw
  refine wpIn_seq (wpIn_block (wpIn_seq (wpIn_seq (wpIn_regops ?_))))
  rw [hops, show [o0, o1, o2, o3, o4] = [o0, o1, o2] ++ [o3, o4] from rfl]
  refine vops_listIn (l := none) (L := 4) (K := fun T H => T = ((((Tw l i).set 15 (fnY l)).set 16 (.d (.int .i64 i))).set 17 (.d (.agg (plC (placeY s i))))) ∧ H = Hw K s i (c.map V.d)) [o3, o4] ecalm.1 (by rw [eos]; exact w_os l K s i (c.map V.d) ops ⟨rfl, rfl⟩) st1' le1' htop (by simp [Hw]) fun T2 H2 a2 m2 hq st2 le2 L2 => ?_
  obtain ⟨rfl, rfl⟩ := hq
  clear st1' le1' L1' m1' a1
  -- the call of yield
  have g15 : a2.eval (.tmp 15) = .func (.yield l) #[] #[] := by
    have := getD_of_rep st2 (s := 15) (x := fnY l) (by simp [Tw])
    unfold V.rep at this
    obtain ⟨vs, h1, h2⟩ := this
    simp at h2
    subst h2
    exact h1
  have g16 : a2.eval (.tmp 16) = .int .i64 i := V.rep_int.1 (getD_of_rep st2 (s := 16) (by simp [Tw]))
  have g17 : (V.d (.agg (plC (placeY s i)))).rep m2 (a2.eval (.tmp 17)) := getD_of_rep st2 (s := 17) (by simp [Tw])
  obtain ⟨lo2, hl2⟩ := hlo.keep le2
  have hl2' := hl2.trans hl
  have hcut : ∀ n, n = 0 ∨ n = 2 → (m2.cut SS).ρ n = m2.ρ n := fun n h => by rcases h with rfl | rfl <;> simp [SS]
  have hobj : ∀ (n : Nat) (ty : TypeId) (ds : List D), n = 0 ∨ n = 2 → m2.obj n ⟨ty, ds.map V.d⟩ → (m2.cut SS).obj n ⟨ty, ds.map V.d⟩ := by
    rintro n ty ds hn ⟨b, vs, more, h1, h2, h3, h4, h5⟩
    exact ⟨b, vs, more, by rw [hcut n hn]; exact h1, h2, h3, reps_data (m := m2) (m' := m2.cut SS) rfl rfl (show V.reps m2 (ds.map V.d) vs from h4), h5⟩
  have hun : ∀ (n : Nat) (ty : TypeId) (ds : List D) (mr : Mem), n = 0 ∨ n = 2 → (∀ b, m2.ρ n = some b → mr.ρ n = some b) → mr.obj n ⟨ty, ds.map V.d⟩ → (⟨m2.ρ, mr.I, mr.w⟩ : Mem).obj n ⟨ty, ds.map V.d⟩ := by
    rintro n ty ds mr hn hρ ⟨b, vs, more, h1, h2, h3, h4, h5⟩
    obtain ⟨b', hb'⟩ : ∃ b', m2.ρ n = some b' := by
      rcases hn with rfl | rfl
      · exact obj_rho (st2.obj 0 _ rfl)
      · exact obj_rho (st2.obj 2 _ rfl)
    have := hρ b' hb'
    rw [h1] at this
    cases this
    exact ⟨b, vs, more, hb', h2, h3, reps_data (m := mr) (m' := ⟨m2.ρ, mr.I, mr.w⟩) rfl rfl (show V.reps mr (ds.map V.d) vs from h4), h5⟩
  have r3 : (V.p 0 0).rep (m2.cut SS) (tmps.getD 3 undef) := by
    unfold V.rep at t3 ⊢
    obtain ⟨b, h1, h2⟩ := t3
    exact ⟨b, by rw [hcut 0 (.inl rfl)]; exact le2.ρ 0 b h1, h2⟩
  have r6' : (V.p 2 0).rep (m2.cut SS) (tmps.getD 6 undef) := by
    unfold V.rep at t6 ⊢
    obtain ⟨b, h1, h2⟩ := t6
    exact ⟨b, by rw [hcut 2 (.inr rfl)]; exact le2.ρ 2 b h1, h2⟩
  have rv : (V.d (.agg (plC (placeY s i)))).rep (m2.cut SS) (a2.eval (.tmp 17)) := V.rep_d.2 (V.rep_d.1 g17)
  have loc : (m2.cut SS).loose l := by
    refine ⟨lo2.lt, fun n h => ?_, lo2.I⟩
    simp only at h
    split at h
    · exact lo2.ρ n h
    · cases h
  have hround := round_ok hasg hbd ca cb hrec (0 - 1) K i (plC (placeY s i)) rfl (m := m2.cut SS) (l := l) (c := c.map V.d) (Mem.cut_base st2.base SS) (hobj 0 _ [.int .i64 K] (.inl rfl) (st2.obj 0 _ rfl)) (hobj 2 _ c (.inr rfl) (st2.obj 2 _ rfl)) (by simpa using hc)
    (fun b h0 h2 => by
      rw [hcut 0 (.inl rfl)] at h0; rw [hcut 2 (.inr rfl)] at h2
      have := st2.inj 0 2 b rfl rfl h0 h2
      omega)
    (fun n h0 h2 => by simp [SS, h0, h2]) r3 r6' hsz loc hl2' rv
  obtain ⟨fn', tmps', asg', bd', hy, hR⟩ := hround
  rw [← g16] at hy
  refine wpListIn_plain hg3 (fun Kk hKk => ⟨fun _ _ => trivial, ?_⟩)
  rw [show (FR none).round = none from rfl, Oper.semAt_none, yield_exec ho3 hc3 ha3 g15, hy, Oper.uponIn_round]
  refine ⟨fun h => by simp [FR, Fence.wide] at h, hR.mono ?_⟩
  rintro e w' ⟨mr, rfl, mrb, mr0, mr2, hcase⟩
  -- both ways: a memory that fits
  have key : ∀ (o : Obj), (∀ c t f, o ≠ .cells c t f) → ((m2.cut SS).at (m2.w.putObj l o)).le mr (· < 3) → ∀ b : Bool,
      Sat ⟨m2.ρ, mr.I, mr.w⟩ (a2.put (some 18) (.bool b)) (((((Tw l i).set 15 (fnY l)).set 16 (.d (.int .i64 i))).set 17 (.d (.agg (plC (placeY s i))))).set 18 (.d (.bool b))) (Hw K s i ((plC (placeY s i)).map V.d)) ∧ (m2.at (m2.w.putObj l o)).le ⟨m2.ρ, mr.I, mr.w⟩ (fun n => SS n = true) := by
    intro o ho hle b
    have hu := Mem.uncut (m := m2.at (m2.w.putObj l o)) (S := SS) hle (fun n h => by simp [SS] at h; omega)
    have hρ : ∀ n b, m2.ρ n = some b → n = 0 ∨ n = 2 → mr.ρ n = some b := fun n b h hn => hle.ρ n b (by show (if SS n = true then m2.ρ n else none) = some b; rw [if_pos (by rcases hn with rfl | rfl <;> rfl)]; exact h)
    refine ⟨Sat.put (Sat.uncut (H' := Hw K s i ((plC (placeY s i)).map V.d)) (lo2.sat o st2) mrb hu (fun n h => ?_) rfl fun n ob h => ?_) 18 (V.rep_bool.2 rfl), hu⟩
    · simp [SS] at h
      rcases h with rfl | rfl <;> rfl
    · rcases n with _ | _ | _ | _ | _ | _ | n
      · left; simp [Hw] at h; subst h
        exact ⟨rfl, hun 0 _ [.int .i64 K] mr (.inl rfl) (fun b h => hρ 0 b h (.inl rfl)) mr0⟩
      · simp [Hw] at h
      · left; simp [Hw] at h; subst h
        exact ⟨rfl, hun 2 _ (plC (placeY s i)) mr (.inr rfl) (fun b h => hρ 2 b h (.inr rfl)) mr2⟩
      · right; simp [Hw] at h; subst h; exact ⟨rfl, rfl⟩
      · simp [Hw] at h
      · right; simp [Hw] at h; subst h; exact ⟨rfl, by simp [Hw]⟩
      · simp [Hw] at h
  have hres : ∀ (a : Act) (w : World), (results f67 a.tmps).run Tryz.prog w = .ok (.tuple #[]) w := fun a w => by
    have : f67.results = #[] := Array.eq_empty_of_size_eq_zero eres
    simp [results, this]
  have hmap : [o4].map (resolveO Tryz.prog ops) = [((cWb.r.l.b.l.l.os).drop 4).headD ⟨none, .bad, none, []⟩] := by rw [← eo4]; rfl
  by_cases hik : i = K
  · rw [if_pos hik] at hcase
    obtain ⟨rfl, hle⟩ := hcase
    obtain ⟨sat5, le5⟩ := key _ (nloop _) hle false
    refine hKk _ _ ?_
    rw [hd3]
    have lem := (hlo.le le2 (o := .loop (rec .done (some (.exit 1)))) (o' := .loop (rec .done (some (.exit 1)))) hl (nloop _) (nloop _) (nloop _) rfl).trans le5 (fun n b _ h => by simp [SS] at h; omega)
    refine vops_listIn (l := none) (L := 4) (m0 := m.at (m.w.putObj l (.loop (rec .done (some (.exit 1)))))) (m := ⟨m2.ρ, mr.I, mr.w⟩) (K := fun T H => T = (((((Tw l i).set 15 (fnY l)).set 16 (.d (.int .i64 i))).set 17 (.d (.agg (plC (placeY s i))))).set 18 (.d (.bool false))).set 19 (.d (.bool true)) ∧ H = Hw K s i ((plC (placeY s i)).map V.d)) [] ecalm.2 (by rw [hmap]; exact w_o4 l K s i _ false _ ⟨rfl, rfl⟩) sat5 lem htop (by simp [Hw]) fun T6 H6 a6 m6 hq st6 le6 _ => ?_
    obtain ⟨rfl, rfl⟩ := hq
    refine wpListIn_nil ?_
    refine wpIn_cond_split (wpIn_eval st6 ecy (b := true) (by simp [Tw])) (fun _ => wpIn_ret ?_) (fun h => by cases h)
    refine ⟨st6.defers, _, hres _ _, ⟨_, rfl⟩, m6, rfl, st6.base, ?_, le6⟩
    rw [← hik]
    exact st6.obj 2 _ rfl
  · rw [if_neg hik] at hcase
    obtain ⟨rfl, hle⟩ := hcase
    obtain ⟨sat5, le5⟩ := key (.loop (rec .ready none)) (nloop _) (by rw [putObj_same hl2']; exact hle) true
    rw [putObj_same hl2'] at le5
    refine hKk _ _ ?_
    rw [hd3]
    refine vops_listIn (l := none) (L := 4) (m0 := m) (m := ⟨m2.ρ, mr.I, mr.w⟩) (K := fun T H => T = (((((Tw l i).set 15 (fnY l)).set 16 (.d (.int .i64 i))).set 17 (.d (.agg (plC (placeY s i))))).set 18 (.d (.bool true))).set 19 (.d (.bool false)) ∧ H = Hw K s i ((plC (placeY s i)).map V.d)) [] ecalm.2 (by rw [hmap]; exact w_o4 l K s i _ true _ ⟨rfl, rfl⟩) sat5 (le2.trans le5 (fun n b _ h => by simp [SS] at h; omega)) htop (by simp [Hw]) fun T6 H6 a6 m6 hq st6 le6 _ => ?_
    obtain ⟨rfl, rfl⟩ := hq
    refine wpListIn_nil ?_
    refine wpIn_cond_split (wpIn_eval st6 ecy (b := false) (by simp [Tw])) (fun h => by cases h) (fun _ => wpIn_skip ?_)
    have hlp := lowl_plC 6 (placeY s i)
    obtain ⟨m7, hw7, st7, le7, _⟩ := Sat.weaken (T1 := Tw l i) (H1 := Hw K s i ((plC (placeY s i)).map V.d)) (Weak.of (by simp [Tw, Hw, V.low, V.lowl]) (by simp [Hw, hlp, V.lowl, V.low])) st6 le6 htop (by simp [Hw])
    rw [← hw7]
    refine wpIn_mono (wpIn_wide.2 (w_r5 l K s i s1 s5 (by omega) _ hlp r5 er5 m m7 a6 st7 le7 htop (by simp [Hw]))) ?_
    rintro e a8 w8 ⟨T8, H8, m8, rfl, hq, st8, le8, _⟩
    cases e with
    | normal =>
      obtain ⟨m9, hw9, st9, le9, _⟩ := Sat.weaken (T1 := Tw l i) (H1 := Hw K s (i + 1) ((plC (placeY s i)).map V.d)) (Weak.of hq.1 hq.2) st8 le8 htop (by simp [Hw])
      rw [← hw9]
      refine wpIn_mono (wpIn_wide.2 (w_r6 l K s i (by omega) _ hlp r6 er6 m m9 a8 st9 le9 htop (by simp [Hw]))) ?_
      rintro e a10 w10 ⟨T10, H10, m10, rfl, hq, st10, le10, _⟩
      cases e with
      | normal =>
        obtain ⟨m11, hw11, st11, le11, _⟩ := Sat.weaken (T1 := Tw l (i + 1)) (H1 := Hw K s (i + 1) ((plC (placeY s i)).map V.d)) (Weak.of hq.1 hq.2) st10 le10 htop (by simp [Hw])
        exact ⟨1024 - (i + 1), by omega, i + 1, plC (placeY s i), m11, hw11, rfl, by omega, rfl, st11, le11⟩
      | _ => exact hq.elim
    | _ => exact hq.elim
end
end Go.Proofs.YtdbfenhaljmbfaaGreat.Am
