import Derived.Test.YtakjegcjeffmgaaCodeD
import Derived.Test.YtakjegcjeffmgaaWords
namespace Go.Proofs.Ytakjegcjeffmgaa.Am
open Go.RowKit
set_option maxRecDepth 100000
set_option linter.unusedSimpArgs false
set_option linter.unusedVariables false

/-- words, as data -/
def W (ws : List Nat) : D := .sl ws.length (ws.map fun x : Nat => .int .u64 x)

/-- the words of a number -/
def wordsF : Nat → Nat → List Nat
  | 0, _ => []
  | f + 1, n => if n = 0 then [] else (n % 18446744073709551616) :: wordsF f (n / 18446744073709551616)
def words (n : Nat) : List Nat := wordsF n n

theorem wordsF_ok : ∀ (f n : Nat), n ≤ f → wval (wordsF f n) = n ∧ small (wordsF f n) ∧ top1 (wordsF f n)
  | 0, n, h => by
    obtain rfl : n = 0 := by omega
    exact ⟨rfl, by simp [small, wordsF], by intro k hk; simp [wordsF] at hk⟩
  | f + 1, n, h => by
    by_cases h0 : n = 0
    · subst h0
      simp only [wordsF, if_true]
      exact ⟨rfl, by simp [small], by intro k hk; simp at hk⟩
    · obtain ⟨h1, h2, h3⟩ := wordsF_ok f (n / 18446744073709551616) (by omega)
      simp only [wordsF, if_neg h0]
      refine ⟨by simp only [wval, h1]; omega, fun x hx => ?_, fun k hk => ?_⟩
      · rcases List.mem_cons.1 hx with rfl | hx
        · omega
        · exact h2 x hx
      · cases hl : wordsF f (n / 18446744073709551616) with
        | nil =>
          rw [hl] at h1 hk
          simp [wval] at h1 hk
          subst hk
          simp; omega
        | cons y r =>
          rw [hl] at hk h3
          simp at hk
          subst hk
          have := h3 r.length rfl
          simpa using this
theorem words_val (n : Nat) : wval (words n) = n := (wordsF_ok n n (Nat.le_refl _)).1
theorem words_small (n : Nat) : small (words n) := (wordsF_ok n n (Nat.le_refl _)).2.1
theorem words_top (n : Nat) : top1 (words n) := (wordsF_ok n n (Nat.le_refl _)).2.2
theorem words_of {ws : List Nat} (h : small ws) (ht : top1 ws) : words (wval ws) = ws := words_eq (words_small _) h (words_top _) ht (words_val _)
theorem words_nil {n : Nat} : words n = [] ↔ n = 0 := by
  constructor
  · intro h; have := words_val n; rw [h] at this; exact this.symm
  · rintro rfl; rfl

/-- a number -/
def natW (n : Nat) : D := W (words n)
theorem natW_of {ws : List Nat} (h : small ws) (ht : top1 ws) : natW (wval ws) = W ws := by rw [natW, words_of h ht]
theorem natW_zero : natW 0 = .sl 0 [] := rfl
/-- how many words -/
def size (n : Nat) : Nat := (words n).length

theorem clone64_ok (n : Nat) (l : List D) (hl : l.length = n) (hn : n ≤ 4000000000) : Eqn Try.prog n_slices_Clone_uint64_uint64 [.d (.sl n l)] [] (.d (.sl n l)) [] := by
  refine Eqn.pure r_slices_Clone_uint64_uint64 (plain_d _) ?_
  simp only [c_slices_Clone_uint64_uint64]
  rcases Nat.eq_zero_or_pos n with rfl | h0
  · have : l = [] := List.eq_nil_of_length_eq_zero hl
    subst this
    refine AW.empty 0 rfl ?_ ?_
    · simp
      repeat (first | refine AW.seq ?_ | refine AW.block ?_ | (refine AW.reg mix ?_; (simp; try simp (disch := omega) only [w64, wu64])) | (refine need.of (by first | omega | kernel_rfl) ?_) | (refine AW.skip ?_; (try simp)) | (refine AW.ret ?_; (try simp)) | (refine AW.exit ?_; (try simp)))
      refine AW.cond rfl (fun h => ?_) (fun h => ?_)
      · repeat (first | refine AW.seq ?_ | refine AW.block ?_ | (refine AW.reg mix ?_; (simp; try simp (disch := omega) only [w64, wu64])) | (refine need.of (by first | omega | kernel_rfl) ?_) | (refine AW.skip ?_; (try simp)) | (refine AW.ret ?_; (try simp)) | (refine AW.exit ?_; (try simp)))
        exact Sub1.nil
      · simp at h
    · simp
      repeat (first | refine AW.seq ?_ | refine AW.block ?_ | (refine AW.reg mix ?_; (simp; try simp (disch := omega) only [w64, wu64])) | (refine need.of (by first | omega | kernel_rfl) ?_) | (refine AW.skip ?_; (try simp)) | (refine AW.ret ?_; (try simp)) | (refine AW.exit ?_; (try simp)))
      refine AW.cond rfl (fun h => ?_) (fun h => ?_)
      · simp at h
      · repeat (first | refine AW.seq ?_ | refine AW.block ?_ | (refine AW.reg mix ?_; (simp; try simp (disch := omega) only [w64, wu64])) | (refine need.of (by first | omega | kernel_rfl) ?_) | (refine AW.skip ?_; (try simp)) | (refine AW.ret ?_; (try simp)) | (refine AW.exit ?_; (try simp)))
        exact Sub1.sl0
  · repeat (first | refine AW.seq ?_ | refine AW.block ?_ | (refine AW.reg mix ?_; (simp [h0]; try simp (disch := omega) only [w64, wu64])) | (refine need.of (by first | omega | kernel_rfl) ?_) | (refine AW.skip ?_; (try simp [h0])) | (refine AW.ret ?_; (try simp [h0])) | (refine AW.exit ?_; (try simp [h0])))
    refine AW.cond rfl (fun h => ?_) (fun h => ?_)
    · simp at h
    · repeat (first | refine AW.seq ?_ | refine AW.block ?_ | (refine AW.reg mix ?_; (simp; try simp (disch := omega) only [w64, wu64])) | (refine need.of (by first | omega | kernel_rfl) ?_) | (refine AW.skip ?_; (try simp)) | (refine AW.ret ?_; (try simp)) | (refine AW.exit ?_; (try simp)))
      have h1 : ¬ n = 0 := by omega
      simp [h1, hl]
      refine need.of (by omega) ?_
      refine AW.freeze 0 1 ⟨86, l.map .d⟩ l (by simp) rfl ?_
      simp
      repeat (first | refine AW.seq ?_ | refine AW.block ?_ | (refine AW.reg mix ?_; (simp; try simp (disch := omega) only [w64, wu64])) | (refine need.of (by first | omega | kernel_rfl) ?_) | (refine AW.skip ?_; (try simp)) | (refine AW.ret ?_; (try simp)) | (refine AW.exit ?_; (try simp)))
      have : l.take n = l := List.take_of_length_le (by omega)
      simp [this]

theorem W_get {ws : List Nat} {k : Nat} (h : k < ws.length) : ws[k] = ws.getD k 0 := by simp [List.getD, h]

theorem trimmed_ok (ws : List Nat) (hs : small ws) (hn : ws.length ≤ 4000000000) : Eqn Try.prog n_nat_trimmed [.d (W ws)] [] (.d (.agg [natW (wval ws)])) [] := by
  refine Eqn.pure r_nat_trimmed (plain_d _) ?_
  simp only [c_nat_trimmed, W]
  repeat (first | refine AW.seq ?_ | refine AW.block ?_ | (refine AW.reg mix ?_; (simp; try simp (disch := omega) only [w64, wu64])) | (refine need.of (by first | omega | kernel_rfl) ?_) | (refine AW.skip ?_; (try simp)) | (refine AW.ret ?_; (try simp)) | (refine AW.exit ?_; (try simp)))
  refine AW.loopT (α := Nat) 1 (fun m => [(3, .d (.int .i64 (m : Int)))]) (fun _ => []) (fun m => m ≤ ws.length ∧ trimN ws m = trimN ws ws.length) (fun m => m) ws.length ?_ ?_ ⟨Nat.le_refl _, rfl⟩ ?_ ?_ ?_
  · simp
  · simp
  · simp
  · simp
  rintro m ⟨hm, ht⟩
  simp
  have fin : ∀ k, k = trimN ws ws.length → W (ws.take k) = natW (wval ws) := by
    rintro k rfl
    have := natW_of (hs.take (trimN ws ws.length)) (trimN_top ws _ (Nat.le_refl _))
    rw [← this, trimN_val _ _ (Nat.le_refl _), List.take_length]
  cases m with
  | zero =>
    repeat (first | refine AW.seq ?_ | refine AW.block ?_ | (refine AW.reg mix ?_; (simp; try simp (disch := omega) only [w64, wu64])) | (refine need.of (by first | omega | kernel_rfl) ?_) | (refine AW.skip ?_; (try simp)) | (refine AW.ret ?_; (try simp)) | (refine AW.exit ?_; (try simp)))
    refine AW.cond rfl (fun h => ?_) (fun h => ?_)
    · simp at h
    repeat (first | refine AW.seq ?_ | refine AW.block ?_ | (refine AW.reg mix ?_; (simp; try simp (disch := omega) only [w64, wu64])) | (refine need.of (by first | omega | kernel_rfl) ?_) | (refine AW.skip ?_; (try simp)) | (refine AW.ret ?_; (try simp)) | (refine AW.exit ?_; (try simp)))
    refine Sub1.of ?_
    rw [← fin 0 ht]
    simp [W]
  | succ m =>
    have hm' : m < ws.length := hm
    have hp : (0 : Int) < (m : Int) + 1 := by omega
    have e : (m : Int) + 1 - 1 = m := by omega
    have ew : IntKind.i64.wrap (m : Int) = m := w64 (by omega) (by omega)
    repeat (first | refine AW.seq ?_ | refine AW.block ?_ | (refine AW.reg mix ?_; (simp [hp, e, ew, hm']; try simp (disch := omega) only [w64, wu64])) | (refine need.of (by first | omega | kernel_rfl) ?_) | (refine AW.skip ?_; (try simp [hp, e, ew, hm'])) | (refine AW.ret ?_; (try simp [hp, e, ew, hm'])) | (refine AW.exit ?_; (try simp [hp, e, ew, hm'])))
    refine AW.cond rfl (fun h => ?_) (fun h => ?_)
    · simp at h
      repeat (first | refine AW.seq ?_ | refine AW.block ?_ | (refine AW.reg mix ?_; (simp [hp, e, ew]; try simp (disch := omega) only [w64, wu64])) | (refine need.of (by first | omega | kernel_rfl) ?_) | (refine AW.skip ?_; (try simp [hp, e, ew])) | (refine AW.ret ?_; (try simp [hp, e, ew])) | (refine AW.exit ?_; (try simp [hp, e, ew])))
      refine ⟨m, ⟨by omega, ?_⟩, ?_⟩
      · rw [← ht, trimN, if_pos]
        rw [← W_get hm']; omega
      · simp
    · simp at h
      repeat (first | refine AW.seq ?_ | refine AW.block ?_ | (refine AW.reg mix ?_; (simp; try simp (disch := omega) only [w64, wu64])) | (refine need.of (by first | omega | kernel_rfl) ?_) | (refine AW.skip ?_; (try simp)) | (refine AW.ret ?_; (try simp)) | (refine AW.exit ?_; (try simp)))
      have hk : m + 1 = trimN ws ws.length := by
        rw [← ht, trimN, if_neg]
        rw [← W_get hm']; omega
      repeat (first | refine AW.seq ?_ | refine AW.block ?_ | (refine AW.reg mix ?_; (simp; try simp (disch := omega) only [w64, wu64])) | (refine need.of (by first | omega | kernel_rfl) ?_) | (refine AW.skip ?_; (try simp)) | (refine AW.ret ?_; (try simp)) | (refine AW.exit ?_; (try simp)))
      refine Sub1.of ?_
      rw [← fin _ hk]
      simp [W]
      omega

theorem small_nil : small [] := by simp [small]

theorem of_ok (ws : List Nat) (hs : small ws) (hn : ws.length ≤ 4000000000) : Eqn Try.prog n_nat_Of [.d (W ws)] [] (.d (.agg [natW (wval ws)])) [] := by
  refine Eqn.pure r_nat_Of (plain_d _) ?_
  simp only [c_nat_Of, W]
  repeat (first | refine AW.seq ?_ | refine AW.block ?_ | (refine AW.reg mix ?_; (simp; try simp (disch := omega) only [w64, wu64])) | (refine need.of (by first | omega | kernel_rfl) ?_) | (refine AW.skip ?_; (try simp)) | (refine AW.ret ?_; (try simp)) | (refine AW.exit ?_; (try simp)))
  refine CallS.pure (clone64_ok _ (ws.map fun x : Nat => .int .u64 x) (by simp) hn) (by first | exact plain_d _ | exact plain_tup2 _ _ | exact plain_tup3 _ _ _) rfl (fun _ => rfl) (Subs.refl _) ?_
  (try simp; try simp (disch := omega) only [w64, wu64])
  repeat (first | refine AW.seq ?_ | refine AW.block ?_ | (refine AW.reg mix ?_; (simp; try simp (disch := omega) only [w64, wu64])) | (refine need.of (by first | omega | kernel_rfl) ?_) | (refine AW.skip ?_; (try simp)) | (refine AW.ret ?_; (try simp)) | (refine AW.exit ?_; (try simp)))
  refine CallS.pure (trimmed_ok ws hs hn) (by first | exact plain_d _ | exact plain_tup2 _ _ | exact plain_tup3 _ _ _) rfl (fun _ => rfl) (Subs.refl _) ?_
  (try simp; try simp (disch := omega) only [w64, wu64])
  repeat (first | refine AW.seq ?_ | refine AW.block ?_ | (refine AW.reg mix ?_; (simp; try simp (disch := omega) only [w64, wu64])) | (refine need.of (by first | omega | kernel_rfl) ?_) | (refine AW.skip ?_; (try simp)) | (refine AW.ret ?_; (try simp)) | (refine AW.exit ?_; (try simp)))
  repeat (first | refine AW.seq ?_ | refine AW.block ?_ | (refine AW.reg mix ?_; (simp; try simp (disch := omega) only [w64, wu64])) | (refine need.of (by first | omega | kernel_rfl) ?_) | (refine AW.skip ?_; (try simp)) | (refine AW.ret ?_; (try simp)) | (refine AW.exit ?_; (try simp)))

theorem zero_ok (n : Nat) : Eqn Try.prog n_nat_Nat_Zero [.d (.agg [natW n])] [] (.d (.bool (n == 0))) [] := by
  refine Eqn.pure r_nat_Nat_Zero (plain_d _) ?_
  simp only [c_nat_Nat_Zero, natW, W]
  repeat (first | refine AW.seq ?_ | refine AW.block ?_ | (refine AW.reg mix ?_; (simp; try simp (disch := omega) only [w64, wu64])) | (refine need.of (by first | omega | kernel_rfl) ?_) | (refine AW.skip ?_; (try simp)) | (refine AW.ret ?_; (try simp)) | (refine AW.exit ?_; (try simp)))
  refine Sub1.bool ?_
  rw [Bool.eq_iff_iff]
  simp [words_nil]

theorem size_lt {m n : Nat} (h : size m < size n) : m < n := by
  have := shorter_lt (words_small m) (words_top n) h
  rwa [words_val, words_val] at this

theorem cmp_ok (m n : Nat) (hm : size m ≤ 1000000) (hn : size n ≤ 1000000) : Eqn Try.prog n_nat_Cmp [.d (.agg [natW m]), .d (.agg [natW n])] [] (.d (.int .i64 (cmpZ m n))) [] := by
  refine Eqn.pure r_nat_Cmp (plain_d _) ?_
  unfold size at hm hn
  have sa := words_small m
  have sb := words_small n
  simp only [c_nat_Cmp, natW, W]
  have hz : cmpZ m n = if (words m).length < (words n).length then -1 else if (words n).length < (words m).length then 1 else cmpN (words m) (words n) (words m).length := by
    split
    · rename_i h; rw [cmpZ, if_pos (size_lt h)]
    · split
      · rename_i h; have := size_lt h; rw [cmpZ, if_neg (by omega), if_pos this]
      · have := cmpN_val sa sb (words m).length
        rw [List.take_length, show (words m).length = (words n).length by omega, List.take_length, words_val, words_val] at this
        rw [show (words m).length = (words n).length by omega, this]
        rfl
  rw [hz]
  clear hz
  generalize words m = xs at *
  generalize words n = ys at *
  by_cases hl : xs.length = ys.length
  · repeat (first | refine AW.seq ?_ | refine AW.block ?_ | (refine AW.reg mix ?_; (simp [hl]; try simp (disch := omega) only [w64, wu64])) | (refine need.of (by first | omega | kernel_rfl) ?_) | (refine AW.skip ?_; (try simp [hl])) | (refine AW.ret ?_; (try simp [hl])) | (refine AW.exit ?_; (try simp [hl])))
    refine AW.cond rfl (fun h => ?_) (fun h => ?_)
    · simp [w64] at h
    repeat (first | refine AW.seq ?_ | refine AW.block ?_ | (refine AW.reg mix ?_; (simp [hl]; try simp (disch := omega) only [w64, wu64])) | (refine need.of (by first | omega | kernel_rfl) ?_) | (refine AW.skip ?_; (try simp [hl])) | (refine AW.ret ?_; (try simp [hl])) | (refine AW.exit ?_; (try simp [hl])))
    refine AW.loopT (α := Nat) 2 (fun m => [(6, .d (.int .i64 ((m : Int) - 1)))]) (fun _ => []) (fun m => m ≤ ys.length ∧ cmpN xs ys m = cmpN xs ys ys.length) (fun m => m) ys.length ?_ ?_ ⟨Nat.le_refl _, rfl⟩ ?_ ?_ ?_
    · simp
    · simp
    · simp [hl]
    · simp
    rintro m ⟨hm', hc⟩
    simp
    cases m with
    | zero =>
      repeat (first | refine AW.seq ?_ | refine AW.block ?_ | (refine AW.reg mix ?_; (simp; try simp (disch := omega) only [w64, wu64])) | (refine need.of (by first | omega | kernel_rfl) ?_) | (refine AW.skip ?_; (try simp)) | (refine AW.ret ?_; (try simp)) | (refine AW.exit ?_; (try simp)))
      refine AW.cond rfl (fun h => ?_) (fun h => ?_)
      · simp at h
      repeat (first | refine AW.seq ?_ | refine AW.block ?_ | (refine AW.reg mix ?_; (simp; try simp (disch := omega) only [w64, wu64])) | (refine need.of (by first | omega | kernel_rfl) ?_) | (refine AW.skip ?_; (try simp)) | (refine AW.ret ?_; (try simp)) | (refine AW.exit ?_; (try simp)))
      refine Sub1.int ?_
      rw [← hc]; rfl
    | succ m =>
      have h1 : m < xs.length := by omega
      have h2 : m < ys.length := hm'
      have e : (m : Int) + 1 - 1 = m := by omega
      have ew : IntKind.i64.wrap ((m : Int) - 1) = (m : Int) - 1 := w64 (by omega) (by omega)
      rw [cmpN, ← W_get h1, ← W_get h2] at hc
      repeat (first | refine AW.seq ?_ | refine AW.block ?_ | (refine AW.reg mix ?_; (simp [e, h1, h2]; try simp (disch := omega) only [w64, wu64])) | (refine need.of (by first | omega | kernel_rfl) ?_) | (refine AW.skip ?_; (try simp [e, h1, h2])) | (refine AW.ret ?_; (try simp [e, h1, h2])) | (refine AW.exit ?_; (try simp [e, h1, h2])))
      refine AW.cond rfl (fun h => ?_) (fun h => ?_)
      · repeat (first | refine AW.seq ?_ | refine AW.block ?_ | (refine AW.reg mix ?_; (simp [e, h1, h2]; try simp (disch := omega) only [w64, wu64])) | (refine need.of (by first | omega | kernel_rfl) ?_) | (refine AW.skip ?_; (try simp [e, h1, h2])) | (refine AW.ret ?_; (try simp [e, h1, h2])) | (refine AW.exit ?_; (try simp [e, h1, h2])))
        refine AW.cond rfl (fun h => ?_) (fun h => ?_)
        · simp at h
          repeat (first | refine AW.seq ?_ | refine AW.block ?_ | (refine AW.reg mix ?_; (simp; try simp (disch := omega) only [w64, wu64])) | (refine need.of (by first | omega | kernel_rfl) ?_) | (refine AW.skip ?_; (try simp)) | (refine AW.ret ?_; (try simp)) | (refine AW.exit ?_; (try simp)))
          refine Sub1.int ?_
          rw [if_pos h] at hc
          exact hc
        · simp at h
          rw [if_neg (by omega)] at hc
          repeat (first | refine AW.seq ?_ | refine AW.block ?_ | (refine AW.reg mix ?_; (simp; try simp (disch := omega) only [w64, wu64])) | (refine need.of (by first | omega | kernel_rfl) ?_) | (refine AW.skip ?_; (try simp)) | (refine AW.ret ?_; (try simp)) | (refine AW.exit ?_; (try simp)))
          refine AW.cond rfl (fun h => ?_) (fun h => ?_)
          · simp at h
            repeat (first | refine AW.seq ?_ | refine AW.block ?_ | (refine AW.reg mix ?_; (simp; try simp (disch := omega) only [w64, wu64])) | (refine need.of (by first | omega | kernel_rfl) ?_) | (refine AW.skip ?_; (try simp)) | (refine AW.ret ?_; (try simp)) | (refine AW.exit ?_; (try simp)))
            refine Sub1.int ?_
            rw [if_pos h] at hc
            exact hc
          · simp at h
            rw [if_neg (by omega)] at hc
            repeat (first | refine AW.seq ?_ | refine AW.block ?_ | (refine AW.reg mix ?_; (simp [ew]; try simp (disch := omega) only [w64, wu64])) | (refine need.of (by first | omega | kernel_rfl) ?_) | (refine AW.skip ?_; (try simp [ew])) | (refine AW.ret ?_; (try simp [ew])) | (refine AW.exit ?_; (try simp [ew])))
            exact ⟨m, ⟨by omega, hc⟩, by simp⟩
      · simp at h
  · repeat (first | refine AW.seq ?_ | refine AW.block ?_ | (refine AW.reg mix ?_; (simp; try simp (disch := omega) only [w64, wu64])) | (refine need.of (by first | omega | kernel_rfl) ?_) | (refine AW.skip ?_; (try simp)) | (refine AW.ret ?_; (try simp)) | (refine AW.exit ?_; (try simp)))
    refine AW.cond rfl (fun h => ?_) (fun h => ?_)
    · repeat (first | refine AW.seq ?_ | refine AW.block ?_ | (refine AW.reg mix ?_; (simp; try simp (disch := omega) only [w64, wu64])) | (refine need.of (by first | omega | kernel_rfl) ?_) | (refine AW.skip ?_; (try simp)) | (refine AW.ret ?_; (try simp)) | (refine AW.exit ?_; (try simp)))
      refine Sub1.int ?_
      split <;> omega
    · simp at h
      omega

end Go.Proofs.Ytakjegcjeffmgaa.Am
