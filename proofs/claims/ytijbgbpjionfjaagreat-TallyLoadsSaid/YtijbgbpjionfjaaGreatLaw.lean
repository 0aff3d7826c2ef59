/- Parts of the proof: Rat4, Rat5, Pow1, Pow2, Float3, Rise1, Val1, Val2, Reg5, ChainG, ChainH, AmLaw, Reg6, Val3, Rise2, ValM, Cms4, Cms5, AmLB, Carr4, Loads1, AmLaw2, AmLaw3, LoadsL. -/
import Derived.Test.YtijbgbpjionfjaaGreatPf
namespace Go.Proofs.YtijbgbpjionfjaaGreat.Am
section
set_option linter.unusedVariables false
set_option linter.unusedSimpArgs false
open Go.RowKit
set_option maxRecDepth 100000
set_option linter.unusedSimpArgs false
set_option linter.unusedVariables false

/-- whole numbers, fractions -/
def wD (z : Int) : D := .agg [natW z.natAbs, .bool (decide (z < 0))]
def rD (q : Rat) : D := .agg [natW q.num.natAbs, .bool (decide (q.num < 0)), natW (q.den - 1)]

theorem size_mulR (a b : Nat) : size (a * b) ≤ size a + size b := by
  refine words_le (words_top _) ?_
  rw [words_val, Nat.pow_add]
  have ha := wval_lt (words_small a)
  have hb := wval_lt (words_small b)
  rw [words_val] at ha hb
  unfold size
  exact Nat.mul_lt_mul'' ha hb
theorem size_addR (a b : Nat) : size (a + b) ≤ max (size a) (size b) + 1 := by
  refine words_le (words_top _) ?_
  rw [words_val, Nat.pow_succ]
  have ha := wval_lt (words_small a)
  have hb := wval_lt (words_small b)
  rw [words_val] at ha hb
  have h1 : 18446744073709551616 ^ (words a).length ≤ 18446744073709551616 ^ max (size a) (size b) := Nat.pow_le_pow_right (by decide) (Nat.le_max_left _ _)
  have h2 : 18446744073709551616 ^ (words b).length ≤ 18446744073709551616 ^ max (size a) (size b) := Nat.pow_le_pow_right (by decide) (Nat.le_max_right _ _)
  omega

/-- a difference that isn't: less by more -/
theorem sub_more (m n : Nat) (hm : size m ≤ 1000000) (hn : size n ≤ 1000000) (hlt : m < n) : Eqn Tryz.prog n_nat_Sub [.d (.agg [natW m]), .d (.agg [natW n])] [] (.tup [.d (.agg [.nilsl]), .d (.int .i64 2)]) [] := by
  refine Eqn.pure r_nat_Sub Plain.ok ?_
  have hc := cmp_ok m n hm hn
  have hlt' : cmpZ m n < 0 := cmpZ_lt.2 hlt
  simp only [c_nat_Sub]
  refine G0 ?_; try with_reducible exact tt
  refine CallS.pu (hc) (R1 hlt' ?_); try with_reducible exact tt
  refine AW.cond rfl (fun h => ?_) (fun h => ?_)
  · refine G0 ?_; try with_reducible exact tt
  · simp [hlt'] at h

theorem wmakeB_ok (s : Bool) (a : Nat) : Eqn Tryz.prog n_whole_Make [.d (.bool s), .d (.agg [natW a])] [] (.d (.agg [natW a, .bool (s && decide (a ≠ 0))])) [] := by
  refine Eqn.pure r_whole_Make Plain.ok ?_
  have hz := zero_ok a
  simp only [c_whole_Make]
  cases s with
  | true =>
    refine G0 ?_; try with_reducible exact tt
    refine CallS.pu (hz) (R0 ?_); try with_reducible exact tt
    refine Sub1.of ?_
    simp
    cases a <;> rfl
  | false =>
    refine G0 ?_; try with_reducible exact tt
theorem wmake_int (s : Bool) (a : Nat) (z : Int) (hz : z = if s then -(a : Int) else a) : Eqn Tryz.prog n_whole_Make [.d (.bool s), .d (.agg [natW a])] [] (.d (wD z)) [] := by
  have h := wmakeB_ok s a
  have e : D.agg [natW a, .bool (s && decide (a ≠ 0))] = wD z := by
    subst hz
    unfold wD
    cases s with
    | true =>
      simp only [if_true, Int.natAbs_neg, Int.natAbs_natCast, Bool.true_and]
      congr 4
      rw [decide_eq_decide]; omega
    | false =>
      simp only [Bool.false_and, Int.natAbs_natCast, Bool.false_eq_true, if_false]
      congr 4
  rw [e] at h
  exact h
theorem wabs_ok (z : Int) : Eqn Tryz.prog n_whole_Whole_Abs [.d (wD z)] [] (.d (.agg [natW z.natAbs])) [] := abs_ok _ _
theorem wneg_ok (z : Int) : Eqn Tryz.prog n_whole_Whole_Neg [.d (wD z)] [] (.d (.bool (decide (z < 0)))) [] := neg_ok _ _

theorem wmul_int (x y : Int) (hx : size x.natAbs ≤ 400000) (hy : size y.natAbs ≤ 400000) : Eqn Tryz.prog n_whole_Mul [.d (wD x), .d (wD y)] [] (.d (wD (x * y))) [] := by
  refine Eqn.pure r_whole_Mul (plain_d _) ?_
  have hm := mul_ok x.natAbs y.natAbs (by omega) (by omega)
  have hk := fun s h => wmake_int s (x.natAbs * y.natAbs) (x * y) h
  simp only [c_whole_Mul, wD] at hk ⊢
  refine G0 ?_; try with_reducible exact tt
  refine CallS.pu (hm) (R0 ?_); try with_reducible exact tt
  have e : x * y = if (decide (x < 0) != decide (y < 0)) = true then -((x.natAbs * y.natAbs : Nat) : Int) else ((x.natAbs * y.natAbs : Nat) : Int) := by
    rw [Int.natCast_mul]
    by_cases h1 : x < 0 <;> by_cases h2 : y < 0 <;> simp only [h1, h2, decide_true, decide_false]
    · rw [if_neg (by decide), Int.ofNat_natAbs_of_nonpos (by omega), Int.ofNat_natAbs_of_nonpos (by omega), Int.neg_mul_neg]
    · rw [if_pos (by decide), Int.ofNat_natAbs_of_nonpos (by omega), Int.natAbs_of_nonneg (by omega), Int.neg_mul, Int.neg_neg]
    · rw [if_pos (by decide), Int.ofNat_natAbs_of_nonpos (a := y) (by omega), Int.natAbs_of_nonneg (by omega), Int.mul_neg, Int.neg_neg]
    · rw [if_neg (by decide), Int.natAbs_of_nonneg (by omega), Int.natAbs_of_nonneg (by omega)]
  replace hk := hk _ e
  refine CallS.pu (hk) (R0 ?_); try with_reducible exact tt

theorem wminus_int (x : Int) : Eqn Tryz.prog n_whole_Minus [.d (wD x)] [] (.d (wD (-x))) [] := by
  refine Eqn.pure r_whole_Minus (plain_d _) ?_
  have hk := wmake_int (!decide (x < 0)) x.natAbs (-x) (by
    by_cases h : x < 0
    · simp only [h, decide_true, Bool.not_true, Bool.false_eq_true, if_false]; omega
    · simp only [h, decide_false, Bool.not_false, if_true]; omega)
  simp only [c_whole_Minus, wD] at hk ⊢
  refine G0 ?_; try with_reducible exact tt
  refine CallS.pu (hk) (R0 ?_); try with_reducible exact tt

theorem wadd_int (x y : Int) (hx : size x.natAbs ≤ 400000) (hy : size y.natAbs ≤ 400000) : Eqn Tryz.prog n_whole_Add [.d (wD x), .d (wD y)] [] (.d (wD (x + y))) [] := by
  refine Eqn.pure r_whole_Add (plain_d _) ?_
  by_cases hs : decide (x < 0) = decide (y < 0)
  · have ha := add_ok x.natAbs y.natAbs (by omega) (by omega)
    have hk := wmake_int (decide (x < 0)) (x.natAbs + y.natAbs) (x + y) (by
      rw [decide_eq_decide] at hs
      by_cases h : x < 0
      · rw [if_pos (by simpa using h)]; omega
      · rw [if_neg (by simpa using h)]; omega)
    simp only [c_whole_Add, wD] at hk ⊢
    generalize decide (x < 0) = sx at *
    generalize decide (y < 0) = sy at *
    subst hs
    refine G0 ?_; try with_reducible exact tt
    refine AW.cond rfl (fun h => ?_) (fun h => ?_)
    · refine G0 ?_; try with_reducible exact tt
      refine CallS.pu (ha) (R0 ?_); try with_reducible exact tt
      refine CallS.pu (hk) (R0 ?_); try with_reducible exact tt
    · simp at h
  · have hs' : ¬ (x < 0 ↔ y < 0) := fun h => hs (decide_eq_decide.2 h)
    by_cases hle : y.natAbs ≤ x.natAbs
    · have ha := sub_ok x.natAbs y.natAbs (by omega) hle
      have hk := wmake_int (decide (x < 0)) (x.natAbs - y.natAbs) (x + y) (by
        by_cases h : x < 0
        · rw [if_pos (by simpa using h)]; omega
        · rw [if_neg (by simpa using h)]; omega)
      simp only [c_whole_Add, wD] at hk ⊢
      generalize decide (x < 0) = sx at *
      generalize decide (y < 0) = sy at *
      have hs2 : (sx == sy) = false := by simpa using hs
      refine G1 (fs hs2 hs) ?_; try with_reducible exact tt
      refine AW.cond rfl (fun h => ?_) (fun h => ?_)
      · simp [hs2, hs] at h
      · refine G0 ?_; try with_reducible exact tt
        refine CallS.pu (ha) (R0 ?_); try with_reducible exact tt
        refine AW.cond rfl (fun h => ?_) (fun h => ?_)
        · refine G0 ?_; try with_reducible exact tt
          refine CallS.pu (hk) (R0 ?_); try with_reducible exact tt
        · simp at h
    · have hb := sub_more x.natAbs y.natAbs (by omega) (by omega) (by omega)
      have ha := sub_ok y.natAbs x.natAbs (by omega) (by omega)
      have hk := wmake_int (decide (y < 0)) (y.natAbs - x.natAbs) (x + y) (by
        by_cases h : y < 0
        · rw [if_pos (by simpa using h)]; omega
        · rw [if_neg (by simpa using h)]; omega)
      simp only [c_whole_Add, wD] at hk ⊢
      generalize decide (x < 0) = sx at *
      generalize decide (y < 0) = sy at *
      have hs2 : (sx == sy) = false := by simpa using hs
      refine G1 (fs hs2 hs) ?_; try with_reducible exact tt
      refine AW.cond rfl (fun h => ?_) (fun h => ?_)
      · simp [hs2, hs] at h
      · refine G0 ?_; try with_reducible exact tt
        refine CallS.pu (hb) (R0 ?_); try with_reducible exact tt
        refine AW.cond rfl (fun h => ?_) (fun h => ?_)
        · simp at h
        · refine G0 ?_; try with_reducible exact tt
          refine CallS.pu (ha) (R0 ?_); try with_reducible exact tt
          refine CallS.pu (hk) (R0 ?_); try with_reducible exact tt

/-- less, the same, more -/
def cmpI (x y : Int) : Int := if x < y then -1 else if y < x then 1 else 0
theorem wcmp_int (x y : Int) (hx : size x.natAbs ≤ 900000) (hy : size y.natAbs ≤ 900000) : Eqn Tryz.prog n_whole_Cmp [.d (wD x), .d (wD y)] [] (.d (.int .i64 (cmpI x y))) [] := by
  refine Eqn.pure r_whole_Cmp (plain_d _) ?_
  have h1 := cmp_ok y.natAbs x.natAbs (by omega) (by omega)
  have h2 := cmp_ok x.natAbs y.natAbs (by omega) (by omega)
  simp only [c_whole_Cmp, wD]
  by_cases hx0 : x < 0 <;> by_cases hy0 : y < 0
  · have e : cmpI x y = cmpZ y.natAbs x.natAbs := by
      unfold cmpI cmpZ
      split <;> split <;> first | omega | (split <;> omega)
    rw [← e] at h1
    simp only [hx0, hy0, decide_true, decide_false]
    refine G0 ?_; try with_reducible exact tt
    refine AW.cond rfl (fun h => ?_) (fun h => ?_)
    · refine G0 ?_; try with_reducible exact tt
      refine CallS.pu (h1) (R0 ?_); try with_reducible exact tt
    · simp at h
  · have e : cmpI x y = -1 := by unfold cmpI; rw [if_pos (by omega)]
    rw [e]
    simp only [hx0, hy0, decide_true, decide_false]
    refine G0 ?_; try with_reducible exact tt
    refine AW.cond rfl (fun h => ?_) (fun h => ?_)
    · simp at h
    refine G0 ?_; try with_reducible exact tt
    refine AW.cond rfl (fun h => ?_) (fun h => ?_)
    · refine G0 ?_; try with_reducible exact tt
    · simp at h
  · have e : cmpI x y = 1 := by unfold cmpI; rw [if_neg (by omega), if_pos (by omega)]
    rw [e]
    simp only [hx0, hy0, decide_true, decide_false]
    refine G0 ?_; try with_reducible exact tt
    refine AW.cond rfl (fun h => ?_) (fun h => ?_)
    · simp at h
    refine G0 ?_; try with_reducible exact tt
    refine AW.cond rfl (fun h => ?_) (fun h => ?_)
    · simp at h
    refine G0 ?_; try with_reducible exact tt
    refine AW.cond rfl (fun h => ?_) (fun h => ?_)
    · refine G0 ?_; try with_reducible exact tt
    · simp at h
  · have e : cmpI x y = cmpZ x.natAbs y.natAbs := by
      unfold cmpI cmpZ
      split <;> split <;> first | omega | (split <;> omega)
    rw [← e] at h2
    simp only [hx0, hy0, decide_true, decide_false]
    refine G0 ?_; try with_reducible exact tt
    refine AW.cond rfl (fun h => ?_) (fun h => ?_)
    · simp at h
    refine G0 ?_; try with_reducible exact tt
    refine AW.cond rfl (fun h => ?_) (fun h => ?_)
    · simp at h
    refine G0 ?_; try with_reducible exact tt
    refine AW.cond rfl (fun h => ?_) (fun h => ?_)
    · simp at h
    refine G0 ?_; try with_reducible exact tt
    refine CallS.pu (h2) (R0 ?_); try with_reducible exact tt
end
end Go.Proofs.YtijbgbpjionfjaaGreat.Am
namespace Go.Proofs.YtijbgbpjionfjaaGreat.Am
section
set_option linter.unusedVariables false
set_option linter.unusedSimpArgs false
open Go.RowKit
set_option maxRecDepth 100000
set_option linter.unusedSimpArgs false
set_option linter.unusedVariables false

theorem made_int (z : Int) (d : Nat) (hd : 0 < d) (hz : size z.natAbs ≤ 900000) (hds : size d ≤ 900000) : Eqn Tryz.prog n_rat_made [.d (wD z), .d (.agg [natW d])] [] (.d (rD (mkRat z d))) [] := by
  refine Eqn.pure r_rat_made (plain_d _) ?_
  obtain ⟨p1, p2, p3⟩ := mkRat_parts z d hd
  have hg0 : 0 < Nat.gcd z.natAbs d := Nat.gcd_pos_of_pos_right _ hd
  have hgs : size (Nat.gcd z.natAbs d) ≤ 900000 := Nat.le_trans (size_le (Nat.gcd_le_right _ hd)) hds
  have h1 := gcd_any z.natAbs d hz hds
  have h2 := divmod_any z.natAbs (Nat.gcd z.natAbs d) hz hg0 hgs
  have h3 := divmod_any d (Nat.gcd z.natAbs d) hds hg0 hgs
  have hdp : 0 < d / Nat.gcd z.natAbs d := Nat.div_pos (Nat.gcd_le_right _ hd) hg0
  have hdq : size (d / Nat.gcd z.natAbs d) ≤ 900000 := Nat.le_trans (size_le (Nat.div_le_self _ _)) hds
  have h4 := sub_ok (d / Nat.gcd z.natAbs d) 1 (by omega) hdp
  have hab := wabs_ok z
  have hng := wneg_ok z
  have hk := wmakeB_ok (decide (z < 0)) (z.natAbs / Nat.gcd z.natAbs d)
  have hsg : (decide (z < 0) && decide (z.natAbs / Nat.gcd z.natAbs d ≠ 0)) = decide ((mkRat z d).num < 0) := by
    rw [Bool.eq_iff_iff]
    simp only [Bool.and_eq_true, decide_eq_true_eq, p3]
    rw [← p1]
    constructor
    · intro h; exact h.1
    · intro h
      have := p3.2 h
      exact ⟨h, by omega⟩
  rw [hsg, ← p1] at hk
  rw [← p1] at h2
  rw [← p2] at h3 h4
  simp only [c_rat_made, rD, wD] at hab hng ⊢
  refine G0 ?_; try with_reducible exact tt
  refine CallS.pu (hab) (R0 ?_); try with_reducible exact tt
  refine CallS.pu (h1) (R0 ?_); try with_reducible exact tt
  refine CallS.pu (hab) (R0 ?_); try with_reducible exact tt
  refine CallS.pu (h2) (R0 ?_); try with_reducible exact tt
  refine CallS.pu (h3) (R0 ?_); try with_reducible exact tt
  refine CallS.pf 8 1 ⟨37, _⟩ [.int .u64 (1 : Nat)] (of_ok [1] (small_one (by omega)) (by simp)) (by first | rfl | (simp; done)) (R0 ?_); try with_reducible exact tt
  refine CallS.pu (h4) (R0 ?_); try with_reducible exact tt
  refine CallS.pu (hng) (R0 ?_); try with_reducible exact tt
  refine CallS.pu (hk) (R0 ?_); try with_reducible exact tt

theorem rden_int (q : Rat) (h : size q.den ≤ 900000) : Eqn Tryz.prog n_rat_Rat_Den [.d (rD q)] [] (.d (.agg [natW q.den])) [] := by
  have hp := q.den_pos
  have := rden_ok q.num.natAbs (q.den - 1) (decide (q.num < 0)) (Nat.le_trans (size_le (Nat.sub_le _ _)) (by omega))
  rw [show q.den - 1 + 1 = q.den by omega] at this
  exact this
theorem rdenw_int (q : Rat) (h : size q.den ≤ 900000) : Eqn Tryz.prog n_rat_Rat_den [.d (rD q)] [] (.d (wD q.den)) [] := by
  refine Eqn.pure r_rat_Rat_den (plain_d _) ?_
  have h1 := rden_int q h
  have h2 := wmake_int false q.den (q.den : Int) rfl
  simp only [c_rat_Rat_den, rD, wD] at h1 h2 ⊢
  refine G0 ?_; try with_reducible exact tt
  refine CallS.pu (h1) (R0 ?_); try with_reducible exact tt
  refine CallS.pu (h2) (R0 ?_); try with_reducible exact tt

/-- a fraction of so many words at most -/
def RS (q : Rat) (N : Nat) : Prop := size q.num.natAbs ≤ N ∧ size q.den ≤ N
theorem RS.le {q : Rat} {N M : Nat} (h : RS q N) (hm : N ≤ M) : RS q M := ⟨Nat.le_trans h.1 hm, Nat.le_trans h.2 hm⟩
theorem RS.mk' {z : Int} {d N : Nat} (hd : 0 < d) (h1 : size z.natAbs ≤ N) (h2 : size d ≤ N) : RS (mkRat z d) N := by
  obtain ⟨p1, p2, -⟩ := mkRat_parts z d hd
  refine ⟨?_, ?_⟩
  · rw [p1]; exact Nat.le_trans (size_le (Nat.div_le_self _ _)) h1
  · rw [p2]; exact Nat.le_trans (size_le (Nat.div_le_self _ _)) h2
theorem RS.mul {x y : Rat} {N M : Nat} (hx : RS x N) (hy : RS y M) : RS (x * y) (N + M) := by
  rw [rat_mul]
  refine RS.mk' (Nat.mul_pos x.den_pos y.den_pos) ?_ ?_
  · rw [Int.natAbs_mul]; have := size_mulR x.num.natAbs y.num.natAbs; have := hx.1; have := hy.1; omega
  · have := size_mulR x.den y.den; have := hx.2; have := hy.2; omega
theorem RS.add {x y : Rat} {N M : Nat} (hx : RS x N) (hy : RS y M) : RS (x + y) (N + M + 1) := by
  rw [rat_add]
  refine RS.mk' (Nat.mul_pos x.den_pos y.den_pos) ?_ ?_
  · have h1 := size_le (Int.natAbs_add_le (x.num * y.den) (y.num * x.den))
    have h2 := size_addR (x.num * y.den).natAbs (y.num * x.den).natAbs
    rw [Int.natAbs_mul, Int.natAbs_mul, Int.natAbs_natCast, Int.natAbs_natCast] at *
    have h3 := size_mulR x.num.natAbs y.den
    have h4 := size_mulR y.num.natAbs x.den
    have := hx.1; have := hy.1; have := hx.2; have := hy.2
    omega
  · have := size_mulR x.den y.den; have := hx.2; have := hy.2; omega
theorem RS.neg {x : Rat} {N : Nat} (hx : RS x N) : RS (-x) N := by
  refine ⟨?_, ?_⟩
  · rw [Rat.neg_num, Int.natAbs_neg]; exact hx.1
  · rw [Rat.neg_den]; exact hx.2
theorem RS.sub {x y : Rat} {N M : Nat} (hx : RS x N) (hy : RS y M) : RS (x - y) (N + M + 1) := by
  rw [Rat.sub_eq_add_neg]; exact hx.add hy.neg

theorem rmul_int (x y : Rat) (hx : RS x 100000) (hy : RS y 100000) : Eqn Tryz.prog n_rat_Mul [.d (rD x), .d (rD y)] [] (.d (rD (x * y))) [] := by
  refine Eqn.pure r_rat_Mul (plain_d _) ?_
  have h1 := wmul_int x.num y.num (by have := hx.1; omega) (by have := hy.1; omega)
  have h2 := rden_int x (by have := hx.2; omega)
  have h3 := rden_int y (by have := hy.2; omega)
  have h4 := mul_ok x.den y.den (by have := hx.2; omega) (by have := hy.2; omega)
  have h5 := made_int (x.num * y.num) (x.den * y.den) (Nat.mul_pos x.den_pos y.den_pos) (by rw [Int.natAbs_mul]; have := size_mulR x.num.natAbs y.num.natAbs; have := hx.1; have := hy.1; omega) (by have := size_mulR x.den y.den; have := hx.2; have := hy.2; omega)
  rw [← rat_mul] at h5
  simp only [c_rat_Mul, rD, wD] at h1 h2 h3 h5 ⊢
  refine G0 ?_; try with_reducible exact tt
  refine CallS.pu (h1) (R0 ?_); try with_reducible exact tt
  refine CallS.pu (h2) (R0 ?_); try with_reducible exact tt
  refine CallS.pu (h3) (R0 ?_); try with_reducible exact tt
  refine CallS.pu (h4) (R0 ?_); try with_reducible exact tt
  refine CallS.pu (h5) (R0 ?_); try with_reducible exact tt

theorem radd_rat (x y : Rat) (hx : RS x 100000) (hy : RS y 100000) : Eqn Tryz.prog n_rat_Add [.d (rD x), .d (rD y)] [] (.d (rD (x + y))) [] := by
  refine Eqn.pure r_rat_Add (plain_d _) ?_
  have x1 := hx.1; have x2 := hx.2; have y1 := hy.1; have y2 := hy.2
  have s1 := size_mulR x.num.natAbs y.den
  have s2 := size_mulR y.num.natAbs x.den
  have e1 : (x.num * (y.den : Int)).natAbs = x.num.natAbs * y.den := by rw [Int.natAbs_mul, Int.natAbs_natCast]
  have e2 : (y.num * (x.den : Int)).natAbs = y.num.natAbs * x.den := by rw [Int.natAbs_mul, Int.natAbs_natCast]
  have h1 := wmul_int x.num y.den (by omega) (by rw [Int.natAbs_natCast]; omega)
  have h1' := wmul_int y.num x.den (by omega) (by rw [Int.natAbs_natCast]; omega)
  have h2 := rden_int x (by omega)
  have h3 := rden_int y (by omega)
  have h2' := rdenw_int x (by omega)
  have h3' := rdenw_int y (by omega)
  have h4 := mul_ok x.den y.den (by omega) (by omega)
  have h6 := wadd_int (x.num * y.den) (y.num * x.den) (by rw [e1]; omega) (by rw [e2]; omega)
  have h5 := made_int (x.num * y.den + y.num * x.den) (x.den * y.den) (Nat.mul_pos x.den_pos y.den_pos) (by
    have h1 := size_le (Int.natAbs_add_le (x.num * y.den) (y.num * x.den))
    have h2 := size_addR (x.num * y.den).natAbs (y.num * x.den).natAbs
    rw [e1, e2] at *
    omega) (by have := size_mulR x.den y.den; omega)
  rw [← rat_add] at h5
  simp only [c_rat_Add, rD] at h2 h3 h2' h3' h5 ⊢
  generalize hz1 : x.num * (y.den : Int) = z1 at *
  generalize hz2 : y.num * (x.den : Int) = z2 at *
  simp only [wD] at h1 h1' h2' h3' h5 h6
  refine G0 ?_; try with_reducible exact tt
  refine CallS.pu (h3') (R0 ?_); try with_reducible exact tt
  refine CallS.pu (h1) (R0 ?_); try with_reducible exact tt
  refine CallS.pu (h2') (R0 ?_); try with_reducible exact tt
  refine CallS.pu (h1') (R0 ?_); try with_reducible exact tt
  refine CallS.pu (h6) (R0 ?_); try with_reducible exact tt
  refine CallS.pu (h2) (R0 ?_); try with_reducible exact tt
  refine CallS.pu (h3) (R0 ?_); try with_reducible exact tt
  refine CallS.pu (h4) (R0 ?_); try with_reducible exact tt
  refine CallS.pu (h5) (R0 ?_); try with_reducible exact tt

theorem rsub_rat (x y : Rat) (hx : RS x 100000) (hy : RS y 100000) : Eqn Tryz.prog n_rat_Sub [.d (rD x), .d (rD y)] [] (.d (rD (x - y))) [] := by
  refine Eqn.pure r_rat_Sub (plain_d _) ?_
  have h1 := wminus_int y.num
  have h2 := radd_rat x (-y) hx hy.neg
  rw [← Rat.sub_eq_add_neg] at h2
  simp only [c_rat_Sub, rD, wD, Rat.neg_num, Rat.neg_den] at h1 h2 ⊢
  obtain ⟨w, hw⟩ : ∃ w, D.bool (decide (-y.num < 0)) = w := ⟨_, rfl⟩
  obtain ⟨u, hu⟩ : ∃ u, natW (-y.num).natAbs = u := ⟨_, rfl⟩
  rw [hu, hw] at h1 h2
  clear hu hw
  refine G0 ?_; try with_reducible exact tt
  refine CallS.pu (h1) (R0 ?_); try with_reducible exact tt
  refine CallS.pu (h2) (R0 ?_); try with_reducible exact tt

/-- less, the same, more -/
def cmpQ (x y : Rat) : Int := if x < y then -1 else if y < x then 1 else 0
theorem rcmp_rat (x y : Rat) (hx : RS x 100000) (hy : RS y 100000) : Eqn Tryz.prog n_rat_Cmp [.d (rD x), .d (rD y)] [] (.d (.int .i64 (cmpQ x y))) [] := by
  refine Eqn.pure r_rat_Cmp (plain_d _) ?_
  have x1 := hx.1; have x2 := hx.2; have y1 := hy.1; have y2 := hy.2
  have s1 := size_mulR x.num.natAbs y.den
  have s2 := size_mulR y.num.natAbs x.den
  have e1 : (x.num * (y.den : Int)).natAbs = x.num.natAbs * y.den := by rw [Int.natAbs_mul, Int.natAbs_natCast]
  have e2 : (y.num * (x.den : Int)).natAbs = y.num.natAbs * x.den := by rw [Int.natAbs_mul, Int.natAbs_natCast]
  have h1 := wmul_int x.num y.den (by omega) (by rw [Int.natAbs_natCast]; omega)
  have h1' := wmul_int y.num x.den (by omega) (by rw [Int.natAbs_natCast]; omega)
  have h2' := rdenw_int x (by omega)
  have h3' := rdenw_int y (by omega)
  have h6 := wcmp_int (x.num * y.den) (y.num * x.den) (by rw [e1]; omega) (by rw [e2]; omega)
  have e : cmpI (x.num * y.den) (y.num * x.den) = cmpQ x y := by
    have a := rat_lt x y
    have b := rat_lt y x
    unfold cmpI cmpQ
    by_cases h : x < y
    · rw [if_pos h, if_pos (a.1 h)]
    · rw [if_neg h, if_neg (fun q => h (a.2 q))]
      by_cases h2 : y < x
      · rw [if_pos h2, if_pos (b.1 h2)]
      · rw [if_neg h2, if_neg (fun q => h2 (b.2 q))]
  rw [e] at h6
  simp only [c_rat_Cmp, rD] at h2' h3' ⊢
  generalize hz1 : x.num * (y.den : Int) = z1 at *
  generalize hz2 : y.num * (x.den : Int) = z2 at *
  simp only [wD] at h1 h1' h2' h3' h6
  refine G0 ?_; try with_reducible exact tt
  refine CallS.pu (h3') (R0 ?_); try with_reducible exact tt
  refine CallS.pu (h1) (R0 ?_); try with_reducible exact tt
  refine CallS.pu (h2') (R0 ?_); try with_reducible exact tt
  refine CallS.pu (h1') (R0 ?_); try with_reducible exact tt
  refine CallS.pu (h6) (R0 ?_); try with_reducible exact tt

theorem nil_sub {I : Nat → Prop} {w : World} {v : Value} (h : D.rep I w .nilsl v) : D.rep I w (natW 0) v := by
  have := Sub1.nil (⟨fun _ => none, I, w⟩ : Mem) v (by rw [V.rep_d]; exact h)
  rw [V.rep_d] at this
  exact this
theorem Sub1.rat0 {x y : D} : Sub1 (.d (.agg [x, y, .nilsl])) (.d (.agg [x, y, natW 0])) := fun m v k => by
  rw [V.rep_d] at k ⊢
  unfold D.rep at k ⊢
  obtain ⟨vs, h1, h0, h2⟩ := k
  refine ⟨vs, h1, h0, ?_⟩
  obtain ⟨a, r, rfl, ha, h2⟩ := D.reps_cons'.1 h2
  obtain ⟨b, r, rfl, hb, h2⟩ := D.reps_cons'.1 h2
  obtain ⟨c, r, rfl, hc, h2⟩ := D.reps_cons'.1 h2
  exact D.reps_cons.2 ⟨ha, D.reps_cons.2 ⟨hb, D.reps_cons.2 ⟨nil_sub hc, h2⟩⟩⟩
theorem rnat_rat (n : Nat) : Eqn Tryz.prog n_rat_Nat [.d (.agg [natW n])] [] (.d (rD (n : Rat))) [] := by
  refine Eqn.pure r_rat_Nat (plain_d _) ?_
  have h1 := wmake_int false n (n : Int) rfl
  have e : rD (n : Rat) = .agg [natW n, .bool false, natW 0] := by
    unfold rD
    rw [Rat.num_natCast, Rat.den_natCast, Int.natAbs_natCast]
    congr 4
  rw [e]
  have e2 : wD (n : Int) = .agg [natW n, .bool false] := by
    unfold wD
    rw [Int.natAbs_natCast]
    congr 4
  rw [e2] at h1
  simp only [c_rat_Nat]
  refine G0 ?_; try with_reducible exact tt
  refine CallS.pu (h1) (R0 ?_); try with_reducible exact tt
  exact Sub1.rat0
end
end Go.Proofs.YtijbgbpjionfjaaGreat.Am
namespace Go.Proofs.YtijbgbpjionfjaaGreat.Am
section
set_option linter.unusedVariables false
set_option linter.unusedSimpArgs false
open Go.RowKit
set_option maxRecDepth 100000
set_option linter.unusedSimpArgs false
set_option linter.unusedVariables false

theorem and1_i64 (m : Nat) (hm : m ≤ 4611686018427387904) : bits BinOp.and IntKind.i64 (m : Int) 1 = ((m % 2 : Nat) : Int) := by
  show IntKind.i64.wrap (((BitVec.ofInt 64 (m : Int)) &&& (BitVec.ofInt 64 (1 : Int))).toNat : Int) = _
  have h1 : (BitVec.ofInt 64 (1 : Int)).toNat = 1 := by decide
  rw [BitVec.toNat_and, h1, BitVec.ofInt_natCast, BitVec.toNat_ofNat, Nat.mod_eq_of_lt (by omega), Nat.and_one_is_mod]
  exact w64 (by omega) (by omega)

theorem pow_round {r x m T : Nat} (h : r * x ^ m = T) : (if m % 2 = 1 then r * x else r) * (x * x) ^ (m / 2) = T := by
  have e : x ^ m = (x * x) ^ (m / 2) * x ^ (m % 2) := by
    rw [← Nat.pow_two, ← Nat.pow_mul, ← Nat.pow_add, Nat.div_add_mod]
  rw [← h, e]
  rcases Nat.mod_two_eq_zero_or_one m with h2 | h2
  · rw [h2, if_neg (by omega)]; simp
  · rw [h2, if_pos rfl, Nat.pow_one, Nat.mul_assoc, Nat.mul_comm x]
theorem pow_le_of {r x m T : Nat} (h : r * x ^ m = T) (hm : 0 < m) (hx : 1 ≤ x) (hr : 1 ≤ r) : x ≤ T ∧ r ≤ T := by
  have h1 : 1 ≤ x ^ m := Nat.pow_pos hx
  have h2 : x ≤ x ^ m := by
    calc x = x ^ 1 := (Nat.pow_one x).symm
      _ ≤ x ^ m := Nat.pow_le_pow_right hx hm
  constructor
  · rw [← h]; exact Nat.le_trans h2 (Nat.le_mul_of_pos_left _ hr)
  · rw [← h]; exact Nat.le_mul_of_pos_right _ h1

set_option maxHeartbeats 2000000 in
theorem npow_ok (a n : Nat) (hn : n ≤ 8192) (hb : bitsN a ≤ 1 ∨ n ≤ 8192 / bitsN a) (has : size a ≤ 129) : Eqn Tryz.prog n_nat_Pow [.d (.agg [natW a]), .d (.int .i64 n)] [] (.tup [.d (.agg [natW (a ^ n)]), .d (.int .i64 0)]) [] := by
  refine Eqn.pure r_nat_Pow Plain.ok ?_
  have hbits := bits_ok a (by omega)
  have hof : Eqn Tryz.prog n_nat_Of [.d (.sl 1 [.int .u64 (1 : Nat)])] [] (.d (.agg [natW 1])) [] := by
    have := of_ok [1] (small_one (by omega)) (by simp)
    simpa [W, wval] using this
  obtain ⟨q, hq⟩ : ∃ q, bitsN a = q := ⟨_, rfl⟩
  simp only [c_nat_Pow]
  have hn0 : ¬ (n : Int) < 0 := by omega
  rw [hq] at hbits hb
  obtain ⟨T, hT⟩ : ∃ T, a ^ n = T := ⟨_, rfl⟩
  have hTs : size T ≤ 129 := by
    rw [← hT]
    by_cases h1 : q ≤ 1
    · have : a ≤ 1 := by have := lt_bitsN a; rw [hq] at this; have := Nat.pow_le_pow_right (n := 2) (by omega) h1; omega
      have h2 : a ^ n ≤ 1 := by have := Nat.pow_le_pow_left this n; rwa [Nat.one_pow] at this
      have := size_le h2
      have := size_one (x := 1) (by omega)
      omega
    · refine size_pow' (n := q * n + 1) ?_ ?_
      · rw [Nat.pow_succ]
        have h2 := lt_bitsN a
        rw [hq] at h2
        have h3 : a ^ n ≤ (2 ^ q) ^ n := Nat.pow_le_pow_left (Nat.le_of_lt h2) n
        rw [← Nat.pow_mul] at h3
        have := Nat.two_pow_pos (q * n)
        omega
      · have h2 : n ≤ 8192 / q := hb.resolve_left h1
        rw [Nat.le_div_iff_mul_le (by omega)] at h2
        rw [Nat.mul_comm] at h2
        omega
  obtain ⟨n', hn', hn2⟩ : ∃ n' : Nat, n' = (if q ≤ 1 then min n 1 else n) ∧ a ^ n' = T := by
    refine ⟨_, rfl, ?_⟩
    by_cases h1 : q ≤ 1
    · have ha1 : a ≤ 1 := by have := lt_bitsN a; rw [hq] at this; have := Nat.pow_le_pow_right (n := 2) (by omega) h1; omega
      rw [if_pos h1, ← hT]
      rcases (by omega : a = 0 ∨ a = 1) with rfl | rfl
      · rcases Nat.eq_zero_or_pos n with rfl | hp
        · rfl
        · rw [Nat.min_eq_right hp, Nat.zero_pow hp]
      · rw [Nat.one_pow, Nat.one_pow]
    · rw [if_neg h1, hT]
  rw [hT]
  by_cases h1 : q ≤ 1
  · rw [if_pos h1] at hn'
    have hq1 : ¬ (1 : Int) < q := by omega
    have hq1n : ¬ 1 < q := by omega
    have hq2 : (q : Int) ≤ 1 := by omega
    have hmin : min (n : Int) 1 = (n' : Int) := by omega
    have hn8 : n' ≤ 8192 := by omega
    have hn1 : 1 < n' → 1 ≤ a ∧ 1 ≤ 1 := fun h => by omega
    refine G1 hn0 ?_; try with_reducible exact tt
    refine AW.cond rfl (fun h => ?_) (fun h => ?_)
    · simp [hn0] at h
    refine G0 ?_; try with_reducible exact tt
    refine CallS.pu (hbits) (R1 (fs hq1 (fs hq1n h1)) ?_); try with_reducible exact tt
    refine AW.cond rfl (fun h => ?_) (fun h => ?_)
    · simp at h
    refine AW.skip ?_
    simp
    refine G0 ?_; try with_reducible exact tt
    refine CallS.pf 2 1 ⟨37, _⟩ [.int .u64 (1 : Nat)] (hof) (by first | rfl | (simp; done)) (R0 ?_); try with_reducible exact tt
    refine CallS.pu (hbits) (R1 (fs hq2 h1) ?_); try with_reducible exact tt
    refine AW.cond rfl (fun h => ?_) (fun h => ?_)
    rotate_left
    · simp [hq2, h1] at h
    refine G1 hmin ?_; try with_reducible exact tt
    refine AW.loopT (α := Nat × Nat × Nat) 4 (fun s => [(1, .d (.int .i64 (s.1 : Nat)))]) (fun s => [(0, ⟨56, [.d (natW s.2.1)]⟩), (3, ⟨56, [.d (natW s.2.2)]⟩)]) (fun s => s.1 ≤ 8192 ∧ s.2.2 * s.2.1 ^ s.1 = T ∧ (0 < s.1 → size s.2.1 ≤ 200 ∧ size s.2.2 ≤ 200) ∧ (1 < s.1 → 1 ≤ s.2.1 ∧ 1 ≤ s.2.2)) (fun s => s.1) (n', a, 1) ?_ ?_ ⟨hn8, by rw [Nat.one_mul]; exact hn2, fun _ => ⟨Nat.le_trans has (by omega), Nat.le_trans (size_one (x := 1) (by omega)) (by omega)⟩, hn1⟩ ?_ ?_ ?_
    · simp
    · simp
    · simp
    · simp
    clear hn8 hn1 hn2 hn'
    rintro ⟨m, x, r⟩ ⟨hm8, hT2, hsz, hpos⟩
    simp only at hm8 hT2 hsz hpos
    simp
    by_cases hm0 : m = 0
    · subst hm0
      rw [Nat.pow_zero, Nat.mul_one] at hT2
      subst hT2
      refine G0 ?_; try with_reducible exact tt
      refine AW.cond rfl (fun h => ?_) (fun h => ?_)
      · simp at h
      refine AW.exit ?_
      (try (simp -implicitDefEqProofs; try simp (disch := omega) only [w64, wu64]))
      refine G0 ?_; try with_reducible exact tt
    · have hm1 : (0 : Int) < m := by omega
      have hm2 : 0 < m := by omega
      obtain ⟨sx, sr⟩ := hsz hm2
      have hand := and1_i64 m (by omega)
      have hm1' := mul_ok r x (by omega) (by omega)
      have hm2' := mul_ok x x (by omega) (by omega)
      have hdv : (m : Int) / 2 = ((m / 2 : Nat) : Int) := rfl
      have hr := pow_round hT2
      have hnext : (1 < m / 2 → 1 ≤ x * x ∧ 1 ≤ (if m % 2 = 1 then r * x else r)) := fun h => by
        obtain ⟨p1, p2⟩ := hpos (by omega)
        refine ⟨Nat.mul_pos p1 p1, ?_⟩
        split
        · exact Nat.mul_pos p2 p1
        · exact p2
      have hnext2 : (0 < m / 2 → size (x * x) ≤ 200 ∧ size (if m % 2 = 1 then r * x else r) ≤ 200) := fun h => by
        obtain ⟨p1, p2⟩ := hpos (by omega)
        have q1 : 1 ≤ x * x := Nat.mul_pos p1 p1
        have q2 : 1 ≤ (if m % 2 = 1 then r * x else r) := by
          split
          · exact Nat.mul_pos p2 p1
          · exact p2
        obtain ⟨k1, k2⟩ := pow_le_of hr h q1 q2
        exact ⟨Nat.le_trans (size_le k1) (by omega), Nat.le_trans (size_le k2) (by omega)⟩
      have hlt2 : m / 2 < m := by omega
      generalize m / 2 = hm at *
      rcases Nat.mod_two_eq_zero_or_one m with h2 | h2
      · rw [h2] at hand hr hnext hnext2
        rw [if_neg (by omega)] at hr hnext hnext2
        refine G1 (fs hm1 hm2) ?_; try with_reducible exact tt
        refine AW.cond rfl (fun h => ?_) (fun h => ?_)
        rotate_left
        · simp [hm1, hm2] at h
        refine G1 hand ?_; try with_reducible exact tt
        refine AW.cond rfl (fun h => ?_) (fun h => ?_)
        · simp at h
        refine G0 ?_; try with_reducible exact tt
        refine CallS.pu (hm2') (R1 hdv ?_); try with_reducible exact tt
        repeat (first | refine AW.seq ?_ | refine AW.block ?_ | (refine AW.reg mix ?_; simp -implicitDefEqProofs [hdv]; try simp (disch := omega) only [w64, wu64]) | (refine need.of (by first | omega | kernel_rfl) ?_) | (refine AW.fin ?_; try simp -implicitDefEqProofs [hdv]))
        (try (simp -implicitDefEqProofs [hdv]; try simp (disch := omega) only [w64, wu64]))
        repeat (first | refine AW.seq ?_ | refine AW.block ?_ | (refine AW.reg mix ?_; simp -implicitDefEqProofs [hdv]; try simp (disch := omega) only [w64, wu64]) | (refine need.of (by first | omega | kernel_rfl) ?_) | (refine AW.fin ?_; try simp -implicitDefEqProofs [hdv]))
        exact ⟨hm, _, _, ⟨by omega, hr, hnext2, hnext⟩, hlt2, by simp, Subs.refl _, Subs.refl _⟩
      · rw [h2] at hand hr hnext hnext2
        rw [if_pos rfl] at hr hnext hnext2
        refine G1 (fs hm1 hm2) ?_; try with_reducible exact tt
        refine AW.cond rfl (fun h => ?_) (fun h => ?_)
        rotate_left
        · simp [hm1, hm2] at h
        refine G1 hand ?_; try with_reducible exact tt
        refine AW.cond rfl (fun h => ?_) (fun h => ?_)
        rotate_left
        · simp at h
        refine G0 ?_; try with_reducible exact tt
        refine CallS.pu (hm1') (R0 ?_); try with_reducible exact tt
        refine CallS.pu (hm2') (R1 hdv ?_); try with_reducible exact tt
        repeat (first | refine AW.seq ?_ | refine AW.block ?_ | (refine AW.reg mix ?_; simp -implicitDefEqProofs [hdv]; try simp (disch := omega) only [w64, wu64]) | (refine need.of (by first | omega | kernel_rfl) ?_) | (refine AW.fin ?_; try simp -implicitDefEqProofs [hdv]))
        (try (simp -implicitDefEqProofs [hdv]; try simp (disch := omega) only [w64, wu64]))
        repeat (first | refine AW.seq ?_ | refine AW.block ?_ | (refine AW.reg mix ?_; simp -implicitDefEqProofs [hdv]; try simp (disch := omega) only [w64, wu64]) | (refine need.of (by first | omega | kernel_rfl) ?_) | (refine AW.fin ?_; try simp -implicitDefEqProofs [hdv]))
        exact ⟨hm, _, _, ⟨by omega, hr, hnext2, hnext⟩, hlt2, by simp, Subs.refl _, Subs.refl _⟩
  · rw [if_neg h1] at hn'
    rw [hn'] at hn2
    clear hn' n'
    have hq1 : (1 : Int) < q := by omega
    have hq1n : 1 < q := by omega
    have hq2 : ¬ (q : Int) ≤ 1 := by omega
    have hq0 : (q : Int) ≠ 0 := by omega
    have hle : n ≤ 8192 / q := hb.resolve_left h1
    have hdq : IntKind.i64.wrap ((8192 : Int).tdiv q) = ((8192 / q : Nat) : Int) := by
      rw [show (8192 : Int).tdiv q = ((8192 / q : Nat) : Int) from rfl, w64 (by omega) (by have := Nat.div_le_self 8192 q; omega)]
    have ha1 : 1 ≤ a := by
      rcases Nat.eq_zero_or_pos a with rfl | h
      · exfalso
        have : bitsN 0 ≤ 0 := bitsN_le (by decide)
        omega
      · exact h
    have hn8 : n ≤ 8192 := hn
    have hn1 : 1 < n → 1 ≤ a ∧ 1 ≤ 1 := fun _ => ⟨ha1, by omega⟩
    generalize 8192 / q = dq at *
    have hle2 : ¬ (dq : Int) < n := by omega
    have hle3 : ¬ dq < n := by omega
    have hn' : True := trivial
    refine G1 hn0 ?_; try with_reducible exact tt
    refine AW.cond rfl (fun h => ?_) (fun h => ?_)
    · simp [hn0] at h
    refine G0 ?_; try with_reducible exact tt
    refine CallS.pu (hbits) (R1 (fs hq1 hq1n) ?_); try with_reducible exact tt
    refine CallS.pu (hbits) (R1 (fs hq0 (fs hdq (fs hle2 (fs hle3 (fs hq1 hq1n))))) ?_); try with_reducible exact tt
    refine AW.cond rfl (fun h => ?_) (fun h => ?_)
    · simp [hle2, hle3] at h
    refine AW.skip ?_
    simp
    refine G0 ?_; try with_reducible exact tt
    refine CallS.pf 2 1 ⟨37, _⟩ [.int .u64 (1 : Nat)] (hof) (by first | rfl | (simp; done)) (R0 ?_); try with_reducible exact tt
    refine CallS.pu (hbits) (R1 (fs hq2 h1) ?_); try with_reducible exact tt
    refine AW.cond rfl (fun h => ?_) (fun h => ?_)
    · simp [hq2, h1] at h
    refine AW.skip ?_
    simp
    refine G0 ?_; try with_reducible exact tt
    refine AW.loopT (α := Nat × Nat × Nat) 4 (fun s => [(1, .d (.int .i64 (s.1 : Nat)))]) (fun s => [(0, ⟨56, [.d (natW s.2.1)]⟩), (3, ⟨56, [.d (natW s.2.2)]⟩)]) (fun s => s.1 ≤ 8192 ∧ s.2.2 * s.2.1 ^ s.1 = T ∧ (0 < s.1 → size s.2.1 ≤ 200 ∧ size s.2.2 ≤ 200) ∧ (1 < s.1 → 1 ≤ s.2.1 ∧ 1 ≤ s.2.2)) (fun s => s.1) (n, a, 1) ?_ ?_ ⟨hn8, by rw [Nat.one_mul]; exact hn2, fun _ => ⟨Nat.le_trans has (by omega), Nat.le_trans (size_one (x := 1) (by omega)) (by omega)⟩, hn1⟩ ?_ ?_ ?_
    · simp
    · simp
    · simp
    · simp
    clear hn8 hn1 hn2 hn'
    rintro ⟨m, x, r⟩ ⟨hm8, hT2, hsz, hpos⟩
    simp only at hm8 hT2 hsz hpos
    simp
    by_cases hm0 : m = 0
    · subst hm0
      rw [Nat.pow_zero, Nat.mul_one] at hT2
      subst hT2
      refine G0 ?_; try with_reducible exact tt
      refine AW.cond rfl (fun h => ?_) (fun h => ?_)
      · simp at h
      refine AW.exit ?_
      (try (simp -implicitDefEqProofs; try simp (disch := omega) only [w64, wu64]))
      refine G0 ?_; try with_reducible exact tt
    · have hm1 : (0 : Int) < m := by omega
      have hm2 : 0 < m := by omega
      obtain ⟨sx, sr⟩ := hsz hm2
      have hand := and1_i64 m (by omega)
      have hm1' := mul_ok r x (by omega) (by omega)
      have hm2' := mul_ok x x (by omega) (by omega)
      have hdv : (m : Int) / 2 = ((m / 2 : Nat) : Int) := rfl
      have hr := pow_round hT2
      have hnext : (1 < m / 2 → 1 ≤ x * x ∧ 1 ≤ (if m % 2 = 1 then r * x else r)) := fun h => by
        obtain ⟨p1, p2⟩ := hpos (by omega)
        refine ⟨Nat.mul_pos p1 p1, ?_⟩
        split
        · exact Nat.mul_pos p2 p1
        · exact p2
      have hnext2 : (0 < m / 2 → size (x * x) ≤ 200 ∧ size (if m % 2 = 1 then r * x else r) ≤ 200) := fun h => by
        obtain ⟨p1, p2⟩ := hpos (by omega)
        have q1 : 1 ≤ x * x := Nat.mul_pos p1 p1
        have q2 : 1 ≤ (if m % 2 = 1 then r * x else r) := by
          split
          · exact Nat.mul_pos p2 p1
          · exact p2
        obtain ⟨k1, k2⟩ := pow_le_of hr h q1 q2
        exact ⟨Nat.le_trans (size_le k1) (by omega), Nat.le_trans (size_le k2) (by omega)⟩
      have hlt2 : m / 2 < m := by omega
      generalize m / 2 = hm at *
      rcases Nat.mod_two_eq_zero_or_one m with h2 | h2
      · rw [h2] at hand hr hnext hnext2
        rw [if_neg (by omega)] at hr hnext hnext2
        refine G1 (fs hm1 hm2) ?_; try with_reducible exact tt
        refine AW.cond rfl (fun h => ?_) (fun h => ?_)
        rotate_left
        · simp [hm1, hm2] at h
        refine G1 hand ?_; try with_reducible exact tt
        refine AW.cond rfl (fun h => ?_) (fun h => ?_)
        · simp at h
        refine G0 ?_; try with_reducible exact tt
        refine CallS.pu (hm2') (R1 hdv ?_); try with_reducible exact tt
        repeat (first | refine AW.seq ?_ | refine AW.block ?_ | (refine AW.reg mix ?_; simp -implicitDefEqProofs [hdv]; try simp (disch := omega) only [w64, wu64]) | (refine need.of (by first | omega | kernel_rfl) ?_) | (refine AW.fin ?_; try simp -implicitDefEqProofs [hdv]))
        (try (simp -implicitDefEqProofs [hdv]; try simp (disch := omega) only [w64, wu64]))
        repeat (first | refine AW.seq ?_ | refine AW.block ?_ | (refine AW.reg mix ?_; simp -implicitDefEqProofs [hdv]; try simp (disch := omega) only [w64, wu64]) | (refine need.of (by first | omega | kernel_rfl) ?_) | (refine AW.fin ?_; try simp -implicitDefEqProofs [hdv]))
        exact ⟨hm, _, _, ⟨by omega, hr, hnext2, hnext⟩, hlt2, by simp, Subs.refl _, Subs.refl _⟩
      · rw [h2] at hand hr hnext hnext2
        rw [if_pos rfl] at hr hnext hnext2
        refine G1 (fs hm1 hm2) ?_; try with_reducible exact tt
        refine AW.cond rfl (fun h => ?_) (fun h => ?_)
        rotate_left
        · simp [hm1, hm2] at h
        refine G1 hand ?_; try with_reducible exact tt
        refine AW.cond rfl (fun h => ?_) (fun h => ?_)
        rotate_left
        · simp at h
        refine G0 ?_; try with_reducible exact tt
        refine CallS.pu (hm1') (R0 ?_); try with_reducible exact tt
        refine CallS.pu (hm2') (R1 hdv ?_); try with_reducible exact tt
        repeat (first | refine AW.seq ?_ | refine AW.block ?_ | (refine AW.reg mix ?_; simp -implicitDefEqProofs [hdv]; try simp (disch := omega) only [w64, wu64]) | (refine need.of (by first | omega | kernel_rfl) ?_) | (refine AW.fin ?_; try simp -implicitDefEqProofs [hdv]))
        (try (simp -implicitDefEqProofs [hdv]; try simp (disch := omega) only [w64, wu64]))
        repeat (first | refine AW.seq ?_ | refine AW.block ?_ | (refine AW.reg mix ?_; simp -implicitDefEqProofs [hdv]; try simp (disch := omega) only [w64, wu64]) | (refine need.of (by first | omega | kernel_rfl) ?_) | (refine AW.fin ?_; try simp -implicitDefEqProofs [hdv]))
        exact ⟨hm, _, _, ⟨by omega, hr, hnext2, hnext⟩, hlt2, by simp, Subs.refl _, Subs.refl _⟩
end
end Go.Proofs.YtijbgbpjionfjaaGreat.Am
namespace Go.Proofs.YtijbgbpjionfjaaGreat.Am
section
set_option linter.unusedVariables false
set_option linter.unusedSimpArgs false
open Go.RowKit
set_option maxRecDepth 100000
set_option linter.unusedSimpArgs false
set_option linter.unusedVariables false

theorem rat_pow_mk (x : Rat) : ∀ n : Nat, x ^ n = mkRat (x.num ^ n) (x.den ^ n)
  | 0 => by rw [Rat.pow_zero, Int.pow_zero, Nat.pow_zero]; rfl
  | n + 1 => by
    rw [Rat.pow_succ, rat_pow_mk x n]
    conv => lhs; rhs; rw [← Rat.mkRat_self x]
    rw [Rat.mkRat_mul_mkRat, Int.pow_succ, Nat.pow_succ]

theorem rpow_rat (x : Rat) (n : Nat) (hx : 0 ≤ x.num) (hn : n ≤ 8192) (hb1 : bitsN x.num.natAbs ≤ 1 ∨ n ≤ 8192 / bitsN x.num.natAbs) (hb2 : bitsN x.den ≤ 1 ∨ n ≤ 8192 / bitsN x.den) (hs : RS x 129) (hs1 : size (x.num.natAbs ^ n) ≤ 130) (hs2 : size (x.den ^ n) ≤ 130) :
    Eqn Tryz.prog n_rat_Pow [.d (rD x), .d (.int .i64 n)] [] (.tup [.d (rD (x ^ n)), .d (.int .i64 0)]) [] := by
  refine Eqn.pure r_rat_Pow Plain.ok ?_
  have h1 := npow_ok x.num.natAbs n hn hb1 hs.1
  have h2 := npow_ok x.den n hn hb2 hs.2
  have h3 := rden_int x (by have := hs.2; omega)
  have hneg : decide (x.num < 0) = false := by rw [decide_eq_false_iff_not]; omega
  have hab := abs_ok x.num.natAbs (decide (x.num < 0))
  have hng := neg_ok x.num.natAbs (decide (x.num < 0))
  have h4 := wmake_int false (x.num.natAbs ^ n) (x.num ^ n) (by rw [if_neg (by simp), Int.natCast_pow, Int.natAbs_of_nonneg hx])
  have e : (x.num ^ n).natAbs = x.num.natAbs ^ n := Int.natAbs_pow _ _
  have h5 := made_int (x.num ^ n) (x.den ^ n) (Nat.pow_pos x.den_pos) (by rw [e]; omega) (by omega)
  rw [← rat_pow_mk] at h5
  simp only [c_rat_Pow, rD, hneg] at hab hng h3 h5 ⊢
  generalize hz : x.num ^ n = z at *
  simp only [wD] at h4 h5
  refine G0 ?_; try with_reducible exact tt
  refine CallS.pu (hab) (R0 ?_); try with_reducible exact tt
  refine CallS.pu (h1) (R0 ?_); try with_reducible exact tt
  refine AW.cond rfl (fun h => ?_) (fun h => ?_)
  · simp at h
  refine G0 ?_; try with_reducible exact tt
  refine CallS.pu (h3) (R0 ?_); try with_reducible exact tt
  refine CallS.pu (h2) (R0 ?_); try with_reducible exact tt
  refine AW.cond rfl (fun h => ?_) (fun h => ?_)
  · simp at h
  refine G0 ?_; try with_reducible exact tt
  refine CallS.pu (hng) (R0 ?_); try with_reducible exact tt
  refine CallS.pu (h4) (R0 ?_); try with_reducible exact tt
  refine CallS.pu (h5) (R0 ?_); try with_reducible exact tt

theorem rof_rat (n : Nat) (h : n < 9223372036854775808) : Eqn Tryz.prog n_rat_Of [.d (.int .i64 n)] [] (.d (rD (n : Rat))) [] := by
  refine Eqn.pure r_rat_Of (plain_d _) ?_
  have h1 := wholeOf_ok n h
  have e : rD (n : Rat) = .agg [natW n, .bool false, natW 0] := by
    unfold rD
    rw [Rat.num_natCast, Rat.den_natCast, Int.natAbs_natCast]
    congr 4
  rw [e]
  simp only [c_rat_Of]
  refine G0 ?_; try with_reducible exact tt
  refine CallS.pu (h1) (R0 ?_); try with_reducible exact tt
  exact Sub1.rat0

theorem rmake_rat (p q : Nat) (hp : p < 9223372036854775808) (hq : q < 9223372036854775808) (h0 : 0 < q) : Eqn Tryz.prog n_rat_Make [.d (.int .i64 p), .d (.int .i64 q)] [] (.tup [.d (rD (mkRat p q)), .d (.int .i64 0)]) [] := by
  have hfr : Eqn Tryz.prog n_rat_Frac [.d (.agg [natW p, .bool false]), .d (.agg [natW q, .bool false])] [] (.tup [.d (rD (mkRat p q)), .d (.int .i64 0)]) [] := by
    refine Eqn.pure r_rat_Frac Plain.ok ?_
    have ha := abs_ok q false
    have hp1 := abs_ok p false
    have hn1 := neg_ok p false
    have hn2 := neg_ok q false
    have hz := zero_ok q
    have hq0 : (q == 0) = false := by simp; omega
    rw [hq0] at hz
    have h4 := wmake_int false p (p : Int) rfl
    have h5 := made_int (p : Int) q h0 (by rw [Int.natAbs_natCast]; exact Nat.le_trans (size_one (by omega)) (by omega)) (Nat.le_trans (size_one (by omega)) (by omega))
    have e2 : wD (p : Int) = .agg [natW p, .bool false] := by
      unfold wD
      rw [Int.natAbs_natCast]
      congr 4
    rw [e2] at h4 h5
    simp only [c_rat_Frac, rD] at h5 ⊢
    refine G0 ?_; try with_reducible exact tt
    refine CallS.pu (ha) (R0 ?_); try with_reducible exact tt
    refine CallS.pu (hz) (R0 ?_); try with_reducible exact tt
    refine AW.cond rfl (fun h => ?_) (fun h => ?_)
    · simp at h
    refine G0 ?_; try with_reducible exact tt
    refine CallS.pu (hn1) (R0 ?_); try with_reducible exact tt
    refine CallS.pu (hn2) (R0 ?_); try with_reducible exact tt
    refine CallS.pu (hp1) (R0 ?_); try with_reducible exact tt
    refine CallS.pu (h4) (R0 ?_); try with_reducible exact tt
    refine CallS.pu (ha) (R0 ?_); try with_reducible exact tt
    refine CallS.pu (h5) (R0 ?_); try with_reducible exact tt
  refine Eqn.pure r_rat_Make Plain.ok ?_
  have h1 := wholeOf_ok p hp
  have h2 := wholeOf_ok q hq
  simp only [c_rat_Make, rD] at hfr ⊢
  refine G0 ?_; try with_reducible exact tt
  refine CallS.pu (h1) (R0 ?_); try with_reducible exact tt
  refine CallS.pu (h2) (R0 ?_); try with_reducible exact tt
  refine CallS.pu (hfr) (R0 ?_); try with_reducible exact tt
end
end Go.Proofs.YtijbgbpjionfjaaGreat.Am
namespace Go.Proofs.YtijbgbpjionfjaaGreat.Am
section
set_option linter.unusedVariables false
set_option linter.unusedSimpArgs false
open Go.RowKit
set_option maxRecDepth 100000
set_option linter.unusedSimpArgs false
set_option linter.unusedVariables false
end
end Go.Proofs.YtijbgbpjionfjaaGreat.Am
namespace Go.Proofs.YtijbgbpjionfjaaGreat.Am
section
set_option linter.unusedVariables false
set_option linter.unusedSimpArgs false
open Go.RowKit
set_option maxRecDepth 100000
set_option linter.unusedSimpArgs false
set_option linter.unusedVariables false

theorem partV_mod (d k : Nat) (hd : d ≤ 8) (hk : k ≤ 1023) : partV d k = ((k % 2 ^ d : Nat) : Int) := by
  have h2 : 2 ^ d ≤ 256 := Nat.pow_le_pow_right (n := 2) (by omega) hd
  have h2' : 0 < 2 ^ d := Nat.two_pow_pos d
  have hm := Nat.mod_lt k h2'
  have e0 : (2 : Int) ^ d = (2 ^ d : Nat) := by rw [Int.natCast_pow]; rfl
  have e1 : IntKind.i64.wrap (2 ^ d : Nat) = (2 ^ d : Nat) := by rw [w64 (by omega) (by omega)]
  have e2 : IntKind.i64.wrap (((2 ^ d : Nat) : Int) - 1) = ((2 ^ d - 1 : Nat) : Int) := by rw [w64 (by omega) (by omega)]; omega
  rw [partV, e0, e1, e2]
  show IntKind.i64.wrap (((BitVec.ofInt 64 (k : Int)) &&& (BitVec.ofInt 64 ((2 ^ d - 1 : Nat) : Int))).toNat : Int) = _
  rw [BitVec.toNat_and, BitVec.ofInt_natCast, BitVec.ofInt_natCast, BitVec.toNat_ofNat, BitVec.toNat_ofNat, Nat.mod_eq_of_lt (show k < 2 ^ 64 by omega), Nat.mod_eq_of_lt (show 2 ^ d - 1 < 2 ^ 64 by omega), Nat.and_two_pow_sub_one_eq_mod]
  exact w64 (by omega) (by omega)

theorem value_big (d k : Nat) (hd : d ≤ 8) (hk : k ≤ 1023) :
    Eqn Tryz.prog n_float_Value [.d (.int .i64 d), .d (.int .i64 k)] [] (.tup [.d (.agg [natW ((2 ^ d + k % 2 ^ d) * 2 ^ (k / 2 ^ d) - 2 ^ d)]), .d (.int .i64 0)]) [] := by
  have h2 : 2 ^ d ≤ 256 := Nat.pow_le_pow_right (n := 2) (by omega) hd
  have hm := Nat.mod_lt k (Nat.two_pow_pos d)
  exact value_ok d k (k % 2 ^ d) hd hk (partV_mod d k hd hk) (by omega)
end
end Go.Proofs.YtijbgbpjionfjaaGreat.Am
namespace Go.Proofs.YtijbgbpjionfjaaGreat.Am
section
set_option linter.unusedVariables false
set_option linter.unusedSimpArgs false
open Go.RowKit
set_option maxRecDepth 100000
set_option linter.unusedSimpArgs false
set_option linter.unusedVariables false

/-- what a Morris counter stands for -/
def valM (a k : Nat) : Rat := (a : Rat) * ((mkRat ((a + 1 : Nat) : Int) a) ^ k - ((1 : Nat) : Rat))

theorem step_frac {a : Nat} (ha : 1 ≤ a) : (mkRat ((a + 1 : Nat) : Int) a).num = ((a + 1 : Nat) : Int) ∧ (mkRat ((a + 1 : Nat) : Int) a).den = a := by
  obtain ⟨p1, p2, p3⟩ := mkRat_parts ((a + 1 : Nat) : Int) a (by omega)
  rw [Int.natAbs_natCast] at p1 p2
  have hg : Nat.gcd (a + 1) a = 1 := by
    rw [Nat.gcd_comm, Nat.gcd_rec, show (a + 1) % a = 1 % a by rw [Nat.add_mod_left], ← Nat.gcd_rec, Nat.gcd_one_right]
  rw [hg, Nat.div_one] at p1 p2
  refine ⟨?_, p2⟩
  have : ¬ (mkRat ((a + 1 : Nat) : Int) a).num < 0 := fun h => by have := p3.1 h; omega
  omega

theorem pow_size {x n : Nat} (h : bitsN x * n ≤ 8192) : size (x ^ n) ≤ 129 := by
  refine size_pow' (n := bitsN x * n + 1) ?_ (by omega)
  rw [Nat.pow_succ]
  have h3 : x ^ n ≤ (2 ^ bitsN x) ^ n := Nat.pow_le_pow_left (Nat.le_of_lt (lt_bitsN x)) n
  rw [← Nat.pow_mul] at h3
  have := Nat.two_pow_pos (bitsN x * n)
  omega

theorem mvalue_ok (a k : Nat) (h1 : 1 ≤ a) (h2 : a ≤ 4096) (hk : k ≤ 1023) (hb : bitsN (a + 1) * k ≤ 8192) : Eqn Tryz.prog n_morris_Value [.d (.int .i64 a), .d (.int .i64 k)] [] (.tup [.d (rD (valM a k)), .d (.int .i64 0)]) [] ∧ RS (valM a k) 300 := by
  obtain ⟨q1, q2⟩ := step_frac h1
  have hmk := rmake_rat (a + 1) a (by omega) (by omega) (by omega)
  obtain ⟨x, hx⟩ : ∃ x, x = mkRat ((a + 1 : Nat) : Int) a := ⟨_, rfl⟩
  have hv : valM a k = (a : Rat) * (x ^ k - ((1 : Nat) : Rat)) := by rw [hx]; rfl
  rw [← hx] at q1 q2 hmk
  have hba : bitsN a ≤ bitsN (a + 1) := bitsN_le (Nat.lt_trans (Nat.lt_succ_self a) (lt_bitsN _))
  have hb2 : bitsN a * k ≤ 8192 := Nat.le_trans (Nat.mul_le_mul_right _ hba) hb
  have le8 : ∀ q : Nat, q * k ≤ 8192 → q ≤ 1 ∨ k ≤ 8192 / q := fun q h => by
    by_cases h1 : q ≤ 1
    · exact .inl h1
    · right; rw [Nat.le_div_iff_mul_le (by omega), Nat.mul_comm]; exact h
  have hxs : RS x 129 := ⟨by rw [q1, Int.natAbs_natCast]; exact Nat.le_trans (size_one (by omega)) (by omega), by rw [q2]; exact Nat.le_trans (size_one (by omega)) (by omega)⟩
  have hpow := rpow_rat x k (by omega) (by omega) (by rw [q1, Int.natAbs_natCast]; exact le8 _ hb) (by rw [q2]; exact le8 _ hb2) hxs (by rw [q1, Int.natAbs_natCast]; exact Nat.le_trans (pow_size hb) (by omega)) (by rw [q2]; exact Nat.le_trans (pow_size hb2) (by omega))
  have hps : RS (x ^ k) 129 := ⟨by rw [Rat.num_pow, Int.natAbs_pow, q1, Int.natAbs_natCast]; exact pow_size hb, by rw [Rat.den_pow, q2]; exact pow_size hb2⟩
  have h1s : RS ((1 : Nat) : Rat) 1 := ⟨by rw [Rat.num_natCast]; exact size_one (by omega), by rw [Rat.den_natCast]; exact size_one (by omega)⟩
  have has : RS (a : Rat) 1 := ⟨by rw [Rat.num_natCast, Int.natAbs_natCast]; exact size_one (by omega), by rw [Rat.den_natCast]; exact size_one (by omega)⟩
  have hsub := rsub_rat (x ^ k) ((1 : Nat) : Rat) (hps.le (by omega)) (h1s.le (by omega))
  have hss := RS.sub hps h1s
  have hmul := rmul_int (a : Rat) (x ^ k - ((1 : Nat) : Rat)) (has.le (by omega)) (hss.le (by omega))
  refine ⟨?_, by rw [hv]; exact (RS.mul has hss).le (by omega)⟩
  have hoa := rof_rat a (by omega)
  have ho1 := rof_rat 1 (by omega)
  have hw := mwrong1_ok a k
  rw [show wrongM (a : Int) [(k : Int)] = 0 by unfold wrongM; rw [if_pos (by omega), if_pos (by simp [okK]; omega)]] at hw
  have e1 : IntKind.i64.wrap ((a : Int) + 1) = ((a + 1 : Nat) : Int) := by rw [w64 (by omega) (by omega)]; omega
  refine Eqn.pure r_morris_Value Plain.ok ?_
  rw [hv]
  clear hv hxs hps h1s has hss q1 q2 hx
  generalize x ^ k - ((1 : Nat) : Rat) = xd at *
  generalize x ^ k = xk at *
  generalize (a : Rat) * xd = v at *
  generalize (a : Rat) = aq at *
  generalize ((1 : Nat) : Rat) = oq at *
  generalize ha1 : a + 1 = a' at *
  simp only [c_morris_Value, rD] at hmk hpow hsub hmul hoa ho1 ⊢
  refine G0 ?_; try with_reducible exact tt
  refine CallS.pf 1 1 ⟨3, _⟩ [.int .i64 k] (hw) (by first | rfl | (simp [e1]; done)) (R1 e1 ?_); try with_reducible exact tt
  refine AW.cond rfl (fun h => ?_) (fun h => ?_)
  · simp at h
  refine G1 e1 ?_; try with_reducible exact tt
  refine CallS.pu (hmk) (R0 ?_); try with_reducible exact tt
  refine CallS.pu (hpow) (R0 ?_); try with_reducible exact tt
  refine AW.cond rfl (fun h => ?_) (fun h => ?_)
  · simp at h
  refine G0 ?_; try with_reducible exact tt
  refine CallS.pu (hoa) (R0 ?_); try with_reducible exact tt
  refine CallS.pu (ho1) (R0 ?_); try with_reducible exact tt
  refine CallS.pu (hsub) (R0 ?_); try with_reducible exact tt
  refine CallS.pu (hmul) (R0 ?_); try with_reducible exact tt
end
end Go.Proofs.YtijbgbpjionfjaaGreat.Am
namespace Go.Proofs.YtijbgbpjionfjaaGreat.Am
section
set_option linter.unusedVariables false
set_option linter.unusedSimpArgs false
open Go.RowKit
set_option maxRecDepth 100000
set_option linter.unusedSimpArgs false
set_option linter.unusedVariables false

theorem meth_mvalue : MethOK Tryz.prog 167 "tallymark/chain.value" n_chain_aMorris_value := fun v w => by kernel_rfl
theorem meth_fvalue : MethOK Tryz.prog 168 "tallymark/chain.value" n_chain_aFloat_value := fun v w => by kernel_rfl
theorem meth_yvalue : MethOK Tryz.prog 169 "tallymark/chain.value" n_chain_aYu_value := fun v w => by kernel_rfl

/-- what a chain's place stands for -/
def valF (d k : Nat) : Nat := (2 ^ d + k % 2 ^ d) * 2 ^ (k / 2 ^ d) - 2 ^ d
def valC (k a y : Nat) : Rat := if k = 1 then valM a y else if k = 2 then ((valF a y : Nat) : Rat) else (((placeY a y).value : Nat) : Rat)

theorem cmvalue_ok (a k : Nat) (h1 : 1 ≤ a) (h2 : a ≤ 4096) (hk : k ≤ 1023) (hb : bitsN (a + 1) * k ≤ 8192) : Eqn Tryz.prog n_chain_aMorris_value [.d (.int .i64 a), .d (.int .i64 k)] [] (.tup [.d (rD (valM a k)), .d (.int .i64 0)]) [] := by
  refine Eqn.pure r_chain_aMorris_value Plain.ok ?_
  have h := (mvalue_ok a k h1 h2 hk hb).1
  simp only [c_chain_aMorris_value, rD] at h ⊢
  refine G0 ?_; try with_reducible exact tt
  refine CallS.pu (h) (R0 ?_); try with_reducible exact tt
theorem cfvalue_ok (d k : Nat) (hd : d ≤ 8) (hk : k ≤ 1023) : Eqn Tryz.prog n_chain_aFloat_value [.d (.int .i64 d), .d (.int .i64 k)] [] (.tup [.d (rD ((valF d k : Nat) : Rat)), .d (.int .i64 0)]) [] := by
  refine Eqn.pure r_chain_aFloat_value Plain.ok ?_
  have h := value_big d k hd hk
  rw [show (2 ^ d + k % 2 ^ d) * 2 ^ (k / 2 ^ d) - 2 ^ d = valF d k from rfl] at h
  have h2 := rnat_rat (valF d k)
  generalize valF d k = v at *
  simp only [c_chain_aFloat_value, rD] at h2 ⊢
  refine G0 ?_; try with_reducible exact tt
  refine CallS.pu (h) (R0 ?_); try with_reducible exact tt
  refine CallS.pu (h2) (R0 ?_); try with_reducible exact tt
theorem cyvalue_ok (s k : Nat) (s1 : 1 ≤ s) (s5 : s ≤ 5) (hk : k ≤ 1023) : Eqn Tryz.prog n_chain_aYu_value [.d (.int .i64 s), .d (.int .i64 k)] [] (.tup [.d (rD (((placeY s k).value : Nat) : Rat)), .d (.int .i64 0)]) [] := by
  refine Eqn.pure r_chain_aYu_value Plain.ok ?_
  have h := at_good s k s1 s5 hk
  have h2 := rnat_rat (placeY s k).value
  generalize placeY s k = p at *
  simp only [c_chain_aYu_value, rD, plD] at h h2 ⊢
  refine G0 ?_; try with_reducible exact tt
  refine CallS.pu (h) (R0 ?_); try with_reducible exact tt
  refine CallS.pu (h2) (R0 ?_); try with_reducible exact tt

theorem goodC_bits {a w x : Nat} (h : GoodC 1 a w) (hx : x ≤ 2 ^ w - 1) : bitsN (a + 1) * x ≤ 8192 := by
  obtain ⟨h, -⟩ := h
  rcases h with ⟨-, -, -, h⟩ | ⟨h, -⟩ | ⟨h, -⟩
  · exact Nat.le_trans (Nat.mul_le_mul_left _ hx) h
  · omega
  · omega

theorem cvalue_ok {k a w : Nat} (h : GoodC k a w) (x : Nat) (hx : x ≤ 2 ^ w - 1) : Eqn Tryz.prog n_chain_Param_Value [.d (parD k a w), .d (.int .i64 x)] [] (.tup [.d (rD (valC k a x)), .d (.int .i64 0)]) [] := by
  refine Eqn.pure r_chain_Param_Value Plain.ok ?_
  have hat := at_ok1 k a w h.2.2 x (by omega) (by omega) (goodC_check h)
  have hkd := kind_ok k a w
  have h10 : 2 ^ w ≤ 2 ^ 10 := Nat.pow_le_pow_right (by omega) h.2.2
  have hx1 : x ≤ 1023 := by omega
  have hb := goodC_bits (a := a) (w := w) (x := x)
  obtain ⟨hc, -⟩ := h
  simp only [c_chain_Param_Value, parD] at hat ⊢
  rcases hc with ⟨rfl, a1, a2, a3⟩ | ⟨rfl, a1⟩ | ⟨rfl, a1, a2⟩
  · have hv := cmvalue_ok a x a1 a2 hx1 (Nat.le_trans (Nat.mul_le_mul_left _ hx) a3)
    rw [show kindD ((1 : Nat) : Int) a = .ifc 167 (.int .i64 a) from rfl] at hkd
    rw [show valC 1 a x = valM a x from rfl]
    generalize valM a x = v at *
    simp only [rD] at hv ⊢
    refine G0 ?_; try with_reducible exact tt
    refine CallS.pf 2 1 ⟨3, _⟩ [.int .i64 x] (hat) (by first | rfl | (simp; done)) (R0 ?_); try with_reducible exact tt
    refine AW.cond rfl (fun h => ?_) (fun h => ?_)
    · simp at h
    refine G0 ?_; try with_reducible exact tt
    refine CallS.pu (hkd) (R0 ?_); try with_reducible exact tt
    refine ⟨_, meth_mvalue, ?_⟩
    refine CallS.pu (hv) (R0 ?_); try with_reducible exact tt
    trace_state
  · have hv := cfvalue_ok a x a1 hx1
    rw [show kindD ((2 : Nat) : Int) a = .ifc 168 (.int .i64 a) from rfl] at hkd
    rw [show valC 2 a x = ((valF a x : Nat) : Rat) from rfl]
    generalize ((valF a x : Nat) : Rat) = v at *
    simp only [rD] at hv ⊢
    refine G0 ?_; try with_reducible exact tt
    refine CallS.pf 2 1 ⟨3, _⟩ [.int .i64 x] (hat) (by first | rfl | (simp; done)) (R0 ?_); try with_reducible exact tt
    refine AW.cond rfl (fun h => ?_) (fun h => ?_)
    · simp at h
    refine G0 ?_; try with_reducible exact tt
    refine CallS.pu (hkd) (R0 ?_); try with_reducible exact tt
    refine ⟨_, meth_fvalue, ?_⟩
    refine CallS.pu (hv) (R0 ?_); try with_reducible exact tt
  · have hv := cyvalue_ok a x a1 a2 hx1
    rw [show kindD ((3 : Nat) : Int) a = .ifc 169 (.int .i64 a) from rfl] at hkd
    rw [show valC 3 a x = (((placeY a x).value : Nat) : Rat) from rfl]
    generalize (((placeY a x).value : Nat) : Rat) = v at *
    simp only [rD] at hv ⊢
    refine G0 ?_; try with_reducible exact tt
    refine CallS.pf 2 1 ⟨3, _⟩ [.int .i64 x] (hat) (by first | rfl | (simp; done)) (R0 ?_); try with_reducible exact tt
    refine AW.cond rfl (fun h => ?_) (fun h => ?_)
    · simp at h
    refine G0 ?_; try with_reducible exact tt
    refine CallS.pu (hkd) (R0 ?_); try with_reducible exact tt
    refine ⟨_, meth_yvalue, ?_⟩
    refine CallS.pu (hv) (R0 ?_); try with_reducible exact tt
end
end Go.Proofs.YtijbgbpjionfjaaGreat.Am
namespace Go.Proofs.YtijbgbpjionfjaaGreat.Am
section
set_option linter.unusedVariables false
set_option linter.unusedSimpArgs false
open Go.RowKit
set_option maxRecDepth 100000
set_option linter.unusedSimpArgs false
set_option linter.unusedVariables false

/-- a small parameter that may be -/
def SmallR (k a b : Nat) : Prop := k = 4 ∧ 1 ≤ a ∧ a ≤ 8 ∧ b ≤ 3 ∨ k ≠ 4 ∧ GoodS k a b
theorem goodR_of {k a b : Nat} (h : SmallR k a b) : GoodR k a b := by
  rcases h with ⟨rfl, h1, h2, h3⟩ | ⟨hk, h⟩
  · exact .inl ⟨rfl, h1, by omega, by omega⟩
  · exact .inr ⟨hk, goodC_of h⟩

theorem lown_ok (k a b : Int) : Eqn Tryz.prog n_Tlaw17_Own [.d (parD k a b)] [] (.d (parD k a b)) [] := by
  refine Eqn.pure r_Tlaw17_Own Plain.ok ?_
  simp only [c_Tlaw17_Own, parD]
  refine G0 ?_; try with_reducible exact tt
theorem and_tmod (y : Int) (m n : Nat) (hm : m ≤ 1000000) (hn : n ≤ 1000000) : ∃ (N Y : Nat), bits BinOp.and IntKind.i64 y (m : Int) = N ∧ IntKind.i64.wrap ((n : Int) + 1) = (n : Int) + 1 ∧ (N : Int).tmod ((n : Int) + 1) = Y ∧ Y ≤ n := by
  obtain ⟨N, h1, h2, h3⟩ := and_b y m (by omega)
  have hY : N % (n + 1) ≤ n := by have := Nat.mod_lt N (show 0 < n + 1 by omega); omega
  refine ⟨N, N % (n + 1), h1, w64 (by omega) (by omega), ?_, hY⟩
  rw [Int.tmod_eq_emod_of_nonneg (by omega)]; norm_cast

theorem lwithin_ok {k a b : Nat} (h : SmallR k a b) (y t : Int) (f : Bool) : ∃ (Y T : Nat) (F : Bool), WellR k a b Y T F ∧ Eqn Tryz.prog n_Tlaw17_Within [.d (parD k a b), .d (.agg [.int .i64 y, .int .i64 t, .bool f])] [] (.d (tsD Y T F)) [] := by
  rcases h with ⟨rfl, h1, h2, h3⟩ | ⟨hk, h⟩
  · obtain ⟨N1, Y, a1, a2, a3, a4⟩ := and_tmod y 7 a (by omega) (by omega)
    obtain ⟨N2, T, b1, b2, b3, b4⟩ := and_tmod t 3 b (by omega) (by omega)
    replace a1 : bits BinOp.and IntKind.i64 y 7 = N1 := a1
    replace b1 : bits BinOp.and IntKind.i64 t 3 = N2 := b1
    refine ⟨Y, T, f && (T == b), .inl ⟨rfl, a4, b4, by simp⟩, ?_⟩
    refine Eqn.pure r_Tlaw17_Within Plain.ok ?_
    have hF : ((T : Int) == (b : Int)) = (T == b) := by rw [Bool.eq_iff_iff]; simp; omega
    simp only [c_Tlaw17_Within, parD, tsD]
    generalize (T == b) = F at *
    cases f with
    | true =>
      refine G0B ?_; try with_reducible exact tt
      refine AW.cond rfl (fun h => ?_) (fun h => ?_)
      · refine G1B (fs a1 (fs a2 (fs a3 (fs b1 (fs b2 (fs b3 hF)))))) ?_; try with_reducible exact tt
      · simp at h
    | false =>
      refine G0B ?_; try with_reducible exact tt
      refine AW.cond rfl (fun h => ?_) (fun h => ?_)
      · refine G1B (fs a1 (fs a2 (fs a3 (fs b1 (fs b2 (fs b3 hF)))))) ?_; try with_reducible exact tt
      · simp at h
  · have hW : 2 ^ b - 1 ≤ 15 := by have := Nat.pow_le_pow_right (n := 2) (by omega) h.2.2; omega
    have hb2 : 0 < 2 ^ b := Nat.two_pow_pos b
    obtain ⟨N1, Y, a1, a2, a3, a4⟩ := and_tmod y 15 (2 ^ b - 1) (by omega) (by omega)
    replace a1 : bits BinOp.and IntKind.i64 y 15 = N1 := a1
    refine ⟨Y, 0, f && (Y == 2 ^ b - 1), .inr ⟨hk, rfl, a4, by simp⟩, ?_⟩
    refine Eqn.pure r_Tlaw17_Within Plain.ok ?_
    have hF : ((Y : Int) == ((2 ^ b - 1 : Nat) : Int)) = (Y == 2 ^ b - 1) := by rw [Bool.eq_iff_iff]; simp only [beq_iff_eq]; omega
    have e0 : (2 : Int) ^ b = (2 ^ b : Nat) := by rw [Int.natCast_pow]; rfl
    have hk' : ¬ (k : Int) = 4 := by omega
    have hb64 : b ≤ 64 := by have := h.2.2; omega
    simp only [c_Tlaw17_Within, parD, tsD]
    generalize (Y == 2 ^ b - 1) = F at *
    generalize 2 ^ b = S at *
    have e3 : IntKind.i64.wrap (S : Int) = S := w64 (by omega) (by omega)
    have e4 : IntKind.i64.wrap ((S : Int) - 1) = ((S - 1 : Nat) : Int) := by rw [w64 (by omega) (by omega)]; omega
    generalize S - 1 = S1 at *
    cases f with
    | true =>
      refine G1B (fs hk hk') ?_; try with_reducible exact tt
      refine AW.cond rfl (fun h => ?_) (fun h => ?_)
      · simp [hk'] at h
      · refine G1B (fs a1 (fs a2 (fs a3 (fs e0 (fs e3 (fs e4 (fs hF hb64))))))) ?_; try with_reducible exact tt
    | false =>
      refine G1B (fs hk hk') ?_; try with_reducible exact tt
      refine AW.cond rfl (fun h => ?_) (fun h => ?_)
      · simp [hk'] at h
      · refine G1B (fs a1 (fs a2 (fs a3 (fs e0 (fs e3 (fs e4 (fs hF hb64))))))) ?_; try with_reducible exact tt

/-- what a small parameter is made of -/
theorem lsmall_ok (k a b : Int) : ∃ K A B : Nat, SmallR K A B ∧ ∀ (y t : Int) (f : Bool), ∃ (Y T : Nat) (F : Bool), WellR K A B Y T F ∧ Eqn Tryz.prog n_Tlaw17_Small [.d (parD k a b), .d (.agg [.int .i64 y, .int .i64 t, .bool f])] [] (.tup [.d (parD K A B), .d (tsD Y T F)]) [] := by
  obtain ⟨e1, K, e2, hK, e3⟩ := tmod_r k 4 (by omega) (by omega)
  obtain ⟨B1, B2, b1, b2, b3, b4⟩ := and_tmod b 255 3 (by omega) (by omega)
  replace b1 : bits BinOp.and IntKind.i64 b 255 = B1 := b1
  replace b3 : (B1 : Int).tmod 4 = B2 := b3
  obtain ⟨B3, d1, d2, d3⟩ := and_b b 3 (by omega)
  obtain ⟨A1, a1, a2, a3⟩ := and_b a 3 (by omega)
  obtain ⟨A2, a4, a5, a6⟩ := and_b a 1 (by omega)
  obtain ⟨A3, a7, a8, a9⟩ := and_b a 7 (by omega)
  replace a1 : bits BinOp.and IntKind.i64 a 3 = A1 := a1
  replace a4 : bits BinOp.and IntKind.i64 a 1 = A2 := a4
  replace a7 : bits BinOp.and IntKind.i64 a 7 = A3 := a7
  replace d1 : bits BinOp.and IntKind.i64 b 3 = B3 := d1
  have e4 : IntKind.i64.wrap (1 + (B2 : Int)) = ((1 + B2 : Nat) : Int) := by rw [w64 (by omega) (by omega)]; omega
  have hK' : K = 0 ∨ K = 1 ∨ K = 2 ∨ K = 3 := by omega
  rcases hK' with rfl | rfl | rfl | rfl
  · refine ⟨1, 1 + A1, 1 + B2, .inr ⟨by omega, by omega, by omega, by omega⟩, fun y t f => ?_⟩
    obtain ⟨Y, T, F, hw, hE⟩ := lwithin_ok (k := 1) (a := 1 + A1) (b := 1 + B2) (.inr ⟨by omega, by omega, by omega, by omega⟩) y t f
    refine ⟨Y, T, F, hw, ?_⟩
    refine Eqn.pure r_Tlaw17_Small Plain.ok ?_
    simp only [c_Tlaw17_Small, parD, tsD] at hE ⊢
    generalize 1 + A1 = XA at *
    generalize 1 + B2 = XB at *
    refine G1B (fs e1 (fs e2 e3)) ?_; try with_reducible exact tt
    refine AW.cond rfl (fun h => ?_) (fun h => ?_)
    · refine G1B (fs b1 (fs b3 (fs e4 (fs a1 a3)))) ?_; try with_reducible exact tt
      simp at hE
      refine CallS.pu (hE) (R0B ?_); try with_reducible exact tt
    · simp at h
  · refine ⟨2, A2, 1 + B2, .inr ⟨by omega, by omega, by omega, by omega⟩, fun y t f => ?_⟩
    obtain ⟨Y, T, F, hw, hE⟩ := lwithin_ok (k := 2) (a := A2) (b := 1 + B2) (.inr ⟨by omega, by omega, by omega, by omega⟩) y t f
    refine ⟨Y, T, F, hw, ?_⟩
    refine Eqn.pure r_Tlaw17_Small Plain.ok ?_
    simp only [c_Tlaw17_Small, parD, tsD] at hE ⊢
    generalize 1 + B2 = XB at *
    refine G1B (fs e1 (fs e2 e3)) ?_; try with_reducible exact tt
    refine AW.cond rfl (fun h => ?_) (fun h => ?_)
    · simp at h
    refine G0B ?_; try with_reducible exact tt
    refine AW.cond rfl (fun h => ?_) (fun h => ?_)
    · refine G1B (fs b1 (fs b3 (fs e4 a4))) ?_; try with_reducible exact tt
      simp at hE
      refine CallS.pu (hE) (R0B ?_); try with_reducible exact tt
    · simp at h
  · refine ⟨3, 1 + A2, 1 + B2, .inr ⟨by omega, by omega, by omega, by omega⟩, fun y t f => ?_⟩
    obtain ⟨Y, T, F, hw, hE⟩ := lwithin_ok (k := 3) (a := 1 + A2) (b := 1 + B2) (.inr ⟨by omega, by omega, by omega, by omega⟩) y t f
    refine ⟨Y, T, F, hw, ?_⟩
    refine Eqn.pure r_Tlaw17_Small Plain.ok ?_
    simp only [c_Tlaw17_Small, parD, tsD] at hE ⊢
    generalize 1 + A2 = XA at *
    generalize 1 + B2 = XB at *
    refine G1B (fs e1 (fs e2 e3)) ?_; try with_reducible exact tt
    refine AW.cond rfl (fun h => ?_) (fun h => ?_)
    · simp at h
    refine G0B ?_; try with_reducible exact tt
    refine AW.cond rfl (fun h => ?_) (fun h => ?_)
    · simp at h
    refine G0B ?_; try with_reducible exact tt
    refine AW.cond rfl (fun h => ?_) (fun h => ?_)
    · refine G1B (fs b1 (fs b3 (fs e4 (fs a4 a6)))) ?_; try with_reducible exact tt
      simp at hE
      refine CallS.pu (hE) (R0B ?_); try with_reducible exact tt
    · simp at h
  · refine ⟨4, 1 + A3, B3, .inl ⟨rfl, by omega, by omega, by omega⟩, fun y t f => ?_⟩
    obtain ⟨Y, T, F, hw, hE⟩ := lwithin_ok (k := 4) (a := 1 + A3) (b := B3) (.inl ⟨rfl, by omega, by omega, by omega⟩) y t f
    refine ⟨Y, T, F, hw, ?_⟩
    refine Eqn.pure r_Tlaw17_Small Plain.ok ?_
    simp only [c_Tlaw17_Small, parD, tsD] at hE ⊢
    generalize 1 + A3 = XA at *
    refine G1B (fs e1 (fs e2 e3)) ?_; try with_reducible exact tt
    refine AW.cond rfl (fun h => ?_) (fun h => ?_)
    · simp at h
    refine G0B ?_; try with_reducible exact tt
    refine AW.cond rfl (fun h => ?_) (fun h => ?_)
    · simp at h
    refine G0B ?_; try with_reducible exact tt
    refine AW.cond rfl (fun h => ?_) (fun h => ?_)
    · simp at h
    · refine G1B (fs d1 (fs a7 a9)) ?_; try with_reducible exact tt
      simp at hE
      refine CallS.pu (hE) (R0B ?_); try with_reducible exact tt
end
end Go.Proofs.YtijbgbpjionfjaaGreat.Am
namespace Go.Proofs.YtijbgbpjionfjaaGreat.Am
section
set_option linter.unusedVariables false
set_option linter.unusedSimpArgs false
open Go.RowKit
set_option maxRecDepth 100000
set_option linter.unusedSimpArgs false
set_option linter.unusedVariables false
end
end Go.Proofs.YtijbgbpjionfjaaGreat.Am
namespace Go.Proofs.YtijbgbpjionfjaaGreat.Am
section
set_option linter.unusedVariables false
set_option linter.unusedSimpArgs false
open Go.RowKit
set_option maxRecDepth 100000
set_option linter.unusedSimpArgs false
set_option linter.unusedVariables false
end
end Go.Proofs.YtijbgbpjionfjaaGreat.Am
namespace Go.Proofs.YtijbgbpjionfjaaGreat.Am
section
set_option linter.unusedVariables false
set_option linter.unusedSimpArgs false
open Go.RowKit

theorem fnOf_enter {P : Program} {f : FuncId} {c : C} {rs : List RV} {nt : Nat} (hf : fnOf P f = some (c, rs, nt, false)) (vs : Array Value) (w : World) : (callFunc f vs).run P w = .ok (.enter f vs) w := by
  unfold fnOf at hf
  split at hf
  · rename_i fn hfn
    split at hf
    · rename_i b hb
      simp only [Option.some.injEq, Prod.mk.injEq] at hf
      obtain ⟨h1, h2, h3, h4⟩ := hf
      have h1 : ¬ fn.name = "runtime.NumGoroutine" := by simpa using h4
      simp [callFunc, hfn, h1, hb]
    · cases hf
  · cases hf

/-- the world that a law finds: nothing has a name, what is there stays -/
abbrev memW (W : World) : Mem := ⟨fun _ => none, fun b => b < W.heap.size, W⟩

theorem law_walk {P : Program} {f : FuncId} {args : List V} {c : C} {rs : List RV} {nt : Nat} (hf : fnOf P f = some (c, rs, nt, false)) (E : Eqn P f args [] (.d (.bool true)) []) {W : World} {vs : List Value} (h : V.reps (memW W) args vs) :
    Calls P f vs.toArray W (fun e W' => e = .returned (.bool true) ∧ Same W W') := by
  rcases E.run (memW W) vs ⟨fun b h => h, fun n b h => by cases h⟩ h (by simp) (fun n i b h => by simp at h) (fun _ _ => rfl) with ⟨v, h1, _⟩ | ⟨_, h2⟩
  · rw [fnOf_enter hf] at h1; cases h1
  · refine h2.mono ?_
    rintro e w' ⟨v, m', rfl, rfl, hE⟩
    have hv := hE.rep
    rw [V.rep_d] at hv
    unfold D.rep at hv
    subst hv
    exact ⟨rfl, hE.le.os, hE.le.tape, hE.le.output, hE.le.size, fun k hk _ => hE.le.imm k hk⟩

theorem reps_of {I : Nat → Prop} {w : World} {α : Type} (f : α → D) (g : α → Value) (h : ∀ a, D.rep I w (f a) (g a)) : ∀ l : List α, D.reps I w (l.map f) (l.map g)
  | [] => by simp
  | a :: l => by
    rw [List.map_cons, List.map_cons, D.reps_cons]
    exact ⟨h a, reps_of f g h l⟩

/-- a slice that came in, of cells that are data -/
theorem rep_cells {W : World} {v : Value} {α : Type} {l : List α} (f : α → D) (g : α → Value) (hg : ∀ a, (g a).oneCell' = true) (hr : ∀ a, D.rep (fun b => b < W.heap.size) W (f a) (g a)) (h : Cells W v 1 l.length (l.map g)) : V.rep (memW W) (.d (.sl l.length (l.map f))) v := by
  rw [V.rep_d]
  unfold D.rep
  obtain ⟨h1, p, cap, rfl, h2, h3, h4⟩ := h
  refine ⟨p, cap, rfl, h2, h3, l.map g, fun u hu => ?_, reps_of f g hr l, ?_⟩
  · obtain ⟨a, -, rfl⟩ := List.mem_map.1 hu
    exact hg a
  · rcases h4 with ⟨rfl, h5, h6⟩ | ⟨b, o, rfl, hb, hc⟩
    · left
      exact ⟨rfl, h6, by rw [List.eq_nil_of_length_eq_zero h5]; rfl⟩
    · exact .inr ⟨b, o, rfl, .inr hb, hc⟩

/-- bools that came in -/
theorem rep_bools {W : World} {v : Value} {cs : List Bool} (h : Bools W v cs) : V.rep (memW W) (.d (.sl cs.length (cs.map .bool))) v :=
  rep_cells D.bool Value.bool (fun _ => rfl) (fun _ => by unfold D.rep; rfl) h
theorem bools_len {W : World} {v : Value} {cs : List Bool} (h : Bools W v cs) : cs.length ≤ maxLen := h.len

/-- numbers and bools that came in -/
theorem rep_agg {W : World} {l : List D} {vs : List Value} (h1 : ∀ u ∈ vs, u.oneCell' = true) (h : D.reps (fun b => b < W.heap.size) W l vs) : V.rep (memW W) (.d (.agg l)) (.agg vs.toArray) := by
  rw [V.rep_d]
  unfold D.rep
  exact ⟨vs, rfl, h1, h⟩
end
end Go.Proofs.YtijbgbpjionfjaaGreat.Am
namespace Go.Proofs.YtijbgbpjionfjaaGreat.Am
section
set_option linter.unusedVariables false
set_option linter.unusedSimpArgs false
open Go.RowKit
set_option maxRecDepth 100000
set_option linter.unusedSimpArgs false
set_option linter.unusedVariables false

/-- what an act comes to: n more, or another one merged into it -/
def actM (cs : List Bool) (k a b y t : Nat) (f : Bool) (z u : Nat) (g : Bool) (n : Nat) (m : Bool) (p : Nat) (d : Bool) : TR := if m then mergeRM cs k a b y t f z u g p d else addRM cs k a b n y t f p d
end
end Go.Proofs.YtijbgbpjionfjaaGreat.Am
namespace Go.Proofs.YtijbgbpjionfjaaGreat.Am
section
set_option linter.unusedVariables false
set_option linter.unusedSimpArgs false
open Go.RowKit
set_option maxRecDepth 100000
set_option linter.unusedSimpArgs false
set_option linter.unusedVariables false

theorem tvalue_ok {a b y t : Nat} {f : Bool} (h : GoodT a b) (hw : WellT a b y t f) : Eqn Tryz.prog n_thin_Param_Value [.d (tpD a b), .d (tsD y t f)] [] (.tup [.d (.agg [natW (y * 2 ^ t)]), .d (.int .i64 0)]) [] := by
  refine Eqn.pure r_thin_Param_Value Plain.ok ?_
  have hwr := twrong1_ok h hw
  have hy : y ≤ 1023 := Nat.le_trans hw.1 h.2.1
  have ht : t ≤ 20 := Nat.le_trans hw.2.1 h.2.2
  have hof : Eqn Tryz.prog n_nat_Of [.d (.sl 1 [.int .u64 y])] [] (.d (.agg [natW y])) [] := by
    have := of_ok [y] (small_one (by omega)) (by simp)
    simpa [W, wval] using this
  have hsh := shl_ok y t (Nat.le_trans (size_one (by omega)) (by omega)) (by omega)
  have e1 : IntKind.u64.wrap (y : Int) = y := wu64 (by omega) (by omega)
  generalize y * 2 ^ t = v at *
  simp only [c_thin_Param_Value, tpD, tsD] at hwr ⊢
  refine G0B ?_; try with_reducible exact tt
  refine CallS.pf 3 3 ⟨91, _⟩ [.int .i64 y, .int .i64 t, .bool f] (hwr) (by first | rfl | (simp [-Bool.exists_bool]; done)) (R0B ?_); try with_reducible exact tt
  refine AW.cond rfl (fun h => ?_) (fun h => ?_)
  · simp at h
  refine G1B e1 ?_; try with_reducible exact tt
  refine CallS.pf 4 1 ⟨37, _⟩ [.int .u64 (y : Nat)] (hof) (by first | rfl | (simp [-Bool.exists_bool]; done)) (R0B ?_); try with_reducible exact tt
  refine CallS.pu (hsh) (R0B ?_); try with_reducible exact tt

/-- what a register stands for -/
def valR (k a b y t : Nat) : Rat := if k = 4 then ((y * 2 ^ t : Nat) : Rat) else valC k a y
theorem rvalue_ok {k a b y t : Nat} {f : Bool} (h : GoodR k a b) (hw : WellR k a b y t f) : Eqn Tryz.prog n_reg_Param_Value [.d (parD k a b), .d (tsD y t f)] [] (.tup [.d (rD (valR k a b y t)), .d (.int .i64 0)]) [] := by
  refine Eqn.pure r_reg_Param_Value Plain.ok ?_
  have hwr := rwrong1_ok h hw
  rcases hw with ⟨rfl, hw⟩ | ⟨hk, rfl, hy, hf⟩
  · replace h : GoodT a b := by
      rcases h with ⟨-, h⟩ | ⟨hk, -⟩
      · exact h
      · exact absurd rfl hk
    have h1 := rthin_ok 4 a b
    have h2 := rthinned_ok y t f
    have h3 := tvalue_ok h hw
    have h4 := rnat_rat (y * 2 ^ t)
    rw [show valR 4 a b y t = ((y * 2 ^ t : Nat) : Rat) from rfl]
    generalize y * 2 ^ t = v at *
    generalize ((v : Nat) : Rat) = q at *
    simp only [c_reg_Param_Value, parD, tpD, tsD, rD, show ((4 : Nat) : Int) = 4 from rfl] at hwr h1 h2 h3 h4 ⊢
    refine G0B ?_; try with_reducible exact tt
    refine CallS.pf 3 3 ⟨51, _⟩ [.int .i64 y, .int .i64 t, .bool f] (hwr) (by first | rfl | (simp [-Bool.exists_bool]; done)) (R0B ?_); try with_reducible exact tt
    refine AW.cond rfl (fun h => ?_) (fun h => ?_)
    · simp at h
    refine G0B ?_; try with_reducible exact tt
    refine AW.cond rfl (fun h => ?_) (fun h => ?_)
    · refine G0B ?_; try with_reducible exact tt
      refine CallS.pu (h1) (R0B ?_); try with_reducible exact tt
      refine CallS.pu (h2) (R0B ?_); try with_reducible exact tt
      refine CallS.pu (h3) (R0B ?_); try with_reducible exact tt
      refine CallS.pu (h4) (R0B ?_); try with_reducible exact tt
    · simp at h
  · rcases h with ⟨rfl, -⟩ | ⟨-, h⟩
    · exact absurd rfl hk
    have h1 := rchain_ok k a b
    have h3 := cvalue_ok h y hy
    have hk' : ¬ (k : Int) = 4 := by omega
    rw [show valR k a b y 0 = valC k a y from if_neg hk]
    generalize valC k a y = q at *
    simp only [c_reg_Param_Value, parD, tsD, rD] at hwr h1 h3 ⊢
    refine G0B ?_; try with_reducible exact tt
    refine CallS.pf 3 3 ⟨51, _⟩ [.int .i64 y, .int .i64 (0 : Nat), .bool f] (hwr) (by first | rfl | (simp [-Bool.exists_bool]; done)) (R0B ?_); try with_reducible exact tt
    refine AW.cond rfl (fun h => ?_) (fun h => ?_)
    · simp at h
    refine G1B (fs hk hk') ?_; try with_reducible exact tt
    refine AW.cond rfl (fun h => ?_) (fun h => ?_)
    · simp [hk'] at h
    · refine G0B ?_; try with_reducible exact tt
      refine CallS.pu (h1) (R0B ?_); try with_reducible exact tt
      refine CallS.pu (h3) (R0B ?_); try with_reducible exact tt
end
end Go.Proofs.YtijbgbpjionfjaaGreat.Am
namespace Go.Proofs.YtijbgbpjionfjaaGreat.Am
section
set_option linter.unusedVariables false
set_option linter.unusedSimpArgs false
open Go.RowKit
set_option maxRecDepth 100000
set_option linter.unusedSimpArgs false
set_option linter.unusedVariables false
end
end Go.Proofs.YtijbgbpjionfjaaGreat.Am
namespace Go.Proofs.YtijbgbpjionfjaaGreat.Am
section
set_option linter.unusedVariables false
set_option linter.unusedSimpArgs false
open Go.RowKit
set_option linter.unusedSimpArgs false
set_option linter.unusedVariables false

theorem nat_RS {n N : Nat} (h : size n ≤ N) (h1 : 1 ≤ N) : RS ((n : Nat) : Rat) N := by
  refine ⟨?_, ?_⟩
  · rw [Rat.num_natCast, Int.natAbs_natCast]; exact h
  · rw [Rat.den_natCast]; exact Nat.le_trans (size_one (by omega)) h1
theorem valC_RS {k a w x : Nat} (h : GoodC k a w) (hx : x ≤ 2 ^ w - 1) : RS (valC k a x) 1000 := by
  have h10 : 2 ^ w ≤ 2 ^ 10 := Nat.pow_le_pow_right (by omega) h.2.2
  have hb := goodC_bits (a := a) (w := w) (x := x)
  obtain ⟨h, -⟩ := id h
  unfold valC
  rcases h with ⟨rfl, h1, h2, h3⟩ | ⟨rfl, h1⟩ | ⟨rfl, h1, h2⟩
  · rw [if_pos rfl]
    exact (mvalue_ok a x h1 h2 (by omega) (Nat.le_trans (Nat.mul_le_mul_left _ hx) h3)).2.le (by omega)
  · refine nat_RS ?_ (by omega)
    have hd : 2 ^ a ≤ 2 ^ 8 := Nat.pow_le_pow_right (by omega) h1
    have hm := Nat.mod_lt x (Nat.two_pow_pos a)
    have hdv : x / 2 ^ a ≤ 1023 := Nat.le_trans (Nat.div_le_self _ _) (by omega)
    have hs := size_le (show valF a x ≤ (2 ^ a + x % 2 ^ a) * 2 ^ (x / 2 ^ a) from Nat.sub_le _ _)
    have h3 := size_mulR (2 ^ a + x % 2 ^ a) (2 ^ (x / 2 ^ a))
    have h4 := size_one (x := 2 ^ a + x % 2 ^ a) (by omega)
    have h5 := size_two (x / 2 ^ a) (by omega)
    omega
  · exact nat_RS (Nat.le_trans (placeY_size h1 h2 (by omega)).2.2.1 (by omega)) (by omega)
end
end Go.Proofs.YtijbgbpjionfjaaGreat.Am
namespace Go.Proofs.YtijbgbpjionfjaaGreat.Am
section
set_option linter.unusedVariables false
set_option linter.unusedSimpArgs false
open Go.RowKit
set_option maxRecDepth 100000
set_option linter.unusedSimpArgs false
set_option linter.unusedVariables false

theorem rowsD_len (k a b : Nat) (rs : List Rw) : (rowsD k a b rs).length = rs.length * 3 := flat_len (fun x => by simp [rowD]) rs
theorem rowsD_get (k a b : Nat) (rs : List Rw) (i : Nat) (h : i < rs.length) : ((rowsD k a b rs).drop (i * 3)).take 3 = [.int .u64 rs[i].a, .int .u64 rs[i].b, .ptr (arrD k a b rs[i].l) 0] := flat_get (f := rowD k a b) (fun x => by simp [rowD]) rs i h

theorem shashes_ok {R C k a b T : Nat} (rs : List Rw) (h0 : 1 ≤ rs.length) (hn : rs.length ≤ 4) :
    Eqn Tryz.prog n_cms_Sketch_Hashes [.p 0 0] [skO R C k a b rs T] (.own 1 2 rs.length) [skO R C k a b rs T, ⟨39, (hashesD (rs.map fun r => (r.a, r.b))).map .d⟩] := by
  refine Eqn.gen [0, 1] r_cms_Sketch_Hashes (by simp) (by simp) (by rfl) (by decide) (by simp) (by simp [skO, skD]) ?_
  have hl := rowsD_len k a b rs
  obtain ⟨F, hF⟩ : ∃ F : Nat → List D, F = fun i => hashesD ((rs.take i).map fun r => (r.a, r.b)) := ⟨_, rfl⟩
  have hF0 : F 0 = [] := by rw [hF]; simp [hashesD]
  have hFn : hashesD (rs.map fun r => (r.a, r.b)) = F rs.length := by rw [hF]; simp
  have hFl : ∀ i, i ≤ rs.length → (F i).length = i * 2 := by
    intro i hi
    rw [hF]
    show (hashesD ((rs.take i).map fun r => (r.a, r.b))).length = i * 2
    unfold hashesD
    rw [flat_len (n := 2) (fun x => by simp), List.length_map, List.length_take]; omega
  have hFs : ∀ i (h : i < rs.length), F (i + 1) = F i ++ [.int .u64 rs[i].a, .int .u64 rs[i].b] := by
    intro i hi
    rw [hF]
    show hashesD ((rs.take (i + 1)).map fun r => (r.a, r.b)) = hashesD ((rs.take i).map fun r => (r.a, r.b)) ++ _
    rw [take_next _ _ hi, List.map_append, hashesD, List.flatMap_append]; simp [hashesD]
  have hgt := rowsD_get k a b rs
  rw [hFn]
  clear hF hFn
  simp only [c_cms_Sketch_Hashes, skO, skD, List.map_cons, List.map_nil]
  generalize rowsD k a b rs = RD at *
  refine G0 ?_; try with_reducible exact tt
  refine AW.loopG (α := Nat) (fun i => setS (List.replicate 22 .junk) [(3, if i = 0 then .d .nilsl else .own 1 2 i), (9, .d (.sl rs.length RD)), (10, .d (.int .i64 rs.length)), (11, .d (.int .i64 (i : Int)))]) (fun i => some ⟨74, [.d (.int .i64 R), .d (.int .i64 C), .d (.int .i64 k), .d (.int .i64 a), .d (.int .i64 b), .d (.sl rs.length RD), .d (.int .i64 T)]⟩ :: (if i = 0 then [] else [some ⟨39, (F i).map .d⟩])) (fun i => i ≤ rs.length) (fun i => rs.length - i) 0 ?_ (Nat.zero_le _) ?_ ?_ ?_
  · intro i hi; split <;> simp
  · simp
  · simp
  rintro i hi
  by_cases hiN : i < rs.length
  · have hi1 : (i : Int) < rs.length := by omega
    have hg := hgt i hiN
    have hsn := hFs i hiN
    have hbd : i * 3 + 3 ≤ rs.length * 3 := by omega
    have ew : IntKind.i64.wrap ((i : Int) + 1) = (i : Int) + 1 := w64 (by omega) (by omega)
    generalize rs[i].a = x1 at *
    generalize rs[i].b = x2 at *
    generalize rs[i].l = x3 at *
    by_cases hi0 : i = 0
    · subst hi0
      simp [hF0] at hg hsn
      simp
      refine A10 (fs hiN (fs hi1 (fs hg hl))) ?_; try with_reducible exact tt
      refine ⟨1, 1, 3, by simp, by omega, by omega, ?_, ?_⟩
      · simp [swT, swH, sw, Ob.sw, V.ren, V.rens]
      · simp [swT, swH, sw, Ob.sw, V.ren, V.rens, hsn]
    · rw [if_neg hi0, if_neg hi0]
      have hfl := hFl i hi
      simp
      refine A10 (fs hiN (fs hi1 (fs hg (fs hl (fs hbd (fs hfl ew)))))) ?_; try with_reducible exact tt
      refine ⟨i + 1, 1, 4, by simp, by omega, by omega, ?_, ?_⟩
      · simp [swT, swH, sw, Ob.sw, V.ren, V.rens]
      · simp [swT, swH, sw, Ob.sw, V.ren, V.rens, hsn]
  · have h2 : i = rs.length := by omega
    subst h2
    have hz : rs.length ≠ 0 := by omega
    rw [if_neg hz, if_neg hz]
    simp
    refine A00 ?_; try with_reducible exact tt

theorem scell_ok {R C k a b T : Nat} (hg : GoodR k a b) (rs : List Rw) (hC : C ≤ 64) (i j : Nat) (hi : i < rs.length) (hn : rs.length ≤ 4) (hr : GoodRow C k a b rs[i]) (hj : j < C) :
    Eqn Tryz.prog n_cms_Sketch_Cell [.p 0 0, .d (.int .i64 i), .d (.int .i64 j)] [skO R C k a b rs T] (.tup [.d (tsD (rs[i].l.getD j (0, 0, false)).1 (rs[i].l.getD j (0, 0, false)).2.1 (rs[i].l.getD j (0, 0, false)).2.2), .d (.int .i64 0)]) [skO R C k a b rs T] := by
  refine Eqn.gen [0] r_cms_Sketch_Cell (by simp) (by simp) (by rfl) (by decide) (by simp [tsD]) (by simp [skO, skD]) ?_
  obtain ⟨-, -, hl, hw⟩ := hr
  have hgt := cgetD_ok rs[i].l j hg hw (by omega) (by omega)
  have hgr := rowsD_get k a b rs i hi
  have hrl := rowsD_len k a b rs
  have hg2 : ∀ h : i * 3 + 2 < (rowsD k a b rs).length, (rowsD k a b rs)[i * 3 + 2] = .ptr (arrD k a b rs[i].l) 0 := by
    intro h
    have := congrArg (fun l => l[2]?) hgr
    simp only [List.getElem?_take, List.getElem?_drop] at this
    rw [if_pos (by omega), List.getElem?_eq_getElem h] at this
    simpa using this
  simp only [c_cms_Sketch_Cell, skO, skD, List.map_cons, List.map_nil, tsD] at hgt ⊢
  generalize rowsD k a b rs = RD at *
  generalize arrD k a b rs[i].l = AD at *
  generalize rs[i].l.getD j (0, 0, false) = s at *
  have g1 : ¬ (i : Int) < 0 := by omega
  have g2 : (i : Int) < rs.length := by omega
  have g3 : ¬ (rs.length : Int) ≤ i := by omega
  have g4 : ¬ rs.length ≤ i := by omega
  have g5 : i * 3 < rs.length * 3 := by omega
  have g6 : i * 3 + 2 < rs.length * 3 := by omega
  refine A11 (fs g1 (fs g2 (fs g3 (fs g4 (fs g5 (fs g6 (fs hi (fs hg2 hrl)))))))) hgt ?_; try with_reducible exact tt

/-- the value of a key's register in a row; the least of them, of the first i rows -/
def valAt (C k a b key : Nat) (r : Rw) : Rat := valR k a b (r.l.getD (colOf C r.a r.b key) (0, 0, false)).1 (r.l.getD (colOf C r.a r.b key) (0, 0, false)).2.1
def leastQ (f : Nat → Rat) : Nat → Rat
  | 0 => 0
  | i + 1 => if i = 0 ∨ f i < leastQ f i then f i else leastQ f i
def valsOf (C k a b key : Nat) (rs : List Rw) (i : Nat) : Rat := match rs[i]? with
  | some r => valAt C k a b key r
  | none => 0
theorem valR_RS {k a b y t : Nat} {f : Bool} (h : GoodR k a b) (hw : WellR k a b y t f) : RS (valR k a b y t) 1000 := by
  unfold valR
  rcases hw with ⟨rfl, hw⟩ | ⟨hk, rfl, hy, hf⟩
  · replace h : GoodT a b := by
      rcases h with ⟨-, h⟩ | ⟨hk, -⟩
      · exact h
      · exact absurd rfl hk
    rw [if_pos rfl]
    have h1 : y ≤ 1023 := Nat.le_trans hw.1 h.2.1
    have h2 : t ≤ 20 := Nat.le_trans hw.2.1 h.2.2
    have h3 : 2 ^ t ≤ 2 ^ 20 := Nat.pow_le_pow_right (by omega) h2
    have h4 := Nat.mul_le_mul h1 h3
    exact (nat_RS (size_one (by omega)) (by omega)).le (by omega)
  · rcases h with ⟨rfl, -⟩ | ⟨-, h⟩
    · exact absurd rfl hk
    · rw [if_neg hk]; exact valC_RS h hy
theorem valAt_RS {C k a b key : Nat} (hg : GoodR k a b) (r : Rw) (hr : GoodRow C k a b r) (h1 : 1 ≤ C) : RS (valAt C k a b key r) 1000 := by
  obtain ⟨-, -, hl, hw⟩ := hr
  exact valR_RS hg (wells_get hw (show colOf C r.a r.b key < r.l.length by rw [hl]; exact Nat.mod_lt _ (by omega)))
theorem leastQ_RS {f : Nat → Rat} : ∀ n, (∀ i, i < n → RS (f i) 1000) → RS (leastQ f n) 1000
  | 0, _ => ⟨Nat.zero_le _, Nat.le_trans (size_one (by unfold leastQ; decide)) (by omega)⟩
  | n + 1, h => by
    unfold leastQ
    split
    · exact h n (by omega)
    · exact leastQ_RS n fun i hi => h i (by omega)

set_option maxHeartbeats 1000000 in
theorem squery_ok {R C k a b T : Nat} (hg : GoodR k a b) (rs : List Rw) (h1 : 1 ≤ C) (hC : C ≤ 64) (hn0 : 1 ≤ rs.length) (hn : rs.length ≤ 4) (hr : ∀ r ∈ rs, GoodRow C k a b r) (key : Nat) (hk : key < hP) :
    Eqn Tryz.prog n_cms_Sketch_Query [.p 0 0, .d (.int .u64 key)] [skO R C k a b rs T] (.tup [.d (rD (leastQ (valsOf C k a b key rs) rs.length)), .d (.int .i64 0)]) [skO R C k a b rs T] := by
  refine Eqn.gen [0] r_cms_Sketch_Query (by simp) (by simp) (by rfl) (by decide) (by simp) (by simp [skO, skD]) ?_
  have hRS : ∀ i, i < rs.length → RS (valsOf C k a b key rs i) 1000 := by
    intro i hi
    unfold valsOf
    rw [List.getElem?_eq_getElem hi]
    exact valAt_RS hg _ (hr _ (List.getElem_mem _)) h1
  have hL : ∀ i, i ≤ rs.length → RS (leastQ (valsOf C k a b key rs) i) 1000 := fun i hi => leastQ_RS i fun j hj => hRS j (by omega)
  have hrl := rowsD_len k a b rs
  have hgr := rowsD_get k a b rs
  have hv : ∀ i (h : i < rs.length), valsOf C k a b key rs i = valAt C k a b key rs[i] := by
    intro i h
    unfold valsOf
    rw [List.getElem?_eq_getElem h]
  have hst : ∀ i, leastQ (valsOf C k a b key rs) (i + 1) = if i = 0 ∨ valsOf C k a b key rs i < leastQ (valsOf C k a b key rs) i then valsOf C k a b key rs i else leastQ (valsOf C k a b key rs) i := fun i => rfl
  have h00 : leastQ (valsOf C k a b key rs) 0 = 0 := rfl
  simp only [c_cms_Sketch_Query, skO, skD, List.map_cons, List.map_nil]
  generalize rowsD k a b rs = RD at *
  generalize valsOf C k a b key rs = f at *
  generalize leastQ f = g at *
  refine G0 ?_; try with_reducible exact tt
  refine AW.loopT (α := Nat) 3 (fun i => [(19, .d (.int .i64 (i : Int)))]) (fun i => [(2, ⟨60, [.d (natW (g i).num.natAbs), .d (.bool (decide ((g i).num < 0))), .d (natW ((g i).den - 1))]⟩)]) (fun i => i ≤ rs.length) (fun i => rs.length - i) 0 ?_ ?_ (Nat.zero_le _) ?_ ?_ ?_
  · simp
  · simp
  · simp
  · rw [h00, show natW (Rat.num 0).natAbs = .sl 0 [] from rfl, show natW ((Rat.den 0) - 1) = .sl 0 [] from rfl, show decide (Rat.num 0 < 0) = false from rfl]
    simp
    intro m vs h
    obtain ⟨v1, r1, rfl, k1, h⟩ := V.reps_cons'.1 h
    obtain ⟨v2, r2, rfl, k2, h⟩ := V.reps_cons'.1 h
    obtain ⟨v3, r3, rfl, k3, h⟩ := V.reps_cons'.1 h
    exact V.reps_cons.2 ⟨Sub1.nil _ _ k1, V.reps_cons.2 ⟨k2, V.reps_cons.2 ⟨Sub1.nil _ _ k3, h⟩⟩⟩
  rintro i hi
  simp
  by_cases hiN : i < rs.length
  · have hi1 : (i : Int) < rs.length := by omega
    have hgi := hgr i hiN
    have hri := hr _ (List.getElem_mem hiN)
    have hvi := hv i hiN
    have hbd : i * 3 + 3 ≤ rs.length * 3 := by omega
    have ew : IntKind.i64.wrap ((i : Int) + 1) = (i : Int) + 1 := w64 (by omega) (by omega)
    generalize rs[i] = r at *
    obtain ⟨hA, hB, hl, hw⟩ := hri
    have hof := hof_ok r.a r.b key C hA hB hk h1 hC
    rw [show hsum r.a r.b key % C = colOf C r.a r.b key from rfl] at hof
    have hcol : colOf C r.a r.b key < C := Nat.mod_lt _ (by omega)
    have hget := cgetD_ok r.l (colOf C r.a r.b key) hg hw (by omega) (by omega)
    have hval := rvalue_ok hg (wells_get hw (show colOf C r.a r.b key < r.l.length by omega))
    unfold valAt at hvi
    rw [← hvi] at hval
    have hcmp := rcmp_rat (f i) (g i) ((hRS i hiN).le (by omega)) ((hL i hi).le (by omega))
    have hsi := hst i
    generalize colOf C r.a r.b key = col at *
    generalize r.l.getD col (0, 0, false) = s at *
    obtain ⟨y, t, fl⟩ := s
    simp only [hD, tsD, rD, parD] at hof hget hval hcmp
    generalize f i = fi at *
    generalize arrD k a b r.l = AD at *
    generalize r.a = A at *
    generalize r.b = B at *
    by_cases hi0 : i = 0
    · rw [if_pos (.inl hi0)] at hsi
      subst hi0
      simp at hgi
      refine A13 (fs hiN (fs hi1 (fs hgi hrl))) hof hget hval ?_; try with_reducible exact tt
      refine ⟨1, by omega, by omega, by simp, ?_⟩
      simp [hsi]
    · have hi0' : ¬ (i : Int) = 0 := by omega
      by_cases hlt : fi < g i
      · rw [if_pos (.inr hlt)] at hsi
        have hc : cmpQ fi (g i) = -1 := by unfold cmpQ; rw [if_pos hlt]
        rw [hc] at hcmp
        refine A14 (fs hiN (fs hi1 (fs hgi (fs hrl (fs hbd (fs ew (fs hi0 hi0'))))))) hof hget hval hcmp ?_; try with_reducible exact tt
        refine ⟨i + 1, by omega, by omega, by simp, ?_⟩
        simp [hsi]
      · rw [if_neg (by rintro (h | h); exact hi0 h; exact hlt h)] at hsi
        have hc : ¬ cmpQ fi (g i) < 0 := by unfold cmpQ; rw [if_neg hlt]; split <;> omega
        generalize cmpQ fi (g i) = c at *
        refine A14 (fs hiN (fs hi1 (fs hgi (fs hrl (fs hbd (fs ew (fs hi0 (fs hi0' hc)))))))) hof hget hval hcmp ?_; try with_reducible exact tt
        refine ⟨i + 1, by omega, by omega, by simp, ?_⟩
        simp [hsi]
  · have h2 : i = rs.length := by omega
    subst h2
    simp only [rD]
    refine A00 ?_; try with_reducible exact tt
end
end Go.Proofs.YtijbgbpjionfjaaGreat.Am
namespace Go.Proofs.YtijbgbpjionfjaaGreat.Am
section
set_option linter.unusedVariables false
set_option linter.unusedSimpArgs false
open Go.RowKit
set_option maxRecDepth 100000
set_option linter.unusedSimpArgs false
set_option linter.unusedVariables false

/-- a draw, as data -/
def drD (r c k a b : Int) (ws : List Nat) : D := .agg [.int .i64 r, .int .i64 c, .int .i64 k, .int .i64 a, .int .i64 b, .sl ws.length (ws.map fun x : Nat => .int .u64 x)]

theorem dparam_ok (r c k a b : Int) (ws : List Nat) : ∃ R C K A B : Nat, GoodP R C K A B ∧ (R : Int) = 1 + bits BinOp.and IntKind.i64 r 3 ∧ Eqn Tryz.prog n_Tlaw21_Draw_Param [.d (drD r c k a b ws)] [] (.d (cpD R C K A B)) [] := by
  obtain ⟨K, A, B, hsr, hsm⟩ := lsmall_ok k a b
  obtain ⟨Y, T, F, hw, hs1⟩ := hsm 0 0 false
  have hown := lown_ok K A B
  obtain ⟨r1, hr1, hr2, hr3⟩ := and_b r 3 (by omega)
  obtain ⟨c1, hc1, hc2, -⟩ := and_b c 255 (by omega)
  replace hr1 : bits BinOp.and IntKind.i64 r 3 = r1 := hr1
  replace hc1 : bits BinOp.and IntKind.i64 c 255 = c1 := hc1
  have e1 : IntKind.i64.wrap (1 + (c1 : Int) % 64) = ((1 + c1 % 64 : Nat) : Int) := by rw [w64 (by omega) (by omega)]; omega
  have e2 : (c1 : Int).tmod 64 = (c1 : Int) % 64 := by rw [Int.tmod_eq_emod_of_nonneg (by omega)]
  refine ⟨1 + r1, 1 + c1 % 64, K, A, B, ⟨by omega, by omega, by omega, by omega, goodR_of hsr⟩, by rw [hr1]; omega, ?_⟩
  refine Eqn.pure r_Tlaw21_Draw_Param Plain.ok ?_
  simp only [c_Tlaw21_Draw_Param, drD, parD, cpD, tsD] at hs1 hown ⊢
  refine A12 (fs hr1 (fs hr3 (fs hc1 (fs e1 e2)))) hs1 hown ?_; try with_reducible exact tt

/-- the numbers of a draw's hashes -/
def hnum (ws : List Nat) (i : Nat) : Nat := if i < ws.length then ws.getD i 0 % hP else i + 1
def drawH (ws : List Nat) (R : Nat) : List (Nat × Nat) := (List.range R).map fun i => (hnum ws (2 * i), hnum ws (2 * i + 1))
theorem drawH_lt (ws : List Nat) {R : Nat} (h : R ≤ 4) : ∀ x ∈ drawH ws R, x.1 < hP ∧ x.2 < hP := by
  intro x hx
  obtain ⟨i, hi, rfl⟩ := List.mem_map.1 hx
  rw [List.mem_range] at hi
  have key : ∀ j, j ≤ 8 → hnum ws j < hP := by
    intro j hj
    unfold hnum
    split
    · exact Nat.mod_lt _ (by decide)
    · unfold hP; omega
  exact ⟨key _ (by omega), key _ (by omega)⟩

theorem dnum_ok (r c k a b : Int) (ws : List Nat) (hw : ws.length ≤ 9223372036854775807) (i : Nat) (hi : i ≤ 8) : Eqn Tryz.prog n_Tlaw21_Draw_Hashes_1 [.d (.int .i64 i), .p 0 0] [⟨26, [.d (.int .i64 r), .d (.int .i64 c), .d (.int .i64 k), .d (.int .i64 a), .d (.int .i64 b), .d (.sl ws.length (ws.map fun x : Nat => .int .u64 x))]⟩] (.d (.int .u64 (hnum ws i))) [⟨26, [.d (.int .i64 r), .d (.int .i64 c), .d (.int .i64 k), .d (.int .i64 a), .d (.int .i64 b), .d (.sl ws.length (ws.map fun x : Nat => .int .u64 x))]⟩] := by
  refine Eqn.gen [0] r_Tlaw21_Draw_Hashes_1 (by simp) (by simp) (by rfl) (by decide) (by simp) (by simp) ?_
  simp only [c_Tlaw21_Draw_Hashes_1]
  unfold hnum hP
  by_cases h : i < ws.length
  · have h1 : (i : Int) < ws.length := by omega
    have e : (ws.getD i 0) = ws[i] := by simp [List.getD, h]
    have e2 : (ws[i] : Int).tmod 2305843009213693951 = (ws[i] : Int) % 2305843009213693951 := by rw [Int.tmod_eq_emod_of_nonneg (by omega)]
    rw [if_pos h, e]
    refine A10 (fs h (fs h1 e2)) ?_; try with_reducible exact tt
  · have h1 : ¬ (i : Int) < ws.length := by omega
    have e1 : IntKind.i64.wrap ((i : Int) + 1) = ((i + 1 : Nat) : Int) := by rw [w64 (by omega) (by omega)]; omega
    have e2 : IntKind.u64.wrap ((i : Int) + 1) = (i : Int) + 1 := by rw [IntKind.wrap_u64]; omega
    rw [if_neg h]
    refine A10 (fs h (fs h1 (fs e1 e2))) ?_; try with_reducible exact tt

theorem dhashes_ok (r c k a b : Int) (ws : List Nat) (hw : ws.length ≤ 9223372036854775807) (R : Nat) (hR : (R : Int) = 1 + bits BinOp.and IntKind.i64 r 3) (h1 : 1 ≤ R) (h4 : R ≤ 4) : Eqn Tryz.prog n_Tlaw21_Draw_Hashes [.d (drD r c k a b ws)] [] (.own 0 2 R) [⟨39, (hashesD (drawH ws R)).map .d⟩] := by
  refine Eqn.gen [1] r_Tlaw21_Draw_Hashes (by simp) (by simp) (by rfl) (by decide) (by simp) (by simp) ?_
  obtain ⟨r1, hr1, hr2, hr3⟩ := and_b r 3 (by omega)
  replace hr1 : bits BinOp.and IntKind.i64 r 3 = r1 := hr1
  rw [hr1] at hR
  obtain rfl : R = 1 + r1 := by omega
  have hnn := fun i hi => dnum_ok r c k a b ws hw i hi
  obtain ⟨F, hF⟩ : ∃ F : Nat → List D, F = fun i => hashesD (drawH ws i) := ⟨_, rfl⟩
  have hF0 : F 0 = [] := by rw [hF]; simp [hashesD, drawH]
  have hFn : hashesD (drawH ws (1 + r1)) = F (1 + r1) := by rw [hF]
  have hFl : ∀ i, (F i).length = i * 2 := by
    intro i
    rw [hF]
    show (hashesD (drawH ws i)).length = i * 2
    unfold hashesD
    rw [flat_len (n := 2) (fun x => by simp), drawH, List.length_map, List.length_range]
  have hFs : ∀ i, F (i + 1) = F i ++ [.int .u64 (hnum ws (2 * i)), .int .u64 (hnum ws (2 * i + 1))] := by
    intro i
    rw [hF]
    show hashesD (drawH ws (i + 1)) = hashesD (drawH ws i) ++ _
    rw [drawH, List.range_succ, List.map_append, hashesD, List.flatMap_append]; simp [hashesD, drawH]
  rw [hFn]
  clear hF hFn
  simp only [c_Tlaw21_Draw_Hashes, drD]
  generalize hWD : (ws.map fun x : Nat => D.int .u64 x) = WD at *
  refine A10 (fs hr1 hr3) ?_; try with_reducible exact tt
  refine AW.loopG (α := Nat) (fun i => setS (List.replicate 29 .junk) [(3, if i = 0 then .d .nilsl else .own 1 2 i), (4, .fn (.func n_Tlaw21_Draw_Hashes_1) [.p 0 0]), (10, .d (.int .i64 (1 + r1 : Nat))), (11, .d (.int .i64 (i : Int)))]) (fun i => some ⟨26, [.d (.int .i64 r), .d (.int .i64 c), .d (.int .i64 k), .d (.int .i64 a), .d (.int .i64 b), .d (.sl ws.length WD)]⟩ :: (if i = 0 then [] else [some ⟨39, (F i).map .d⟩])) (fun i => i ≤ 1 + r1) (fun i => 1 + r1 - i) 0 ?_ (Nat.zero_le _) ?_ ?_ ?_
  · intro i hi; split <;> simp
  · simp
  · simp
  rintro i hi
  by_cases hiN : i < 1 + r1
  · have hi1 : (i : Int) < 1 + (r1 : Int) := by omega
    have hsn := hFs i
    have ew : IntKind.i64.wrap ((i : Int) + 1) = (i : Int) + 1 := w64 (by omega) (by omega)
    by_cases hi0 : i = 0
    · subst hi0
      have q1 := hnn 0 (by omega)
      have q2 := hnn 1 (by omega)
      have hi2 : (0 : Int) < 1 + (r1 : Int) := by omega
      have m1 : IntKind.i64.wrap 1 = 1 := by decide
      have m0 : IntKind.i64.wrap 0 = 0 := by decide
      simp [hF0] at hsn
      simp
      refine A10 (fs hi2 m0) ?_; try with_reducible exact tt
      refine CallS.g [0] (q1) (R1 m1 ?_); try with_reducible exact tt
      refine CallS.g [0] (q2) (R0 ?_); try with_reducible exact tt
      refine ⟨1, 1, 2, by simp, by omega, by omega, ?_, ?_⟩
      · simp [swT, swH, sw, Ob.sw, V.ren, V.rens]
      · simp [swT, swH, sw, Ob.sw, V.ren, V.rens, hsn]
    · have q1 := hnn (2 * i) (by omega)
      have q2 := hnn (2 * i + 1) (by omega)
      have m1 : IntKind.i64.wrap (2 * (i : Int)) = ((2 * i : Nat) : Int) := by rw [w64 (by omega) (by omega)]; omega
      have m2 : IntKind.i64.wrap (2 * (i : Int) + 1) = ((2 * i + 1 : Nat) : Int) := by rw [w64 (by omega) (by omega)]; omega
      have m3 : ((2 * i : Nat) : Int) = 2 * (i : Int) := by omega
      generalize hnum ws (2 * i) = x1 at *
      generalize hnum ws (2 * i + 1) = x2 at *
      rw [if_neg hi0, if_neg hi0]
      have hfl := hFl i
      simp
      refine A10 (fs hiN hi1) ?_; try with_reducible exact tt
      refine CallS.g [0] (q1) (R0 ?_); try with_reducible exact tt
      refine CallS.g [0] (q2) (R1 (fs hfl ew) ?_); try with_reducible exact tt
      refine ⟨i + 1, 1, 3, by simp, by omega, by omega, ?_, ?_⟩
      · simp [swT, swH, sw, Ob.sw, V.ren, V.rens]
      · simp [swT, swH, sw, Ob.sw, V.ren, V.rens, hsn]
  · have h2 : i = 1 + r1 := by omega
    subst h2
    have hz : 1 + r1 ≠ 0 := by omega
    rw [if_neg hz, if_neg hz]
    simp
    refine A00 ?_; try with_reducible exact tt
end
end Go.Proofs.YtijbgbpjionfjaaGreat.Am
namespace Go.Proofs.YtijbgbpjionfjaaGreat.Am
section
set_option linter.unusedVariables false
set_option linter.unusedSimpArgs false
/-- the ways out of a block's loop -/
def exitQ {β : Type} (id N : Nat) (T1 : β → List V) (H1 : β → List (Option Ob)) (R2 : β → Prop) (Q : Exit → List V → List (Option Ob) → Prop) : Exit → List V → List (Option Ob) → Prop
  | .exit j, T, H => if j = id then ∃ b, R2 b ∧ wk N T (T1 b) ∧ wkH N H (H1 b) else Q (.exit j) T H
  | .normal, _, _ => False
  | e, T, H => Q e T H
attribute [simp] exitQ
/-- A loop that is left at more than one place: what holds where its ways out meet. -/
theorem AW.loopB {P : Program} {L : Nat} {Q : Exit → List V → List (Option Ob) → Prop} {T : List V} {H : List (Option Ob)} {x y : C} {id : Nat} {α β : Type} (N : Nat) (f : α → List (Nat × V)) (g : α → List (Nat × Ob)) (R : α → Prop) (μ : α → Nat) (a0 : α) (f2 : β → List (Nat × V)) (g2 : β → List (Nat × Ob)) (R2 : β → Prop)
    (hN : N ≤ H.length) (hL : L ≤ N) (hR : R a0) (h0 : wk N T (setS (junkI x.dsts 0 T) (f a0))) (h0' : wkH N H (setH (H.take N) (g a0)))
    (h : ∀ a, R a → AW P L x (thenQ (fun T' H' => ∃ a', R a' ∧ μ a' < μ a ∧ wk N T' (setS (junkI x.dsts 0 T) (f a')) ∧ wkH N H' (setH (H.take N) (g a'))) (exitQ id N (fun b => setS (junkI x.dsts 0 T) (f2 b)) (fun b => setH (H.take N) (g2 b)) R2 Q)) (setS (junkI x.dsts 0 T) (f a)) (setH (H.take N) (g a)))
    (h2 : ∀ b, R2 b → AW P L y Q (setS (junkI x.dsts 0 T) (f2 b)) (setH (H.take N) (g2 b))) : AW P L (.loop x) (blockQ id (thenQ (AW P L y Q) Q)) T H := by
  refine AW.mono (AW.loopT N f g R μ a0 hN hL hR h0 h0' h) ?_
  intro e T' H' hq
  cases e with
  | exit j =>
    by_cases hj : j = id
    · subst hj
      simp only [exitQ, if_true] at hq
      obtain ⟨b, hb, hw, hw'⟩ := hq
      simp only [blockQ, if_true, thenQ]
      have hlen : (setH (H.take N) (g2 b)).length = N := by rw [setH_length, List.length_take]; omega
      exact AW.weak (Weak.of (by rw [hlen]; exact hw) (by rw [hlen]; exact hw')) (by omega) (h2 b hb)
    · simp only [exitQ, if_neg hj] at hq
      simp only [blockQ, if_neg hj, thenQ]
      exact hq
  | normal => exact hq.elim
  | _ => exact hq
end
end Go.Proofs.YtijbgbpjionfjaaGreat.Am
namespace Go.Proofs.YtijbgbpjionfjaaGreat.Am
section
set_option linter.unusedVariables false
set_option linter.unusedSimpArgs false
open Go.RowKit
set_option maxRecDepth 100000
set_option linter.unusedSimpArgs false
set_option linter.unusedVariables false

/-- registers beside the array, in cells -/
def aloneV (l : List ST) : List V := l.flatMap fun s => [.d (.int .i64 s.1), .d (.int .i64 s.2.1), .d (.bool s.2.2)]
@[simp] theorem alone_low (n : Nat) (l : List ST) : V.lowl n (aloneV l) = true := by induction l <;> simp_all [aloneV]

/-- pairs of numbers, as data -/
def actsL (l : List (Int × Int)) : List D := l.flatMap fun a => [.int .i64 a.1, .int .i64 a.2]
end
end Go.Proofs.YtijbgbpjionfjaaGreat.Am
namespace Go.Proofs.YtijbgbpjionfjaaGreat.Am
section
set_option linter.unusedVariables false
set_option linter.unusedSimpArgs false
open Go.RowKit
set_option maxRecDepth 100000
set_option linter.unusedSimpArgs false
set_option linter.unusedVariables false

theorem setMany_seg : ∀ (c l : List V) (off : Nat), off + c.length ≤ l.length → setMany l off c = l.take off ++ (c ++ l.drop (off + c.length))
  | [], l, off, h => by simp [setMany]
  | x :: c, l, off, h => by
    rw [List.length_cons] at h
    rw [setMany, setMany_seg c _ _ (by rw [List.length_set]; omega)]
    have h1 : (l.set off x).take (off + 1) = l.take off ++ [x] := by
      rw [List.take_add_one, List.take_set_of_le (Nat.le_refl _), List.getElem?_set_self (by omega)]; rfl
    have h2 : (l.set off x).drop (off + 1 + c.length) = l.drop (off + (x :: c).length) := by
      rw [List.drop_set_of_lt (by omega), List.length_cons]; congr 1; omega
    rw [h1, h2, List.append_assoc]; rfl
theorem flat_set {α : Type} {f : α → List V} {n : Nat} (hf : ∀ x, (f x).length = n) (l : List α) (i : Nat) (h : i < l.length) (s : α) : setMany (l.flatMap f) (i * n) (f s) = (l.set i s).flatMap f := by
  have hl := flat_len hf l
  have hb : i * n + n ≤ l.length * n := by
    have := Nat.mul_le_mul_right n (show i + 1 ≤ l.length from h)
    rw [Nat.add_mul] at this; omega
  rw [setMany_seg _ _ _ (by rw [hf, hl]; exact hb), hf]
  rw [List.set_eq_take_append_cons_drop, if_pos h, List.flatMap_append, List.flatMap_cons]
  have h1 : (l.flatMap f).take (i * n) = (l.take i).flatMap f := by
    have := List.take_append_drop i l
    conv => lhs; rw [← this, List.flatMap_append]
    rw [List.take_append_of_le_length (by rw [flat_len hf, List.length_take, Nat.min_eq_left (Nat.le_of_lt h)]; exact Nat.le_refl _)]
    exact List.take_of_length_le (by rw [flat_len hf, List.length_take, Nat.min_eq_left (Nat.le_of_lt h)]; exact Nat.le_refl _)
  have h2 := flat_drop hf l (i + 1)
  rw [Nat.add_mul, Nat.one_mul] at h2
  rw [h1, h2]

/-- registers, as cells -/
def stW (l : List ST) : List V := l.flatMap fun s => [.d (.int .i64 s.1), .d (.int .i64 s.2.1), .d (.bool s.2.2)]
theorem stW_len (l : List ST) : (stW l).length = l.length * 3 := flat_len (fun x => by simp) l
theorem stW_get (l : List ST) (i : Nat) (h : i < l.length) : ((stW l).drop (i * 3)).take 3 = [.d (.int .i64 l[i].1), .d (.int .i64 l[i].2.1), .d (.bool l[i].2.2)] := flat_get (f := fun s : ST => [V.d (.int .i64 s.1), V.d (.int .i64 s.2.1), V.d (.bool s.2.2)]) (fun x => by simp) l i h
theorem stW_set (l : List ST) (i : Nat) (h : i < l.length) (s : ST) : setMany (stW l) (i * 3) [.d (.int .i64 s.1), .d (.int .i64 s.2.1), .d (.bool s.2.2)] = stW (l.set i s) := flat_set (f := fun s : ST => [V.d (.int .i64 s.1), V.d (.int .i64 s.2.1), V.d (.bool s.2.2)]) (fun x => by simp) l i h s
theorem stW_rep (n : Nat) : (List.replicate n [V.d (.int .i64 0), V.d (.int .i64 0), V.d (.bool false)]).flatten = stW (List.replicate n (0, 0, false)) := by
  unfold stW
  rw [List.flatMap_def, List.map_replicate]; rfl
@[simp] theorem stW_low (n : Nat) : ∀ l : List ST, V.lowl n (stW l) = true
  | [] => rfl
  | x :: l => by
    have := stW_low n l
    unfold stW at this ⊢
    rw [List.flatMap_cons, lowl_app, this]; rfl

/-- updates, as data -/
def updD (l : List (Nat × Int)) : List D := l.flatMap fun u => [.int .u64 u.1, .int .i64 u.2]

set_option maxHeartbeats 4000000 in
theorem tallyLoads_ok (r c k a b : Int) (ws : List Nat) (us : List (Nat × Int)) (cs : List Bool) (hws : ws.length ≤ 9223372036854775807) (hus : us.length ≤ 9223372036854775807) (hkey : ∀ u ∈ us, u.1 < 18446744073709551616) (hn : cs.length ≤ 9223372036854775807) :
    Eqn Tryz.prog n_Ttop_TallyLoads [.d (drD r c k a b ws), .d (.sl us.length (updD us)), .d (BL cs)] [] (.d (.bool true)) [] := by
  refine Eqn.pure r_Ttop_TallyLoads Plain.ok ?_
  obtain ⟨R0, C, K, A, B, hgp, hR0, hpar⟩ := dparam_ok r c k a b ws
  have hhs := dhashes_ok r c k a b ws hws R0 hR0 hgp.1 hgp.2.1
  have hlt := drawH_lt ws hgp.2.1
  obtain ⟨hr1, hr4, hC1, hC64, hg⟩ := hgp
  obtain ⟨X1, X2, RD, hdw, hx1, hx2⟩ : ∃ (X1 X2 : Nat) (RD : List D), hashesD (drawH ws R0) = .int .u64 X1 :: .int .u64 X2 :: RD ∧ X1 < hP ∧ X2 < hP := by
    obtain ⟨q, rfl⟩ : ∃ q, R0 = q + 1 := ⟨R0 - 1, by omega⟩
    have hm := hlt (hnum ws 0, hnum ws 1) (by unfold drawH; exact List.mem_map.2 ⟨0, by simp, rfl⟩)
    refine ⟨hnum ws 0, hnum ws 1, hashesD ((List.range q).map fun i => (hnum ws (2 * (i + 1)), hnum ws (2 * (i + 1) + 1))), ?_, hm.1, hm.2⟩
    unfold drawH
    rw [List.range_succ_eq_map, List.map_cons, List.map_map]
    rfl
  rw [hdw] at hhs
  clear hdw hlt
  have hwith := with_ok (R := 1) (C := C) (k := K) (a := A) (b := B) ⟨by omega, by omega, hC1, hC64, hg⟩ [(X1, X2)] rfl (by simp; exact ⟨hx1, hx2⟩)
  have hul : (updD us).length = us.length * 2 := flat_len (fun x => by simp) us
  have hug : ∀ i (h : i < us.length), ((updD us).drop (i * 2)).take 2 = [.int .u64 us[i].1, .int .i64 us[i].2] := flat_get (f := fun u : Nat × Int => [D.int .u64 u.1, D.int .i64 u.2]) (fun x => by simp) us
  obtain ⟨xs, hxs, hl⟩ : ∃ xs, xs = cs.take 400 ∧ xs.length ≤ 400 := ⟨_, rfl, by rw [List.length_take]; omega⟩
  simp only [c_Ttop_TallyLoads, drD, cpD, BL, hashesD, List.flatMap_cons, List.flatMap_nil, List.append_nil] at hpar hhs hwith ⊢
  generalize hWD : (ws.map fun x : Nat => D.int .u64 x) = WD at *
  generalize updD us = UD at *
  refine AW.seq ?_
  refine AW.reg mix ?_
  (simp -implicitDefEqProofs [-Bool.exists_bool]; try simp (disch := omega) only [w64, wu64])
  refine AW.cut 1 [(2, .d (.sl xs.length (xs.map .bool)))] [] (by simp) (by simp) ?_ ?_
  · by_cases hc : 400 < cs.length
    · have hc' : (400 : Int) < cs.length := by omega
      have h300 : (400 : Int) ≤ cs.length := by omega
      have hlx : xs.length = 400 := by rw [hxs, List.length_take]; omega
      have hmx : xs.map D.bool = (cs.map D.bool).take 400 := by rw [hxs, List.map_take]
      refine G1B (fs hc hc') ?_; try with_reducible exact tt
      refine AW.cond rfl (fun h => ?_) (fun h => ?_)
      · refine G1B h300 ?_; try with_reducible exact tt
        simp [hlx, hmx]
      · simp [hc] at h
    · have hxc : xs = cs := by rw [hxs, List.take_of_length_le (by omega)]
      refine G1B hc ?_; try with_reducible exact tt
      refine AW.cond rfl (fun h => ?_) (fun h => ?_)
      · exfalso; simp at h; omega
      · refine G0B ?_; try with_reducible exact tt
        simp [hxc]
  clear hxs
  simp
  refine A01B hpar ?_; try with_reducible exact tt
  refine CallS.g [] (hhs) (R0B ?_); try with_reducible exact tt
  simp only [skO, skD, rowsD, rowD, newRow, List.map_cons, List.map_nil, List.flatMap_cons, List.flatMap_nil, List.append_nil, List.length_cons, List.length_nil] at hwith
  refine CallS.gf 3 2 ⟨39, [.d (.int .u64 X1), .d (.int .u64 X2)]⟩ [.int .u64 X1, .int .u64 X2] [] (hwith) (R0B ?_); try with_reducible exact tt
  refine AW.cond rfl (fun h => ?_) (fun h => ?_)
  · simp at h
  clear h
  refine G0B ?_; try with_reducible exact tt
  have hnw : ∀ cs : List Bool, cs.length ≤ 1048576 → Eqn Tryz.prog n_tape_New [.d (.sl cs.length (cs.map .bool))] [] (.p 0 0) [tapeO cs 0 false] := fun cs h => new_ok cs h
  refine CallS.n1 (hnw xs (by omega)) (R0B ?_); try with_reducible exact tt
  refine CallS.n1 (hnw xs (by omega)) (R0B ?_); try with_reducible exact tt
  have hC2' : (C : Int) * 24 ≤ 281474976710656 ∧ (C : Int) ≤ 281474976710656 := by omega
  refine A10B hC2' ?_; try with_reducible exact tt
  rw [stW_rep]
  refine AW.loopB (id := 0) (α := Nat × List ST × Nat × Nat × Bool) (β := List ST × Nat × Nat × Bool) 8 (fun s => [(13, .d (.int .i64 (s.1 : Nat)))]) (fun s => [(4, ⟨74, [.d (.int .i64 1), .d (.int .i64 C), .d (.int .i64 K), .d (.int .i64 A), .d (.int .i64 B), .d (.sl 1 [.int .u64 X1, .int .u64 X2, .ptr (arrD K A B s.2.1) 0]), .d (.int .i64 s.2.2.1)]⟩), (5, tapeO xs s.2.2.2.1 s.2.2.2.2), (6, tapeO xs s.2.2.2.1 s.2.2.2.2), (7, ⟨51, stW s.2.1⟩)]) (fun s => s.1 ≤ us.length ∧ s.1 ≤ 20 ∧ s.2.1.length = C ∧ wells K A B s.2.1 ∧ s.2.2.1 ≤ 7 * s.1 ∧ s.2.2.2.1 ≤ xs.length) (fun s => us.length - s.1) (0, List.replicate C (0, 0, false), 0, 0, false) (fun s => []) (fun s => [(4, ⟨74, [.d (.int .i64 1), .d (.int .i64 C), .d (.int .i64 K), .d (.int .i64 A), .d (.int .i64 B), .d (.sl 1 [.int .u64 X1, .int .u64 X2, .ptr (arrD K A B s.1) 0]), .d (.int .i64 s.2.1)]⟩), (5, tapeO xs s.2.2.1 s.2.2.2), (6, tapeO xs s.2.2.1 s.2.2.2), (7, ⟨51, stW s.1⟩)]) (fun s => s.1.length = C ∧ wells K A B s.1) ?_ ?_ ⟨Nat.zero_le _, by simp, by simp, wells_rep hg C, by simp, Nat.zero_le _⟩ ?_ ?_ ?_ ?_
  · simp
  · simp
  · simp
  · simp
  · rintro ⟨i, l, T, p, d⟩ ⟨hi, hi20, hlC, hwl, hT, hp⟩
    simp only at hi hi20 hlC hwl hT hp
    simp [-Bool.exists_bool]
    by_cases h30 : i < us.length ∧ i < 20
    · obtain ⟨h1, h2⟩ := h30
      have h1' : (i : Int) < us.length := by omega
      have h2' : (i : Int) < 20 := by omega
      have hug1 := hug i h1
      have hub : i * 2 + 2 ≤ us.length * 2 := by omega
      have hky := hkey _ (List.getElem_mem h1)
      generalize us[i] = u at *
      obtain ⟨key0, n0⟩ := u
      obtain ⟨hu1, hu2, hu3, hu4⟩ := seg2 hug1
      simp only at hu1 hu2 hu3 hu4 hky
      obtain ⟨n, b1, b2, -⟩ := and_b n0 7 (by omega)
      replace b1 : bits BinOp.and IntKind.i64 n0 7 = n := b1
      obtain ⟨key, hkk, hkP⟩ : ∃ key : Nat, (key0 : Int).tmod 2305843009213693951 = key ∧ key < hP := ⟨key0 % 2305843009213693951, by rw [Int.tmod_eq_emod_of_nonneg (by omega)]; rfl, by unfold hP; exact Nat.mod_lt _ (by decide)⟩
      have hcol : colOf C X1 X2 key < C := Nat.mod_lt _ (by omega)
      have hrow : GoodRow C K A B ⟨X1, X2, l⟩ := ⟨hx1, hx2, hlC, hwl⟩
      have hsh := shashes_ok (R := 1) (C := C) (k := K) (a := A) (b := B) (T := T) [⟨X1, X2, l⟩] (by simp) (by simp)
      have hof := hof_ok X1 X2 key C hx1 hx2 hkP hC1 hC64
      rw [show hsum X1 X2 key % C = colOf C X1 X2 key from rfl] at hof
      obtain ⟨Z, hZ⟩ : ∃ Z, Z = addRM xs K A B n (l.getD (colOf C X1 X2 key) (0, 0, false)).1 (l.getD (colOf C X1 X2 key) (0, 0, false)).2.1 (l.getD (colOf C X1 X2 key) (0, 0, false)).2.2 p d := ⟨_, rfl⟩
      have hup := supd1_ok hg hC1 hC64 X1 X2 l hrow xs key n p d hkP (by omega) (show T + n ≤ 1099511627776 by omega) hp (by omega) Z hZ
      have hra := radd_ok xs K A B _ _ _ n p d hg (wells_get hwl (i := colOf C X1 X2 key) (by omega)) (by omega) hp (by omega) Z hZ
      have hww := addRM_well (cs := xs) (n := n) (p := p) (d := d) hg (wells_get hwl (i := colOf C X1 X2 key) (by omega)) hp (by omega)
      rw [← hZ] at hww
      have hag := stW_get l (colOf C X1 X2 key) (by omega)
      have has := fun s => stW_set l (colOf C X1 X2 key) (by omega) s
      have hgd : l.getD (colOf C X1 X2 key) (0, 0, false) = l[colOf C X1 X2 key] := by simp [List.getD, show colOf C X1 X2 key < l.length by omega]
      have hsl := stW_len l
      have hqy := fun s : ST => squery_ok (R := 1) (C := C) (k := K) (a := A) (b := B) (T := T + n) hg [⟨X1, X2, l.set (colOf C X1 X2 key) s⟩] hC1 hC64 (by simp) (by simp)
      have hqv : ∀ s : ST, leastQ (valsOf C K A B key [⟨X1, X2, l.set (colOf C X1 X2 key) s⟩]) 1 = valR K A B s.1 s.2.1 := by
        intro s
        simp only [leastQ, true_or, if_true, valsOf, valAt, List.getElem?_cons_zero]
        rw [List.getD_eq_getElem?_getD, List.getElem?_set_self (by omega)]; rfl
      rw [← hgd] at hag
      clear hZ hgd
      generalize l.getD (colOf C X1 X2 key) (0, 0, false) = s at *
      obtain ⟨y, t, f⟩ := s
      obtain ⟨e, ry, rt, rf, rp, rd⟩ := Z
      have ew : IntKind.i64.wrap ((i : Int) + 1) = ((i + 1 : Nat) : Int) := by rw [w64 (by omega) (by omega)]; omega
      have hcb : colOf C X1 X2 key * 3 + 3 ≤ C * 3 := by omega
      have hcC : (colOf C X1 X2 key : Int) < C := by omega
      by_cases he : e = 0
      · subst he
        have hwr := hww.2 rfl
        replace has := has (ry, rt, rf)
        replace hqy := hqy (ry, rt, rf) (by
          intro r hr
          simp at hr; subst hr
          exact ⟨hx1, hx2, by simp [hlC], wells_set hwl _ hwr⟩) key hkP
        replace hqv := hqv (ry, rt, rf)
        rw [show ([⟨X1, X2, l.set (colOf C X1 X2 key) (ry, rt, rf)⟩] : List Rw).length = 1 from rfl, hqv] at hqy
        have hvl := rvalue_ok hg hwr
        have hcm := rcmp_rat (valR K A B ry rt) (valR K A B ry rt) ((valR_RS hg hwr).le (by omega)) ((valR_RS hg hwr).le (by omega))
        rw [show cmpQ (valR K A B ry rt) (valR K A B ry rt) = 0 by unfold cmpQ; rw [if_neg Rat.lt_irrefl, if_neg Rat.lt_irrefl]] at hcm
        simp only [if_true, stR, skO, skD, rowsD, rowD, parD, tsD, rD, List.map_cons, List.map_nil, List.flatMap_cons, List.flatMap_nil, List.append_nil, List.length_cons, List.length_nil, hashesD, hD] at hsh hof hup hra hqy hvl hcm hag has
        generalize valR K A B ry rt = vq at *
        generalize colOf C X1 X2 key = col at *
        refine A10B (fs h1 (fs h1' (fs h2 (fs h2' (fs hu1 (fs hu2 (fs hu3 (fs hu4 (fs hub (fs hul (fs b1 hkk))))))))))) ?_; try with_reducible exact tt
        refine CallS.g [4] (hsh) (R0B ?_); try with_reducible exact tt
        refine A01B hof ?_; try with_reducible exact tt
        refine CallS.g [4, 5] (hup) (R1B (fs hag hcC) ?_); try with_reducible exact tt
        refine CallS.o1 6 (hra) (R0B ?_); try with_reducible exact tt
        refine CallS.o1 5 (read_ok xs rp rd) (R0B ?_); try with_reducible exact tt
        refine CallS.o1 6 (read_ok xs rp rd) (R0B ?_); try with_reducible exact tt
        refine A10B (fs hcC (fs hcb (fs hsl has))) ?_; try with_reducible exact tt
        refine CallS.g [4] (hqy) (R0B ?_); try with_reducible exact tt
        refine A12B ew hvl hcm ?_; try with_reducible exact tt
        simp only [setMany] at has
        exact ⟨i + 1, l.set col (ry, rt, rf), T + n, rp, ⟨by omega, by omega, by simp [hlC], wells_set hwl _ hwr, by omega, hww.1⟩, by omega, Sub1.int (by omega), Subs.of (by simp), ⟨rd, Subs.refl _⟩, Subs.of has⟩
      · simp only [if_neg he, stR, skO, skD, rowsD, rowD, parD, tsD, List.map_cons, List.map_nil, List.flatMap_cons, List.flatMap_nil, List.append_nil, List.length_cons, List.length_nil, hashesD, hD] at hsh hof hup hra hag
        generalize colOf C X1 X2 key = col at *
        refine A10B (fs h1 (fs h1' (fs h2 (fs h2' (fs hu1 (fs hu2 (fs hu3 (fs hu4 (fs hub (fs hul (fs b1 hkk))))))))))) ?_; try with_reducible exact tt
        refine CallS.g [4] (hsh) (R0B ?_); try with_reducible exact tt
        refine A01B hof ?_; try with_reducible exact tt
        refine CallS.g [4, 5] (hup) (R1B (fs hag (fs hcC he)) ?_); try with_reducible exact tt
        refine CallS.o1 6 (hra) (R1B he ?_); try with_reducible exact tt
        refine CallS.o1 5 (read_ok xs rp rd) (R1B he ?_); try with_reducible exact tt
        refine CallS.o1 6 (read_ok xs rp rd) (R1B he ?_); try with_reducible exact tt
        refine A10B he ?_; try with_reducible exact tt
        exact ⟨l, ⟨hlC, hwl⟩, ⟨T, Subs.refl _⟩, ⟨rp, rd, Subs.refl _⟩, Subs.refl _⟩
    · have hz : ¬ ((i : Int) < us.length ∧ (i : Int) < 20) := by omega
      by_cases h1 : (i : Int) < us.length
      · have h2 : ¬ (i : Int) < 20 := fun h => hz ⟨h1, h⟩
        have h1n : i < us.length := by omega
        have h2n : ¬ i < 20 := by omega
        refine A10B (fs h1 (fs h2 (fs h1n h2n))) ?_; try with_reducible exact tt
        exact ⟨l, ⟨hlC, hwl⟩, ⟨T, Subs.refl _⟩, ⟨p, d, Subs.refl _⟩, Subs.refl _⟩
      · have h1n : ¬ i < us.length := by omega
        refine A10B (fs h1 h1n) ?_; try with_reducible exact tt
        exact ⟨l, ⟨hlC, hwl⟩, ⟨T, Subs.refl _⟩, ⟨p, d, Subs.refl _⟩, Subs.refl _⟩
  · rintro ⟨l, T, p, d⟩ ⟨hlC, hwl⟩
    simp only at hlC hwl
    simp [-Bool.exists_bool]
    have hsl := stW_len l
    refine A00B ?_; try with_reducible exact tt
    refine AW.loopT (α := Nat) 8 (fun j => [(154, .d (.int .i64 (j : Int)))]) (fun j => []) (fun j => j ≤ C) (fun j => C - j) 0 ?_ ?_ (Nat.zero_le _) ?_ ?_ ?_
    · simp
    · simp
    · simp
    · simp
    rintro j hj
    simp [-Bool.exists_bool]
    by_cases hjC : j < C
    · have hjC' : (j : Int) < C := by omega
      have hcb : j * 3 + 3 ≤ C * 3 := by omega
      have hcel := scell_ok (R := 1) (C := C) (k := K) (a := A) (b := B) (T := T) hg [⟨X1, X2, l⟩] hC64 0 j (by simp) (by simp) ⟨hx1, hx2, hlC, hwl⟩ hjC
      have hag := stW_get l j (by omega)
      have hgd : l.getD j (0, 0, false) = l[j] := by simp [List.getD, show j < l.length by omega]
      have ew : IntKind.i64.wrap ((j : Int) + 1) = ((j + 1 : Nat) : Int) := by rw [w64 (by omega) (by omega)]; omega
      simp only [List.getElem_cons_zero, skO, skD, rowsD, rowD, tsD, List.map_cons, List.map_nil, List.flatMap_cons, List.flatMap_nil, List.append_nil, List.length_cons, List.length_nil] at hcel
      rw [hgd] at hcel
      generalize l[j] = s at *
      obtain ⟨y, t, f⟩ := s
      simp only at hcel hag
      refine A10B (fs hjC (fs hjC' (fs hag (fs hsl hcb)))) ?_; try with_reducible exact tt
      refine CallS.g [4] (hcel) (R0B ?_); try with_reducible exact tt
      refine A10B ew ?_; try with_reducible exact tt
      exact ⟨j + 1, by omega, by omega, Sub1.int (by omega)⟩
    · have h2 : j = C := by omega
      subst h2
      refine A00B ?_; try with_reducible exact tt
end
end Go.Proofs.YtijbgbpjionfjaaGreat.Am
namespace Go.Proofs.YtijbgbpjionfjaaGreat.Am
section
set_option linter.unusedVariables false
set_option linter.unusedSimpArgs false
open Go.RowKit
set_option linter.unusedVariables false

theorem reps_flat {I : Nat → Prop} {w : World} {α : Type} (f : α → List D) (g : α → List Value) (h : ∀ a, D.reps I w (f a) (g a)) : ∀ l : List α, D.reps I w (l.flatMap f) (l.map g).flatten
  | [] => by simp
  | a :: l => by
    rw [List.flatMap_cons, List.map_cons, List.flatten_cons]
    exact D.reps_append (h a) (reps_flat f g h l)
/-- a slice that came in, of elements of several cells that are data -/
theorem rep_rows {W : World} {v : Value} {s : Nat} {α : Type} {l : List α} (f : α → List D) (g : α → List Value) (hg : ∀ a, ∀ u ∈ g a, u.oneCell' = true) (hr : ∀ a, D.reps (fun b => b < W.heap.size) W (f a) (g a)) (h : Cells W v s l.length (l.map g).flatten) : V.rep (memW W) (.d (.sl l.length (l.flatMap f))) v := by
  rw [V.rep_d]
  unfold D.rep
  obtain ⟨h1, p, cap, rfl, h2, h3, h4⟩ := h
  refine ⟨p, cap, rfl, h2, h3, (l.map g).flatten, fun u hu => ?_, reps_flat f g hr l, ?_⟩
  · obtain ⟨x, hx, hu⟩ := List.mem_flatten.1 hu
    obtain ⟨a, -, rfl⟩ := List.mem_map.1 hx
    exact hg a u hu
  · rcases h4 with ⟨rfl, h5, h6⟩ | ⟨b, o, rfl, hb, hc⟩
    · left
      have : l = [] := List.eq_nil_of_length_eq_zero h5
      subst this
      exact ⟨rfl, h6, rfl⟩
    · exact .inr ⟨b, o, rfl, .inr hb, hc⟩
end
end Go.Proofs.YtijbgbpjionfjaaGreat.Am
namespace Go.Proofs.YtijbgbpjionfjaaGreat.Am
section
set_option linter.unusedVariables false
set_option linter.unusedSimpArgs false
open Go.RowKit
set_option linter.unusedVariables false

/-- words that came in are natural numbers -/
theorem nats_of : ∀ {L : List Int}, (∀ a ∈ L, (Lit.int .u64 a).wf = true) → ∃ ws : List Nat, L = ws.map (fun n : Nat => (n : Int)) ∧ ∀ x ∈ ws, x < 18446744073709551616
  | [], _ => ⟨[], rfl, by simp⟩
  | a :: L, h => by
    obtain ⟨ws, rfl, hw⟩ := nats_of (L := L) fun b hb => h b (List.mem_cons_of_mem _ hb)
    have ha := h a (List.mem_cons_self)
    unfold Lit.wf at ha
    simp only [Bool.and_eq_true, decide_eq_true_eq] at ha
    have h0 : (0 : Int) ≤ a := ha.1
    have h1 : a ≤ 18446744073709551615 := ha.2
    refine ⟨a.toNat :: ws, by simp [Int.toNat_of_nonneg h0], fun x hx => ?_⟩
    rcases List.mem_cons.1 hx with rfl | hx
    · omega
    · exact hw x hx
theorem nats_of1 : ∀ {L : List (Int × Int)}, (∀ a ∈ L, (Lit.int .u64 a.1).wf = true ∧ (Lit.int .i64 a.2).wf = true) → ∃ us : List (Nat × Int), L = us.map (fun u => ((u.1 : Int), u.2)) ∧ ∀ u ∈ us, u.1 < 18446744073709551616
  | [], _ => ⟨[], rfl, by simp⟩
  | (a, b) :: L, h => by
    obtain ⟨us, rfl, hw⟩ := nats_of1 (L := L) fun b hb => h b (List.mem_cons_of_mem _ hb)
    have ha := (h (a, b) (List.mem_cons_self)).1
    unfold Lit.wf at ha
    simp only [Bool.and_eq_true, decide_eq_true_eq] at ha
    have h0 : (0 : Int) ≤ a := ha.1
    have h1 : a ≤ 18446744073709551615 := ha.2
    refine ⟨(a.toNat, b) :: us, by simp [Int.toNat_of_nonneg h0], fun x hx => ?_⟩
    rcases List.mem_cons.1 hx with rfl | hx
    · simp only; omega
    · exact hw x hx
theorem cells_one {W : World} {v : Value} {s n : Nat} {l : List Value} (h : Cells W v s n l) : v.oneCell' = true := by
  obtain ⟨_, p, cap, rfl, _⟩ := h; rfl
end
end Go.Proofs.YtijbgbpjionfjaaGreat.Am
namespace Go.Proofs.YtijbgbpjionfjaaGreat.Am
section
set_option linter.unusedVariables false
set_option linter.unusedSimpArgs false
open Go.RowKit

theorem rep_draw {W : World} {v : Value} {L : List Int} {r c k a b : Int} (w : Cells W v 1 L.length (L.map fun a => [Value.int .u64 a]).flatten) (h : ∀ a ∈ L, (Lit.int .u64 a).wf = true) : ∃ ws : List Nat, ws.length = L.length ∧ V.rep (memW W) (.d (drD r c k a b ws)) (.agg #[.int .i64 r, .int .i64 c, .int .i64 k, .int .i64 a, .int .i64 b, v]) := by
  obtain ⟨ws, rfl, -⟩ := nats_of h
  refine ⟨ws, by simp, ?_⟩
  have hw : Cells W v 1 ws.length (ws.map fun n : Nat => Value.int .u64 n) := by
    have e : ((ws.map fun n : Nat => (n : Int)).map fun a => [Value.int .u64 a]).flatten = ws.map fun n : Nat => Value.int .u64 n := by
      rw [List.map_map]
      clear w h
      induction ws with
      | nil => rfl
      | cons x l ih => simp only [List.map_cons, List.flatten_cons, ih]; rfl
    rw [e, List.length_map] at w; exact w
  have hr := rep_cells (fun n : Nat => D.int .u64 n) (fun n : Nat => Value.int .u64 n) (fun _ => rfl) (fun _ => D.rep_int.2 rfl) hw
  refine rep_agg (vs := [.int .i64 r, .int .i64 c, .int .i64 k, .int .i64 a, .int .i64 b, v]) (fun z hz => ?_) ?_
  · simp at hz
    rcases hz with rfl | rfl | rfl | rfl | rfl | rfl <;> first | rfl | exact cells_one w
  · exact D.reps_cons.2 ⟨D.rep_int.2 rfl, D.reps_cons.2 ⟨D.rep_int.2 rfl, D.reps_cons.2 ⟨D.rep_int.2 rfl, D.reps_cons.2 ⟨D.rep_int.2 rfl, D.reps_cons.2 ⟨D.rep_int.2 rfl, D.reps_cons.2 ⟨V.rep_d.1 hr, D.reps_nil.2 rfl⟩⟩⟩⟩⟩⟩
theorem rep_upds {W : World} {v : Value} {L : List (Int × Int)} (w : Cells W v 2 L.length (L.map fun a => [Value.int .u64 a.1, Value.int .i64 a.2]).flatten) (h : ∀ a ∈ L, (Lit.int .u64 a.1).wf = true ∧ (Lit.int .i64 a.2).wf = true) : ∃ us : List (Nat × Int), us.length = L.length ∧ (∀ u ∈ us, u.1 < 18446744073709551616) ∧ V.rep (memW W) (.d (.sl us.length (updD us))) v := by
  obtain ⟨us, rfl, hu⟩ := nats_of1 h
  refine ⟨us, by simp, hu, ?_⟩
  rw [List.map_map, List.length_map] at w
  exact rep_rows (fun u : Nat × Int => [D.int .u64 u.1, D.int .i64 u.2]) (fun u : Nat × Int => [Value.int .u64 u.1, Value.int .i64 u.2]) (fun a u hu => by simp at hu; rcases hu with rfl | rfl <;> rfl) (fun a => by simp [D.reps_cons, D.rep_int]) w

theorem tl_walk {W : World} {v0 v1 v2 : Value} {r c k a b : Int} {L0 : List Int} {L1 : List (Int × Int)} {cs : List Bool}
    (_ : (Lit.int .i64 r).wf = true) (_ : (Lit.int .i64 c).wf = true) (_ : (Lit.int .i64 k).wf = true) (_ : (Lit.int .i64 a).wf = true) (_ : (Lit.int .i64 b).wf = true)
    (w0 : Cells W v0 1 L0.length (L0.map fun a => [Value.int .u64 a]).flatten) (h0 : L0.length ≤ maxLen) (p0 : ∀ a ∈ L0, (Lit.int .u64 a).wf = true)
    (w1 : Cells W v1 2 L1.length (L1.map fun a => [Value.int .u64 a.1, Value.int .i64 a.2]).flatten) (h1 : L1.length ≤ maxLen) (p1 : ∀ a ∈ L1, (Lit.int .u64 a.1).wf = true ∧ (Lit.int .i64 a.2).wf = true) (w2 : Bools W v2 cs) :
    Calls Tryz.prog n_Ttop_TallyLoads #[.agg #[.int .i64 r, .int .i64 c, .int .i64 k, .int .i64 a, .int .i64 b, v0], v1, v2] W (fun e W' => e = .returned (.bool true) ∧ Same W W') := by
  obtain ⟨ws, hws, hr0⟩ := rep_draw (r := r) (c := c) (k := k) (a := a) (b := b) w0 p0
  obtain ⟨us, hus, hk, hr1⟩ := rep_upds w1 p1
  have hb := bools_len w2
  unfold maxLen at h0 h1 hb
  exact law_walk r_Ttop_TallyLoads (tallyLoads_ok r c k a b ws us cs (by omega) (by omega) hk (by omega)) (V.reps_cons.2 ⟨hr0, V.reps_cons.2 ⟨hr1, V.reps_cons.2 ⟨rep_bools w2, V.reps_nil.2 rfl⟩⟩⟩)
end
end Go.Proofs.YtijbgbpjionfjaaGreat.Am
