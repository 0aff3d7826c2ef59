import Derived.Test.YtakjegcjeffmgaaWords
/- Division by words, and of words by words; said of no program. -/
namespace Go.Proofs.Ytakjegcjeffmgaa.Am
set_option maxRecDepth 10000
set_option linter.unusedVariables false

/-! ### Two words by one -/
/-- the half digit that is guessed is right: where the search ends -/
theorem half_end {y1 y0 u u1 q r : Nat} (e : q * y1 + r = u) (hle : q * y0 ≤ r * 4294967296 + u1) (hgt : u * 4294967296 + u1 < (q + 1) * (y1 * 4294967296 + y0)) :
    (u * 4294967296 + u1) / (y1 * 4294967296 + y0) = q := by
  have h1 : q * (y1 * 4294967296 + y0) ≤ u * 4294967296 + u1 := by
    rw [Nat.mul_add, ← Nat.mul_assoc, ← e, Nat.add_mul]
    omega
  have hpos : 0 < y1 * 4294967296 + y0 := by
    rcases Nat.eq_zero_or_pos (y1 * 4294967296 + y0) with h | h
    · rw [h] at hgt; omega
    · exact h
  exact Nat.div_eq_of_lt_le h1 hgt
theorem lin (a r u u1 b z : Nat) (e : a + r = u) (hc : r * b + u1 < z) : u * b + u1 < a * b + z := by
  subst e; rw [Nat.add_mul]; omega
/-- and where it goes on -/
theorem half_next {y1 y0 u u1 q r : Nat} (e : q * y1 + r = u) (hu : u < y1 * 4294967296 + y0) (hu1 : u1 < 4294967296) (hc : 4294967296 ≤ q ∨ r * 4294967296 + u1 < q * y0) :
    0 < q ∧ (q - 1) * y1 + (r + y1) = u ∧ u * 4294967296 + u1 < (q - 1 + 1) * (y1 * 4294967296 + y0) := by
  have hq : 0 < q := by
    rcases Nat.eq_zero_or_pos q with h | h
    · subst h; omega
    · exact h
  have e1 : (q - 1) * y1 + y1 = q * y1 := by
    obtain ⟨k, rfl⟩ : ∃ k, q = k + 1 := ⟨q - 1, by omega⟩
    rw [Nat.add_sub_cancel, Nat.add_mul, Nat.one_mul]
  have e2 : q - 1 + 1 = q := by omega
  rw [e2]
  refine ⟨hq, by omega, ?_⟩
  rcases hc with hc | hc
  · have h1 : (y1 * 4294967296 + y0) * 4294967296 ≤ (y1 * 4294967296 + y0) * q := Nat.mul_le_mul_left _ hc
    rw [Nat.mul_comm q]
    obtain ⟨p, hp⟩ : ∃ p, p = (y1 * 4294967296 + y0) * q := ⟨_, rfl⟩
    rw [← hp] at h1 ⊢
    clear hp e1
    omega
  · rw [Nat.mul_add, ← Nat.mul_assoc]
    obtain ⟨a, ha⟩ : ∃ a, a = q * y1 := ⟨_, rfl⟩
    rw [← ha] at e ⊢
    exact lin a r u u1 _ _ e hc
/-- no half digit is wrong where the rest is great -/
theorem half_break {y1 y0 u q r : Nat} (e : q * y1 + r = u) (hu : u < y1 * 4294967296 + y0) (hy0 : y0 < 4294967296) (hr : 4294967296 ≤ r) (u1 : Nat) : q * y0 ≤ r * 4294967296 + u1 := by
  have hq : q < 4294967296 := by
    apply Nat.lt_of_not_le
    intro h
    have : 4294967296 * y1 ≤ q * y1 := Nat.mul_le_mul_right y1 h
    omega
  have : q * y0 ≤ 4294967295 * 4294967295 := Nat.mul_le_mul (by omega) (by omega)
  omega
/-- the guess isn't too little -/
theorem half_first {y1 y0 u u1 : Nat} (h1 : 0 < y1) (hu1 : u1 < 4294967296) : u * 4294967296 + u1 < (u / y1 + 1) * (y1 * 4294967296 + y0) := by
  have h := Nat.lt_mul_div_succ u h1
  rw [Nat.mul_comm] at h
  have h2 : (u / y1 + 1) * (y1 * 4294967296) ≤ (u / y1 + 1) * (y1 * 4294967296 + y0) := Nat.mul_le_mul_left _ (by omega)
  rw [← Nat.mul_assoc] at h2
  generalize (u / y1 + 1) * y1 = a at *
  omega

/-- both halves: the quotient, the rest -/
theorem halves' {y a b v0 q1 q0 : Nat} (hy : 0 < y) (h1 : a / y = q1) (h0 : ((a - q1 * y) * b + v0) / y = q0) :
    (a * b + v0) / y = q1 * b + q0 ∧ (a * b + v0) % y = (a - q1 * y) * b + v0 - q0 * y := by
  have a1 := Nat.div_add_mod a y
  have b1 := Nat.mod_lt a hy
  rw [h1, Nat.mul_comm] at a1
  obtain ⟨r1, hr1⟩ : ∃ r, r = a % y := ⟨_, rfl⟩
  rw [← hr1] at a1 b1
  have e1 : a - q1 * y = r1 := by omega
  rw [e1] at h0 ⊢
  have a0 := Nat.div_add_mod (r1 * b + v0) y
  have b0 := Nat.mod_lt (r1 * b + v0) hy
  rw [h0, Nat.mul_comm] at a0
  obtain ⟨r0, hr0⟩ : ∃ r, r = (r1 * b + v0) % y := ⟨_, rfl⟩
  rw [← hr0] at a0 b0
  have e0 : r1 * b + v0 - q0 * y = r0 := by omega
  rw [e0]
  have hN : a * b + v0 = (q1 * b + q0) * y + r0 := by
    have hp : q1 * b * y = q1 * y * b := Nat.mul_right_comm _ _ _
    rw [Nat.add_mul, hp, ← a1, Nat.add_mul]
    omega
  rw [hN]
  exact ⟨by rw [Nat.mul_comm, Nat.mul_add_div hy, Nat.div_eq_of_lt b0, Nat.add_zero], by rw [Nat.mul_comm, Nat.mul_add_mod]; exact Nat.mod_eq_of_lt b0⟩

/-- shifted, it is the same -/
theorem shifted_div {n y s : Nat} : n * 2 ^ s / (y * 2 ^ s) = n / y ∧ n * 2 ^ s % (y * 2 ^ s) / 2 ^ s = n % y := by
  have hp := Nat.two_pow_pos s
  refine ⟨Nat.mul_div_mul_right _ _ hp, ?_⟩
  rw [Nat.mul_mod_mul_right, Nat.mul_div_cancel _ hp]

/-! ### A digit of a long division -/
/-- the guess by the first words isn't too little -/
theorem digit_guess {U D B P u1 d1 : Nat} (hB : 0 < B) (hP : 0 < P) (hU : U / P = u1) (hD : d1 * P ≤ D) (hd : 0 < d1) : U / D ≤ u1 / d1 := by
  rw [Nat.le_div_iff_mul_le hd]
  have hD0 : 0 < D := Nat.lt_of_lt_of_le (Nat.mul_pos hd hP) hD
  have h1 : U / D * D ≤ U := Nat.div_mul_le_self U D
  rw [← hU, Nat.le_div_iff_mul_le hP]
  calc U / D * d1 * P = U / D * (d1 * P) := Nat.mul_assoc _ _ _
    _ ≤ U / D * D := Nat.mul_le_mul_left _ hD
    _ ≤ U := h1

/-- one too many: taken back, the digit is right, or still too much -/
theorem digit_next {U D g w P M : Nat} (hM : M = 18446744073709551616 * P) (hD : D < P) (hD0 : 0 < D) (hg : g ≤ 18446744073709551615) (hw : w < M) (e : w + g * D = U + M) :
    0 < g ∧ (M ≤ w + D → w + D - M + (g - 1) * D = U ∧ w + D - M < D ∧ U / D = g - 1 ∧ U % D = w + D - M) ∧ (w + D < M → w + D + (g - 1) * D = U + M ∧ P ≤ w + D) := by
  have hg0 : 0 < g := by
    rcases Nat.eq_zero_or_pos g with h | h
    · subst h; omega
    · exact h
  have e1 : (g - 1) * D + D = g * D := by
    obtain ⟨k, rfl⟩ : ∃ k, g = k + 1 := ⟨g - 1, by omega⟩
    rw [Nat.add_sub_cancel, Nat.add_mul, Nat.one_mul]
  have e2 : (g - 1) * D ≤ 18446744073709551614 * P := Nat.mul_le_mul (by omega) (by omega)
  obtain ⟨x, hx⟩ : ∃ x, x = (g - 1) * D := ⟨_, rfl⟩
  obtain ⟨y, hy⟩ : ∃ y, y = g * D := ⟨_, rfl⟩
  refine ⟨hg0, fun h => ?_, fun h => ?_⟩
  · have h1 : w + D - M + (g - 1) * D = U := by rw [← hx] at e1 ⊢; rw [← hy] at e e1; clear hx hy e2; omega
    have h2 : w + D - M < D := by omega
    refine ⟨h1, h2, ?_, ?_⟩
    · rw [← h1, Nat.add_mul_div_right _ _ hD0, Nat.div_eq_of_lt h2, Nat.zero_add]
    · rw [← h1, Nat.add_mul_mod_self_right]; exact Nat.mod_eq_of_lt h2
  · rw [← hx] at e1 e2 ⊢; rw [← hy] at e e1
    clear hx hy
    subst hM
    constructor
    · omega
    · omega
/-- not too much: it is right -/
theorem digit_done {U D g w : Nat} (hD0 : 0 < D) (hg : U / D ≤ g) (e : w + g * D = U) : U / D = g ∧ U % D = w := by
  have h : g ≤ U / D := by rw [Nat.le_div_iff_mul_le hD0]; omega
  have hq : U / D = g := Nat.le_antisymm hg h
  have := Nat.div_add_mod U D
  rw [hq, Nat.mul_comm] at this
  exact ⟨hq, by omega⟩

/-! ### Words moved down -/
/-- words moved down by less than a word -/
def shrL (k : Nat) : List Nat → List Nat
  | [] => []
  | x :: l => (x / 2 ^ k + l.getD 0 0 * 2 ^ (64 - k) % 18446744073709551616) :: shrL k l
theorem shrL_len (k : Nat) : ∀ l, (shrL k l).length = l.length
  | [] => rfl
  | x :: l => by simp [shrL, shrL_len k l]
theorem wval_head : ∀ l : List Nat, small l → wval l % 18446744073709551616 = l.getD 0 0
  | [], _ => rfl
  | x :: l, h => by
    have := h x (by simp)
    simp only [wval, List.getD_cons_zero]
    omega
theorem shrL_val {k : Nat} (hk : k < 64) : ∀ l : List Nat, small l → wval (shrL k l) = wval l / 2 ^ k ∧ small (shrL k l)
  | [], _ => ⟨by simp [shrL, wval], by simp [shrL, small]⟩
  | x :: l, h => by
    have hl : small l := fun y hy => h y (by simp [hy])
    obtain ⟨h1, h2⟩ := shrL_val hk l hl
    have hx := h x (by simp)
    have hhd := wval_head l hl
    have hB : (18446744073709551616 : Nat) = 2 ^ k * 2 ^ (64 - k) := by rw [← Nat.pow_add, show k + (64 - k) = 64 by omega]
    have hp := Nat.two_pow_pos k
    have hp' := Nat.two_pow_pos (64 - k)
    -- the part that comes from above
    have h3 : l.getD 0 0 * 2 ^ (64 - k) % 18446744073709551616 = wval l % 2 ^ k * 2 ^ (64 - k) := by
      rw [hB, Nat.mul_mod_mul_right, ← hhd]
      congr 1
      rw [hB, Nat.mod_mul_right_mod]
    have h4 : wval (x :: l) / 2 ^ k = x / 2 ^ k + 2 ^ (64 - k) * wval l := by
      rw [wval]
      conv => lhs; rw [hB]
      rw [Nat.mul_assoc, Nat.add_mul_div_left _ _ hp]
    have h5 : 2 ^ (64 - k) * wval l = 18446744073709551616 * (wval l / 2 ^ k) + wval l % 2 ^ k * 2 ^ (64 - k) := by
      conv => lhs; rw [← Nat.div_add_mod (wval l) (2 ^ k)]
      rw [Nat.mul_add, ← Nat.mul_assoc, Nat.mul_comm (2 ^ (64 - k)) (2 ^ k), ← hB, Nat.mul_comm (2 ^ (64 - k))]
    have h6 : x / 2 ^ k < 2 ^ (64 - k) := by
      rw [Nat.div_lt_iff_lt_mul hp, Nat.mul_comm, ← hB]; exact hx
    have h7 : wval l % 2 ^ k * 2 ^ (64 - k) + 2 ^ (64 - k) ≤ 18446744073709551616 := by
      have := Nat.mul_le_mul_right (2 ^ (64 - k)) (Nat.succ_le_of_lt (Nat.mod_lt (wval l) hp))
      rw [Nat.succ_mul, ← hB] at this
      exact this
    refine ⟨?_, ?_⟩
    · rw [h4, h5, shrL, wval, h1, h3]
      omega
    · intro y hy
      rw [shrL, List.mem_cons] at hy
      rcases hy with rfl | hy
      · rw [h3]; omega
      · exact h2 y hy
theorem wval_drop : ∀ (q : Nat) (l : List Nat), small l → wval (l.drop q) = wval l / 18446744073709551616 ^ q
  | 0, l, _ => by simp
  | q + 1, [], _ => by simp [wval]
  | q + 1, x :: l, h => by
    have hx := h x (by simp)
    rw [List.drop_succ_cons, wval_drop q l (fun y hy => h y (by simp [hy])), wval, Nat.pow_succ, Nat.mul_comm (18446744073709551616 ^ q), ← Nat.div_div_eq_div_mul]
    congr 1
    omega
end Go.Proofs.Ytakjegcjeffmgaa.Am
