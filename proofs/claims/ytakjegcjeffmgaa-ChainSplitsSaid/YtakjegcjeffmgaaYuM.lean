
/- The places of Nelson and Yu; said of no program. -/
namespace Go.Proofs.Ytakjegcjeffmgaa.Am

/-! ### Nelson's and Yu's places -/
/-- how many bits -/
def bitsN (n : Nat) : Nat := if n = 0 then 0 else Nat.log2 n + 1
theorem lt_bitsN (n : Nat) : n < 2 ^ bitsN n := by
  unfold bitsN
  split
  · omega
  · exact Nat.lt_log2_self
theorem bitsN_le {n k : Nat} (h : n < 2 ^ k) : bitsN n ≤ k := by
  unfold bitsN
  split
  · omega
  · rename_i h0
    have := (Nat.log2_lt h0).2 h
    omega
/-- the next block's number -/
def moreY (s t : Nat) : Nat := t + (if t / 2 ^ s * 2 ^ s < t then t / 2 ^ s + 1 else t / 2 ^ s)
def shiftY (s t : Nat) : Nat := bitsN t - 1 - 2 * s
structure Pl where
  x : Nat
  shift : Nat
  value : Nat
  reply : Nat
def nextY (s : Nat) (p : Pl) : Pl := if p.reply ≤ p.value + 2 ^ p.shift then ⟨p.x + 1, shiftY s (moreY s p.reply), p.value + 2 ^ p.shift, moreY s p.reply⟩ else ⟨p.x, p.shift, p.value + 2 ^ p.shift, p.reply⟩
def placeY (s : Nat) : Nat → Pl
  | 0 => ⟨0, 0, 0, 2 ^ (2 * s)⟩
  | k + 1 => nextY s (placeY s k)

theorem bitsN_div {n k : Nat} (h : 2 ^ k ≤ n) : bitsN n = k + bitsN (n / 2 ^ k) := by
  have hp := Nat.two_pow_pos k
  have hq : 0 < n / 2 ^ k := Nat.div_pos h hp
  have h1 := lt_bitsN (n / 2 ^ k)
  have h2 : 2 ^ (bitsN (n / 2 ^ k) - 1) ≤ n / 2 ^ k := by
    unfold bitsN
    rw [if_neg (by omega), Nat.add_sub_cancel]
    exact Nat.log2_self_le (by omega)
  have h3 : 0 < bitsN (n / 2 ^ k) := by unfold bitsN; rw [if_neg (by omega)]; omega
  apply Nat.le_antisymm
  · apply bitsN_le
    rw [Nat.pow_add, Nat.mul_comm]
    exact (Nat.div_lt_iff_lt_mul hp).1 h1
  · apply Nat.le_of_not_lt
    intro hlt
    have h4 := lt_bitsN n
    have h5 : 2 ^ bitsN n ≤ 2 ^ (k + (bitsN (n / 2 ^ k) - 1)) := Nat.pow_le_pow_right (by omega) (by omega)
    rw [Nat.pow_add] at h5
    have h6 : 2 ^ k * 2 ^ (bitsN (n / 2 ^ k) - 1) ≤ n := by
      rw [Nat.mul_comm]; exact Nat.le_trans (Nat.mul_le_mul_right _ h2) (Nat.div_mul_le_self _ _)
    omega
theorem bitsN_pos {n : Nat} (h : 0 < n) : 2 ^ (bitsN n - 1) ≤ n ∧ 0 < bitsN n := by
  unfold bitsN
  rw [if_neg (by omega), Nat.add_sub_cancel]
  exact ⟨Nat.log2_self_le (by omega), by omega⟩

theorem moreY_le {s t : Nat} (hs : 1 ≤ s) (ht : 2 ≤ t) : moreY s t ≤ 2 * t := by
  unfold moreY
  have h2 : 2 ≤ 2 ^ s := by
    calc 2 = 2 ^ 1 := by decide
      _ ≤ 2 ^ s := Nat.pow_le_pow_right (by decide) hs
  have h1 : t / 2 ^ s ≤ t / 2 := Nat.div_le_div_left h2 (by decide)
  split <;> omega

theorem placeY_le {s : Nat} (hs : 1 ≤ s) : ∀ k, 4 ≤ (placeY s k).reply ∧ (placeY s k).reply ≤ 2 ^ (2 * s + k) ∧ (placeY s k).shift ≤ 2 * s + k ∧ (placeY s k).value ≤ k * 2 ^ (2 * s + k) ∧ (placeY s k).x ≤ k := by
  intro k
  induction k with
  | zero =>
    simp only [placeY]
    have : 2 ^ 2 ≤ 2 ^ (2 * s) := Nat.pow_le_pow_right (by decide) (by omega)
    rw [Nat.add_zero]
    omega
  | succ k ih =>
    obtain ⟨h1, h2, h3, h4, h5⟩ := ih
    have hp : 2 ^ (2 * s + (k + 1)) = 2 * 2 ^ (2 * s + k) := by rw [show 2 * s + (k + 1) = 2 * s + k + 1 by omega, Nat.pow_succ]; omega
    have hm := moreY_le hs (show 2 ≤ (placeY s k).reply by omega)
    have hm4 : (placeY s k).reply ≤ moreY s (placeY s k).reply := by unfold moreY; omega
    have hsh : 2 ^ (placeY s k).shift ≤ 2 ^ (2 * s + k) := Nat.pow_le_pow_right (by decide) h3
    have hv : (placeY s k).value + 2 ^ (placeY s k).shift ≤ (k + 1) * 2 ^ (2 * s + (k + 1)) := by
      rw [hp, Nat.add_mul, Nat.one_mul, Nat.mul_left_comm]
      generalize 2 ^ (2 * s + k) = P at *
      generalize k * P = Q at *
      omega
    have hb : bitsN (moreY s (placeY s k).reply) ≤ 2 * s + (k + 1) + 1 := bitsN_le (by
      rw [Nat.pow_succ, hp]
      have : 0 < 2 ^ (2 * s + k) := Nat.pow_pos (by decide)
      omega)
    simp only [placeY, nextY]
    split
    · refine ⟨by simp only; omega, by simp only; omega, ?_, hv, by simp only; omega⟩
      simp only [shiftY]
      omega
    · refine ⟨by simp only; omega, by simp only; omega, by simp only; omega, hv, by simp only; omega⟩

end Go.Proofs.Ytakjegcjeffmgaa.Am
