/- Parts of the proof: YuM, DivM, Nat7, Mul1, Div1, Mul2, Rat1, Rat2, DivN, Nat8, Nat9, Nat10, Rat3, RatQ, Rat4, Rat5, Pow1, Text1, Tape1, Float1, Flip1, Flip2, Morris1, Pow2, FlatM, AmUn, Chain1, Yu1, YuX, YuW. -/
import Derived.Test.YtmpjlkclkhnpfaaGreatDoorPc
set_option linter.unusedVariables false
set_option linter.unusedSimpArgs false
set_option maxRecDepth 100000
namespace Go.Proofs.YtmpjlkclkhnpfaaGreatDoor.Am
section
def bitsN (n : Nat) : Nat := if n = 0 then 0 else Nat.log2 n + 1
theorem o_j0 (n : Nat) : n < 2 ^ bitsN n := by
 unfold bitsN
 split
 ·omega
 ·exact Nat.lt_log2_self
theorem o_j1 {n k : Nat} (h : n < 2 ^ k) : bitsN n ≤ k := by
 unfold bitsN
 split
 ·omega
 ·rename_i h0
  have := (Nat.log2_lt h0).2 h
  omega
def moreY (s t : Nat) : Nat := t + (if t / 2 ^ s * 2 ^ s < t then t / 2 ^ s + 1 else t / 2 ^ s)
def shiftY (s t : Nat) : Nat := bitsN t - 1 - 2 * s
structure Pl where
 x : Nat
 shift : Nat
 value : Nat
 reply : Nat
def nextY (s : Nat) (p : Pl) : Pl := if p.reply ≤ p.value + 2 ^ p.shift then ⟨p.x + 1, shiftY s (moreY s p.reply), p.value + 2 ^ p.shift, moreY s p.reply⟩ else ⟨p.x, p.shift, p.value + 2 ^ p.shift, p.reply⟩
def placeY (s : Nat) : Nat → Pl
 | 0 => ⟨0, 0, 0, 2 ^ (2 * s)⟩
 | k + 1 => nextY s (placeY s k)

theorem o_j2 {n k : Nat} (h : 2 ^ k ≤ n) : bitsN n = k + bitsN (n / 2 ^ k) := by
 have hp := Nat.two_pow_pos k
 have hq : 0 < n / 2 ^ k := Nat.div_pos h hp
 have h1 := o_j0 (n / 2 ^ k)
 have h2 : 2 ^ (bitsN (n / 2 ^ k) - 1) ≤ n / 2 ^ k := by
  unfold bitsN
  rw [if_neg (by omega), Nat.add_sub_cancel]
  exact Nat.log2_self_le (by omega)
 have h3 : 0 < bitsN (n / 2 ^ k) := by unfold bitsN; rw [if_neg (by omega)]; omega
 apply Nat.le_antisymm
 ·apply o_j1
  rw [Nat.pow_add, Nat.mul_comm]
  exact (Nat.div_lt_iff_lt_mul hp).1 h1
 ·apply Nat.le_of_not_lt
  intro hlt
  have h4 := o_j0 n
  have h5 : 2 ^ bitsN n ≤ 2 ^ (k + (bitsN (n / 2 ^ k) - 1)) := Nat.pow_le_pow_right (by omega) (by omega)
  rw [Nat.pow_add] at h5
  have h6 : 2 ^ k * 2 ^ (bitsN (n / 2 ^ k) - 1) ≤ n := by
   rw [Nat.mul_comm]; exact Nat.le_trans (Nat.mul_le_mul_right _ h2) (Nat.div_mul_le_self _ _)
  omega
theorem o_j3 {n : Nat} (h : 0 < n) : 2 ^ (bitsN n - 1) ≤ n ∧ 0 < bitsN n := by
 unfold bitsN
 rw [if_neg (by omega), Nat.add_sub_cancel]
 exact ⟨Nat.log2_self_le (by omega), by omega⟩

theorem o_j4 {s t : Nat} (hs : 1 ≤ s) (ht : 2 ≤ t) : moreY s t ≤ 2 * t := by
 unfold moreY
 have h2 : 2 ≤ 2 ^ s := by
  calc 2 = 2 ^ 1 := by decide
   _ ≤ 2 ^ s := Nat.pow_le_pow_right (by decide) hs
 have h1 : t / 2 ^ s ≤ t / 2 := Nat.div_le_div_left h2 (by decide)
 split <;> omega

theorem o_j5 {s : Nat} (hs : 1 ≤ s) : ∀ k, 4 ≤ (placeY s k).reply ∧ (placeY s k).reply ≤ 2 ^ (2 * s + k) ∧ (placeY s k).shift ≤ 2 * s + k ∧ (placeY s k).value ≤ k * 2 ^ (2 * s + k) ∧ (placeY s k).x ≤ k := by
 intro k
 induction k with
 | zero =>
  simp only [placeY]
  have : 2 ^ 2 ≤ 2 ^ (2 * s) := Nat.pow_le_pow_right (by decide) (by omega)
  rw [Nat.add_zero]
  omega
 | succ k ih =>
  obtain ⟨h1, h2, h3, h4, h5⟩ := ih
  have hp : 2 ^ (2 * s + (k + 1)) = 2 * 2 ^ (2 * s + k) := by rw [show 2 * s + (k + 1) = 2 * s + k + 1 by omega, Nat.pow_succ]; omega
  have hm := o_j4 hs (show 2 ≤ (placeY s k).reply by omega)
  have hm4 : (placeY s k).reply ≤ moreY s (placeY s k).reply := by unfold moreY; omega
  have hsh : 2 ^ (placeY s k).shift ≤ 2 ^ (2 * s + k) := Nat.pow_le_pow_right (by decide) h3
  have hv : (placeY s k).value + 2 ^ (placeY s k).shift ≤ (k + 1) * 2 ^ (2 * s + (k + 1)) := by
   rw [hp, Nat.add_mul, Nat.one_mul, Nat.mul_left_comm]
   generalize 2 ^ (2 * s + k) = P at *
   generalize k * P = Q at *
   omega
  have hb : bitsN (moreY s (placeY s k).reply) ≤ 2 * s + (k + 1) + 1 := o_j1 (by
   rw [Nat.pow_succ, hp]
   have : 0 < 2 ^ (2 * s + k) := Nat.pow_pos (by decide)
   omega)
  simp only [placeY, nextY]
  split
  ·refine ⟨by simp only; omega, by simp only; omega, ?_, hv, by simp only; omega⟩
   simp only [shiftY]
   omega
  ·refine ⟨by simp only; omega, by simp only; omega, by simp only; omega, hv, by simp only; omega⟩
end
end Go.Proofs.YtmpjlkclkhnpfaaGreatDoor.Am
namespace Go.Proofs.YtmpjlkclkhnpfaaGreatDoor.Am
section
set_option maxRecDepth 10000
theorem o_j6 {y1 y0 u u1 q r : Nat} (e : q * y1 + r = u) (hle : q * y0 ≤ r * 4294967296 + u1) (hgt : u * 4294967296 + u1 < (q + 1) * (y1 * 4294967296 + y0)) :
  (u * 4294967296 + u1) / (y1 * 4294967296 + y0) = q := by
 have h1 : q * (y1 * 4294967296 + y0) ≤ u * 4294967296 + u1 := by
  rw [Nat.mul_add, ← Nat.mul_assoc, ← e, Nat.add_mul]
  omega
 have hpos : 0 < y1 * 4294967296 + y0 := by
  rcases Nat.eq_zero_or_pos (y1 * 4294967296 + y0) with h | h
  ·rw [h] at hgt; omega
  ·exact h
 exact Nat.div_eq_of_lt_le h1 hgt
theorem lin (a r u u1 b z : Nat) (e : a + r = u) (hc : r * b + u1 < z) : u * b + u1 < a * b + z := by
 subst e; rw [Nat.add_mul]; omega
theorem o_j7 {y1 y0 u u1 q r : Nat} (e : q * y1 + r = u) (hu : u < y1 * 4294967296 + y0) (hu1 : u1 < 4294967296) (hc : 4294967296 ≤ q ∨ r * 4294967296 + u1 < q * y0) :
  0 < q ∧ (q - 1) * y1 + (r + y1) = u ∧ u * 4294967296 + u1 < (q - 1 + 1) * (y1 * 4294967296 + y0) := by
 have hq : 0 < q := by
  rcases Nat.eq_zero_or_pos q with h | h
  ·subst h; omega
  ·exact h
 have e1 : (q - 1) * y1 + y1 = q * y1 := by
  obtain ⟨k, rfl⟩ : ∃ k, q = k + 1 := ⟨q - 1, by omega⟩
  rw [Nat.add_sub_cancel, Nat.add_mul, Nat.one_mul]
 have e2 : q - 1 + 1 = q := by omega
 rw [e2]
 refine ⟨hq, by omega, ?_⟩
 rcases hc with hc | hc
 ·have h1 : (y1 * 4294967296 + y0) * 4294967296 ≤ (y1 * 4294967296 + y0) * q := Nat.mul_le_mul_left _ hc
  rw [Nat.mul_comm q]
  obtain ⟨p, hp⟩ : ∃ p, p = (y1 * 4294967296 + y0) * q := ⟨_, rfl⟩
  rw [← hp] at h1 ⊢
  clear hp e1
  omega
 ·rw [Nat.mul_add, ← Nat.mul_assoc]
  obtain ⟨a, ha⟩ : ∃ a, a = q * y1 := ⟨_, rfl⟩
  rw [← ha] at e ⊢
  exact lin a r u u1 _ _ e hc
theorem o_j8 {y1 y0 u q r : Nat} (e : q * y1 + r = u) (hu : u < y1 * 4294967296 + y0) (hy0 : y0 < 4294967296) (hr : 4294967296 ≤ r) (u1 : Nat) : q * y0 ≤ r * 4294967296 + u1 := by
 have hq : q < 4294967296 := by
  apply Nat.lt_of_not_le
  intro h
  have : 4294967296 * y1 ≤ q * y1 := Nat.mul_le_mul_right y1 h
  omega
 have : q * y0 ≤ 4294967295 * 4294967295 := Nat.mul_le_mul (by omega) (by omega)
 omega
theorem o_j9 {y1 y0 u u1 : Nat} (h1 : 0 < y1) (hu1 : u1 < 4294967296) : u * 4294967296 + u1 < (u / y1 + 1) * (y1 * 4294967296 + y0) := by
 have h := Nat.lt_mul_div_succ u h1
 rw [Nat.mul_comm] at h
 have h2 : (u / y1 + 1) * (y1 * 4294967296) ≤ (u / y1 + 1) * (y1 * 4294967296 + y0) := Nat.mul_le_mul_left _ (by omega)
 rw [← Nat.mul_assoc] at h2
 generalize (u / y1 + 1) * y1 = a at *
 omega

theorem halves' {y a b v0 q1 q0 : Nat} (hy : 0 < y) (h1 : a / y = q1) (h0 : ((a - q1 * y) * b + v0) / y = q0) :
  (a * b + v0) / y = q1 * b + q0 ∧ (a * b + v0) % y = (a - q1 * y) * b + v0 - q0 * y := by
 have a1 := Nat.div_add_mod a y
 have b1 := Nat.mod_lt a hy
 rw [h1, Nat.mul_comm] at a1
 obtain ⟨r1, hr1⟩ : ∃ r, r = a % y := ⟨_, rfl⟩
 rw [← hr1] at a1 b1
 have e1 : a - q1 * y = r1 := by omega
 rw [e1] at h0 ⊢
 have a0 := Nat.div_add_mod (r1 * b + v0) y
 have b0 := Nat.mod_lt (r1 * b + v0) hy
 rw [h0, Nat.mul_comm] at a0
 obtain ⟨r0, hr0⟩ : ∃ r, r = (r1 * b + v0) % y := ⟨_, rfl⟩
 rw [← hr0] at a0 b0
 have e0 : r1 * b + v0 - q0 * y = r0 := by omega
 rw [e0]
 have hN : a * b + v0 = (q1 * b + q0) * y + r0 := by
  have hp : q1 * b * y = q1 * y * b := Nat.mul_right_comm _ _ _
  rw [Nat.add_mul, hp, ← a1, Nat.add_mul]
  omega
 rw [hN]
 exact ⟨by rw [Nat.mul_comm, Nat.mul_add_div hy, Nat.div_eq_of_lt b0, Nat.add_zero], by rw [Nat.mul_comm, Nat.mul_add_mod]; exact Nat.mod_eq_of_lt b0⟩

theorem o_ja {n y s : Nat} : n * 2 ^ s / (y * 2 ^ s) = n / y ∧ n * 2 ^ s % (y * 2 ^ s) / 2 ^ s = n % y := by
 have hp := Nat.two_pow_pos s
 refine ⟨Nat.mul_div_mul_right _ _ hp, ?_⟩
 rw [Nat.mul_mod_mul_right, Nat.mul_div_cancel _ hp]

theorem o_jb {U D B P u1 d1 : Nat} (hB : 0 < B) (hP : 0 < P) (hU : U / P = u1) (hD : d1 * P ≤ D) (hd : 0 < d1) : U / D ≤ u1 / d1 := by
 rw [Nat.le_div_iff_mul_le hd]
 have hD0 : 0 < D := Nat.lt_of_lt_of_le (Nat.mul_pos hd hP) hD
 have h1 : U / D * D ≤ U := Nat.div_mul_le_self U D
 rw [← hU, Nat.le_div_iff_mul_le hP]
 calc U / D * d1 * P = U / D * (d1 * P) := Nat.mul_assoc _ _ _
  _ ≤ U / D * D := Nat.mul_le_mul_left _ hD
  _ ≤ U := h1

theorem o_jc {U D g w P M : Nat} (hM : M = 18446744073709551616 * P) (hD : D < P) (hD0 : 0 < D) (hg : g ≤ 18446744073709551615) (hw : w < M) (e : w + g * D = U + M) :
  0 < g ∧ (M ≤ w + D → w + D - M + (g - 1) * D = U ∧ w + D - M < D ∧ U / D = g - 1 ∧ U % D = w + D - M) ∧ (w + D < M → w + D + (g - 1) * D = U + M ∧ P ≤ w + D) := by
 have hg0 : 0 < g := by
  rcases Nat.eq_zero_or_pos g with h | h
  ·subst h; omega
  ·exact h
 have e1 : (g - 1) * D + D = g * D := by
  obtain ⟨k, rfl⟩ : ∃ k, g = k + 1 := ⟨g - 1, by omega⟩
  rw [Nat.add_sub_cancel, Nat.add_mul, Nat.one_mul]
 have e2 : (g - 1) * D ≤ 18446744073709551614 * P := Nat.mul_le_mul (by omega) (by omega)
 obtain ⟨x, hx⟩ : ∃ x, x = (g - 1) * D := ⟨_, rfl⟩
 obtain ⟨y, hy⟩ : ∃ y, y = g * D := ⟨_, rfl⟩
 refine ⟨hg0, fun h => ?_, fun h => ?_⟩
 ·have h1 : w + D - M + (g - 1) * D = U := by rw [← hx] at e1 ⊢; rw [← hy] at e e1; clear hx hy e2; omega
  have h2 : w + D - M < D := by omega
  refine ⟨h1, h2, ?_, ?_⟩
  ·rw [← h1, Nat.add_mul_div_right _ _ hD0, Nat.div_eq_of_lt h2, Nat.zero_add]
  ·rw [← h1, Nat.add_mul_mod_self_right]; exact Nat.mod_eq_of_lt h2
 ·rw [← hx] at e1 e2 ⊢; rw [← hy] at e e1
  clear hx hy
  subst hM
  constructor
  ·omega
  ·omega
theorem o_jd {U D g w : Nat} (hD0 : 0 < D) (hg : U / D ≤ g) (e : w + g * D = U) : U / D = g ∧ U % D = w := by
 have h : g ≤ U / D := by rw [Nat.le_div_iff_mul_le hD0]; omega
 have hq : U / D = g := Nat.le_antisymm hg h
 have := Nat.div_add_mod U D
 rw [hq, Nat.mul_comm] at this
 exact ⟨hq, by omega⟩

def shrL (k : Nat) : List Nat → List Nat
 | [] => []
 | x :: l => (x / 2 ^ k + l.getD 0 0 * 2 ^ (64 - k) % 18446744073709551616) :: shrL k l
theorem o_je (k : Nat) : ∀ l, (shrL k l).length = l.length
 | [] => rfl
 | x :: l => by simp [shrL, o_je k l]
theorem o_jf : ∀ l : List Nat, small l → wval l % 18446744073709551616 = l.getD 0 0
 | [], _ => rfl
 | x :: l, h => by
  have := h x (by simp)
  simp only [wval, List.getD_cons_zero]
  omega
theorem o_jg {k : Nat} (hk : k < 64) : ∀ l : List Nat, small l → wval (shrL k l) = wval l / 2 ^ k ∧ small (shrL k l)
 | [], _ => ⟨by simp [shrL, wval], by simp [shrL, small]⟩
 | x :: l, h => by
  have hl : small l := fun y hy => h y (by simp [hy])
  obtain ⟨h1, h2⟩ := o_jg hk l hl
  have hx := h x (by simp)
  have hhd := o_jf l hl
  have hB : (18446744073709551616 : Nat) = 2 ^ k * 2 ^ (64 - k) := by rw [← Nat.pow_add, show k + (64 - k) = 64 by omega]
  have hp := Nat.two_pow_pos k
  have hp' := Nat.two_pow_pos (64 - k)
  -- the part that comes from above
  have h3 : l.getD 0 0 * 2 ^ (64 - k) % 18446744073709551616 = wval l % 2 ^ k * 2 ^ (64 - k) := by
   rw [hB, Nat.mul_mod_mul_right, ← hhd]
   congr 1
   rw [hB, Nat.mod_mul_right_mod]
  have h4 : wval (x :: l) / 2 ^ k = x / 2 ^ k + 2 ^ (64 - k) * wval l := by
   rw [wval]
   conv => lhs; rw [hB]
   rw [Nat.mul_assoc, Nat.add_mul_div_left _ _ hp]
  have h5 : 2 ^ (64 - k) * wval l = 18446744073709551616 * (wval l / 2 ^ k) + wval l % 2 ^ k * 2 ^ (64 - k) := by
   conv => lhs; rw [← Nat.div_add_mod (wval l) (2 ^ k)]
   rw [Nat.mul_add, ← Nat.mul_assoc, Nat.mul_comm (2 ^ (64 - k)) (2 ^ k), ← hB, Nat.mul_comm (2 ^ (64 - k))]
  have h6 : x / 2 ^ k < 2 ^ (64 - k) := by
   rw [Nat.div_lt_iff_lt_mul hp, Nat.mul_comm, ← hB]; exact hx
  have h7 : wval l % 2 ^ k * 2 ^ (64 - k) + 2 ^ (64 - k) ≤ 18446744073709551616 := by
   have := Nat.mul_le_mul_right (2 ^ (64 - k)) (Nat.succ_le_of_lt (Nat.mod_lt (wval l) hp))
   rw [Nat.succ_mul, ← hB] at this
   exact this
  refine ⟨?_, ?_⟩
  ·rw [h4, h5, shrL, wval, h1, h3]
   omega
  ·intro y hy
   rw [shrL, List.mem_cons] at hy
   rcases hy with rfl | hy
   ·rw [h3]; omega
   ·exact h2 y hy
theorem o_jh : ∀ (q : Nat) (l : List Nat), small l → wval (l.drop q) = wval l / 18446744073709551616 ^ q
 | 0, l, _ => by simp
 | q + 1, [], _ => by simp [wval]
 | q + 1, x :: l, h => by
  have hx := h x (by simp)
  rw [List.drop_succ_cons, o_jh q l (fun y hy => h y (by simp [hy])), wval, Nat.pow_succ, Nat.mul_comm (18446744073709551616 ^ q), ← Nat.div_div_eq_div_mul]
  congr 1
  omega
end
end Go.Proofs.YtmpjlkclkhnpfaaGreatDoor.Am
namespace Go.Proofs.YtmpjlkclkhnpfaaGreatDoor.Am
section
open Go.RowKit
theorem o_ji : ∀ i : Nat, i < 256 → (([0, 1, 2, 2, 3, 3, 3, 3, 4, 4, 4, 4, 4, 4, 4, 4, 5, 5, 5, 5, 5, 5, 5, 5, 5, 5, 5, 5, 5, 5, 5, 5, 6, 6, 6, 6, 6, 6, 6, 6, 6, 6, 6, 6, 6, 6, 6, 6, 6, 6, 6, 6, 6, 6, 6, 6, 6, 6, 6, 6, 6, 6, 6, 6, 7, 7, 7, 7, 7, 7, 7, 7, 7, 7, 7, 7, 7, 7, 7, 7, 7, 7, 7, 7, 7, 7, 7, 7, 7, 7, 7, 7, 7, 7, 7, 7, 7, 7, 7, 7, 7, 7, 7, 7, 7, 7, 7, 7, 7, 7, 7, 7, 7, 7, 7, 7, 7, 7, 7, 7, 7, 7, 7, 7, 7, 7, 7, 7, 8, 8, 8, 8, 8, 8, 8, 8, 8, 8, 8, 8, 8, 8, 8, 8, 8, 8, 8, 8, 8, 8, 8, 8, 8, 8, 8, 8, 8, 8, 8, 8, 8, 8, 8, 8, 8, 8, 8, 8, 8, 8, 8, 8, 8, 8, 8, 8, 8, 8, 8, 8, 8, 8, 8, 8, 8, 8, 8, 8, 8, 8, 8, 8, 8, 8, 8, 8, 8, 8, 8, 8, 8, 8, 8, 8, 8, 8, 8, 8, 8, 8, 8, 8, 8, 8, 8, 8, 8, 8, 8, 8, 8, 8, 8, 8, 8, 8, 8, 8, 8, 8, 8, 8, 8, 8, 8, 8, 8, 8, 8, 8, 8, 8, 8, 8, 8, 8, 8, 8, 8, 8, 8, 8, 8, 8, 8, 8] : List UInt8)[i]?.getD 0).toNat = bitsN i := by
 have h : ((List.range 256).all fun i => (([0, 1, 2, 2, 3, 3, 3, 3, 4, 4, 4, 4, 4, 4, 4, 4, 5, 5, 5, 5, 5, 5, 5, 5, 5, 5, 5, 5, 5, 5, 5, 5, 6, 6, 6, 6, 6, 6, 6, 6, 6, 6, 6, 6, 6, 6, 6, 6, 6, 6, 6, 6, 6, 6, 6, 6, 6, 6, 6, 6, 6, 6, 6, 6, 7, 7, 7, 7, 7, 7, 7, 7, 7, 7, 7, 7, 7, 7, 7, 7, 7, 7, 7, 7, 7, 7, 7, 7, 7, 7, 7, 7, 7, 7, 7, 7, 7, 7, 7, 7, 7, 7, 7, 7, 7, 7, 7, 7, 7, 7, 7, 7, 7, 7, 7, 7, 7, 7, 7, 7, 7, 7, 7, 7, 7, 7, 7, 7, 8, 8, 8, 8, 8, 8, 8, 8, 8, 8, 8, 8, 8, 8, 8, 8, 8, 8, 8, 8, 8, 8, 8, 8, 8, 8, 8, 8, 8, 8, 8, 8, 8, 8, 8, 8, 8, 8, 8, 8, 8, 8, 8, 8, 8, 8, 8, 8, 8, 8, 8, 8, 8, 8, 8, 8, 8, 8, 8, 8, 8, 8, 8, 8, 8, 8, 8, 8, 8, 8, 8, 8, 8, 8, 8, 8, 8, 8, 8, 8, 8, 8, 8, 8, 8, 8, 8, 8, 8, 8, 8, 8, 8, 8, 8, 8, 8, 8, 8, 8, 8, 8, 8, 8, 8, 8, 8, 8, 8, 8, 8, 8, 8, 8, 8, 8, 8, 8, 8, 8, 8, 8, 8, 8, 8, 8, 8, 8] : List UInt8)[i]?.getD 0).toNat == bitsN i) = true := by kernel_rfl
 intro i hi
 have := List.all_eq_true.1 h i (List.mem_range.2 hi)
 exact eq_of_beq this

set_option maxHeartbeats 1000000 in
theorem o_jj (x : Nat) (hx : x < 18446744073709551616) : Eqn Tryz.prog o_dp [.d (.int .u64 x)] [] (.d (.int .i64 (bitsN x))) [] := by
 refine Eqn.pure o_dr (o_58 _) ?_
 simp only [o_dq]
 obtain ⟨x1, n1, h1, hx1, hn1, e1⟩ : ∃ x1 n1 : Nat, (x1, n1) = (if 4294967296 ≤ x then (x / 4294967296, 32) else (x, 0)) ∧ x1 < 4294967296 ∧ n1 ≤ 32 ∧ bitsN x = n1 + bitsN x1 := by
  by_cases h : 4294967296 ≤ x
  ·exact ⟨x / 4294967296, 32, by rw [if_pos h], by omega, by omega, o_j2 (k := 32) h⟩
  ·exact ⟨x, 0, by rw [if_neg h], by omega, by omega, by omega⟩
 obtain ⟨x2, n2, h2, hx2, hn2, e2⟩ : ∃ x2 n2 : Nat, (x2, n2) = (if 65536 ≤ x1 then (x1 / 65536, n1 + 16) else (x1, n1)) ∧ x2 < 65536 ∧ n2 ≤ 48 ∧ bitsN x = n2 + bitsN x2 := by
  by_cases h : 65536 ≤ x1
  ·exact ⟨x1 / 65536, n1 + 16, by rw [if_pos h], by omega, by omega, by have := o_j2 (k := 16) h; rw [e1, this]; simp; omega⟩
  ·exact ⟨x1, n1, by rw [if_neg h], by omega, by omega, by omega⟩
 obtain ⟨x3, n3, h3, hx3, hn3, e3⟩ : ∃ x3 n3 : Nat, (x3, n3) = (if 256 ≤ x2 then (x2 / 256, n2 + 8) else (x2, n2)) ∧ x3 < 256 ∧ n3 ≤ 56 ∧ bitsN x = n3 + bitsN x3 := by
  by_cases h : 256 ≤ x2
  ·exact ⟨x2 / 256, n2 + 8, by rw [if_pos h], by omega, by omega, by have := o_j2 (k := 8) h; rw [e2, this]; simp; omega⟩
  ·exact ⟨x2, n2, by rw [if_neg h], by omega, by omega, by omega⟩
 rw [e3]
 clear e1 e2 e3
 refine AW.seq (AW.reg mix ?_)
 (simp -implicitDefEqProofs; try simp (disch := omega) only [w64, wu64])
 refine AW.cut 0 [(0, .d (.int .u64 x1)), (2, .d (.int .i64 n1))] [] (by simp) (by simp) ?_ ?_
 ·have hd : (x : Int) / 4294967296 = (x / 4294967296 : Nat) := rfl
  refine G0 ?_; try with_reducible exact tt
  refine AW.cond rfl (fun h => ?_) (fun h => ?_)
  ·rw [if_pos (by simp at h; omega)] at h1
   cases h1
   generalize x / 4294967296 = q at *
   refine G1 hd ?_; try with_reducible exact tt
  ·rw [if_neg (by simp at h; omega)] at h1
   cases h1
   refine G0 ?_; try with_reducible exact tt
 clear h1 hx
 simp
 refine AW.cut 0 [(0, .d (.int .u64 x2)), (2, .d (.int .i64 n2))] [] (by simp) (by simp) ?_ ?_
 ·have hd : (x1 : Int) / 65536 = (x1 / 65536 : Nat) := rfl
  have ew : IntKind.i64.wrap ((n1 : Int) + 16) = ((n1 + 16 : Nat) : Int) := w64 (by omega) (by omega)
  refine G0 ?_; try with_reducible exact tt
  refine AW.cond rfl (fun h => ?_) (fun h => ?_)
  ·rw [if_pos (by simp at h; omega)] at h2
   cases h2
   generalize x1 / 65536 = q at *
   refine G1 (fs hd ew) ?_; try with_reducible exact tt
  ·rw [if_neg (by simp at h; omega)] at h2
   cases h2
   refine G0 ?_; try with_reducible exact tt
 clear h2 hx1 hn1
 simp
 refine AW.cut 0 [(0, .d (.int .u64 x3)), (2, .d (.int .i64 n3))] [] (by simp) (by simp) ?_ ?_
 ·have hd : (x2 : Int) / 256 = (x2 / 256 : Nat) := rfl
  have ew : IntKind.i64.wrap ((n2 : Int) + 8) = ((n2 + 8 : Nat) : Int) := w64 (by omega) (by omega)
  refine G0 ?_; try with_reducible exact tt
  refine AW.cond rfl (fun h => ?_) (fun h => ?_)
  ·rw [if_pos (by simp at h; omega)] at h3
   cases h3
   generalize x2 / 256 = q at *
   refine G1 (fs hd ew) ?_; try with_reducible exact tt
  ·rw [if_neg (by simp at h; omega)] at h3
   cases h3
   refine G0 ?_; try with_reducible exact tt
 clear h3 hx2 hn2
 simp
 have ew1 : IntKind.u8.wrap (x3 : Int) = x3 := by rw [show IntKind.u8.wrap (x3 : Int) = (x3 : Int) % 256 from rfl]; omega
 have hb := o_ji x3 hx3
 have hB : bitsN x3 ≤ 8 := o_j1 (by omega)
 have ew2 : IntKind.i64.wrap (bitsN x3 : Int) = bitsN x3 := w64 (by omega) (by omega)
 have ew3 : IntKind.i64.wrap ((n3 : Int) + bitsN x3) = (n3 : Int) + bitsN x3 := w64 (by omega) (by omega)
 refine AW.seq (AW.reg mix ?_)
 simp [ew1, hb, ew2, ew3]
 refine need.of (Nat.lt_of_lt_of_le hx3 (by decide)) ?_
 refine G0 ?_; try with_reducible exact tt

theorem o_jk (x : Nat) (hx : x < 18446744073709551616) : Eqn Tryz.prog o_ej [.d (.int .u64 x)] [] (.d (.int .i64 (64 - bitsN x : Nat))) [] := by
 refine Eqn.pure o_el (o_58 _) ?_
 simp only [o_ek]
 have hB : bitsN x ≤ 64 := o_j1 (by omega)
 refine G0 ?_; try with_reducible exact tt
 refine CallS.pu (o_jj x hx) (R0 ?_); try with_reducible exact tt
 exact Sub1.int (by omega)

theorem o_jl {l : List Nat} {x : Nat} (hs : small l) (h0 : 0 < x) : bitsN (wval (l ++ [x])) = 64 * l.length + bitsN x := by
 have hp : (18446744073709551616 : Nat) ^ l.length = 2 ^ (64 * l.length) := by rw [show (18446744073709551616 : Nat) = 2 ^ 64 by rfl, ← Nat.pow_mul]
 have hlt := o_gu hs
 have hv : wval (l ++ [x]) = wval l + 2 ^ (64 * l.length) * x := by rw [o_gs, hp]; simp [wval]
 rw [hp] at hlt
 rw [hv, o_j2 (k := 64 * l.length) (by have := Nat.le_mul_of_pos_right (2 ^ (64 * l.length)) h0; omega), Nat.add_mul_div_left _ _ (Nat.two_pow_pos _), Nat.div_eq_of_lt hlt, Nat.zero_add]

theorem o_jm (n : Nat) (hn : size n ≤ 1000000) : Eqn Tryz.prog o_da [.d (.agg [natW n])] [] (.d (.int .i64 (bitsN n))) [] := by
 refine Eqn.pure o_dc (o_58 _) ?_
 simp only [o_db, natW, W]
 unfold size at hn
 have hs := o_hq n
 have ht := o_hr n
 have hv := o_hp n
 generalize words n = ws at *
 rcases List.eq_nil_or_concat ws with rfl | ⟨l, x, rfl⟩
 ·refine G0 ?_; try with_reducible exact tt
  refine AW.cond rfl (fun h => ?_) (fun h => ?_)
  ·refine G0 ?_; try with_reducible exact tt
   rw [← hv]
   exact Sub1.refl _
  ·simp at h
 ·rw [List.concat_eq_append] at *
  have hx0 : 0 < x := by
   have := ht l.length (by simp)
   simp [List.getD] at this
   omega
  have hx : x < 18446744073709551616 := hs x (by simp)
  have hb := o_jl (l := l) (x := x) (fun y hy => hs y (by simp [hy])) hx0
  rw [hv] at hb
  have hB : bitsN x ≤ 64 := o_j1 (by omega)
  have hll : l.length ≤ 1000000 := by simp at hn; omega
  have e1 : IntKind.i64.wrap ((l.length : Int) + 1 - 1) = (l.length : Int) := by rw [Int.add_sub_cancel]; exact w64 (by omega) (by omega)
  have e2 : IntKind.i64.wrap ((64 : Int) * l.length) = ((64 * l.length : Nat) : Int) := w64 (by omega) (by omega)
  have e0 : IntKind.i64.wrap (l.length : Int) = (l.length : Int) := w64 (by omega) (by omega)
  have hne : ¬ (l.length : Int) + 1 = 0 := by omega
  refine G1 (fs hne (fs e1 (fs e2 e0))) ?_; try with_reducible exact tt
  refine AW.cond rfl (fun h => ?_) (fun h => ?_)
  ·simp at h
   omega
  rw [hb]
  have e3 : IntKind.i64.wrap (((64 * l.length : Nat) : Int) + bitsN x) = ((64 * l.length + bitsN x : Nat) : Int) := w64 (by omega) (by omega)
  generalize 64 * l.length = q at *
  refine G1 (fs hne (fs e1 (fs e2 e0))) ?_; try with_reducible exact tt
  refine CallS.pu (o_jj x hx) (R1 e3 ?_); try with_reducible exact tt

theorem o_jn (n : Nat) (l : List D) (hl : l.length = n) (h0 : 0 < n) (hn : n ≤ 4000000000) : Eqn Tryz.prog o_dd [.d (.sl n l)] [] (.own 0 1 n) [⟨194, l.map .d⟩] := by
 refine Eqn.newX o_df rfl (o_5g _) (fun n => rfl) ?_
 simp only [o_de]
 refine G1 h0 ?_; try with_reducible exact tt
 refine AW.cond rfl (fun h => ?_) (fun h => ?_)
 ·simp at h
 ·refine G0 ?_; try with_reducible exact tt
  have h1 : ¬ n = 0 := by omega
  simp [h1, hl]
  refine need.of (by omega) ?_
  refine G0 ?_; try with_reducible exact tt
  exact ⟨0, Sub1.refl _, _, rfl, rfl, Subs.refl _⟩

def shrI (k : Nat) (A : List Nat) (i : Nat) : List Nat := (shrL k A).take i ++ A.drop i
theorem o_jo (k : Nat) : ∀ (A : List Nat) (i : Nat), i < A.length → (shrL k A).getD i 0 = A.getD i 0 / 2 ^ k + A.getD (i + 1) 0 * 2 ^ (64 - k) % 18446744073709551616
 | [], i, h => by simp at h
 | x :: l, 0, h => by simp [shrL]
 | x :: l, i + 1, h => by
  have := o_jo k l i (by simpa using h)
  simpa [shrL] using this
theorem o_jp (k : Nat) (A : List Nat) (i : Nat) (h : i ≤ A.length) : (shrI k A i).length = A.length := by
 rw [shrI, List.length_append, List.length_take, o_je, List.length_drop]; omega
theorem o_jq (k : Nat) (A : List Nat) (i j : Nat) (h : i ≤ j) (hj : j < A.length) : (shrI k A i)[j]? = some (A.getD j 0) := by
 rw [shrI, List.getElem?_append_right (by rw [List.length_take, o_je]; omega), List.length_take, o_je, List.getElem?_drop, show i + (j - min i A.length) = j by omega]
 simp [List.getD, hj]
theorem o_jr (k : Nat) (A : List Nat) (i : Nat) (h : i < A.length) (y : Nat) (hy : y = (shrL k A).getD i 0) : (shrI k A i).set i y = shrI k A (i + 1) := by
 have hi : ((shrL k A).take i).length = i := by rw [List.length_take, o_je]; omega
 rw [shrI, shrI, List.set_append_right _ _ (by omega), hi, Nat.sub_self, o_gv _ _ (by rw [o_je]; exact h), ← hy, List.append_assoc]
 congr 1
 rw [List.drop_eq_getElem_cons h]
 rfl
theorem o_js (k : Nat) (A : List Nat) : shrI k A A.length = shrL k A := by
 rw [shrI, List.drop_length, List.append_nil, List.take_of_length_le (by rw [o_je]; omega)]

theorem o_jt {k x y : Nat} (hk : k < 64) (hx : x < 18446744073709551616) : x / 2 ^ k ||| (y * 2 ^ (64 - k) % 18446744073709551616) = x / 2 ^ k + y * 2 ^ (64 - k) % 18446744073709551616 := by
 have hB : (18446744073709551616 : Nat) = 2 ^ k * 2 ^ (64 - k) := by rw [← Nat.pow_add, show k + (64 - k) = 64 by omega]
 have h6 : x / 2 ^ k < 2 ^ (64 - k) := by
  rw [Nat.div_lt_iff_lt_mul (Nat.two_pow_pos k), Nat.mul_comm, ← hB]; exact hx
 have e : y * 2 ^ (64 - k) % 18446744073709551616 = 2 ^ (64 - k) * (y % 2 ^ k) := by rw [hB, Nat.mul_mod_mul_right, Nat.mul_comm]
 rw [e, Nat.or_comm, ← Nat.two_pow_add_eq_or_of_lt h6, Nat.add_comm]

set_option maxHeartbeats 2000000 in
theorem o_ju (a n : Nat) (ha : size a ≤ 1000000) (hn : n ≤ 1000000000) : Eqn Tryz.prog o_ev [.d (.agg [natW a]), .d (.int .i64 n)] [] (.d (.agg [natW (a / 2 ^ n)])) [] := by
 refine Eqn.pure o_ex (o_58 _) ?_
 simp only [o_ew]
 rw [show natW a = .sl (words a).length ((words a).map fun x : Nat => .int .u64 x) from rfl]
 unfold size at ha
 have hs := o_hq a
 have hv := o_hp a
 generalize words a = ws at *
 have hm : max 0 (n : Int) = n := by omega
 have hq : (n : Int) / 64 = (n / 64 : Nat) := rfl
 have hr : (n : Int).tmod 64 = (n % 64 : Nat) := by rw [Int.tmod_eq_emod_of_nonneg (by omega)]; rfl
 have hval : wval (shrL (n % 64) (ws.drop (n / 64))) = a / 2 ^ n ∧ small (shrL (n % 64) (ws.drop (n / 64))) := by
  obtain ⟨h1, h2⟩ := o_jg (k := n % 64) (by omega) (ws.drop (n / 64)) (fun x hx => hs x (List.mem_of_mem_drop hx))
  refine ⟨?_, h2⟩
  rw [h1, o_jh _ _ hs, hv, show (18446744073709551616 : Nat) = 2 ^ 64 by rfl, ← Nat.pow_mul, Nat.div_div_eq_div_mul, ← Nat.pow_add, Nat.div_add_mod]
 have hmk : n % 64 < 64 := by omega
 have hqn : n / 64 ≤ n := Nat.div_le_self _ _
 generalize hk : n % 64 = k at *
 generalize n / 64 = q at *
 refine G1 (fs hm hq) ?_; try with_reducible exact tt
 refine AW.cond rfl (fun h => ?_) (fun h => ?_)
 ·have hlen : ws.length ≤ q := by simp at h; omega
  refine G0 ?_; try with_reducible exact tt
  rw [List.drop_of_length_le hlen] at hval
  rw [← hval.1]
  exact Sub1.nat0
 ·have hlt : q < ws.length := by simp at h; omega
  have hlt' : (q : Int) < ws.length := by omega
  have hb1 : ((ws.length : Int) - q).toNat = (ws.drop q).length := by rw [List.length_drop]; omega
  have hbp : 0 < (ws.drop q).length ∧ (ws.drop q).length ≤ 1000000 := by rw [List.length_drop]; omega
  have hsB : small (ws.drop q) := fun x hx => hs x (List.mem_of_mem_drop hx)
  have htk : (V.d (.sl ((ws.length : Int) - q).toNat (((ws.map fun x : Nat => D.int .u64 x).drop ((q : Int)).toNat).take ((ws.length : Int) - q).toNat)) : V) = .d (.sl (ws.drop q).length ((ws.drop q).map fun x : Nat => D.int .u64 x)) := by
   rw [hb1, Int.toNat_natCast, ← List.map_drop, List.take_of_length_le (by simp)]
  refine G1 (fs hm (fs hq hlt')) ?_; try with_reducible exact tt
  generalize hB : ws.drop q = B at *
  refine CallS.newX (o_jn B.length (B.map fun x : Nat => .int .u64 x) (by simp) hbp.1 (by omega)) (o_5g _) rfl (fun _ => rfl) (Subs.of (by rw [htk])) ?_
  rw [show ((B.map fun x : Nat => D.int .u64 x).map V.d) = U (shrI k B 0) by simp [U, shrI]]
  simp
  refine G1 hr ?_; try with_reducible exact tt
  clear htk hb1 hv hs ha hB hlt hlt'
  refine AW.loopT (α := Nat) 3 (fun i => [(6, .d (.int .i64 (i : Int)))]) (fun i => [(2, ⟨194, U (shrI k B i)⟩)]) (fun i => i ≤ B.length) (fun i => B.length - i) 0 ?_ ?_ (Nat.zero_le _) ?_ ?_ ?_
  ·simp
  ·simp
  ·simp
  ·simp
  rintro i hi
  simp
  by_cases h : i = B.length
  ·subst h
   refine G0 ?_; try with_reducible exact tt
   refine AW.cond rfl (fun h => ?_) (fun h => ?_)
   ·simp at h
   refine AW.exit ?_
   (try (simp -implicitDefEqProofs; try simp (disch := omega) only [w64, wu64]))
   rw [o_js]
   have hl : (shrL k B).length = B.length := o_je k B
   have hvw : natW (a / 2 ^ n) = natW (wval (shrL k B)) := by rw [hval.1]
   rw [hvw]
   have hsm := hval.2
   generalize shrL k B = r at hl hsm ⊢
   have hcell : U r = (r.map fun x : Nat => D.int .u64 x).map V.d := by simp [U]
   rw [hcell]
   refine AW.freeze 2 1 ⟨194, _⟩ (r.map fun x : Nat => .int .u64 x) (by rfl) (by rfl) ?_
   simp [← hl, List.take_of_length_le]
   refine G0 ?_; try with_reducible exact tt
   refine CallS.pu (o_hy r hsm (by omega)) (R0 ?_); try with_reducible exact tt
  ·have hi' : i < B.length := by omega
   have hp : (i : Int) < B.length := by omega
   have hxB : B.getD i 0 < 18446744073709551616 := hsB.getD i
   have hset : ∀ z : Nat, z = (shrL k B).getD i 0 → (U (shrI k B i)).set i (.d (.int .u64 z)) = U (shrI k B (i + 1)) := fun z hz => by
    rw [← o_jr k B i hi' z hz, U, U, List.map_set]
   have hg := o_jo k B i hi'
   have hl : (U (shrI k B i)).length = B.length := by simp [U, o_jp k B i hi]
   have hq1 : (U (shrI k B i))[i]? = some (.d (.int .u64 (B.getD i 0 : Nat))) := by
    rw [U, List.getElem?_map, o_jq k B i i (Nat.le_refl _) hi']; rfl
   have hq2 : i + 1 < B.length → (U (shrI k B i))[i + 1]? = some (.d (.int .u64 (B.getD (i + 1) 0 : Nat))) := fun h => by
    rw [U, List.getElem?_map, o_jq k B i (i + 1) (by omega) h]; rfl
   have hor := o_jt (k := k) (x := B.getD i 0) (y := B.getD (i + 1) 0) hmk hxB
   rw [← hg] at hor
   have hu : ((B.getD i 0 : Nat) : Int) / 2 ^ k = ((B.getD i 0 / 2 ^ k : Nat) : Int) := by rw [Int.natCast_ediv, Int.natCast_pow]; rfl
   have hule : B.getD i 0 / 2 ^ k ≤ B.getD i 0 := Nat.div_le_self _ _
   have hw : IntKind.u64.wrap (((B.getD (i + 1) 0 : Nat) : Int) * 2 ^ (64 - k)) = ((B.getD (i + 1) 0 * 2 ^ (64 - k) % 18446744073709551616 : Nat) : Int) := by
    rw [IntKind.wrap_u64, Int.natCast_emod, Int.natCast_mul, Int.natCast_pow]; rfl
   have hwl : B.getD (i + 1) 0 * 2 ^ (64 - k) % 18446744073709551616 < 18446744073709551616 := Nat.mod_lt _ (by decide)
   have hlast : ¬ i + 1 < B.length → B.getD i 0 / 2 ^ k = (shrL k B).getD i 0 := fun h => by
    rw [hg, o_i6 h]; simp
   have hls : (shrL k B).length = B.length := o_je k B
   generalize B.getD i 0 / 2 ^ k = u at *
   generalize B.getD i 0 = x at *
   generalize B.getD (i + 1) 0 * 2 ^ (64 - k) % 18446744073709551616 = t at *
   generalize B.getD (i + 1) 0 = y at *
   have hb := bits_or_u64_nat u t (by omega) hwl
   rw [hor] at hb
   have hz := hset _ rfl
   generalize (shrL k B).getD i 0 = z at *
   generalize U (shrI k B i) = cm at *
   have e1 : IntKind.i64.wrap ((i : Int) + 1) = (i : Int) + 1 := w64 (by omega) (by omega)
   have e2 : IntKind.i64.wrap ((64 : Int) - k) = (64 : Int) - k := w64 (by omega) (by omega)
   have hn : ((64 : Int) - k).toNat = 64 - k := by omega
   have e3 : (((i : Int) + 1)).toNat = i + 1 := by omega
   have hkl : (k : Int) ≤ 64 := by omega
   have hg1 : ∀ h, cm[i]'h = .d (.int .u64 x) := fun h => by
    have := List.getElem?_eq_getElem h
    rw [hq1] at this
    exact (Option.some.inj this).symm
   have hg2 : ∀ h, cm[i + 1]'h = .d (.int .u64 y) := fun h => by
    have := List.getElem?_eq_getElem h
    rw [hq2 (by omega)] at this
    exact (Option.some.inj this).symm
   refine G1 (fs hi' hp) ?_; try with_reducible exact tt
   refine AW.cond rfl (fun h => ?_) (fun h => ?_)
   ·by_cases hl1 : i + 1 < B.length
    ·have hlp : (i : Int) + 1 < B.length := by omega
     refine G1 (fs hi' (fs hp (fs hl (fs hg1 (fs hu (fs e1 hlp)))))) ?_; try with_reducible exact tt
     refine AW.cond rfl (fun h => ?_) (fun h => ?_)
     ·have hne : ¬ i = i + 1 := by omega
      have h64 : (64 - k : Int) ≤ 64 := by omega
      refine G1 (fs hi' (fs hp (fs hl (fs hg1 (fs hg2 (fs hu (fs e1 (fs hlp (fs hl1 (fs e2 (fs hn (fs e3 (fs hne (fs hw (fs hb hz))))))))))))))) ?_; try with_reducible exact tt
      exact ⟨i + 1, by omega, by omega, by simp, by simp⟩
     ·simp at h
    ·have hlp : ¬ (i : Int) + 1 < B.length := by omega
     refine G1 (fs hi' (fs hp (fs hl (fs hg1 (fs hu (fs e1 hlp)))))) ?_; try with_reducible exact tt
     refine AW.cond rfl (fun h => ?_) (fun h => ?_)
     ·simp at h
     ·have := hlast hl1
      subst this
      refine G1 e1 ?_; try with_reducible exact tt
      refine ⟨i + 1, by omega, by omega, by simp, ?_⟩
      rw [hset u rfl]
      exact Subs.refl _
   ·simp at h
end
end Go.Proofs.YtmpjlkclkhnpfaaGreatDoor.Am
namespace Go.Proofs.YtmpjlkclkhnpfaaGreatDoor.Am
section
open Go.RowKit
theorem and32 (x : Nat) (h : x < 18446744073709551616) : bits BinOp.and IntKind.u64 (x : Int) 4294967295 = ((x % 4294967296 : Nat) : Int) := by
 have := bits_and_u64_nat x 4294967295 h (by omega)
 rw [show ((4294967295 : Nat) : Int) = 4294967295 by rfl] at this
 rw [this, show (4294967295 : Nat) = 2 ^ 32 - 1 by rfl, Nat.and_two_pow_sub_one_eq_mod]

theorem o_jv (x y : Nat) (hx : x < 18446744073709551616) (hy : y < 18446744073709551616) :
  let x0 := x % 4294967296; let x1 := x / 4294967296; let y0 := y % 4294967296; let y1 := y / 4294967296
  let w0 := x0 * y0; let t := x1 * y0 + w0 / 4294967296; let w1 := t % 4294967296 + x0 * y1
  w0 < 18446744073709551616 ∧ x1 * y0 < 18446744073709551616 ∧ t < 18446744073709551616 ∧ x0 * y1 < 18446744073709551616 ∧ w1 < 18446744073709551616 ∧ x1 * y1 < 18446744073709551616 ∧
  x1 * y1 + t / 4294967296 < 18446744073709551616 ∧ x1 * y1 + t / 4294967296 + w1 / 4294967296 < 18446744073709551616 ∧
  x * y = (x1 * y1 + t / 4294967296 + w1 / 4294967296) * 18446744073709551616 + x * y % 18446744073709551616 := by
 intro x0 x1 y0 y1 w0 t w1
 have hx0 : x0 < 4294967296 := Nat.mod_lt _ (by decide)
 have hy0 : y0 < 4294967296 := Nat.mod_lt _ (by decide)
 have hx1 : x1 < 4294967296 := by simp only [x1]; omega
 have hy1 : y1 < 4294967296 := by simp only [y1]; omega
 have ex : x = x1 * 4294967296 + x0 := by simp only [x1, x0]; omega
 have ey : y = y1 * 4294967296 + y0 := by simp only [y1, y0]; omega
 have b : ∀ {a c : Nat}, a < 4294967296 → c < 4294967296 → a * c ≤ 18446744065119617025 := fun {a c} ha hc => by
  have := Nat.mul_le_mul (show a ≤ 4294967295 by omega) (show c ≤ 4294967295 by omega)
  omega
 have b00 := b hx0 hy0
 have b10 := b hx1 hy0
 have b01 := b hx0 hy1
 have b11 := b hx1 hy1
 have exy : x * y = x1 * y1 * 18446744073709551616 + (x1 * y0 + x0 * y1) * 4294967296 + x0 * y0 := by
  rw [ex, ey]
  simp only [Nat.add_mul, Nat.mul_add]
  have e1 : x1 * 4294967296 * (y1 * 4294967296) = x1 * y1 * 18446744073709551616 := by
   rw [Nat.mul_mul_mul_comm]
  have e2 : x1 * 4294967296 * y0 = x1 * y0 * 4294967296 := by rw [Nat.mul_right_comm]
  have e3 : x0 * (y1 * 4294967296) = x0 * y1 * 4294967296 := by rw [Nat.mul_assoc]
  rw [e1, e2, e3]; omega
 have hw0 : w0 = x0 * y0 := rfl
 generalize x * y = xy at exy ⊢
 generalize x0 * y0 = a00 at *
 have ht : t = x1 * y0 + w0 / 4294967296 := rfl
 generalize x1 * y0 = a10 at *
 have hw1 : w1 = t % 4294967296 + x0 * y1 := rfl
 generalize x0 * y1 = a01 at *
 generalize x1 * y1 = a11 at *
 clear_value w0 t w1
 omega

theorem o_jw (x y : Nat) (hx : x < 18446744073709551616) (hy : y < 18446744073709551616) : Eqn Tryz.prog o_c4 [.d (.int .u64 x), .d (.int .u64 y)] [] (.tup [.d (.int .u64 (x * y / 18446744073709551616 : Nat)), .d (.int .u64 (x * y % 18446744073709551616 : Nat))]) [] := by
 refine Eqn.pure o_c6 (o_ie _ _) ?_
 simp only [o_c5]
 have hp := o_jv x y hx hy
 simp only at hp
 have a1 := and32 x hx
 have a2 := and32 y hy
 have d1 : (x : Int) / 4294967296 = (x / 4294967296 : Nat) := rfl
 have d2 : (y : Int) / 4294967296 = (y / 4294967296 : Nat) := rfl
 have l1 : x % 4294967296 < 4294967296 := Nat.mod_lt _ (by decide)
 generalize x % 4294967296 = x0 at hp a1 l1
 generalize x / 4294967296 = x1 at hp d1
 generalize y % 4294967296 = y0 at hp a2
 generalize y / 4294967296 = y1 at hp d2
 obtain ⟨p1, p2, p3, p4, p5, p6, p7, p8, p9⟩ := hp
 have m1 : IntKind.u64.wrap ((x0 : Int) * y0) = (x0 * y0 : Nat) := by rw [← Int.natCast_mul]; exact wu64 (by omega) (by omega)
 have m2 : IntKind.u64.wrap ((x1 : Int) * y0) = (x1 * y0 : Nat) := by rw [← Int.natCast_mul]; exact wu64 (by omega) (by omega)
 have m3 : IntKind.u64.wrap ((x0 : Int) * y1) = (x0 * y1 : Nat) := by rw [← Int.natCast_mul]; exact wu64 (by omega) (by omega)
 have m4 : IntKind.u64.wrap ((x1 : Int) * y1) = (x1 * y1 : Nat) := by rw [← Int.natCast_mul]; exact wu64 (by omega) (by omega)
 have m5 : IntKind.u64.wrap ((x : Int) * y) = (x * y % 18446744073709551616 : Nat) := by rw [IntKind.wrap_u64, Int.natCast_emod, Int.natCast_mul]; rfl
 have lo : x * y % 18446744073709551616 < 18446744073709551616 := Nat.mod_lt _ (by decide)
 generalize x * y % 18446744073709551616 = low at *
 generalize x * y = xy at *
 generalize x0 * y0 = a00 at *
 generalize x1 * y0 = a10 at *
 generalize x0 * y1 = a01 at *
 generalize x1 * y1 = a11 at *
 have q1 : (a00 : Int) / 4294967296 = (a00 / 4294967296 : Nat) := rfl
 generalize a00 / 4294967296 = b0 at *
 have s1 : IntKind.u64.wrap ((a10 : Int) + b0) = (a10 + b0 : Nat) := wu64 (by omega) (by omega)
 have a3 := and32 (a10 + b0) p3
 have q2 : ((a10 + b0 : Nat) : Int) / 4294967296 = ((a10 + b0) / 4294967296 : Nat) := rfl
 generalize (a10 + b0) / 4294967296 = t1 at *
 generalize (a10 + b0) % 4294967296 = t0 at *
 generalize a10 + b0 = t at *
 have s2 : IntKind.u64.wrap ((t0 : Int) + a01) = (t0 + a01 : Nat) := wu64 (by omega) (by omega)
 have q3 : ((t0 + a01 : Nat) : Int) / 4294967296 = ((t0 + a01) / 4294967296 : Nat) := rfl
 generalize (t0 + a01) / 4294967296 = v1 at *
 generalize t0 + a01 = v at *
 have s3 : IntKind.u64.wrap ((a11 : Int) + t1) = (a11 + t1 : Nat) := wu64 (by omega) (by omega)
 have s4 : IntKind.u64.wrap (((a11 + t1 : Nat) : Int) + v1) = (a11 + t1 + v1 : Nat) := wu64 (by omega) (by omega)
 have fin : xy / 18446744073709551616 = a11 + t1 + v1 := by omega
 rw [fin]
 generalize a11 + t1 + v1 = hi at *
 generalize a11 + t1 = r at *
 refine G1 (fs a1 (fs a2 (fs d1 (fs d2 (fs m1 (fs m2 (fs m3 (fs m4 (fs m5 (fs q1 (fs s1 (fs a3 (fs q2 (fs s2 (fs q3 (fs s3 s4)))))))))))))))) ?_; try with_reducible exact tt
end
end Go.Proofs.YtmpjlkclkhnpfaaGreatDoor.Am
namespace Go.Proofs.YtmpjlkclkhnpfaaGreatDoor.Am
section
open Go.RowKit
theorem o_jx (hi lo y : Nat) (h0 : hi < y) (hl : lo < 18446744073709551616) (hy : y < 18446744073709551616) :
  ∃ s Y u v : Nat, s = 64 - bitsN y ∧ s ≤ 63 ∧ y * 2 ^ s = Y ∧ Y < 18446744073709551616 ∧ 9223372036854775808 ≤ Y ∧ hi * 2 ^ s < 18446744073709551616 ∧ hi * 2 ^ s ||| lo / 2 ^ (64 - s) = u ∧ lo * 2 ^ s % 18446744073709551616 = v ∧ u < Y ∧ v < 18446744073709551616 ∧
   (hi * 18446744073709551616 + lo) * 2 ^ s = u * 18446744073709551616 + v := by
 obtain ⟨b1, b2⟩ := o_j3 (n := y) (by omega)
 have b3 := o_j0 y
 have b4 : bitsN y ≤ 64 := o_j1 (by omega)
 have hs : 64 - bitsN y ≤ 63 := by omega
 have hY1 : y * 2 ^ (64 - bitsN y) < 18446744073709551616 := by
  have : 2 ^ bitsN y * 2 ^ (64 - bitsN y) = 18446744073709551616 := by rw [← Nat.pow_add, show bitsN y + (64 - bitsN y) = 64 by omega]
  rw [← this]
  exact Nat.mul_lt_mul_of_pos_right b3 (Nat.two_pow_pos _)
 have hY2 : 9223372036854775808 ≤ y * 2 ^ (64 - bitsN y) := by
  have : 2 ^ (bitsN y - 1) * 2 ^ (64 - bitsN y) = 9223372036854775808 := by rw [← Nat.pow_add, show bitsN y - 1 + (64 - bitsN y) = 63 by omega]
  rw [← this]
  exact Nat.mul_le_mul_right _ b1
 generalize 64 - bitsN y = s at *
 have hB : (18446744073709551616 : Nat) = 2 ^ s * 2 ^ (64 - s) := by rw [← Nat.pow_add, show s + (64 - s) = 64 by omega]
 have hp := Nat.two_pow_pos s
 have hp' := Nat.two_pow_pos (64 - s)
 have hh : hi * 2 ^ s < y * 2 ^ s := Nat.mul_lt_mul_of_pos_right h0 hp
 have hlq : lo / 2 ^ (64 - s) < 2 ^ s := by rw [Nat.div_lt_iff_lt_mul hp', ← hB]; exact hl
 have hor : hi * 2 ^ s ||| lo / 2 ^ (64 - s) = hi * 2 ^ s + lo / 2 ^ (64 - s) := by
  rw [Nat.mul_comm, ← Nat.two_pow_add_eq_or_of_lt hlq]
 have hlo : lo * 2 ^ s = lo / 2 ^ (64 - s) * 18446744073709551616 + lo * 2 ^ s % 18446744073709551616 := by
  have h1 : lo * 2 ^ s / 18446744073709551616 = lo / 2 ^ (64 - s) := by
   conv => lhs; rw [hB]
   rw [Nat.mul_comm lo, Nat.mul_div_mul_left _ _ hp]
  have h2 := Nat.div_add_mod (lo * 2 ^ s) 18446744073709551616
  rw [h1] at h2
  omega
 have hlm : lo * 2 ^ s % 18446744073709551616 < 18446744073709551616 := Nat.mod_lt _ (by decide)
 have hN : (hi * 18446744073709551616 + lo) * 2 ^ s = (hi * 2 ^ s) * 18446744073709551616 + lo * 2 ^ s := by
  rw [Nat.add_mul, Nat.mul_right_comm]
 refine ⟨s, y * 2 ^ s, hi * 2 ^ s + lo / 2 ^ (64 - s), lo * 2 ^ s % 18446744073709551616, rfl, hs, rfl, hY1, hY2, by omega, hor, rfl, ?_, hlm, ?_⟩
 ·have h1 : (hi + 1) * 2 ^ s ≤ y * 2 ^ s := Nat.mul_le_mul_right _ h0
  rw [Nat.add_mul, Nat.one_mul] at h1
  omega
 ·rw [hN, hlo, Nat.add_mul]
  generalize lo * 2 ^ s % 18446744073709551616 = a at *
  generalize lo / 2 ^ (64 - s) = b at *
  generalize hi * 2 ^ s = c at *
  omega

def hInv (Y1 Y0 u v : Nat) (q r : Nat) : Prop := q * Y1 + r = u ∧ u * 4294967296 + v < (q + 1) * (Y1 * 4294967296 + Y0) ∧ r < 4294967296

theorem o_jy {Y1 Y0 u v : Nat} (h1 : 0 < Y1) (h2 : Y1 < 4294967296) (hv : v < 4294967296) : hInv Y1 Y0 u v (u / Y1) (u % Y1) := by
 refine ⟨?_, o_j9 h1 hv, ?_⟩
 ·rw [Nat.mul_comm]; exact Nat.div_add_mod u Y1
 ·have := Nat.mod_lt u h1; omega

set_option maxHeartbeats 8000000 in
theorem o_jz (hi lo y : Nat) (h0 : hi < y) (hl : lo < 18446744073709551616) (hy : y < 18446744073709551616) : Eqn Tryz.prog o_dg [.d (.int .u64 hi), .d (.int .u64 lo), .d (.int .u64 y)] [] (.tup [.d (.int .u64 ((hi * 18446744073709551616 + lo) / y : Nat)), .d (.int .u64 ((hi * 18446744073709551616 + lo) % y : Nat))]) [] := by
 rcases Nat.eq_zero_or_pos hi with rfl | hpos
 ·rw [Nat.zero_mul, Nat.zero_add]
  exact o_iw lo y hl (by omega)
 refine Eqn.pure o_di (o_ie _ _) ?_
 simp only [o_dh]
 obtain ⟨s, Y, u, v, hs, hs63, hY, hYl, hYg, hhs, hor, hv, hu, hvl, hN⟩ := o_jx hi lo y h0 hl hy
 have hq : (hi * 18446744073709551616 + lo) / y = (u * 18446744073709551616 + v) / Y := by rw [← hN, ← hY]; exact o_ja.1.symm
 have hr : (hi * 18446744073709551616 + lo) % y = (u * 18446744073709551616 + v) % Y / 2 ^ s := by rw [← hN, ← hY]; exact o_ja.2.symm
 rw [hq, hr]
 clear hq hr hN
 obtain ⟨Qf, hQf⟩ : ∃ Qf, Qf = (u * 18446744073709551616 + v) / Y := ⟨_, rfl⟩
 obtain ⟨Rf, hRf⟩ : ∃ Rf, Rf = (u * 18446744073709551616 + v) % Y / 2 ^ s := ⟨_, rfl⟩
 rw [← hQf, ← hRf]
 have h1 : ¬ y = 0 := by omega
 have h2 : ¬ (y : Int) ≤ hi := by omega
 have h3 : ¬ hi = 0 := by omega
 have h1' : ¬ (y : Int) = 0 := by omega
 have h3' : ¬ (hi : Int) = 0 := by omega
 refine G1 (fs h1 h1') ?_; try with_reducible exact tt
 refine AW.cond rfl (fun h => ?_) (fun h => ?_)
 ·simp [h1] at h
 refine G1 h2 ?_; try with_reducible exact tt
 refine AW.cond rfl (fun h => ?_) (fun h => ?_)
 ·simp [h2] at h
 refine G1 (fs h3 h3') ?_; try with_reducible exact tt
 refine AW.cond rfl (fun h => ?_) (fun h => ?_)
 ·simp [h3] at h
 refine G0 ?_; try with_reducible exact tt
 have hlead := o_jk y hy
 rw [← hs] at hlead
 have hq1' := Nat.div_add_mod Y 4294967296
 have hY0' : Y % 4294967296 < 4294967296 := Nat.mod_lt _ (by decide)
 have hv' := Nat.div_add_mod v 4294967296
 have hv0' : v % 4294967296 < 4294967296 := Nat.mod_lt _ (by decide)
 have f1 : IntKind.u64.wrap (s : Int) = s := wu64 (by omega) (by omega)
 have f2 : IntKind.u64.wrap ((y : Int) * 2 ^ s) = Y := by
  rw [show (y : Int) * 2 ^ s = ((y * 2 ^ s : Nat) : Int) by rw [Int.natCast_mul, Int.natCast_pow]; rfl, hY]; exact wu64 (by omega) (by omega)
 have f3 : (Y : Int) / 4294967296 = (Y / 4294967296 : Nat) := rfl
 have f4 := and32 Y hYl
 have f5 : IntKind.u64.wrap ((hi : Int) * 2 ^ s) = (hi * 2 ^ s : Nat) := by
  rw [show (hi : Int) * 2 ^ s = ((hi * 2 ^ s : Nat) : Int) by rw [Int.natCast_mul, Int.natCast_pow]; rfl]; exact wu64 (by omega) (by omega)
 have f6 : IntKind.u64.wrap ((64 : Int) - s) = (64 : Int) - s := wu64 (by omega) (by omega)
 have f7 : ((64 : Int) - s).toNat = 64 - s := by omega
 have f8 : (lo : Int) / 2 ^ (64 - s) = (lo / 2 ^ (64 - s) : Nat) := by rw [Int.natCast_ediv, Int.natCast_pow]; rfl
 have hll : lo / 2 ^ (64 - s) ≤ lo := Nat.div_le_self _ _
 have f9 := bits_or_u64_nat (hi * 2 ^ s) (lo / 2 ^ (64 - s)) hhs (by omega)
 rw [hor] at f9
 have f10 : IntKind.u64.wrap ((lo : Int) * 2 ^ s) = v := by
  rw [IntKind.wrap_u64, show (lo : Int) * 2 ^ s = ((lo * 2 ^ s : Nat) : Int) by rw [Int.natCast_mul, Int.natCast_pow]; rfl, ← hv]; rfl
 have f11 : (v : Int) / 4294967296 = (v / 4294967296 : Nat) := rfl
 have f12 := and32 v hvl
 have f13 : (s : Int) ≤ 64 := by omega
 have f14 : (0 : Int) ≤ 64 - s := by omega
 have f15 : (64 : Int) - s ≤ 64 := by omega
 generalize Y / 4294967296 = Y1 at *
 generalize Y % 4294967296 = Y0 at *
 generalize v / 4294967296 = v1 at *
 generalize v % 4294967296 = v0 at *
 generalize hi * 2 ^ s = h' at *
 generalize lo / 2 ^ (64 - s) = l' at *
 have hYY : Y = Y1 * 4294967296 + Y0 := by omega
 have hvv : v = v1 * 4294967296 + v0 := by omega
 have hY1 : 2147483648 ≤ Y1 := by omega
 have hY1l : Y1 < 4294967296 := by omega
 have hY0 : Y0 < 4294967296 := by omega
 have hv1 : v1 < 4294967296 := by omega
 have hv0 : v0 < 4294967296 := by omega
 have hYn : ¬ (Y1 : Int) = 0 := by omega
 have hYn' : ¬ Y1 = 0 := by omega
 have huq := Nat.div_add_mod u Y1
 have hqle : u / Y1 ≤ u := Nat.div_le_self _ _
 have g1 : IntKind.u64.wrap ((u : Int) / Y1) = (u / Y1 : Nat) := by rw [← Int.natCast_ediv]; generalize u / Y1 = q at *; exact wu64 (by omega) (by omega)
 have g2 : IntKind.u64.wrap (((u / Y1 : Nat) : Int) * Y1) = (u / Y1 * Y1 : Nat) := by
  rw [Nat.mul_comm] at huq
  rw [← Int.natCast_mul]; generalize u / Y1 * Y1 = q at *; exact wu64 (by omega) (by omega)
 have g3 : IntKind.u64.wrap ((u : Int) - (u / Y1 * Y1 : Nat)) = (u % Y1 : Nat) := by
  rw [Nat.mul_comm] at huq
  generalize u / Y1 * Y1 = q at *
  generalize u % Y1 = r at *
  rw [wu64 (by omega) (by omega)]; omega
 obtain ⟨q1, hq1⟩ : ∃ q1, q1 = (u * 4294967296 + v1) / Y := ⟨_, rfl⟩
 have gA : IntKind.u64.wrap ((u : Int) - IntKind.u64.wrap ((u : Int) / Y1 * Y1)) = (u : Int) % Y1 := by
  have h1 : ((u : Int) / Y1 * Y1) = ((u / Y1 : Nat) : Int) * Y1 := by rw [Int.natCast_ediv]
  rw [h1, g2, g3, Int.natCast_emod]
 refine G0 ?_; try with_reducible exact tt
 refine CallS.pu (hlead) (R1 (fs f1 (fs f2 (fs f3 (fs f4 (fs f5 (fs f6 (fs f7 (fs f8 (fs f9 (fs f10 (fs f11 (fs f12 (fs f13 (fs f14 (fs f15 (fs hYn (fs hYn' g1))))))))))))))))) ?_); try with_reducible exact tt
 refine AW.blockCut 0 [(15, .d (.int .u64 q1))] [] (by simp) (by simp) ?_ ?_
 ·-- the half digit 15
  refine AW.loopT (α := Nat × Nat) 0 (fun a => [(15, .d (.int .u64 (a.1 : Int))), (16, .d (.int .u64 (a.2 : Int)))]) (fun _ => []) (fun a => hInv Y1 Y0 u v1 a.1 a.2) (fun a => a.1) (u / Y1, u % Y1) (by simp) (by simp) (o_jy (by omega) (by omega) (by omega)) (by simp [gA]) (by simp) ?_
  rintro ⟨q, r⟩ ⟨i1, i2, i3⟩
  simp only at i1 i2 i3
  have hqY : q * 2147483648 ≤ q * Y1 := Nat.mul_le_mul_left _ hY1
  have hend : q * Y0 ≤ r * 4294967296 + v1 → q1 = q := fun h => by rw [hq1, hYY]; exact o_j6 i1 h i2
  have hnext : (4294967296 ≤ q ∨ r * 4294967296 + v1 < q * Y0) → 0 < q ∧ (q - 1) * Y1 + (r + Y1) = u ∧ u * 4294967296 + v1 < (q - 1 + 1) * (Y1 * 4294967296 + Y0) := fun h => o_j7 i1 (by omega) (by omega) h
  have hstep : ∀ (T : List V) , (4294967296 ≤ q ∨ r * 4294967296 + v1 < q * Y0) → 0 < q ∧ hInv Y1 Y0 u v1 (q - 1) (r + Y1) ∨ (0 < q ∧ 4294967296 ≤ r + Y1 ∧ q1 = q - 1) := fun _ h => by
   obtain ⟨n1, n2, n3⟩ := hnext h
   rcases Nat.lt_or_ge (r + Y1) 4294967296 with h1 | h1
   ·exact .inl ⟨n1, n2, n3, h1⟩
   ·refine .inr ⟨n1, h1, ?_⟩
    rw [hq1, hYY]
    exact o_j6 n2 (o_j8 n2 (by omega) hY0 h1 _) n3
  have b1 : IntKind.u64.wrap ((r : Int) + Y1) = ((r + Y1 : Nat) : Int) := wu64 (by omega) (by omega)
  have body : (4294967296 ≤ q ∨ r * 4294967296 + v1 < q * Y0) → IntKind.u64.wrap ((q : Int) - 1) = ((q - 1 : Nat) : Int) := fun h => by
   have := (hnext h).1
   rw [wu64 (by omega) (by omega)]; omega
  by_cases c1 : 4294967296 ≤ q
  ·have c1' : (4294967296 : Int) ≤ q := by omega
   refine G1 c1' ?_; try with_reducible exact tt
   refine AW.cond rfl (fun h => ?_) (fun h => ?_)
   ·have e1 := body (.inl c1)
    rcases hstep [] (.inl c1) with ⟨n1, n2⟩ | ⟨n1, n2, n3⟩
    ·have n4 : ¬ (4294967296 : Int) ≤ ((r + Y1 : Nat) : Int) := by have := n2.2.2; omega
     generalize hr' : r + Y1 = r' at *
     generalize hq' : q - 1 = q' at *
     refine G1 (fs e1 (fs b1 n4)) ?_; try with_reducible exact tt
     refine AW.cond rfl (fun h => ?_) (fun h => ?_)
     ·first | (simp [n4] at h; done) | (simp [n4] at h; omega)
     refine G0 ?_; try with_reducible exact tt
     exact ⟨q', r', n2, by omega, by simp, by simp⟩
    ·have n4 : (4294967296 : Int) ≤ ((r + Y1 : Nat) : Int) := by omega
     generalize hr' : r + Y1 = r' at *
     generalize hq' : q - 1 = q' at *
     refine G1 (fs e1 (fs b1 n4)) ?_; try with_reducible exact tt
     refine AW.cond rfl (fun h => ?_) (fun h => ?_)
     ·refine AW.exit ?_
      (try (simp -implicitDefEqProofs; try simp (disch := omega) only [w64, wu64]))
      rw [n3]
      exact Sub1.refl _
     ·first | (simp at h; done) | (simp at h; omega)
   ·simp [c1'] at h
  ·have c1' : ¬ (4294967296 : Int) ≤ q := by omega
   have hqy : q * Y0 ≤ 4294967295 * 4294967295 := Nat.mul_le_mul (by omega) (by omega)
   have e1 : IntKind.u64.wrap ((q : Int) * Y0) = ((q * Y0 : Nat) : Int) := by rw [← Int.natCast_mul]; exact wu64 (by omega) (by omega)
   have e2 : IntKind.u64.wrap (4294967296 * (r : Int)) = ((4294967296 * r : Nat) : Int) := wu64 (by omega) (by omega)
   have e3 : IntKind.u64.wrap (((4294967296 * r : Nat) : Int) + v1) = ((4294967296 * r + v1 : Nat) : Int) := wu64 (by omega) (by omega)
   by_cases c2 : r * 4294967296 + v1 < q * Y0
   ·have c2' : ((4294967296 * r + v1 : Nat) : Int) < ((q * Y0 : Nat) : Int) := by omega
    have e4 := body (.inr c2)
    have hs := hstep [] (.inr c2)
    clear hend hnext hstep body
    generalize q * Y0 = m at *
    generalize 4294967296 * r = m2 at *
    generalize m2 + v1 = m3 at *
    refine G1 (fs c1' (fs e1 (fs e2 (fs e3 c2')))) ?_; try with_reducible exact tt
    refine AW.cond rfl (fun h => ?_) (fun h => ?_)
    ·rcases hs with ⟨n1, n2⟩ | ⟨n1, n2, n3⟩
     ·have n4 : ¬ (4294967296 : Int) ≤ ((r + Y1 : Nat) : Int) := by have := n2.2.2; omega
      generalize hr' : r + Y1 = r' at *
      generalize hq' : q - 1 = q' at *
      refine G1 (fs e4 (fs b1 n4)) ?_; try with_reducible exact tt
      refine AW.cond rfl (fun h => ?_) (fun h => ?_)
      ·first | (simp at h; done) | (simp at h; omega)
      refine G0 ?_; try with_reducible exact tt
      exact ⟨q', r', n2, by omega, by simp, by simp⟩
     ·have n4 : (4294967296 : Int) ≤ ((r + Y1 : Nat) : Int) := by omega
      generalize hr' : r + Y1 = r' at *
      generalize hq' : q - 1 = q' at *
      refine G1 (fs e4 (fs b1 n4)) ?_; try with_reducible exact tt
      refine AW.cond rfl (fun h => ?_) (fun h => ?_)
      ·refine AW.exit ?_
       (try (simp -implicitDefEqProofs; try simp (disch := omega) only [w64, wu64]))
       rw [n3]
       exact Sub1.refl _
      ·first | (simp at h; done) | (simp at h; omega)
    ·first | (simp at h; done) | (simp at h; omega)
   ·have c2' : ¬ ((4294967296 * r + v1 : Nat) : Int) < ((q * Y0 : Nat) : Int) := by omega
    have e4 := hend (by omega)
    clear hend hnext hstep body
    generalize q * Y0 = m at *
    generalize 4294967296 * r = m2 at *
    generalize m2 + v1 = m3 at *
    refine G1 (fs c1' (fs e1 (fs e2 (fs e3 c2')))) ?_; try with_reducible exact tt
    refine AW.cond rfl (fun h => ?_) (fun h => ?_)
    ·first | (simp at h; done) | (simp at h; omega)
    ·refine AW.exit ?_
     (try (simp -implicitDefEqProofs; try simp (disch := omega) only [w64, wu64]))
     rw [e4]
     exact Sub1.refl _
 obtain ⟨r1, hr1⟩ : ∃ r1, r1 = u * 4294967296 + v1 - q1 * Y := ⟨_, rfl⟩
 have hd := Nat.div_add_mod (u * 4294967296 + v1) Y
 have hm := Nat.mod_lt (u * 4294967296 + v1) (show Y > 0 by omega)
 rw [← hq1, Nat.mul_comm] at hd
 have hr1l : r1 < Y := by omega
 have hq1l : q1 < 4294967296 := by
  rw [hq1, Nat.div_lt_iff_lt_mul (by omega)]
  omega
 have p1 : IntKind.u64.wrap ((u : Int) * 4294967296) = (u * 4294967296 % 18446744073709551616 : Nat) := by rw [IntKind.wrap_u64]; rfl
 have p2 : IntKind.u64.wrap (((u * 4294967296 % 18446744073709551616 : Nat) : Int) + v1) = ((u * 4294967296 + v1) % 18446744073709551616 : Nat) := by rw [IntKind.wrap_u64]; omega
 have p3 : IntKind.u64.wrap ((q1 : Int) * Y) = (q1 * Y % 18446744073709551616 : Nat) := by rw [IntKind.wrap_u64, ← Int.natCast_mul]; rfl
 have p4 : IntKind.u64.wrap (((((u * 4294967296 + v1) % 18446744073709551616 : Nat)) : Int) - (q1 * Y % 18446744073709551616 : Nat)) = (r1 : Int) := by
  rw [IntKind.wrap_u64]
  generalize q1 * Y = m at *
  omega
 have hrq := Nat.div_add_mod r1 Y1
 have hrle : r1 / Y1 ≤ r1 := Nat.div_le_self _ _
 have g1' : IntKind.u64.wrap ((r1 : Int) / Y1) = (r1 / Y1 : Nat) := by rw [← Int.natCast_ediv]; generalize r1 / Y1 = q at *; exact wu64 (by omega) (by omega)
 have g2' : IntKind.u64.wrap (((r1 / Y1 : Nat) : Int) * Y1) = (r1 / Y1 * Y1 : Nat) := by
  rw [Nat.mul_comm] at hrq
  rw [← Int.natCast_mul]; generalize r1 / Y1 * Y1 = q at *; exact wu64 (by omega) (by omega)
 have g3' : IntKind.u64.wrap ((r1 : Int) - (r1 / Y1 * Y1 : Nat)) = (r1 % Y1 : Nat) := by
  rw [Nat.mul_comm] at hrq
  generalize r1 / Y1 * Y1 = q at *
  generalize r1 % Y1 = r at *
  rw [wu64 (by omega) (by omega)]; omega
 have gA' : IntKind.u64.wrap ((r1 : Int) - IntKind.u64.wrap ((r1 : Int) / Y1 * Y1)) = (r1 : Int) % Y1 := by
  have h1 : ((r1 : Int) / Y1 * Y1) = ((r1 / Y1 : Nat) : Int) * Y1 := by rw [Int.natCast_ediv]
  rw [h1, g2', g3', Int.natCast_emod]
 have hp := halves' (y := Y) (a := u * 4294967296 + v1) (b := 4294967296) (v0 := v0) (q1 := q1) (q0 := (r1 * 4294967296 + v0) / Y) (by omega) hq1.symm (by rw [← hr1])
 rw [← hr1] at hp
 obtain ⟨q0, hq0⟩ : ∃ q0, q0 = (r1 * 4294967296 + v0) / Y := ⟨_, rfl⟩
 rw [← hq0] at hp
 rw [show u * 18446744073709551616 + v = (u * 4294967296 + v1) * 4294967296 + v0 by omega] at hQf hRf
 rw [hp.1] at hQf
 rw [hp.2] at hRf
 have hd0 := Nat.div_add_mod (r1 * 4294967296 + v0) Y
 have hm0 := Nat.mod_lt (r1 * 4294967296 + v0) (show Y > 0 by omega)
 rw [← hq0, Nat.mul_comm] at hd0
 obtain ⟨r0, hr0⟩ : ∃ r0, r0 = r1 * 4294967296 + v0 - q0 * Y := ⟨_, rfl⟩
 rw [← hr0] at hRf
 have hq0l : q0 < 4294967296 := by
  rw [hq0, Nat.div_lt_iff_lt_mul (by omega)]
  omega
 have s1 : IntKind.u64.wrap ((r1 : Int) * 4294967296) = (r1 * 4294967296 % 18446744073709551616 : Nat) := by rw [IntKind.wrap_u64]; rfl
 have s2 : IntKind.u64.wrap (((r1 * 4294967296 % 18446744073709551616 : Nat) : Int) + v0) = ((r1 * 4294967296 + v0) % 18446744073709551616 : Nat) := by rw [IntKind.wrap_u64]; omega
 have s3 : IntKind.u64.wrap ((q0 : Int) * Y) = (q0 * Y % 18446744073709551616 : Nat) := by rw [IntKind.wrap_u64, ← Int.natCast_mul]; rfl
 have s4 : IntKind.u64.wrap (((((r1 * 4294967296 + v0) % 18446744073709551616 : Nat)) : Int) - (q0 * Y % 18446744073709551616 : Nat)) = (r0 : Int) := by
  rw [IntKind.wrap_u64]
  generalize q0 * Y = m at *
  omega
 have s5 : IntKind.u64.wrap ((q1 : Int) * 4294967296) = (q1 * 4294967296 : Nat) := wu64 (by omega) (by omega)
 have s6 : IntKind.u64.wrap (((q1 * 4294967296 : Nat) : Int) + q0) = (q1 * 4294967296 + q0 : Nat) := wu64 (by omega) (by omega)
 have s7 : (r0 : Int) / 2 ^ s = (r0 / 2 ^ s : Nat) := by rw [Int.natCast_ediv, Int.natCast_pow]; rfl
 rw [← hRf] at s7
 rw [← hQf] at s6
 clear hp hd hm hr1 hq1 hr0 hd0 hm0 hRf hQf
 obtain ⟨t3, ht3⟩ : ∃ t, t = q1 * Y % 18446744073709551616 := ⟨_, rfl⟩
 rw [← ht3] at p3 p4
 obtain ⟨t2, ht2⟩ : ∃ t, t = (u * 4294967296 + v1) % 18446744073709551616 := ⟨_, rfl⟩
 rw [← ht2] at p2 p4
 obtain ⟨t1, ht1⟩ : ∃ t, t = u * 4294967296 % 18446744073709551616 := ⟨_, rfl⟩
 rw [← ht1] at p1 p2
 clear ht1 ht2 ht3
 simp
 repeat (first | refine AW.seq ?_ | refine AW.block ?_ | (refine AW.reg mix ?_; simp -implicitDefEqProofs [p1, p2, p3, p4, hYn, hYn', g1']; try simp (disch := omega) only [w64, wu64]) | (refine need.of (by first | omega | kernel_rfl) ?_) | (refine AW.fin ?_; try simp -implicitDefEqProofs [p1, p2, p3, p4, hYn, hYn', g1']))
 refine AW.blockCut 0 [(18, .d (.int .u64 q0))] [] (by simp) (by simp) ?_ ?_
 ·-- the other half digit
  refine AW.loopT (α := Nat × Nat) 0 (fun a => [(18, .d (.int .u64 (a.1 : Int))), (16, .d (.int .u64 (a.2 : Int)))]) (fun _ => []) (fun a => hInv Y1 Y0 r1 v0 a.1 a.2) (fun a => a.1) (r1 / Y1, r1 % Y1) (by simp) (by simp) (o_jy (by omega) (by omega) (by omega)) (by simp [gA']) (by simp) ?_
  rintro ⟨q, r⟩ ⟨i1, i2, i3⟩
  simp only at i1 i2 i3
  have hqY : q * 2147483648 ≤ q * Y1 := Nat.mul_le_mul_left _ hY1
  have hend : q * Y0 ≤ r * 4294967296 + v0 → q0 = q := fun h => by rw [hq0, hYY]; exact o_j6 i1 h i2
  have hnext : (4294967296 ≤ q ∨ r * 4294967296 + v0 < q * Y0) → 0 < q ∧ (q - 1) * Y1 + (r + Y1) = r1 ∧ r1 * 4294967296 + v0 < (q - 1 + 1) * (Y1 * 4294967296 + Y0) := fun h => o_j7 i1 (by omega) (by omega) h
  have hstep : ∀ (T : List V) , (4294967296 ≤ q ∨ r * 4294967296 + v0 < q * Y0) → 0 < q ∧ hInv Y1 Y0 r1 v0 (q - 1) (r + Y1) ∨ (0 < q ∧ 4294967296 ≤ r + Y1 ∧ q0 = q - 1) := fun _ h => by
   obtain ⟨n1, n2, n3⟩ := hnext h
   rcases Nat.lt_or_ge (r + Y1) 4294967296 with h1 | h1
   ·exact .inl ⟨n1, n2, n3, h1⟩
   ·refine .inr ⟨n1, h1, ?_⟩
    rw [hq0, hYY]
    exact o_j6 n2 (o_j8 n2 (by omega) hY0 h1 _) n3
  have b1 : IntKind.u64.wrap ((r : Int) + Y1) = ((r + Y1 : Nat) : Int) := wu64 (by omega) (by omega)
  have body : (4294967296 ≤ q ∨ r * 4294967296 + v0 < q * Y0) → IntKind.u64.wrap ((q : Int) - 1) = ((q - 1 : Nat) : Int) := fun h => by
   have := (hnext h).1
   rw [wu64 (by omega) (by omega)]; omega
  by_cases c1 : 4294967296 ≤ q
  ·have c1' : (4294967296 : Int) ≤ q := by omega
   refine G1 c1' ?_; try with_reducible exact tt
   refine AW.cond rfl (fun h => ?_) (fun h => ?_)
   ·have e1 := body (.inl c1)
    rcases hstep [] (.inl c1) with ⟨n1, n2⟩ | ⟨n1, n2, n3⟩
    ·have n4 : ¬ (4294967296 : Int) ≤ ((r + Y1 : Nat) : Int) := by have := n2.2.2; omega
     generalize hr' : r + Y1 = r' at *
     generalize hq' : q - 1 = q' at *
     refine G1 (fs e1 (fs b1 n4)) ?_; try with_reducible exact tt
     refine AW.cond rfl (fun h => ?_) (fun h => ?_)
     ·first | (simp [n4] at h; done) | (simp [n4] at h; omega)
     refine G0 ?_; try with_reducible exact tt
     exact ⟨q', r', n2, by omega, by simp, by simp⟩
    ·have n4 : (4294967296 : Int) ≤ ((r + Y1 : Nat) : Int) := by omega
     generalize hr' : r + Y1 = r' at *
     generalize hq' : q - 1 = q' at *
     refine G1 (fs e1 (fs b1 n4)) ?_; try with_reducible exact tt
     refine AW.cond rfl (fun h => ?_) (fun h => ?_)
     ·refine AW.exit ?_
      (try (simp -implicitDefEqProofs; try simp (disch := omega) only [w64, wu64]))
      rw [n3]
      exact Sub1.refl _
     ·first | (simp at h; done) | (simp at h; omega)
   ·simp [c1'] at h
  ·have c1' : ¬ (4294967296 : Int) ≤ q := by omega
   have hqy : q * Y0 ≤ 4294967295 * 4294967295 := Nat.mul_le_mul (by omega) (by omega)
   have e1 : IntKind.u64.wrap ((q : Int) * Y0) = ((q * Y0 : Nat) : Int) := by rw [← Int.natCast_mul]; exact wu64 (by omega) (by omega)
   have e2 : IntKind.u64.wrap (4294967296 * (r : Int)) = ((4294967296 * r : Nat) : Int) := wu64 (by omega) (by omega)
   have e3 : IntKind.u64.wrap (((4294967296 * r : Nat) : Int) + v0) = ((4294967296 * r + v0 : Nat) : Int) := wu64 (by omega) (by omega)
   by_cases c2 : r * 4294967296 + v0 < q * Y0
   ·have c2' : ((4294967296 * r + v0 : Nat) : Int) < ((q * Y0 : Nat) : Int) := by omega
    have e4 := body (.inr c2)
    have hs := hstep [] (.inr c2)
    clear hend hnext hstep body
    generalize q * Y0 = m at *
    generalize 4294967296 * r = m2 at *
    generalize m2 + v0 = m3 at *
    refine G1 (fs c1' (fs e1 (fs e2 (fs e3 c2')))) ?_; try with_reducible exact tt
    refine AW.cond rfl (fun h => ?_) (fun h => ?_)
    ·rcases hs with ⟨n1, n2⟩ | ⟨n1, n2, n3⟩
     ·have n4 : ¬ (4294967296 : Int) ≤ ((r + Y1 : Nat) : Int) := by have := n2.2.2; omega
      generalize hr' : r + Y1 = r' at *
      generalize hq' : q - 1 = q' at *
      refine G1 (fs e4 (fs b1 n4)) ?_; try with_reducible exact tt
      refine AW.cond rfl (fun h => ?_) (fun h => ?_)
      ·first | (simp at h; done) | (simp at h; omega)
      refine G0 ?_; try with_reducible exact tt
      exact ⟨q', r', n2, by omega, by simp, by simp⟩
     ·have n4 : (4294967296 : Int) ≤ ((r + Y1 : Nat) : Int) := by omega
      generalize hr' : r + Y1 = r' at *
      generalize hq' : q - 1 = q' at *
      refine G1 (fs e4 (fs b1 n4)) ?_; try with_reducible exact tt
      refine AW.cond rfl (fun h => ?_) (fun h => ?_)
      ·refine AW.exit ?_
       (try (simp -implicitDefEqProofs; try simp (disch := omega) only [w64, wu64]))
       rw [n3]
       exact Sub1.refl _
      ·first | (simp at h; done) | (simp at h; omega)
    ·first | (simp at h; done) | (simp at h; omega)
   ·have c2' : ¬ ((4294967296 * r + v0 : Nat) : Int) < ((q * Y0 : Nat) : Int) := by omega
    have e4 := hend (by omega)
    clear hend hnext hstep body
    generalize q * Y0 = m at *
    generalize 4294967296 * r = m2 at *
    generalize m2 + v0 = m3 at *
    refine G1 (fs c1' (fs e1 (fs e2 (fs e3 c2')))) ?_; try with_reducible exact tt
    refine AW.cond rfl (fun h => ?_) (fun h => ?_)
    ·first | (simp at h; done) | (simp at h; omega)
    ·refine AW.exit ?_
     (try (simp -implicitDefEqProofs; try simp (disch := omega) only [w64, wu64]))
     rw [e4]
     exact Sub1.refl _
 clear hq0
 obtain ⟨t6, ht6⟩ : ∃ t, t = q0 * Y % 18446744073709551616 := ⟨_, rfl⟩
 rw [← ht6] at s3 s4
 obtain ⟨t5, ht5⟩ : ∃ t, t = (r1 * 4294967296 + v0) % 18446744073709551616 := ⟨_, rfl⟩
 rw [← ht5] at s2 s4
 obtain ⟨t4, ht4⟩ : ∃ t, t = r1 * 4294967296 % 18446744073709551616 := ⟨_, rfl⟩
 rw [← ht4] at s1 s2
 obtain ⟨t7, ht7⟩ : ∃ t, t = q1 * 4294967296 := ⟨_, rfl⟩
 rw [← ht7] at s5 s6
 clear ht4 ht5 ht6 ht7
 simp
 refine G1 (fs s1 (fs s2 (fs s3 (fs s4 (fs s5 (fs s6 (fs s7 f13))))))) ?_; try with_reducible exact tt
end
end Go.Proofs.YtmpjlkclkhnpfaaGreatDoor.Am
namespace Go.Proofs.YtmpjlkclkhnpfaaGreatDoor.Am
section
open Go.RowKit
theorem o_k0 : ∀ (ws : List Nat) (j v : Nat), j < ws.length → wval (ws.set j v) + 18446744073709551616 ^ j * ws.getD j 0 = wval ws + 18446744073709551616 ^ j * v
 | [], j, v, h => by simp at h
 | x :: l, 0, v, h => by simp [wval]; omega
 | x :: l, j + 1, v, h => by
  have ih := o_k0 l j v (by simpa using h)
  simp only [List.set_cons_succ, wval, Nat.pow_succ, List.getD_cons_succ]
  have e : ∀ z, 18446744073709551616 ^ j * 18446744073709551616 * z = 18446744073709551616 * (18446744073709551616 ^ j * z) := fun z => by
   rw [Nat.mul_right_comm, Nat.mul_comm]
  rw [e, e]
  omega
theorem o_k1 {ws : List Nat} (h : small ws) (j v : Nat) (hv : v < 18446744073709551616) : small (ws.set j v) := by
 intro x hx
 rcases List.mem_or_eq_of_mem_set hx with hx | rfl
 ·exact h x hx
 ·exact hv
def uW (ws : List Nat) : List V := U ws
theorem o_k2 (ws : List Nat) : (uW ws).length = ws.length := by simp [uW, U]
theorem o_k3 {ws : List Nat} {j : Nat} (h : j < ws.length) : (uW ws)[j]? = some (.d (.int .u64 (ws.getD j 0 : Nat))) := by
 simp [uW, U, List.getD, h]
theorem o_k4 (ws : List Nat) (j v : Nat) : (uW ws).set j (.d (.int .u64 v)) = uW (ws.set j v) := by simp [uW, U, List.map_set]
theorem o_k5 (n : Nat) (ws : List Nat) : V.lowl n (uW ws) = true := o_iq n ws

theorem o_k6 {vn v z1 z2 p b xy o c l2 h2 : Nat} (hs2 : vn + p * o = v + p * l2) (hv : v + p * c = z2 + z1) (htot : xy + o + c = l2 + b * h2) : vn + p * b * h2 = z2 + (z1 + p * xy) := by
 have e2 := congrArg (p * ·) htot
 simp only [Nat.mul_add] at e2
 rw [← Nat.mul_assoc] at e2
 omega
set_option maxHeartbeats 4000000 in
theorem o_k7 (m n : Nat) (hm : size m ≤ 1000000) (hn : size n ≤ 1000000) : Eqn Tryz.prog o_94 [.d (.agg [natW m]), .d (.agg [natW n])] [] (.d (.agg [natW (m * n)])) [] := by
 refine Eqn.pure o_96 (o_58 _) ?_
 unfold size at hm hn
 rw [← o_hp m, ← o_hp n]
 have hsA := o_hq m
 have hsB := o_hq n
 rw [show natW (wval (words m)) = W (words m) by rw [o_hp]; rfl, show natW (wval (words n)) = W (words n) by rw [o_hp]; rfl]
 generalize words m = A at *
 generalize words n = B at *
 simp only [o_95, W]
 have hlen : ((A.length : Int) + B.length).toNat = A.length + B.length := by omega
 refine G1 hlen ?_; try with_reducible exact tt
 rw [show List.replicate (A.length + B.length) (V.d (.int .u64 0)) = uW (List.replicate (A.length + B.length) 0) by simp [uW, U]]
 refine AW.loopT (α := Nat × List Nat) 4 (fun s => [(25, .d (.int .i64 (s.1 : Int)))]) (fun s => [(3, ⟨194, uW s.2⟩)]) (fun s => s.1 ≤ A.length ∧ s.2.length = A.length + B.length ∧ small s.2 ∧ wval s.2 = wval (A.take s.1) * wval B ∧ ∀ j, s.1 + B.length ≤ j → s.2.getD j 0 = 0) (fun s => A.length - s.1) (0, List.replicate (A.length + B.length) 0) ?_ ?_ ?_ ?_ ?_ ?_
 ·simp
 ·simp
 ·refine ⟨Nat.zero_le _, by simp, fun x hx => by rw [List.eq_of_mem_replicate hx]; omega, by simp [o_gt, wval], fun j _ => ?_⟩
  simp [List.getD, List.getElem?_replicate]
  split <;> rfl
 ·simp
 ·simp [o_k5]
 rintro ⟨i, ws⟩ ⟨hi, hl, hs, hv, hz⟩
 simp only at hi hl hs hv hz
 simp
 by_cases h : i = A.length
 ·subst h
  rw [List.take_length] at hv
  refine G0 ?_; try with_reducible exact tt
  refine AW.cond rfl (fun h => ?_) (fun h => ?_)
  ·simp at h
  refine AW.exit ?_
  (try (simp -implicitDefEqProofs; try simp (disch := omega) only [w64, wu64]))
  have hcell : uW ws = (ws.map fun x : Nat => D.int .u64 x).map V.d := by simp [uW, U]
  rw [hcell]
  refine AW.freeze 3 1 ⟨194, _⟩ (ws.map fun x : Nat => .int .u64 x) (by rfl) (by rfl) ?_
  simp [← hl, List.take_of_length_le]
  refine G0 ?_; try with_reducible exact tt
  refine CallS.pu (o_hy ws hs (by omega)) (R0 ?_); try with_reducible exact tt
  refine Sub1.of ?_
  rw [hv]
 ·have hi' : i < A.length := by omega
  have hp : (i : Int) < A.length := by omega
  refine G1 (fs hi' hp) ?_; try with_reducible exact tt
  refine AW.cond rfl (fun h => ?_) (fun h => ?_)
  ·refine G1 (fs hi' hp) ?_; try with_reducible exact tt
   have hwA : A[i] = A.getD i 0 := o_hx hi'
   have hx : A[i] < 18446744073709551616 := hsA _ (List.getElem_mem _)
   generalize A[i] = x at hwA hx ⊢
   refine AW.loopT (α := Nat × Nat × List Nat) 4 (fun s => [(33, .d (.int .i64 (s.1 : Int))), (8, .d (.int .u64 (s.2.1 : Int)))]) (fun s => [(3, ⟨194, uW s.2.2⟩)]) (fun s => s.1 ≤ B.length ∧ s.2.1 < 18446744073709551616 ∧ s.2.2.length = A.length + B.length ∧ small s.2.2 ∧ wval s.2.2 + 18446744073709551616 ^ (i + s.1) * s.2.1 = wval (A.take i) * wval B + 18446744073709551616 ^ i * (x * wval (B.take s.1)) ∧ ∀ j, i + B.length ≤ j → s.2.2.getD j 0 = 0) (fun s => B.length - s.1) (0, 0, ws) ?_ ?_ ⟨Nat.zero_le _, by simp, hl, hs, by simp [hv, wval], hz⟩ ?_ ?_ ?_
   ·simp
   ·simp
   ·simp
   ·simp [o_k5]
   clear hl hs hv hz
   rintro ⟨k, c, ws'⟩ ⟨hk, hc, hl, hs, hv, hz⟩
   simp only at hk hc hl hs hv hz
   simp
   have hlen' : ((i : Int) + B.length).toNat = i + B.length := by omega
   have ew : IntKind.i64.wrap ((i : Int) + B.length) = ((i + B.length : Nat) : Int) := w64 (by omega) (by omega)
   have eu := o_k2 ws'
   have eset := fun j v => o_k4 ws' j v
   by_cases hkl : k = B.length
   ·subst hkl
    rw [List.take_length] at hv
    refine G0 ?_; try with_reducible exact tt
    refine AW.cond rfl (fun h => ?_) (fun h => ?_)
    ·simp at h
    have hg : (uW ws').length = A.length + B.length := by rw [eu]; exact hl
    have e2 : IntKind.i64.wrap ((i : Int) + 1) = (i : Int) + 1 := w64 (by omega) (by omega)
    refine G1 (fs hg (fs eset e2)) ?_; try with_reducible exact tt
    refine ⟨i + 1, ws'.set (i + B.length) c, ⟨hi', by simp [hl], o_k1 hs _ _ hc, ?_, fun j hj => ?_⟩, by omega, by simp, by rw [hlen']; simp, o_k5 _ _⟩
    ·have h1 := o_k0 ws' (i + B.length) c (by omega)
     rw [hz _ (Nat.le_refl _), Nat.mul_zero, Nat.add_zero] at h1
     rw [h1, hv, o_hd, Nat.add_mul, hwA, Nat.mul_assoc]
    ·have h1 := hz j (by omega)
     rw [List.getD] at h1
     rw [List.getElem?_set_ne (by omega)]
     exact h1
   ·have hk' : k < B.length := by omega
    have hkp : (k : Int) < B.length := by omega
    refine G1 (fs hk' hkp) ?_; try with_reducible exact tt
    refine AW.cond rfl (fun h => ?_) (fun h => ?_)
    ·have hy : B[k] < 18446744073709551616 := hsB _ (List.getElem_mem _)
     have hwB : B[k] = B.getD k 0 := o_hx hk'
     have hg : (uW ws').length = A.length + B.length := by rw [eu]; exact hl
     have hik : i + k < ws'.length := by omega
     have hik2 : ((i : Int) + k).toNat = i + k := by omega
     have ewk : IntKind.i64.wrap ((i : Int) + k) = (i : Int) + k := w64 (by omega) (by omega)
     have hgo := o_k3 hik
     have ho := hs.getD (i + k)
     have hset := fun v => o_k0 ws' (i + k) v hik
     generalize hO : ws'.getD (i + k) 0 = o at hgo ho hset
     have e2 : IntKind.i64.wrap ((k : Int) + 1) = (k : Int) + 1 := w64 (by omega) (by omega)
     refine G1 (fs hk' hkp) ?_; try with_reducible exact tt
     generalize B[k] = y at hy hwB ⊢
     have hmul := o_jw x y hx hy
     have l0 : x * y % 18446744073709551616 < 18446744073709551616 := Nat.mod_lt _ (by decide)
     have hxy : x * y ≤ 18446744073709551615 * 18446744073709551615 := Nat.mul_le_mul (by omega) (by omega)
     have hdm := Nat.div_add_mod (x * y) 18446744073709551616
     obtain ⟨hi', hhi⟩ : ∃ q, q = x * y / 18446744073709551616 := ⟨_, rfl⟩
     obtain ⟨lo, hlo⟩ : ∃ q, q = x * y % 18446744073709551616 := ⟨_, rfl⟩
     obtain ⟨xy, hxyd⟩ : ∃ q, q = x * y := ⟨_, rfl⟩
     rw [← hhi, ← hlo] at hmul
     rw [← hlo] at l0
     rw [← hhi, ← hlo, ← hxyd] at hdm
     rw [← hxyd] at hxy
     obtain ⟨l1, k1, hl1, hll1, hk1⟩ : ∃ l1 k1 : Nat, lo + o + 0 = l1 + 18446744073709551616 * k1 ∧ l1 < 18446744073709551616 ∧ k1 ≤ 1 := ⟨(lo + o) % 18446744073709551616, (lo + o) / 18446744073709551616, by omega, by omega, by omega⟩
     obtain ⟨l2, k2, hl2, hll2, hk2⟩ : ∃ l2 k2 : Nat, l1 + c + 0 = l2 + 18446744073709551616 * k2 ∧ l2 < 18446744073709551616 ∧ k2 ≤ 1 := ⟨(l1 + c) % 18446744073709551616, (l1 + c) / 18446744073709551616, by omega, by omega, by omega⟩
     have htot : xy + o + c = l2 + 18446744073709551616 * (hi' + k1 + k2) := by omega
     have hhl : hi' + k1 + k2 < 18446744073709551616 := by omega
     have w1 : IntKind.u64.wrap ((hi' : Int) + k1) = ((hi' + k1 : Nat) : Int) := wu64 (by omega) (by omega)
     have w2 : IntKind.u64.wrap (((hi' + k1 : Nat) : Int) + k2) = ((hi' + k1 + k2 : Nat) : Int) := wu64 (by omega) (by omega)
     clear hhi hlo
     refine CallS.pu (hmul) (R1 (fs hg (fs hgo (fs hik2 ewk))) ?_); try with_reducible exact tt
     generalize hi' + k1 = h1 at *
     generalize h1 + k2 = h2 at *
     refine CallS.pu (o_i3 lo o 0 l1 k1 l0 ho (by omega) hll1 hl1) (R1 w1 ?_); try with_reducible exact tt
     refine CallS.pu (o_i3 l1 c 0 l2 k2 hll1 hc (by omega) hll2 hl2) (R1 (fs w2 (fs hg (fs hik2 (fs ewk (fs eset e2))))) ?_); try with_reducible exact tt
     refine ⟨k + 1, h2, ws'.set (i + k) l2, ⟨hk', hhl, by simpa using hl, o_k1 hs _ _ hll2, ?_, fun j hj => ?_⟩, by omega, by simp, Subs.refl _, o_k5 _ _⟩
     ·have hs2 := hset l2
      have e1 : x * wval (B.take (k + 1)) = x * wval (B.take k) + 18446744073709551616 ^ k * xy := by
       rw [o_hd, ← hwB, Nat.mul_add, hxyd]
       congr 1
       rw [← Nat.mul_assoc, Nat.mul_comm x, Nat.mul_assoc]
      rw [e1, Nat.mul_add, ← Nat.mul_assoc (18446744073709551616 ^ i) (18446744073709551616 ^ k) xy, ← Nat.pow_add, ← Nat.add_assoc i k 1, Nat.pow_succ]
      exact o_k6 hs2 hv htot
     ·have h1 := hz j hj
      rw [← List.getD_eq_getElem?_getD]
      rw [List.getD] at h1 ⊢
      rw [List.getElem?_set_ne (by omega)]
      exact h1
    ·simp [hk'] at h
  ·simp [hi'] at h
end
end Go.Proofs.YtmpjlkclkhnpfaaGreatDoor.Am
namespace Go.Proofs.YtmpjlkclkhnpfaaGreatDoor.Am
section
open Go.RowKit
theorem o_k8 {x : Nat} (h : x < 18446744073709551616) : size x ≤ 1 := by
 rw [size]
 rcases Nat.eq_zero_or_pos x with rfl | h0
 ·simp [words, wordsF]
 ·rw [o_it h0 h]; simp

theorem o_k9 (a : Nat) : Eqn Tryz.prog o_b4 [.d (.bool false), .d (.agg [natW a])] [] (.d (.agg [natW a, .bool false])) [] := by
 refine Eqn.pure o_b6 (o_58 _) ?_
 simp only [o_b5]
 refine G0 ?_; try with_reducible exact tt

theorem o_ka (a : Nat) (s : Bool) : Eqn Tryz.prog o_b1 [.d (.agg [natW a, .bool s])] [] (.d (.agg [natW a])) [] := by
 refine Eqn.pure o_b3 (o_58 _) ?_
 simp only [o_b2]
 refine G0 ?_; try with_reducible exact tt

theorem o_kb (a : Nat) (s : Bool) : Eqn Tryz.prog o_b7 [.d (.agg [natW a, .bool s])] [] (.d (.bool s)) [] := by
 refine Eqn.pure o_b9 (o_58 _) ?_
 simp only [o_b8]
 refine G0 ?_; try with_reducible exact tt

theorem o_kc (n : Nat) (h : n < 9223372036854775808) : Eqn Tryz.prog o_8s [.d (.int .i64 n)] [] (.d (.agg [natW n, .bool false])) [] := by
 refine Eqn.pure o_8u (o_58 _) ?_
 simp only [o_8t]
 have h0 : ¬ (n : Int) < 0 := by omega
 refine G0 ?_; try with_reducible exact tt
 refine AW.cond rfl (fun h => ?_) (fun h => ?_)
 ·simp [h0] at h
 have e : IntKind.u64.wrap (n : Int) = n := wu64 (by omega) (by omega)
 refine G1 e ?_; try with_reducible exact tt
 refine CallS.pf 1 1 ⟨194, _⟩ [.int .u64 n] (o_hz [n] (o_iu (by omega)) (by simp)) (by first | rfl | (simp; done)) (R0 ?_); try with_reducible exact tt
 refine CallS.pu (o_k9 n) (R0 ?_); try with_reducible exact tt

theorem o_kd (a d : Nat) (s : Bool) (h : size d ≤ 1000000) : Eqn Tryz.prog o_8d [.d (.agg [natW a, .bool s, natW d])] [] (.d (.agg [natW (d + 1)])) [] := by
 refine Eqn.pure o_8f (o_58 _) ?_
 simp only [o_8e]
 refine G0 ?_; try with_reducible exact tt
 refine CallS.pf 2 1 ⟨194, _⟩ [.int .u64 (1 : Nat)] (o_hz [1] (o_iu (by omega)) (by simp)) (by first | rfl | (simp; done)) (R0 ?_); try with_reducible exact tt
 refine CallS.pu (o_ig d 1 h (by have := o_k8 (x := 1) (by omega); omega)) (R0 ?_); try with_reducible exact tt
theorem o_ke (a d : Nat) (s : Bool) : Eqn Tryz.prog o_87 [.d (.agg [natW a, .bool s, natW d])] [] (.d (.bool (d == 0))) [] := by
 refine Eqn.pure o_89 (o_58 _) ?_
 simp only [o_88]
 refine G0 ?_; try with_reducible exact tt
 refine CallS.pu (o_i0 d) (R0 ?_); try with_reducible exact tt

theorem o_kf (a b : Nat) (ha : a < 18446744073709551616) (h0 : 0 < b) (hb : b < 18446744073709551616) : Eqn Tryz.prog o_8y [.d (.agg [natW a, .bool false]), .d (.agg [natW b])] [] (.d (.agg [natW (a / Nat.gcd a b), .bool false, natW (b / Nat.gcd a b - 1)])) [] := by
 refine Eqn.pure o_90 (o_58 _) ?_
 simp only [o_8z]
 have hg : 0 < Nat.gcd a b := Nat.gcd_pos_of_pos_right _ h0
 have hg2 : Nat.gcd a b ≤ b := Nat.gcd_le_right _ h0
 have hq : 0 < b / Nat.gcd a b := Nat.div_pos hg2 hg
 have hq2 : b / Nat.gcd a b ≤ b := Nat.div_le_self _ _
 refine G0 ?_; try with_reducible exact tt
 refine CallS.pu (o_ka a false) (R0 ?_); try with_reducible exact tt
 refine CallS.pu (o_iz a b ha hb) (R0 ?_); try with_reducible exact tt
 generalize Nat.gcd a b = g at *
 refine CallS.pu (o_ka a false) (R0 ?_); try with_reducible exact tt
 refine CallS.pu (o_iy a g ha hg (by omega)) (R0 ?_); try with_reducible exact tt
 refine CallS.pu (o_iy b g hb hg (by omega)) (R0 ?_); try with_reducible exact tt
 refine CallS.pf 8 1 ⟨194, _⟩ [.int .u64 (1 : Nat)] (o_hz [1] (o_iu (by omega)) (by simp)) (by first | rfl | (simp; done)) (R0 ?_); try with_reducible exact tt
 refine CallS.pu (o_ik (b / g) 1 (by have := o_k8 (x := b / g) (by omega); omega) (by omega)) (R0 ?_); try with_reducible exact tt
 refine CallS.pu (o_kb a false) (R0 ?_); try with_reducible exact tt
 refine CallS.pu (o_k9 (a / g)) (R0 ?_); try with_reducible exact tt

theorem o_kg (k : Nat) (hk : k < 64) : Eqn Tryz.prog o_dy [.d (.int .i64 k)] [] (.tup [.d (.agg [natW 1, .bool false, natW (2 ^ k - 1)]), .d (.int .i64 0)]) [] := by
 refine Eqn.pure o_e0 (o_ie _ _) ?_
 simp only [o_dz]
 refine G0 ?_; try with_reducible exact tt
 refine CallS.pf 1 1 ⟨194, _⟩ [.int .u64 (1 : Nat)] (o_hz [1] (o_iu (by omega)) (by simp)) (by first | rfl | (simp; done)) (R0 ?_); try with_reducible exact tt
 refine CallS.pu (o_is 1 k (by have := o_k8 (x := 1) (by omega); omega) (by omega)) (R0 ?_); try with_reducible exact tt
 refine AW.cond rfl (fun h => ?_) (fun h => ?_)
 ·simp at h
 refine G0 ?_; try with_reducible exact tt
 refine CallS.pu (o_kc 1 (by omega)) (R0 ?_); try with_reducible exact tt
 refine CallS.pu (o_kf 1 (2 ^ k) (by omega) (Nat.two_pow_pos k) (Nat.pow_lt_pow_right (by omega) hk)) (R0 ?_); try with_reducible exact tt
end
end Go.Proofs.YtmpjlkclkhnpfaaGreatDoor.Am
namespace Go.Proofs.YtmpjlkclkhnpfaaGreatDoor.Am
section
open Go.RowKit
theorem o_kh {x n m : Nat} (h : x < 2 ^ n) (hm : n ≤ 64 * m) : size x ≤ m := by
 apply o_hb (o_hr x)
 rw [o_hp, show (18446744073709551616 : Nat) = 2 ^ 64 by rfl, ← Nat.pow_mul]
 exact Nat.lt_of_lt_of_le h (Nat.pow_le_pow_right (by omega) hm)
def splitW (y : Nat) : List Nat → List Nat × Nat
 | [] => ([], 0)
 | x :: l => (((splitW y l).2 * 18446744073709551616 + x) / y :: (splitW y l).1, ((splitW y l).2 * 18446744073709551616 + x) % y)
theorem o_ki {y : Nat} (h0 : 0 < y) : ∀ {l : List Nat}, small l → wval l = wval (splitW y l).1 * y + (splitW y l).2 ∧ (splitW y l).2 < y ∧ small (splitW y l).1 ∧ (splitW y l).1.length = l.length
 | [], _ => ⟨by simp [splitW, wval], h0, by simp [small, splitW], rfl⟩
 | x :: l, h => by
  have hx := h x (by simp)
  obtain ⟨h1, h2, h3, h4⟩ := o_ki h0 (l := l) (fun z hz => h z (by simp [hz]))
  simp only [splitW, wval, List.length_cons, h4]
  generalize splitW y l = s at *
  obtain ⟨Q, r⟩ := s
  simp only at *
  have hd := Nat.div_add_mod (r * 18446744073709551616 + x) y
  have hm := Nat.mod_lt (r * 18446744073709551616 + x) h0
  have hq : (r * 18446744073709551616 + x) / y < 18446744073709551616 := by
   rw [Nat.div_lt_iff_lt_mul h0]
   have : (r + 1) * 18446744073709551616 ≤ y * 18446744073709551616 := Nat.mul_le_mul_right _ h2
   omega
  refine ⟨?_, hm, ?_, trivial⟩
  ·rw [Nat.mul_comm y] at hd
   have e : 18446744073709551616 * (wval Q * y + r) = 18446744073709551616 * wval Q * y + r * 18446744073709551616 := by rw [Nat.mul_add, Nat.mul_assoc, Nat.mul_comm r]
   rw [h1, e, Nat.add_mul]
   obtain ⟨z, hz⟩ : ∃ z, z = (r * 18446744073709551616 + x) % y := ⟨_, rfl⟩
   obtain ⟨z2, hz2⟩ : ∃ z, z = (r * 18446744073709551616 + x) / y * y := ⟨_, rfl⟩
   obtain ⟨z3, hz3⟩ : ∃ z, z = 18446744073709551616 * wval Q * y := ⟨_, rfl⟩
   rw [← hz, ← hz2] at hd
   rw [← hz, ← hz2, ← hz3]
   omega
  ·intro z hz
   rcases List.mem_cons.1 hz with rfl | hz
   ·exact hq
   ·exact h3 z hz

theorem o_kj {y : Nat} (h0 : 0 < y) {l : List Nat} (h : small l) : wval (splitW y l).1 = wval l / y ∧ (splitW y l).2 = wval l % y := by
 obtain ⟨h1, h2, _, _⟩ := o_ki h0 h
 rw [h1]
 constructor
 ·rw [Nat.mul_comm, Nat.mul_add_div h0, Nat.div_eq_of_lt h2, Nat.add_zero]
 ·rw [Nat.mul_comm, Nat.mul_add_mod]; exact (Nat.mod_eq_of_lt h2).symm

def splitC (y : Nat) (ws : List Nat) (k : Nat) : List V := U (List.replicate k 0 ++ (splitW y (ws.drop k)).1)
theorem o_kk {y : Nat} (h0 : 0 < y) {ws : List Nat} (hs : small ws) {k : Nat} (hk : k ≤ ws.length) : (splitC y ws k).length = ws.length := by
 have := (o_ki h0 (l := ws.drop k) (fun x hx => hs x (List.mem_of_mem_drop hx))).2.2.2
 simp [splitC, U, this]; omega

set_option maxHeartbeats 2000000 in
theorem o_kl (ws : List Nat) (y : Nat) (hs : small ws) (hn : ws.length ≤ 1000000) (h0 : 0 < y) (hy : y < 18446744073709551616) : Eqn Tryz.prog o_bj [.d (W ws), .d (.int .u64 y)] [] (.tup [.d (W (splitW y ws).1), .d (.int .u64 (splitW y ws).2)]) [] := by
 refine Eqn.pure o_bl (o_ie _ _) ?_
 simp only [o_bk, W]
 have hlen := (o_ki h0 hs).2.2.2
 rw [hlen]
 have hlowC : ∀ k, V.lowl 1 (splitC y ws k) = true := fun k => o_iq 1 _
 refine G0 ?_; try with_reducible exact tt
 rw [show List.replicate ws.length (V.d (.int .u64 0)) = splitC y ws ws.length by simp [splitC, U, splitW]]
 refine AW.loopT (α := Nat) 1 (fun k => [(8, .d (.int .i64 ((k : Int) - 1))), (7, .d (.int .u64 ((splitW y (ws.drop k)).2 : Nat)))]) (fun k => [(0, ⟨194, splitC y ws k⟩)]) (fun k => k ≤ ws.length) (fun k => k) ws.length ?_ ?_ (Nat.le_refl _) ?_ ?_ ?_
 ·simp
 ·simp
 ·simp [splitW]
 ·simp [hlowC]
 rintro k hk
 simp
 cases k with
 | zero =>
  refine G0 ?_; try with_reducible exact tt
  refine AW.cond rfl (fun h => ?_) (fun h => ?_)
  ·simp at h
  refine AW.exit ?_
  (try (simp -implicitDefEqProofs; try simp (disch := omega) only [w64, wu64]))
  rw [show splitC y ws 0 = ((splitW y ws).1.map fun x : Nat => D.int .u64 x).map V.d by simp [splitC, U]]
  refine AW.freeze 0 1 ⟨194, _⟩ ((splitW y ws).1.map fun x : Nat => .int .u64 x) (by rfl) (by rfl) ?_
  simp [← hlen, List.take_of_length_le]
  refine G0 ?_; try with_reducible exact tt
 | succ k =>
  have hk' : k < ws.length := hk
  have hdrop : ws.drop k = ws[k] :: ws.drop (k + 1) := List.drop_eq_getElem_cons hk'
  obtain ⟨i1, i2, i3, i4⟩ := o_ki h0 (l := ws.drop (k + 1)) (fun x hx => hs x (List.mem_of_mem_drop hx))
  have hl := o_kk h0 hs hk
  have hset : (splitC y ws (k + 1)).set k (.d (.int .u64 (((splitW y (ws.drop (k + 1))).2 * 18446744073709551616 + ws[k]) / y : Nat))) = splitC y ws k := by
   rw [splitC, splitC, hdrop, splitW, U, U, List.replicate_succ', List.append_assoc, List.map_append, List.map_append, List.set_append_right _ _ (by simp)]
   simp
  have hrest : (splitW y (ws.drop k)).2 = ((splitW y (ws.drop (k + 1))).2 * 18446744073709551616 + ws[k]) % y := by rw [hdrop, splitW]
  have hx : ws[k] < 18446744073709551616 := hs _ (List.getElem_mem _)
  have hdv := o_jz (splitW y (ws.drop (k + 1))).2 ws[k] y i2 hx hy
  rw [← hrest] at hdv
  generalize (splitW y (ws.drop (k + 1))).2 = r at *
  have e0 : (0 : Int) ≤ (k : Int) + 1 - 1 := by omega
  have e1 : (k : Int) + 1 - 1 = k := by omega
  have e2 : (((k : Int) + 1 - 1)).toNat = k := by omega
  have e3 : IntKind.i64.wrap ((k : Int) - 1) = (k : Int) - 1 := w64 (by omega) (by omega)
  generalize hxk : ws[k] = x at *
  generalize hqd : (r * 18446744073709551616 + x) / y = q at *
  generalize hr'' : (splitW y (ws.drop k)).2 = r' at *
  refine G1 (fs e0 (fs e1 (fs e2 hk'))) ?_; try with_reducible exact tt
  refine AW.cond rfl (fun h => ?_) (fun h => ?_)
  ·refine G1 (fs e0 (fs e1 (fs e2 (fs hk' hxk)))) ?_; try with_reducible exact tt
   refine CallS.pu (hdv) (R1 (fs e1 (fs hl (fs hk' (fs hset e3)))) ?_); try with_reducible exact tt
   refine ⟨k, by omega, by omega, ?_⟩
   rw [hr'']
   simp [hlowC]
  ·simp at h

theorem o_km (a b : Nat) (ha : size a ≤ 1000000) (h0 : 0 < b) (hb : b < 18446744073709551616 ∨ a < b) (hbs : size b ≤ 1000000) : Eqn Tryz.prog o_by [.d (.agg [natW a]), .d (.agg [natW b])] [] (.tup [.d (.agg [natW (a / b)]), .d (.agg [natW (a % b)]), .d (.int .i64 0)]) [] := by
 refine Eqn.pure o_c0 (o_if _ _ _) ?_
 simp only [o_bz]
 refine G0 ?_; try with_reducible exact tt
 refine CallS.pu (o_i0 b) (R0 ?_); try with_reducible exact tt
 have hz : (b == 0) = false := by simp; omega
 refine AW.cond rfl (fun h => ?_) (fun h => ?_)
 ·simp [hz] at h
 refine G0 ?_; try with_reducible exact tt
 refine CallS.pu (o_i2 a b ha hbs) (R0 ?_); try with_reducible exact tt
 refine AW.cond rfl (fun h => ?_) (fun h => ?_)
 ·have hlt : a < b := by simpa [o_iv] using h
  rw [Nat.div_eq_of_lt hlt, Nat.mod_eq_of_lt hlt]
  refine G0 ?_; try with_reducible exact tt
  refine CallS.pu (o_hz (words a) (o_hq a) (by unfold size at ha; omega)) (R0 ?_); try with_reducible exact tt
  rw [o_hp]
  exact Sub1.tup (Subs.cons (Sub1.nat0) (Subs.refl _))
 ·have hge : ¬ a < b := fun hlt => by simp [o_iv, hlt] at h
  have hb1 : b < 18446744073709551616 := by omega
  have e' : natW b = .sl 1 [.int .u64 b] := by rw [natW, o_it (by omega) hb1]; rfl
  have hsp := o_kl (words a) b (o_hq a) (by unfold size at ha; omega) h0 hb1
  obtain ⟨q1, q2, q3, q4⟩ := o_ki h0 (o_hq a)
  have hd := o_kj h0 (o_hq a)
  rw [o_hp] at hd
  have htr := o_hy (splitW b (words a)).1 q3 (by unfold size at ha; omega)
  rw [hd.1] at htr
  rw [hd.2] at hsp q2
  rw [show W (words a) = natW a from rfl] at hsp
  generalize (splitW b (words a)).1 = qs at *
  refine G1 e' ?_; try with_reducible exact tt
  refine AW.cond rfl (fun h => ?_) (fun h => ?_)
  ·refine G1 e' ?_; try with_reducible exact tt
   refine CallS.pu (hsp) (R0 ?_); try with_reducible exact tt
   refine CallS.pu (htr) (R0 ?_); try with_reducible exact tt
   refine CallS.pf 4 1 ⟨194, _⟩ [.int .u64 (a % b : Nat)] (o_hz [a % b] (o_iu (by omega)) (by simp)) (by first | rfl | (simp; done)) (R0 ?_); try with_reducible exact tt
   simp [wval]
  ·simp [e'] at h
end
end Go.Proofs.YtmpjlkclkhnpfaaGreatDoor.Am
namespace Go.Proofs.YtmpjlkclkhnpfaaGreatDoor.Am
section
def wordsN : Nat → Nat → List Nat
 | 0, _ => []
 | m + 1, x => x % 18446744073709551616 :: wordsN m (x / 18446744073709551616)
theorem o_kn : ∀ m x, (wordsN m x).length = m
 | 0, _ => rfl
 | m + 1, x => by simp [wordsN, o_kn m]
theorem o_ko : ∀ m x, small (wordsN m x)
 | 0, _ => by simp [wordsN, small]
 | m + 1, x => by
  intro y hy
  rw [wordsN, List.mem_cons] at hy
  rcases hy with rfl | hy
  ·omega
  ·exact o_ko m _ y hy
theorem o_kp : ∀ m x, x < 18446744073709551616 ^ m → wval (wordsN m x) = x
 | 0, x, h => by simp at h; simp [wordsN, wval, h]
 | m + 1, x, h => by
  rw [wordsN, wval, o_kp m _ (by rw [Nat.pow_succ] at h; rw [Nat.div_lt_iff_lt_mul (by decide)]; exact h)]
  omega
theorem o_kq : ∀ {l : List Nat}, small l → wordsN l.length (wval l) = l
 | [], _ => rfl
 | x :: l, h => by
  have hx := h x (by simp)
  have hl : small l := fun y hy => h y (by simp [hy])
  rw [List.length_cons, wordsN, wval]
  congr 1
  ·omega
  ·rw [show (x + 18446744073709551616 * wval l) / 18446744073709551616 = wval l by omega]; exact o_kq hl
theorem o_kr {l : List Nat} {m x : Nat} (h : small l) (hl : l.length = m) (hv : wval l = x) : l = wordsN m x := by rw [← hl, ← hv, o_kq h]

def ovr (ws : List Nat) (k : Nat) (l : List Nat) : List Nat := ws.take k ++ (l ++ ws.drop (k + l.length))
theorem o_ks {ws : List Nat} {k : Nat} {l : List Nat} (h : k + l.length ≤ ws.length) : (ovr ws k l).length = ws.length := by simp [ovr]; omega
theorem o_kt {ws : List Nat} {k : Nat} {l : List Nat} (h : small ws) (hl : small l) : small (ovr ws k l) := by
 intro x hx
 simp only [ovr, List.mem_append] at hx
 rcases hx with hx | hx | hx
 ·exact h x (List.mem_of_mem_take hx)
 ·exact hl x hx
 ·exact h x (List.mem_of_mem_drop hx)
theorem o_ku (ws : List Nat) (k : Nat) : ovr ws k [] = ws := by simp [ovr]
theorem o_kv {ws : List Nat} {k : Nat} {l : List Nat} (h : k + l.length < ws.length) : (ovr ws k l).getD (k + l.length) 0 = ws.getD (k + l.length) 0 := by
 simp only [ovr, List.getD_eq_getElem?_getD]
 congr 1
 rw [List.getElem?_append_right (by rw [List.length_take]; omega), List.length_take, Nat.min_eq_left (by omega), List.getElem?_append_right (by omega), List.getElem?_drop]
 congr 1; omega
theorem o_kw {ws : List Nat} {k : Nat} {l : List Nat} (h : k + l.length < ws.length) (v : Nat) : (ovr ws k l).set (k + l.length) v = ovr ws k (l ++ [v]) := by
 have e : ws.drop (k + l.length) = ws.getD (k + l.length) 0 :: ws.drop (k + (l.length + 1)) := by
  rw [List.getD_eq_getElem?_getD, List.getElem?_eq_getElem h, Option.getD_some, ← Nat.add_assoc]
  exact List.drop_eq_getElem_cons h
 simp only [ovr]
 rw [List.set_append_right _ _ (by rw [List.length_take]; omega), List.length_take, Nat.min_eq_left (by omega), show k + l.length - k = l.length by omega, List.set_append_right _ _ (by omega), Nat.sub_self, e]
 simp
theorem o_kx {ws : List Nat} {k : Nat} {l r : List Nat} (h : k + l.length ≤ ws.length) (hl : l.length ≤ r.length) : ovr (ovr ws k l) k r = ovr ws k r := by
 simp only [ovr]
 have h1 : (ws.take k).length = k := by rw [List.length_take]; omega
 rw [List.take_append_of_le_length (by omega), List.take_of_length_le (by omega)]
 congr 2
 rw [List.drop_append, List.drop_eq_nil_of_le (by omega), List.nil_append, h1, List.drop_append, List.drop_eq_nil_of_le (by omega), List.nil_append, List.drop_drop]
 congr 1; omega
theorem o_ky {ws : List Nat} {k : Nat} {l : List Nat} (h : k + l.length ≤ ws.length) : ((ovr ws k l).drop k).take l.length = l := by
 have h1 : (ws.take k).length = k := by rw [List.length_take]; omega
 simp only [ovr]
 rw [List.drop_append, List.drop_eq_nil_of_le (by omega), List.nil_append, h1, Nat.sub_self, List.drop_zero, List.take_append_of_le_length (by omega), List.take_of_length_le (by omega)]
theorem o_kz {ws : List Nat} {k n i : Nat} (h : i < n) : ((ws.drop k).take n).getD i 0 = ws.getD (k + i) 0 := by
 simp only [List.getD_eq_getElem?_getD, List.getElem?_take, if_pos h, List.getElem?_drop]
theorem o_l0 {ws : List Nat} {k n : Nat} (h : k + n ≤ ws.length) : ((ws.drop k).take n).length = n := by simp; omega
theorem o_l1 {ws : List Nat} (h : small ws) (k : Nat) : small (ws.drop k) := fun x hx => h x (List.mem_of_mem_drop hx)
theorem o_l2 {l : List Nat} (h : small l) {v : Nat} (hv : v < 18446744073709551616) : small (l ++ [v]) := by
 intro x hx
 rw [List.mem_append, List.mem_singleton] at hx
 rcases hx with hx | rfl
 ·exact h x hx
 ·exact hv
theorem o_l3 (l : List Nat) (v : Nat) : wval (l ++ [v]) = wval l + 18446744073709551616 ^ l.length * v := by
 rw [o_gs]; simp [wval]
theorem o_l4 : small [] := by simp [small]

theorem o_l5 {l0 g D0 U0 p bo c x y lo hi l2 k2 nb z : Nat} (hv : l0 + g * D0 = U0 + p * (bo + c)) (hyg : y * g = hi * 18446744073709551616 + lo) (h1 : lo + c = l2 + 18446744073709551616 * k2) (h2 : x + 18446744073709551616 * nb = z + l2 + bo) :
  l0 + p * z + g * (D0 + p * y) = U0 + p * x + p * 18446744073709551616 * (nb + (hi + k2)) := by
 have e1 : p * x + 18446744073709551616 * (p * nb) = p * z + p * l2 + p * bo := by
  have := congrArg (p * ·) h2
  simp only [Nat.mul_add] at this
  rw [← Nat.mul_assoc, Nat.mul_comm p 18446744073709551616, Nat.mul_assoc] at this
  exact this
 have e2 : p * lo + p * c = p * l2 + 18446744073709551616 * (p * k2) := by
  have := congrArg (p * ·) h1
  simp only [Nat.mul_add] at this
  rw [← Nat.mul_assoc p 18446744073709551616, Nat.mul_comm p 18446744073709551616, Nat.mul_assoc 18446744073709551616] at this
  exact this
 have e3 : g * (p * y) = 18446744073709551616 * (p * hi) + p * lo := by
  have := congrArg (p * ·) hyg
  simp only [Nat.mul_add] at this
  rw [← Nat.mul_assoc p hi, Nat.mul_comm (p * hi), ← Nat.mul_assoc p y g, Nat.mul_comm (p * y) g] at this
  exact this
 have e4 : p * 18446744073709551616 * (nb + (hi + k2)) = 18446744073709551616 * (p * nb) + 18446744073709551616 * (p * hi) + 18446744073709551616 * (p * k2) := by
  rw [Nat.mul_comm p, Nat.mul_assoc, Nat.mul_add, Nat.mul_add, Nat.mul_add, Nat.mul_add]; omega
 rw [Nat.mul_add, e3, e4]
 rw [Nat.mul_add] at hv
 omega
theorem o_l6 {ws : List Nat} {n : Nat} (h : small ws) (hl : ws.length = n) : wval ws < 18446744073709551616 ^ n := by rw [← hl]; exact o_gu h
theorem o_l7 {u : List Nat} {n z c b x nb gD wl Un : Nat} {l' : List Nat} (h1 : wval l' = wl + 18446744073709551616 ^ n * z) (hv : wl + gD = Un + 18446744073709551616 ^ n * (b + c)) (hux : wval u = Un + 18446744073709551616 ^ n * x) (hzb : x + 18446744073709551616 * nb = z + c + b) (hnb : nb ≤ 1) (hs : small l') (hl : l'.length = n + 1) (hus : small u) (hul : u.length = n + 1) :
  nb = (if wval u < gD then 1 else 0) ∧ l' = wordsN (n + 1) (wval u + (if wval u < gD then 18446744073709551616 ^ (n + 1) else 0) - gD) := by
 have e1 : wval l' + gD = wval u + 18446744073709551616 ^ (n + 1) * nb := by
  have := congrArg (18446744073709551616 ^ n * ·) hzb
  simp only [Nat.mul_add] at this
  rw [← Nat.mul_assoc, ← Nat.pow_succ] at this
  rw [Nat.mul_add] at hv
  simp only [Nat.succ_eq_add_one] at this
  omega
 have hlt := o_l6 hs hl
 have hult := o_l6 hus hul
 generalize 18446744073709551616 ^ (n + 1) = M at *
 have hc : nb = 0 ∨ nb = 1 := by omega
 rcases hc with rfl | rfl
 ·rw [if_neg (by omega), if_neg (by omega)]
  exact ⟨rfl, o_kr hs hl (by omega)⟩
 ·rw [if_pos (by omega), if_pos (by omega)]
  exact ⟨rfl, o_kr hs hl (by omega)⟩
theorem o_l8 {u : List Nat} {m gD : Nat} (hus : small u) (hul : u.length = m) (hg : gD ≤ wval u + 18446744073709551616 ^ m) : wval (wordsN m (wval u + (if wval u < gD then 18446744073709551616 ^ m else 0) - gD)) + gD = wval u + 18446744073709551616 ^ m * (if wval u < gD then 1 else 0) := by
 have hult := o_l6 hus hul
 by_cases h : wval u < gD
 ·rw [if_pos h, if_pos h, o_kp _ _ (by omega)]; omega
 ·rw [if_neg h, if_neg h, o_kp _ _ (by omega)]; omega
theorem o_l9 {ws : List Nat} {k : Nat} {l : List Nat} {j : Nat} (h : k + l.length ≤ ws.length) (hj : j < l.length) : (ovr ws k l).getD (k + j) 0 = l.getD j 0 := by
 have := o_ky h
 rw [← o_kz (n := l.length) hj, this]
theorem o_la {wr p c wl wd x y z nc : Nat} (hv : wr + p * c = wl + wd) (h : x + y + c = z + 18446744073709551616 * nc) : wr + p * z + p * 18446744073709551616 * nc = wl + p * x + (wd + p * y) := by
 have := congrArg (p * ·) h
 simp only [Nat.mul_add] at this
 rw [← Nat.mul_assoc] at this
 omega
theorem o_lb {wr p c wl wd wL x v nv : Nat} (hv : wr + p * c = wl + wd) (hl : wL = wl + p * x) (h : x + c = v + 18446744073709551616 * nv) : wL + wd = wr + p * v + p * 18446744073709551616 * nv := by
 have := congrArg (p * ·) h
 simp only [Nat.mul_add] at this
 rw [← Nat.mul_assoc] at this
 omega
theorem o_lc {d : List Nat} {n : Nat} (_ : n < d.length) : d.getD n 0 * 18446744073709551616 ^ n ≤ wval d := by
 have h1 := o_hd d n
 have h2 : wval d = wval (d.take (n + 1)) + 18446744073709551616 ^ (d.take (n + 1)).length * wval (d.drop (n + 1)) := by rw [← o_gs, List.take_append_drop]
 rw [h2, h1, Nat.mul_comm]
 omega
theorem o_ld {u : List Nat} {n m : Nat} (hs : small u) (hl : u.length = m + 1) (hm : m = n + 1) : wval u / 18446744073709551616 ^ n = u.getD m 0 * 18446744073709551616 + u.getD n 0 := by
 have h1 := o_hd u n
 have h2 := o_hd u m
 rw [List.take_of_length_le (by omega)] at h2
 have h3 := o_hm hs n
 have hp : 0 < 18446744073709551616 ^ n := Nat.pow_pos (by decide)
 rw [h2, hm, h1, Nat.pow_succ, Nat.mul_assoc, Nat.add_assoc, ← Nat.mul_add, Nat.add_mul_div_left _ _ hp, Nat.div_eq_of_lt h3, Nat.zero_add, Nat.mul_comm 18446744073709551616]
 omega
theorem o_le {U0 W1 Bk D S Q BQ : Nat} (h : U0 = W1 + Bk * S + D * BQ) (hq : BQ = Bk * 18446744073709551616 * Q) : U0 = W1 + Bk * (S % D) + D * (Bk * (S / D + 18446744073709551616 * Q)) := by
 have h1 := Nat.div_add_mod S D
 rw [h, hq]
 have e1 : Bk * S = Bk * (S % D) + D * (Bk * (S / D)) := by
  conv => lhs; rw [← h1]
  rw [Nat.mul_add, Nat.mul_left_comm, Nat.add_comm]
 rw [e1, Nat.mul_add Bk, Nat.mul_add D, Nat.mul_assoc Bk]
 omega
theorem o_lf {ws : List Nat} (k n : Nat) (h : k + n ≤ ws.length) : wval (ws.take (k + n)) = wval (ws.take k) + 18446744073709551616 ^ k * wval ((ws.drop k).take n) := by
 have e : ws.take (k + n) = ws.take k ++ (ws.drop k).take n := by rw [List.take_add]
 rw [e, o_gs, List.length_take, Nat.min_eq_left (by omega)]
theorem o_lg {n x : Nat} (h : x < 18446744073709551616 ^ n) : (wordsN (n + 1) x).take n = wordsN n x := by
 have : ∀ (n x : Nat), (wordsN (n + 1) x).take n = wordsN n x := by
  intro n
  induction n with
  | zero => intro x; simp [wordsN]
  | succ n ih => intro x; rw [wordsN, List.take_succ_cons, ih, wordsN]
 exact this n x
theorem o_lh {ws : List Nat} {k : Nat} {l : List Nat} (h : k ≤ ws.length) : (ovr ws k l).take k = ws.take k := by
 simp only [ovr]
 rw [List.take_append_of_le_length (by rw [List.length_take]; omega), List.take_take, Nat.min_self]
theorem o_li {ws : List Nat} {k m : Nat} (h : k < ws.length) : wval ((ws.drop k).take (m + 1)) = ws.getD k 0 + 18446744073709551616 * wval ((ws.drop (k + 1)).take m) := by
 rw [List.drop_eq_getElem_cons h, List.take_succ_cons, wval, List.getD_eq_getElem?_getD, List.getElem?_eq_getElem h]; rfl
theorem o_lj {ws : List Nat} {k n x : Nat} (h : k + (n + 1) ≤ ws.length) (hx : x < 18446744073709551616 ^ n) : wval (((ovr ws k (wordsN (n + 1) x)).drop k).take n) = x := by
 have h1 := o_ky (ws := ws) (k := k) (l := wordsN (n + 1) x) (by rw [o_kn]; exact h)
 rw [o_kn] at h1
 have h2 : ((ovr ws k (wordsN (n + 1) x)).drop k).take n = (((ovr ws k (wordsN (n + 1) x)).drop k).take (n + 1)).take n := by rw [List.take_take, Nat.min_eq_left (by omega)]
 rw [h2, h1, o_lg hx, o_kp _ _ hx]
theorem o_lk {k : Nat} {q : List Nat} (v : Nat) : (List.replicate (k + 1) 0 ++ q).set k v = List.replicate k 0 ++ v :: q := by
 rw [List.replicate_succ', List.append_assoc, List.set_append_right _ _ (by simp)]
 simp
theorem o_ll {Bw : List Nat} {s : Nat} (hb : wval Bw * 2 ^ s < 18446744073709551616 ^ Bw.length) : wval ((movedL s 0 Bw).take Bw.length) = wval Bw * 2 ^ s := by
 have h1 := o_h1 s Bw 0
 have h2 := o_hd (movedL s 0 Bw) Bw.length
 rw [List.take_of_length_le (by rw [o_h0]; omega), h1, Nat.add_zero] at h2
 rcases Nat.eq_zero_or_pos ((movedL s 0 Bw).getD Bw.length 0) with h | h
 ·rw [h, Nat.mul_zero, Nat.add_zero] at h2; exact h2.symm
 ·exfalso
  have : 18446744073709551616 ^ Bw.length * 1 ≤ 18446744073709551616 ^ Bw.length * (movedL s 0 Bw).getD Bw.length 0 := Nat.mul_le_mul_left _ h
  omega
end
end Go.Proofs.YtmpjlkclkhnpfaaGreatDoor.Am
namespace Go.Proofs.YtmpjlkclkhnpfaaGreatDoor.Am
section
open Go.RowKit
theorem o_lm (θ : Nat → Nat) (ws : List Nat) : V.rens θ (uW ws) = uW ws := by
 have h := o_5v θ (ws.map fun x : Nat => D.int .u64 x)
 rw [List.map_map] at h
 exact h
theorem o_ln (ws : List Nat) : plainL (uW ws) := ⟨o_k5 0 ws, fun θ => o_lm θ ws⟩

theorem o_lo {y g hi lo : Nat} (hy : y < 18446744073709551616) (hg : g < 18446744073709551616) (h1 : hi = y * g / 18446744073709551616) (h2 : lo = y * g % 18446744073709551616) : y * g = hi * 18446744073709551616 + lo ∧ lo < 18446744073709551616 ∧ hi + 1 < 18446744073709551616 := by
 have hp : y * g ≤ 18446744073709551615 * 18446744073709551615 := Nat.mul_le_mul (by omega) (by omega)
 generalize y * g = p at *
 omega

def takeR (ws d : List Nat) (k g : Nat) : List Nat := wordsN (d.length + 1) (wval ((ws.drop k).take (d.length + 1)) + (if wval ((ws.drop k).take (d.length + 1)) < g * wval d then 18446744073709551616 ^ (d.length + 1) else 0) - g * wval d)
set_option maxHeartbeats 4000000 in
theorem o_lp (ws d : List Nat) (k g : Nat) (hs : small ws) (hd : small d) (hk : k + d.length + 1 ≤ ws.length) (hn : ws.length ≤ 1000000) (hg : g < 18446744073709551616) :
  Eqn Tryz.prog o_f7 [.row 0 k (d.length + 1), .d (W d), .d (.int .u64 g)] [⟨194, uW ws⟩] (.d (.int .i64 (if wval ((ws.drop k).take (d.length + 1)) < g * wval d then 1 else 0))) [⟨194, uW (ovr ws k (takeR ws d k g))⟩] := by
 refine Eqn.obj1 o_f9 Plain.ok (o_ln _) ?_
 obtain ⟨u, hu⟩ : ∃ u, u = (ws.drop k).take (d.length + 1) := ⟨_, rfl⟩
 have hul : u.length = d.length + 1 := by rw [hu]; exact o_l0 (by omega)
 have hus : small u := by rw [hu]; exact (o_l1 hs k).take _
 have hug : ∀ i, i < d.length + 1 → u.getD i 0 = ws.getD (k + i) 0 := fun i hi => by rw [hu]; exact o_kz hi
 rw [takeR, ← hu]
 simp only [o_f8, W]
 refine G0 ?_; try with_reducible exact tt
 refine AW.loopT (α := Nat × Nat × Nat × List Nat) 1 (fun s => [(17, .d (.int .i64 (s.1 : Int))), (7, .d (.int .u64 (s.2.1 : Int))), (8, .d (.int .u64 (s.2.2.1 : Int)))]) (fun s => [(0, ⟨194, uW (ovr ws k s.2.2.2)⟩)]) (fun s => s.1 ≤ d.length ∧ s.2.1 < 18446744073709551616 ∧ s.2.2.1 ≤ 1 ∧ s.2.2.2.length = s.1 ∧ small s.2.2.2 ∧ wval s.2.2.2 + g * wval (d.take s.1) = wval (u.take s.1) + 18446744073709551616 ^ s.1 * (s.2.2.1 + s.2.1)) (fun s => d.length - s.1) (0, 0, 0, []) ?_ ?_ ⟨Nat.zero_le _, by simp, by simp, rfl, o_l4, by simp [wval]⟩ ?_ ?_ ?_
 ·simp
 ·simp
 ·simp
 ·simp [o_ku, o_k5]
 rintro ⟨i, c, b, l⟩ ⟨hi, hc, hb, hl, hsl, hv⟩
 simp only at hi hc hb hl hsl hv
 simp
 have hol : (uW (ovr ws k l)).length = ws.length := by rw [o_k2, o_ks (by omega)]
 have hget := o_k3 (ws := ovr ws k l) (j := k + i) (by rw [← o_k2, hol]; omega)
 have hnx := o_kv (ws := ws) (k := k) (l := l) (by omega)
 rw [hl] at hnx
 rw [hnx, ← hug i (by omega)] at hget
 have hx := hus.getD i
 have hset : ∀ v : Nat, (uW (ovr ws k l)).set (k + i) (.d (.int .u64 v)) = uW (ovr ws k (l ++ [v])) := fun v => by rw [o_k4, ← hl, o_kw (by omega)]
 have hki : ((k : Int) + i).toNat = k + i := by omega
 obtain ⟨x, hxd⟩ : ∃ x, x = u.getD i 0 := ⟨_, rfl⟩
 rw [← hxd] at hget hx
 by_cases hin : i < d.length
 ·have hin' : (i : Int) < d.length := by omega
  have hy : d[i] < 18446744073709551616 := hd _ (List.getElem_mem _)
  have hyd : d[i] = d.getD i 0 := o_hx hin
  have e2 : IntKind.i64.wrap ((i : Int) + 1) = (i : Int) + 1 := w64 (by omega) (by omega)
  refine G1 (fs hin hin') ?_; try with_reducible exact tt
  refine AW.cond rfl (fun h => ?_) (fun h => ?_)
  ·clear h
   refine G1 (fs hin hin') ?_; try with_reducible exact tt
   generalize d[i] = y at hy hyd ⊢
   have hmul := o_jw y g hy hg
   obtain ⟨hi', hhi⟩ : ∃ q, q = y * g / 18446744073709551616 := ⟨_, rfl⟩
   obtain ⟨lo, hlo⟩ : ∃ q, q = y * g % 18446744073709551616 := ⟨_, rfl⟩
   rw [← hhi, ← hlo] at hmul
   obtain ⟨hyg, hl0, hh0⟩ := o_lo hy hg hhi hlo
   clear hhi hlo
   obtain ⟨l2, k2, hl1, hll2, hk2⟩ : ∃ l2 k2 : Nat, lo + c + 0 = l2 + 18446744073709551616 * k2 ∧ l2 < 18446744073709551616 ∧ k2 ≤ 1 := ⟨(lo + c) % 18446744073709551616, (lo + c) / 18446744073709551616, by omega, by omega, by omega⟩
   obtain ⟨z, nb, hzb, hz, hnb⟩ : ∃ z nb : Nat, x + 18446744073709551616 * nb = z + l2 + b ∧ z < 18446744073709551616 ∧ nb ≤ 1 := by
    by_cases h : l2 + b ≤ x
    ·exact ⟨x - l2 - b, 0, by omega, by omega, by omega⟩
    ·exact ⟨x + 18446744073709551616 - l2 - b, 1, by omega, by omega, by omega⟩
   have w1 : IntKind.u64.wrap ((hi' : Int) + k2) = ((hi' + k2 : Nat) : Int) := wu64 (by omega) (by omega)
   have hround := o_l5 hv hyg (by omega : lo + c = l2 + 18446744073709551616 * k2) hzb
   have ht : g * wval (d.take (i + 1)) = g * (wval (d.take i) + 18446744073709551616 ^ i * y) := by rw [o_hd, ← hyd]
   have hut : wval (u.take (i + 1)) = wval (u.take i) + 18446744073709551616 ^ i * x := by rw [o_hd, ← hxd]
   have hsn : wval (l ++ [z]) = wval l + 18446744073709551616 ^ i * z := by rw [o_l3, hl]
   rw [← hsn, ← ht, ← hut, ← Nat.pow_succ] at hround
   have hhk : hi' + k2 < 18446744073709551616 := by omega
   refine CallS.pu (hmul) (R1 (fs hol (fs hget hki)) ?_); try with_reducible exact tt
   generalize hi' + k2 = hk at *
   refine CallS.pu (o_i3 lo c 0 l2 k2 hl0 hc (by omega) hll2 hl1) (R1 (fs w1 (fs hol (fs hget hki))) ?_); try with_reducible exact tt
   refine CallS.pu (o_i4 x l2 b z nb hx hll2 hb hz (by omega)) (R1 (fs hol (fs hki (fs hset e2))) ?_); try with_reducible exact tt
   refine ⟨i + 1, hk, nb, l ++ [z], ⟨hin, hhk, hnb, by simp [hl], o_l2 hsl hz, hround⟩, by omega, by simp, ?_⟩
   exact ⟨Subs.refl _, o_k5 _ _⟩
  ·simp [hin, hin'] at h
 ·have h2 : i = d.length := by omega
  subst h2
  rw [List.take_length] at hv
  obtain ⟨z, nb, hzb, hz, hnb⟩ : ∃ z nb : Nat, x + 18446744073709551616 * nb = z + c + b ∧ z < 18446744073709551616 ∧ nb ≤ 1 := by
   by_cases h : c + b ≤ x
   ·exact ⟨x - c - b, 0, by omega, by omega, by omega⟩
   ·exact ⟨x + 18446744073709551616 - c - b, 1, by omega, by omega, by omega⟩
  refine G0 ?_; try with_reducible exact tt
  refine AW.cond rfl (fun h => ?_) (fun h => ?_)
  ·simp at h
  refine AW.exit ?_
  (try (simp -implicitDefEqProofs; try simp (disch := omega) only [w64, wu64]))
  refine G1 (fs hol (fs hget hki)) ?_; try with_reducible exact tt
  refine CallS.pu (o_i4 x c b z nb hx hc hb hz (by omega)) (R1 (fs hol (fs hki hset)) ?_); try with_reducible exact tt
  have hux : wval u = wval (u.take d.length) + 18446744073709551616 ^ d.length * x := by
   rw [hxd, ← o_hd, List.take_of_length_le (by omega)]
  obtain ⟨hnb', hR⟩ := o_l7 (n := d.length) (by rw [o_l3, hl]) hv hux hzb hnb (o_l2 hsl hz) (by simp [hl]) hus hul
  rw [← hR]
  refine ⟨Sub1.int ?_, Subs.refl _⟩
  rw [hnb']
  split <;> rfl
end
end Go.Proofs.YtmpjlkclkhnpfaaGreatDoor.Am
namespace Go.Proofs.YtmpjlkclkhnpfaaGreatDoor.Am
section
open Go.RowKit
set_option maxHeartbeats 4000000 in
theorem o_lq (ws d : List Nat) (k : Nat) (hs : small ws) (hd : small d) (hd1 : 1 ≤ d.length) (hk : k + d.length + 1 ≤ ws.length) (hn : ws.length ≤ 1000000) (htop : d.getD (d.length - 1) 0 ≠ 0) (hU : wval ((ws.drop k).take (d.length + 1)) < wval d * 18446744073709551616) :
  Eqn Tryz.prog o_es [.row 0 k (d.length + 1), .d (W d)] [⟨194, uW ws⟩] (.d (.int .u64 (wval ((ws.drop k).take (d.length + 1)) / wval d : Nat))) [⟨194, uW (ovr ws k (wordsN (d.length + 1) (wval ((ws.drop k).take (d.length + 1)) % wval d)))⟩] := by
 refine Eqn.obj1 o_eu Plain.ok (o_ln _) ?_
 have htk := fun g hg => o_lp ws d k g hs hd hk hn hg
 obtain ⟨u, hu⟩ : ∃ u, u = (ws.drop k).take (d.length + 1) := ⟨_, rfl⟩
 have hul : u.length = d.length + 1 := by rw [hu]; exact o_l0 (by omega)
 have hus : small u := by rw [hu]; exact (o_l1 hs k).take _
 have hug : ∀ i, i < d.length + 1 → u.getD i 0 = ws.getD (k + i) 0 := fun i hi => by rw [hu]; exact o_kz hi
 simp only [takeR, ← hu] at htk hU ⊢
 obtain ⟨n, hdn⟩ : ∃ n, d.length = n + 1 := ⟨d.length - 1, by omega⟩
 have hgn := o_k3 (ws := ws) (j := k + d.length) (by omega)
 have hgm := o_k3 (ws := ws) (j := k + n) (by omega)
 rw [← hug _ (by omega)] at hgn hgm
 have hwl := o_k2 ws
 have hx1 := hus.getD d.length
 have hx0 := hus.getD n
 have hdt : d[n]? = some (d.getD n 0) := by rw [List.getD_eq_getElem?_getD, List.getElem?_eq_getElem (by omega)]; rfl
 have hdt2 : d[n]'(by omega) = d.getD n 0 := o_hx (by omega)
 have hdg := hd.getD n
 rw [hdn, Nat.add_sub_cancel] at htop
 have hUx : wval u / 18446744073709551616 ^ n = u.getD d.length 0 * 18446744073709551616 + u.getD n 0 := o_ld hus (by omega) hdn
 have hDt : d.getD n 0 * 18446744073709551616 ^ n ≤ wval d := o_lc (by omega)
 generalize u.getD d.length 0 = x1 at *
 generalize u.getD n 0 = x0 at *
 generalize hdd : d.getD n 0 = dt at *
 have hD0 : 0 < wval d := Nat.lt_of_lt_of_le (Nat.mul_pos (by omega) (Nat.pow_pos (by decide))) hDt
 have ed : IntKind.i64.wrap ((d.length : Int) - 1) = (n : Int) := by rw [w64 (by omega) (by omega)]; omega
 have hkd : ((k : Int) + d.length).toNat = k + d.length := by omega
 have hnd : (n : Int) < d.length := by omega
 have hnd' : n < d.length := by omega
 obtain ⟨g, hg, hgD, hgc⟩ : ∃ g : Nat, g ≤ 18446744073709551615 ∧ wval u / wval d ≤ g ∧ (if x1 < dt then g = (x1 * 18446744073709551616 + x0) / dt else g = 18446744073709551615) := by
  by_cases h : x1 < dt
  ·refine ⟨(x1 * 18446744073709551616 + x0) / dt, ?_, o_jb (B := 18446744073709551616) (by decide) (Nat.pow_pos (by decide)) hUx hDt (by omega), by rw [if_pos h]⟩
   have : (x1 * 18446744073709551616 + x0) / dt < 18446744073709551616 := by
    rw [Nat.div_lt_iff_lt_mul (by omega)]
    have : (x1 + 1) * 18446744073709551616 ≤ dt * 18446744073709551616 := Nat.mul_le_mul_right _ h
    omega
   omega
  ·refine ⟨18446744073709551615, by omega, ?_, by rw [if_neg h]⟩
   have : wval u / wval d < 18446744073709551616 := by rw [Nat.div_lt_iff_lt_mul hD0, Nat.mul_comm]; exact hU
   omega
 simp only [o_et, W] at htk ⊢
 repeat (first | refine AW.seq ?_ | refine AW.block ?_)
 refine AW.reg mix ?_
 (simp -implicitDefEqProofs; try simp (disch := omega) only [w64, wu64])
 try refine need.of (by first | omega | kernel_rfl) ?_
 repeat (first | refine AW.seq ?_ | refine AW.block ?_)
 refine AW.reg mix ?_
 (simp -implicitDefEqProofs; try simp (disch := omega) only [w64, wu64])
 try refine need.of (by first | omega | kernel_rfl) ?_
 repeat (first | refine AW.seq ?_ | refine AW.block ?_)
 refine AW.reg mix ?_
 (simp -implicitDefEqProofs; try simp (disch := omega) only [w64, wu64])
 try refine need.of (by first | omega | kernel_rfl) ?_
 refine AW.cut 1 [(6, .d (.int .u64 g))] [(0, ⟨194, uW ws⟩)] (by simp) (by simp) ?_ ?_
 ·by_cases hlt : x1 < dt
  ·rw [if_pos hlt] at hgc
   have hlt' : (x1 : Int) < dt := by omega
   refine G1 (fs hwl (fs hgn (fs hgm (fs ed (fs hkd (fs hnd (fs hnd' (fs hdt (fs hdt2 (fs hlt hlt')))))))))) ?_; try with_reducible exact tt
   refine AW.cond rfl (fun h => ?_) (fun h => ?_)
   ·have hdiv := o_jz x1 x0 dt hlt hx0 hdg
    rw [← hgc] at hdiv
    refine G1 (fs hwl (fs hgn (fs hgm (fs ed (fs hkd (fs hnd (fs hnd' hdt))))))) ?_; try with_reducible exact tt
    simp only [hdt2]
    refine CallS.pu (hdiv) (R0 ?_); try with_reducible exact tt
    exact o_k5 _ _
   ·simp [hlt, hlt'] at h
  ·rw [if_neg hlt] at hgc
   have hlt' : ¬ (x1 : Int) < dt := by omega
   refine G1 (fs hwl (fs hgn (fs hgm (fs ed (fs hkd (fs hnd (fs hnd' (fs hdt (fs hdt2 (fs hlt hlt')))))))))) ?_; try with_reducible exact tt
   refine AW.cond rfl (fun h => ?_) (fun h => ?_)
   ·simp [hlt, hlt'] at h
   ·refine AW.skip ?_
    subst hgc
    simp [o_k5]
 clear hgc
 have hDn : wval d < 18446744073709551616 ^ d.length := o_gu hd
 have hgM : g * wval d ≤ wval u + 18446744073709551616 ^ (d.length + 1) := by
  rw [Nat.pow_succ]
  have : g * wval d ≤ 18446744073709551616 * 18446744073709551616 ^ d.length := Nat.mul_le_mul (by omega) (by omega)
  rw [Nat.mul_comm _ 18446744073709551616]
  omega
 obtain ⟨t0, l0, ht0, hl0, hsl0, hv0, hE0⟩ : ∃ (t0 : Nat) (l0 : List Nat), t0 ≤ 1 ∧ l0.length = d.length + 1 ∧ small l0 ∧ wval l0 + g * wval d = wval u + 18446744073709551616 ^ (d.length + 1) * t0 ∧
   Eqn Tryz.prog o_f7 [.row 0 k (d.length + 1), .d (.sl d.length (d.map fun x : Nat => D.int .u64 x)), .d (.int .u64 g)] [⟨194, uW ws⟩] (.d (.int .i64 t0)) [⟨194, uW (ovr ws k l0)⟩] := by
  refine ⟨if wval u < g * wval d then 1 else 0, _, by split <;> omega, o_kn _ _, o_ko _ _, o_l8 hus hul hgM, ?_⟩
  have := htk g (by omega)
  rw [show ((if wval u < g * wval d then 1 else 0 : Nat) : Int) = if wval u < g * wval d then 1 else 0 by split <;> rfl]
  exact this
 clear htk hgM
 simp
 refine G0 ?_; try with_reducible exact tt
 refine CallS.o1 0 (hE0) (hO := o_ln _) (hO' := (o_ln _)) (R0 ?_); try with_reducible exact tt
 refine AW.loopT (α := Nat × Nat × List Nat) 1 (fun s => [(7, .d (.int .i64 (s.1 : Nat))), (6, .d (.int .u64 (s.2.1 : Nat)))]) (fun s => [(0, ⟨194, uW (ovr ws k s.2.2)⟩)]) (fun s => s.1 ≤ 1 ∧ s.2.1 ≤ 18446744073709551615 ∧ wval u / wval d ≤ s.2.1 ∧ s.2.2.length = d.length + 1 ∧ small s.2.2 ∧ wval s.2.2 + s.2.1 * wval d = wval u + 18446744073709551616 ^ (d.length + 1) * s.1) (fun s => s.2.1) (t0, g, l0) ?_ ?_ ⟨ht0, hg, hgD, hl0, hsl0, hv0⟩ ?_ ?_ ?_
 ·simp
 ·simp
 ·simp
 ·simp [o_k5]
 clear hE0 hl0 hsl0 hv0 ht0 hg hgD
 rintro ⟨t, g, l⟩ ⟨ht, hg, hgD, hl, hsl, hv⟩
 simp only at ht hg hgD hl hsl hv
 simp
 rcases (by omega : t = 0 ∨ t = 1) with rfl | rfl
 ·rw [Nat.mul_zero, Nat.add_zero] at hv
  obtain ⟨hq, hr⟩ := o_jd hD0 hgD hv
  have hlw := o_kr hsl hl hr.symm
  refine G0 ?_; try with_reducible exact tt
  refine AW.cond rfl (fun h => ?_) (fun h => ?_)
  ·simp at h
  refine AW.exit ?_
  (try (simp -implicitDefEqProofs; try simp (disch := omega) only [w64, wu64]))
  refine G0 ?_; try with_reducible exact tt
  rw [← hlw]
  refine ⟨Sub1.int ?_, Subs.refl _⟩
  rw [← hq]; rfl
 ·rw [Nat.mul_one] at hv
  obtain ⟨hg0, hn1, hn2⟩ := o_jc (P := 18446744073709551616 ^ d.length) (by rw [Nat.pow_succ, Nat.mul_comm]) hDn hD0 hg (by rw [← hl]; exact o_gu hsl) hv
  have ew : IntKind.u64.wrap ((g : Int) - 1) = ((g - 1 : Nat) : Int) := by rw [wu64 (by omega) (by omega)]; omega
  refine G1 ew ?_; try with_reducible exact tt
  refine AW.cond rfl (fun h => ?_) (fun h => ?_)
  rotate_left
  ·simp at h
  refine G1 ew ?_; try with_reducible exact tt
  have hwlen : (ovr ws k l).length = ws.length := o_ks (by omega)
  have hlg : ∀ j, j < d.length + 1 → (ovr ws k l).getD (k + j) 0 = l.getD j 0 := fun j hj => o_l9 (by omega) (by omega)
  have hws1 : small (ovr ws k l) := o_kt hs hsl
  have hoo : ∀ r, r.length = d.length + 1 → ovr (ovr ws k l) k r = ovr ws k r := fun r hr => o_kx (by omega) (by omega)
  refine AW.loopT (α := Nat × Nat × List Nat) 1 (fun s => [(53, .d (.int .i64 (s.1 : Nat))), (8, .d (.int .u64 (s.2.1 : Nat)))]) (fun s => [(0, ⟨194, uW (ovr (ovr ws k l) k s.2.2)⟩)]) (fun s => s.1 ≤ d.length ∧ s.2.1 ≤ 1 ∧ s.2.2.length = s.1 ∧ small s.2.2 ∧ wval s.2.2 + 18446744073709551616 ^ s.1 * s.2.1 = wval (l.take s.1) + wval (d.take s.1)) (fun s => d.length - s.1) (0, 0, []) ?_ ?_ ⟨Nat.zero_le _, by simp, rfl, o_l4, by simp [wval]⟩ ?_ ?_ ?_
  ·simp
  ·simp
  ·simp
  ·simp [o_k5, o_ku]
  rintro ⟨j, c, r⟩ ⟨hj, hc, hr, hsr, hv2⟩
  simp only at hj hc hr hsr hv2
  simp
  have hol : (uW (ovr (ovr ws k l) k r)).length = ws.length := by rw [o_k2, o_ks (by omega), hwlen]
  have hget := o_k3 (ws := ovr (ovr ws k l) k r) (j := k + j) (by rw [← o_k2, hol]; omega)
  have hnx := o_kv (ws := ovr ws k l) (k := k) (l := r) (by omega)
  rw [hr] at hnx
  rw [hnx, hlg j (by omega)] at hget
  have hx := hsl.getD j
  have hset : ∀ v : Nat, (uW (ovr (ovr ws k l) k r)).set (k + j) (.d (.int .u64 v)) = uW (ovr (ovr ws k l) k (r ++ [v])) := fun v => by rw [o_k4, ← hr, o_kw (by omega)]
  have hkj : ((k : Int) + j).toNat = k + j := by omega
  obtain ⟨x, hxd⟩ : ∃ x, x = l.getD j 0 := ⟨_, rfl⟩
  rw [← hxd] at hget hx
  by_cases hjn : j < d.length
  ·have hjn' : (j : Int) < d.length := by omega
   have hy : d[j] < 18446744073709551616 := hd _ (List.getElem_mem _)
   have hyd : d[j] = d.getD j 0 := o_hx hjn
   have e2 : IntKind.i64.wrap ((j : Int) + 1) = ((j + 1 : Nat) : Int) := by rw [w64 (by omega) (by omega)]; omega
   refine G1 (fs hjn hjn') ?_; try with_reducible exact tt
   refine AW.cond rfl (fun h => ?_) (fun h => ?_)
   rotate_left
   ·simp [hjn, hjn'] at h
   clear h
   refine G1 (fs hjn (fs hjn' (fs hol (fs hget hkj)))) ?_; try with_reducible exact tt
   generalize d[j] = y at hy hyd ⊢
   obtain ⟨z, nc, hzc, hz, hnc⟩ : ∃ z nc : Nat, x + y + c = z + 18446744073709551616 * nc ∧ z < 18446744073709551616 ∧ nc ≤ 1 := ⟨(x + y + c) % 18446744073709551616, (x + y + c) / 18446744073709551616, by omega, by omega, by omega⟩
   have hround := o_la hv2 hzc
   rw [show wval r + 18446744073709551616 ^ j * z = wval (r ++ [z]) by rw [o_l3, hr], show wval (l.take j) + 18446744073709551616 ^ j * x = wval (l.take (j + 1)) by rw [o_hd, ← hxd], show wval (d.take j) + 18446744073709551616 ^ j * y = wval (d.take (j + 1)) by rw [o_hd, ← hyd], ← Nat.pow_succ] at hround
   refine CallS.pu (o_i3 x y c z nc hx hy hc hz hzc) (R1 (fs hol (fs hkj (fs hset e2))) ?_); try with_reducible exact tt
   exact ⟨j + 1, nc, r ++ [z], ⟨hjn, hnc, by simp [hr], o_l2 hsr hz, hround⟩, by omega, by simp, Subs.refl _, o_k5 _ _⟩
  ·have h2 : j = d.length := by omega
   subst h2
   rw [List.take_length] at hv2
   have hlx : wval l = wval (l.take d.length) + 18446744073709551616 ^ d.length * x := by rw [hxd, ← o_hd, List.take_of_length_le (by omega)]
   obtain ⟨v, nv, hvc, hvl, hnv⟩ : ∃ v nv : Nat, x + c = v + 18446744073709551616 * nv ∧ v < 18446744073709551616 ∧ nv ≤ 1 := ⟨(x + c) % 18446744073709551616, (x + c) / 18446744073709551616, by omega, by omega, by omega⟩
   have wv : IntKind.u64.wrap ((x : Int) + c) = (v : Int) := by rw [IntKind.wrap_u64]; omega
   have hrv : (r ++ [v]).length = d.length + 1 := by simp [hr]
   have hsum := o_lb (p := 18446744073709551616 ^ d.length) (wr := wval r) (c := c) (x := x) hv2 hlx hvc
   rw [show wval r + 18446744073709551616 ^ d.length * v = wval (r ++ [v]) by rw [o_l3, hr], ← Nat.pow_succ] at hsum
   have hrlt := o_gu (o_l2 hsr hvl)
   rw [hrv] at hrlt
   replace hset := hset v
   rw [hoo _ hrv] at hset
   have hget2 := o_k3 (ws := ovr ws k (r ++ [v])) (j := k + d.length) (by rw [o_ks (by omega)]; omega)
   rw [o_l9 (by omega) (by omega), show (r ++ [v]).getD d.length 0 = v by rw [← hr]; simp] at hget2
   refine G0 ?_; try with_reducible exact tt
   refine AW.cond rfl (fun h => ?_) (fun h => ?_)
   ·simp at h
   refine AW.exit ?_
   (try (simp -implicitDefEqProofs; try simp (disch := omega) only [w64, wu64]))
   have hol2 : (uW (ovr ws k (r ++ [v]))).length = ws.length := by rw [o_k2, o_ks (by omega)]
   have hsr2 := o_l2 hsr hvl
   generalize hr2 : r ++ [v] = r2 at *
   have hrw : wval r < 18446744073709551616 ^ d.length := by rw [← hr]; exact o_gu hsr
   have hrw2 : wval r2 = wval r + 18446744073709551616 ^ d.length * v := by rw [← hr2, o_l3, hr]
   by_cases hv0 : v = 0
   ·subst hv0
    have hnv1 : nv = 1 := by
     rcases (by omega : nv = 0 ∨ nv = 1) with rfl | h
     ·exfalso
      rw [Nat.mul_zero, Nat.add_zero] at hsum
      rw [Nat.mul_zero, Nat.add_zero] at hrw2
      have := (hn2 (by omega)).2
      omega
     ·exact h
    subst hnv1
    rw [Nat.mul_one] at hsum
    obtain ⟨k1, k2, k3, -⟩ := hn1 (by omega)
    simp at hset hget2 wv
    refine G1 (fs hol (fs hget (fs hkj (fs wv (fs hset (fs hget2 hol2)))))) ?_; try with_reducible exact tt
    refine AW.cond rfl (fun h => ?_) (fun h => ?_)
    ·simp at h
    repeat (first | refine AW.seq ?_ | refine AW.block ?_ | (refine AW.reg mix ?_; simp -implicitDefEqProofs; try simp (disch := omega) only [w64, wu64]) | (refine need.of (by first | omega | kernel_rfl) ?_) | (refine AW.fin ?_; try simp -implicitDefEqProofs))
    (try (simp -implicitDefEqProofs; try simp (disch := omega) only [w64, wu64]))
    repeat (first | refine AW.seq ?_ | refine AW.block ?_ | (refine AW.reg mix ?_; simp -implicitDefEqProofs; try simp (disch := omega) only [w64, wu64]) | (refine need.of (by first | omega | kernel_rfl) ?_) | (refine AW.fin ?_; try simp -implicitDefEqProofs))
    refine ⟨0, g - 1, r2, ⟨by omega, by omega, by omega, hrv, hsr2, ?_⟩, by omega, by simp, ?_⟩
    ·rw [Nat.mul_zero, Nat.add_zero, ← k1]; omega
    ·exact ⟨Subs.refl _, o_k5 _ _⟩
   ·have hnv0 : nv = 0 := by omega
    subst hnv0
    rw [Nat.mul_zero, Nat.add_zero] at hsum
    obtain ⟨k1, k2⟩ := hn2 (by omega)
    refine G1 (fs hol (fs hget (fs hkj (fs wv (fs hset (fs hget2 (fs hol2 hv0))))))) ?_; try with_reducible exact tt
    refine AW.cond rfl (fun h => ?_) (fun h => ?_)
    rotate_left
    ·simp [hv0] at h
    repeat (first | refine AW.seq ?_ | refine AW.block ?_ | (refine AW.reg mix ?_; simp -implicitDefEqProofs; try simp (disch := omega) only [w64, wu64]) | (refine need.of (by first | omega | kernel_rfl) ?_) | (refine AW.fin ?_; try simp -implicitDefEqProofs))
    (try (simp -implicitDefEqProofs; try simp (disch := omega) only [w64, wu64]))
    repeat (first | refine AW.seq ?_ | refine AW.block ?_ | (refine AW.reg mix ?_; simp -implicitDefEqProofs; try simp (disch := omega) only [w64, wu64]) | (refine need.of (by first | omega | kernel_rfl) ?_) | (refine AW.fin ?_; try simp -implicitDefEqProofs))
    refine ⟨1, g - 1, r2, ⟨by omega, by omega, ?_, hrv, hsr2, ?_⟩, by omega, by simp, ?_⟩
    ·exact Nat.div_le_of_le_mul (by rw [Nat.mul_comm]; omega)
    ·omega
    ·exact ⟨Subs.refl _, o_k5 _ _⟩
end
end Go.Proofs.YtmpjlkclkhnpfaaGreatDoor.Am
namespace Go.Proofs.YtmpjlkclkhnpfaaGreatDoor.Am
section
open Go.RowKit
set_option maxHeartbeats 1000000 in
theorem o_lr (A : List Nat) (k : Nat) (hk : k < 64) (hs : small A) (hn : A.length ≤ 1000000) : Eqn Tryz.prog o_ep [.d (W A), .d (.int .i64 k)] [] (.own 0 1 (A.length + 1)) [⟨194, uW (movedL k 0 A)⟩] := by
 refine Eqn.gen [0] o_er (by simp) (by simp) (by rfl) (by decide) (by simp) (by simp [o_k5]) ?_
 simp only [o_eq, W]
 refine G0 ?_; try with_reducible exact tt
 rw [show List.replicate (A.length + 1) (V.d (.int .u64 0)) = cellM k A 0 by rw [cellM, o_im]; simp [U]]
 have hlow : ∀ i, V.lowl 1 (cellM k A i) = true := fun i => o_iq 1 _
 refine AW.loopT (α := Nat) 1 (fun i => [(14, .d (.int .i64 (i : Int)))]) (fun i => [(0, ⟨194, cellM k A i⟩)]) (fun i => i ≤ A.length) (fun i => A.length - i) 0 ?_ ?_ (Nat.zero_le _) ?_ ?_ ?_
 ·simp
 ·simp
 ·simp
 ·simp [hlow]
 rintro i hi
 simp
 by_cases h : i = A.length
 ·subst h
  refine G0 ?_; try with_reducible exact tt
  refine AW.cond rfl (fun h => ?_) (fun h => ?_)
  ·simp at h
  refine AW.exit ?_
  (try (simp -implicitDefEqProofs; try simp (disch := omega) only [w64, wu64]))
  rw [cellM, o_in]
  repeat (first | refine AW.seq ?_ | refine AW.block ?_ | (refine AW.reg mix ?_; simp -implicitDefEqProofs [uW]; try simp (disch := omega) only [w64, wu64]) | (refine need.of (by first | omega | kernel_rfl) ?_) | (refine AW.fin ?_; try simp -implicitDefEqProofs [uW]))
  rw [show U (movedL k 0 A) = uW (movedL k 0 A) from rfl, o_lm]
  exact Subs.refl _
 ·have hi' : i < A.length := by omega
  have hp : (i : Int) < A.length := by omega
  obtain ⟨c, y, u, hl, hq, hor, hw, hd, hset⟩ : ∃ c z u : Nat, (cellM k A i).length = A.length + 1 ∧ (cellM k A i)[i]? = some (.d (.int .u64 c)) ∧ bits BinOp.or IntKind.u64 (c : Int) (IntKind.u64.wrap ((A[i] : Int) * 2 ^ k)) = (z : Int) ∧
    True ∧ (A[i] : Int) / 2 ^ (64 - k) = (u : Int) ∧ ((cellM k A i).set i (.d (.int .u64 z))).set (i + 1) (.d (.int .u64 u)) = cellM k A (i + 1) := by
   have hl := o_il k A i hi
   have hc := o_h8 (k := k) (l := A.take i) (c := 0) (hs.take i) (Nat.two_pow_pos k)
   have hset := o_ip k A i hi'
   rw [← o_hx hi'] at hset
   refine ⟨movedC k 0 (A.take i), A[i] * 2 ^ k % 18446744073709551616 + movedC k 0 (A.take i), A[i] * 2 ^ k / 18446744073709551616, by simp [cellM, U, hl], ?_, ?_, trivial, ?_, ?_⟩
   ·have := o_io k A i hi'
    rw [List.getD, List.getElem?_eq_getElem (by omega)] at this
    rw [cellM, U, List.getElem?_map, List.getElem?_eq_getElem (by omega)]
    simp at this
    simp [this]
   ·rw [show IntKind.u64.wrap ((A[i] : Int) * 2 ^ k) = ((A[i] * 2 ^ k % 18446744073709551616 : Nat) : Int) by rw [IntKind.wrap_u64, Int.natCast_emod, Int.natCast_mul, Int.natCast_pow]; rfl]
    rw [bits_or_u64_nat _ _ (Nat.lt_of_lt_of_le hc (by rw [show (18446744073709551616 : Nat) = 2 ^ 64 by rfl]; exact Nat.pow_le_pow_right (by decide) (by omega))) (Nat.mod_lt _ (by decide)), o_h9 hk hc]
   ·rw [o_ha (by omega), Int.natCast_ediv, Int.natCast_pow]; rfl
   ·rw [cellM, cellM, ← hset, U, U, List.map_set, List.map_set]
  have hn : ((64 : Int) - k).toNat = 64 - k := by omega
  have e1 : IntKind.i64.wrap ((i : Int) + 1) = (i : Int) + 1 := w64 (by omega) (by omega)
  have e2 : IntKind.i64.wrap ((64 : Int) - k) = (64 : Int) - k := w64 (by omega) (by omega)
  generalize cellM k A i = cm at hl hq hset
  refine G1 (fs hi' hp) ?_; try with_reducible exact tt
  refine AW.cond rfl (fun h => ?_) (fun h => ?_)
  ·clear h
   refine G1 (fs hi' (fs hp (fs hl (fs hq (fs hor (fs e1 (fs e2 (fs hn (fs hd hset))))))))) ?_; try with_reducible exact tt
   exact ⟨i + 1, by omega, by omega, by simp [wk], by simp [wkH, hlow]⟩
  ·simp at h

theorem o_ls (n s : Nat) (ds : List D) (ws : List Nat) : V.frzs n s ds (uW ws) = uW ws := by
 rw [o_53, uW, U, List.map_map]; rfl
theorem uW_d (ws : List Nat) : uW ws = (ws.map fun x : Nat => D.int .u64 x).map V.d := by rw [List.map_map]; rfl

set_option maxHeartbeats 4000000 in
theorem o_lt (a b : Nat) (hb : 18446744073709551616 ≤ b) (hab : b ≤ a) (ha : size a ≤ 900000) : Eqn Tryz.prog o_dm [.d (.agg [natW a]), .d (.agg [natW b])] [] (.tup [.d (.agg [natW (a / b)]), .d (.agg [natW (a % b)]), .d (.int .i64 0)]) [] := by
 refine Eqn.pure o_do Plain.ok ?_
 have hba := o_ij hab
 unfold size at ha hba
 have hsA := o_hq a
 have hsB := o_hq b
 have htB := o_hr b
 have hvA := o_hp a
 have hvB := o_hp b
 have hB2 : 2 ≤ (words b).length := by
  rcases Nat.lt_or_ge (words b).length 2 with h | h
  ·exfalso
   have := o_gu hsB
   rw [hvB] at this
   have h2 : 18446744073709551616 ^ (words b).length ≤ 18446744073709551616 ^ 1 := Nat.pow_le_pow_right (by decide) (by omega)
   omega
  ·exact h
 simp only [o_dn, natW, W]
 generalize words a = A at *
 generalize words b = Bw at *
 obtain ⟨n, hn⟩ : ∃ n, Bw.length = n + 1 := ⟨Bw.length - 1, by omega⟩
 have htop := htB n hn
 have htl := hsB.getD n
 have hget : Bw[n]'(by omega) = Bw.getD n 0 := o_hx (by omega)
 have hlead := o_jk (Bw.getD n 0) htl
 have e1 : IntKind.i64.wrap ((Bw.length : Int) - 1) = (n : Int) := by rw [w64 (by omega) (by omega)]; omega
 have hnB : n < Bw.length := by omega
 have hnB' : (n : Int) < Bw.length := by omega
 generalize Bw.getD n 0 = top at *
 obtain ⟨s, hs⟩ : ∃ s, s = 64 - bitsN top := ⟨_, rfl⟩
 rw [← hs] at hlead
 have hs64 : s < 64 := by have := (o_j3 (n := top) (by omega)).2; omega
 have hmB := o_ir Bw s hs64 hsB (by omega)
 have hmA := o_lr A s hs64 hsA (by omega)
 simp only [W, o_h0] at hmB
 refine G1 (fs e1 (fs hnB (fs hnB' hget))) ?_; try with_reducible exact tt
 refine CallS.pu (hlead) (R1 (fs e1 (fs hnB (fs hnB' hget))) ?_); try with_reducible exact tt
 refine CallS.pu (hmB) (R1 (fs e1 (fs hnB (fs hnB' hget))) ?_); try with_reducible exact tt
 have hlm : (A.length : Int) + 1 - Bw.length = ((A.length - n : Nat) : Int) := by omega
 have hlm2 : IntKind.i64.wrap ((A.length : Int) + 1 - Bw.length) = ((A.length - n : Nat) : Int) := by rw [w64 (by omega) (by omega), hlm]
 have hlm3 : IntKind.i64.wrap (((A.length - n : Nat) : Int) - 1) = ((A.length - n : Nat) : Int) - 1 := w64 (by omega) (by omega)
 refine CallS.nX (hmA) (hO' := (o_ln _)) (R1 (fs e1 (fs hnB (fs hnB' (fs hget (fs hlm2 hlm3))))) ?_); try with_reducible exact tt
 have hnA : n + 1 ≤ A.length := by omega
 have hbn : 18446744073709551616 ^ n ≤ wval Bw := by
  have h1 := o_lc (d := Bw) (n := n) hnB
  rw [o_hx hnB] at hget
  rw [hget] at h1
  have : 1 * 18446744073709551616 ^ n ≤ top * 18446744073709551616 ^ n := Nat.mul_le_mul_right _ (by omega)
  omega
 have hD2 : wval Bw * 2 ^ s < 18446744073709551616 ^ Bw.length := by
  have h1 := o_hd Bw n
  rw [List.take_of_length_le (by omega)] at h1
  rw [o_hx hnB] at hget
  rw [hget] at h1
  have h2 := o_hm hsB n
  have h3 : top < 2 ^ bitsN top := o_j0 top
  have h4 : wval Bw < 2 ^ bitsN top * 18446744073709551616 ^ n := by
   have : (top + 1) * 18446744073709551616 ^ n ≤ 2 ^ bitsN top * 18446744073709551616 ^ n := Nat.mul_le_mul_right _ h3
   rw [Nat.add_mul, Nat.one_mul, Nat.mul_comm top] at this
   omega
  have h5 : wval Bw * 2 ^ s < 2 ^ bitsN top * 18446744073709551616 ^ n * 2 ^ s := Nat.mul_lt_mul_of_pos_right h4 (Nat.two_pow_pos s)
  have h6 : 2 ^ bitsN top * 18446744073709551616 ^ n * 2 ^ s = 18446744073709551616 ^ Bw.length := by
   have hb64 : bitsN top ≤ 64 := o_j1 htl
   rw [Nat.mul_right_comm, ← Nat.pow_add, show bitsN top + s = 64 by omega, hn, Nat.pow_succ, Nat.mul_comm]
   rfl
  omega
 have hDv := o_ll hD2
 have hsd : small ((movedL s 0 Bw).take Bw.length) := (o_h2 hs64 hsB (Nat.two_pow_pos s)).take _
 have hdl : ((movedL s 0 Bw).take Bw.length).length = n + 1 := by rw [List.length_take, o_h0]; omega
 have hU0 := o_h1 s A 0
 have hsU : small (movedL s 0 A) := o_h2 hs64 hsA (Nat.two_pow_pos s)
 have hlU := o_h0 s A 0
 rw [Nat.add_zero] at hU0
 have hp2 := Nat.two_pow_pos s
 have hD0 : 18446744073709551616 ^ n * 2 ^ s ≤ wval Bw * 2 ^ s := Nat.mul_le_mul_right _ hbn
 have hDpos : 0 < wval Bw * 2 ^ s := Nat.lt_of_lt_of_le (Nat.mul_pos (Nat.pow_pos (by decide)) hp2) hD0
 simp only [← List.map_take]
 generalize hdd : (movedL s 0 Bw).take Bw.length = d at *
 generalize hUU : movedL s 0 A = u0 at *
 have hdtop : d.getD (d.length - 1) 0 ≠ 0 := by
  intro h0
  have h1 := o_hd d n
  have he : d.take (n + 1) = d := List.take_of_length_le (by omega)
  rw [he] at h1
  rw [hdl, Nat.add_sub_cancel] at h0
  rw [h0, Nat.mul_zero, Nat.add_zero] at h1
  have h2 := o_hm hsd n
  have h3 : 18446744073709551616 ^ n * 1 ≤ 18446744073709551616 ^ n * 2 ^ s := Nat.mul_le_mul_left _ hp2
  omega
 generalize hm : A.length - n = m at *
 have hstart : wval ((u0.drop m).take (n + 1)) < wval d := by
  have h1 := o_lf (ws := u0) m (n + 1) (by omega)
  rw [List.take_of_length_le (by omega), hU0] at h1
  have h2 := o_gu hsA
  have h3 : wval A * 2 ^ s < 18446744073709551616 ^ A.length * 2 ^ s := Nat.mul_lt_mul_of_pos_right h2 hp2
  rw [hDv]
  refine Nat.lt_of_lt_of_le ?_ hD0
  have h4 : 18446744073709551616 ^ A.length = 18446744073709551616 ^ m * 18446744073709551616 ^ n := by rw [← Nat.pow_add]; congr 1; omega
  rw [h4, Nat.mul_assoc] at h3
  have h5 : 18446744073709551616 ^ m * wval ((u0.drop m).take (n + 1)) < 18446744073709551616 ^ m * (18446744073709551616 ^ n * 2 ^ s) := by omega
  exact Nat.lt_of_mul_lt_mul_left h5
 have hdlt : wval d < 18446744073709551616 ^ (n + 1) := by rw [← hdl]; exact o_gu hsd
 have htkall : u0.take (m + (n + 1)) = u0 := List.take_of_length_le (by omega)
 have hdB : d.length = Bw.length := by omega
 rw [show List.replicate m (V.d (.int .u64 0)) = uW (List.replicate m 0 ++ []) by simp [uW, U]]
 refine AW.loopT (α := Nat × List Nat × List Nat) 6 (fun s => [(12, .d (.int .i64 ((s.1 : Int) - 1)))]) (fun s => [(4, ⟨194, uW s.2.1⟩), (5, ⟨194, uW (List.replicate s.1 0 ++ s.2.2)⟩)]) (fun s => s.1 ≤ m ∧ s.2.1.length = A.length + 1 ∧ small s.2.1 ∧ s.2.2.length = m - s.1 ∧ small s.2.2 ∧ wval u0 = wval (s.2.1.take (s.1 + (n + 1))) + wval d * (18446744073709551616 ^ s.1 * wval s.2.2) ∧ wval ((s.2.1.drop s.1).take (n + 1)) < wval d) (fun s => s.1) (m, u0, []) ?_ ?_ ⟨Nat.le_refl _, hlU, hsU, by simp, o_l4, by rw [htkall]; simp [wval], hstart⟩ ?_ ?_ ?_
 ·simp
 ·simp
 ·simp
 ·simp [o_k5]
 clear hstart hsU hlU
 rintro ⟨kk, ws, q⟩ ⟨hkm, hwl, hws, hql, hsq, hv, hlt⟩
 simp only at hkm hwl hws hql hsq hv hlt
 simp
 cases kk with
 | zero =>
  refine G0 ?_; try with_reducible exact tt
  refine AW.cond rfl (fun h => ?_) (fun h => ?_)
  ·simp at h
  refine AW.exit ?_
  (try (simp -implicitDefEqProofs; try simp (disch := omega) only [w64, wu64]))
  rw [Nat.zero_add, Nat.pow_zero, Nat.one_mul] at hv
  rw [List.drop_zero] at hlt
  rw [Nat.sub_zero] at hql
  have hdp : 0 < wval d := by omega
  have hqv : wval q = wval u0 / wval d := by rw [hv, Nat.add_mul_div_left _ _ hdp, Nat.div_eq_of_lt hlt, Nat.zero_add]
  have hrv : wval (ws.take (n + 1)) = wval u0 % wval d := by rw [hv, Nat.add_mul_mod_self_left, Nat.mod_eq_of_lt hlt]
  obtain ⟨k1, k2⟩ := o_ja (n := wval A) (y := wval Bw) (s := s)
  rw [hU0, hDv] at hqv hrv
  rw [k1] at hqv
  have ht1 := o_hy q hsq (by omega)
  have ht2 := o_hy (ws.take (n + 1)) (hws.take _) (by rw [List.length_take]; omega)
  have hl2 : (ws.take (n + 1)).length = n + 1 := by rw [List.length_take]; omega
  have hsz : size (wval (ws.take (n + 1))) ≤ 1000000 := Nat.le_trans (o_hb (o_hr _) (m := n + 1) (by rw [o_hp]; have := o_gu (hws.take (n + 1)); rw [hl2] at this; exact this)) (by omega)
  have ht3 := o_ju (wval (ws.take (n + 1))) s hsz (by omega)
  rw [hrv, k2, ← hrv] at ht3
  rw [hqv] at ht1
  simp only [natW, W, hql, hl2] at ht1 ht2 ht3
  refine AW.freeze 4 1 ⟨194, uW ws⟩ (ws.map fun x : Nat => D.int .u64 x) (by rfl) (uW_d ws) ?_
  simp [o_ls]
  refine AW.freeze 5 1 ⟨194, uW q⟩ (q.map fun x : Nat => D.int .u64 x) (by rfl) (uW_d q) ?_
  have hqt : q.take m = q := List.take_of_length_le (by omega)
  have hwt : ws.take (A.length + 1) = ws := List.take_of_length_le (by omega)
  have hnAl : (Bw.length : Int) ≤ (A.length : Int) + 1 := by omega
  simp [o_ls, ← List.map_take, hqt, hwt]
  refine G1 hnAl ?_; try with_reducible exact tt
  refine CallS.pu (ht1) (R1 hnAl ?_); try with_reducible exact tt
  rw [← List.map_take, hn]
  refine CallS.pu (ht2) (R0 ?_); try with_reducible exact tt
  refine CallS.pu (ht3) (R0 ?_); try with_reducible exact tt
  rw [hvA, hvB]
  exact Sub1.refl _
 | succ k =>
  have hg0 : (0 : Int) ≤ k := by omega
  refine G1 hg0 ?_; try with_reducible exact tt
  refine AW.cond rfl (fun h => ?_) (fun h => ?_)
  rotate_left
  ·simp at h
  have w1 : IntKind.i64.wrap ((k : Int) + Bw.length) = (k : Int) + Bw.length := w64 (by omega) (by omega)
  have w2 : IntKind.i64.wrap ((k : Int) + Bw.length + 1) = (k : Int) + Bw.length + 1 := w64 (by omega) (by omega)
  have w3 : ((k : Int) + Bw.length + 1).toNat - k = Bw.length + 1 := by omega
  have w4 : IntKind.i64.wrap ((k : Int) - 1) = (k : Int) - 1 := w64 (by omega) (by omega)
  have hc1 : (k : Int) ≤ (k : Int) + Bw.length + 1 := by omega
  have hc2 : (k : Int) + Bw.length + 1 ≤ (A.length : Int) + 1 := by omega
  have hseg := o_li (ws := ws) (k := k) (m := n + 1) (by omega)
  have hxk := hws.getD k
  have hS : wval ((ws.drop k).take (d.length + 1)) < wval d * 18446744073709551616 := by
   rw [hdl, hseg]; omega
  have hdig := o_lq ws d k hws hsd (by omega) (by omega) (by omega) hdtop hS
  simp only [W] at hdig
  rw [hdB] at hdig hS
  obtain ⟨S, hSd⟩ : ∃ S, S = wval ((ws.drop k).take (Bw.length + 1)) := ⟨_, rfl⟩
  have hvs := o_lf (ws := ws) k (Bw.length + 1) (by omega)
  rw [← hSd] at hdig hS hvs
  rw [show k + 1 + (n + 1) = k + (Bw.length + 1) by omega] at hv
  have hround := o_le (Bk := 18446744073709551616 ^ k) (S := S) (Q := wval q) (D := wval d) (W1 := wval (ws.take k)) (U0 := wval u0) (BQ := 18446744073709551616 ^ (k + 1) * wval q) (by rw [hv, ← hvs]) (by rw [Nat.pow_succ])
  have hdp : 0 < wval d := by omega
  have hmodl : S % wval d < wval d := Nat.mod_lt _ hdp
  have hlow := o_lj (ws := ws) (k := k) (n := Bw.length) (x := S % wval d) (by omega) (by rw [hn]; exact Nat.lt_trans hmodl hdlt)
  have hwn := o_kn (Bw.length + 1) (S % wval d)
  have hwlen : (ovr ws k (wordsN (Bw.length + 1) (S % wval d))).length = ws.length := o_ks (by omega)
  have hsm := o_kt (k := k) hws (o_ko (Bw.length + 1) (S % wval d))
  have hseg2 := o_lf (ws := ovr ws k (wordsN (Bw.length + 1) (S % wval d))) k Bw.length (by omega)
  rw [o_lh (by omega), hlow] at hseg2
  have hqd : S / wval d < 18446744073709551616 := by rw [Nat.div_lt_iff_lt_mul hdp, Nat.mul_comm]; exact hS
  have hset : (uW (List.replicate (k + 1) 0 ++ q)).set k (.d (.int .u64 (S / wval d : Nat))) = uW (List.replicate k 0 ++ (S / wval d) :: q) := by rw [o_k4, o_lk]
  have hol : (uW (List.replicate (k + 1) 0 ++ q)).length = m := by rw [o_k2]; simp; omega
  generalize ovr ws k (wordsN (Bw.length + 1) (S % wval d)) = ws' at *
  generalize S / wval d = q0 at *
  refine G1 (fs w1 (fs w2 (fs w3 (fs hg0 (fs hc1 hc2))))) ?_; try with_reducible exact tt
  refine CallS.o1 4 (hdig) (hO := o_ln _) (hO' := (o_ln _)) (R1 (fs hol (fs hset w4)) ?_); try with_reducible exact tt
  refine ⟨k, ws', q0 :: q, ⟨by omega, by omega, hsm, by simp [hql]; omega, fun y hy => ?_, ?_, ?_⟩, by omega, by simp, ⟨Subs.refl _, o_k5 _ _⟩, Subs.refl _, o_k5 _ _⟩
  ·rcases List.mem_cons.1 hy with rfl | hy
   ·exact hqd
   ·exact hsq y hy
  ·rw [← hn, hseg2]; exact hround
  ·rw [← hn, hlow]; exact hmodl
end
end Go.Proofs.YtmpjlkclkhnpfaaGreatDoor.Am
namespace Go.Proofs.YtmpjlkclkhnpfaaGreatDoor.Am
section
open Go.RowKit
theorem o_lu (a b : Nat) (ha : size a ≤ 900000) (h0 : 0 < b) (hbs : size b ≤ 900000) : Eqn Tryz.prog o_by [.d (.agg [natW a]), .d (.agg [natW b])] [] (.tup [.d (.agg [natW (a / b)]), .d (.agg [natW (a % b)]), .d (.int .i64 0)]) [] := by
 by_cases hsm : b < 18446744073709551616 ∨ a < b
 ·exact o_km a b (by omega) h0 hsm (by omega)
 ·have hb1 : 18446744073709551616 ≤ b := by omega
  have hab : b ≤ a := by omega
  refine Eqn.pure o_c0 (o_if _ _ _) ?_
  have hlong := o_lt a b hb1 hab ha
  have hz : (b == 0) = false := by simp; omega
  have hsz : 2 ≤ (words b).length := by
   rcases Nat.lt_or_ge (words b).length 2 with h | h
   ·exfalso
    have := o_gu (o_hq b)
    rw [o_hp] at this
    have h2 : 18446744073709551616 ^ (words b).length ≤ 18446744073709551616 ^ 1 := Nat.pow_le_pow_right (by decide) (by omega)
    omega
   ·exact h
  obtain ⟨bn, bl, e', hbn⟩ : ∃ bn bl, natW b = .sl bn bl ∧ bn ≠ 1 := ⟨_, _, rfl, by omega⟩
  have hbn' : ¬ (bn : Int) = 1 := by omega
  have hcz : ¬ cmpZ a b < 0 := by rw [o_iv]; omega
  simp only [o_bz]
  refine G0 ?_; try with_reducible exact tt
  refine CallS.pu (o_i0 b) (R0 ?_); try with_reducible exact tt
  refine AW.cond rfl (fun h => ?_) (fun h => ?_)
  ·simp [hz] at h
  refine G0 ?_; try with_reducible exact tt
  refine CallS.pu (o_i2 a b (by omega) (by omega)) (R1 hcz ?_); try with_reducible exact tt
  refine AW.cond rfl (fun h => ?_) (fun h => ?_)
  ·simp [hcz] at h
  rw [e'] at hlong
  refine G1 (fs e' (fs hbn hbn')) ?_; try with_reducible exact tt
  refine AW.cond rfl (fun h => ?_) (fun h => ?_)
  ·simp [hbn, hbn'] at h
  ·refine G0 ?_; try with_reducible exact tt
   refine CallS.pu (hlong) (R0 ?_); try with_reducible exact tt

theorem o_lv (a b : Nat) (ha : size a ≤ 900000) (hb : size b ≤ 900000) : Eqn Tryz.prog o_bv [.d (.agg [natW a]), .d (.agg [natW b])] [] (.d (.agg [natW (Nat.gcd a b)])) [] := by
 refine Eqn.pure o_bx (o_58 _) ?_
 simp only [o_bw]
 refine G0 ?_; try with_reducible exact tt
 refine AW.loopT (α := Nat × Nat) 3 (fun _ => []) (fun p => [(0, ⟨25, [.d (natW p.1)]⟩), (1, ⟨25, [.d (natW p.2)]⟩)]) (fun p => size p.1 ≤ 900000 ∧ size p.2 ≤ 900000 ∧ Nat.gcd p.1 p.2 = Nat.gcd a b) (fun p => p.2) (a, b) ?_ ?_ ⟨ha, hb, rfl⟩ ?_ ?_ ?_
 ·simp
 ·simp
 ·simp
 ·simp
 rintro ⟨x, y⟩ ⟨hx, hy, hg⟩
 simp only at hx hy hg
 simp
 refine G0 ?_; try with_reducible exact tt
 refine CallS.pu (o_i0 y) (R0 ?_); try with_reducible exact tt
 by_cases h0 : y = 0
 ·subst h0
  rw [Nat.gcd_zero_right] at hg
  subst hg
  refine AW.cond rfl (fun h => ?_) (fun h => ?_)
  ·simp at h
  refine AW.exit ?_
  (try (simp -implicitDefEqProofs; try simp (disch := omega) only [w64, wu64]))
  refine G0 ?_; try with_reducible exact tt
  refine CallS.pu (o_hz (words (Nat.gcd a b)) (o_hq _) (by unfold size at hx; omega)) (R0 ?_); try with_reducible exact tt
  refine Sub1.of ?_
  rw [o_hp]
 ·have hy0 : 0 < y := by omega
  refine AW.cond rfl (fun h => ?_) (fun h => ?_)
  ·refine G0 ?_; try with_reducible exact tt
   refine CallS.pu (o_lu x y hx hy0 hy) (R0 ?_); try with_reducible exact tt
   refine ⟨y, x % y, ⟨hy, Nat.le_trans (o_ij (Nat.mod_le x y)) hx, ?_⟩, Nat.mod_lt _ hy0, Subs.refl _, ?_⟩
   ·rw [← hg, Nat.gcd_comm x y, Nat.gcd_rec y x, Nat.gcd_comm]
   ·exact Subs.refl _
  ·simp at h
   exact absurd h h0
end
end Go.Proofs.YtmpjlkclkhnpfaaGreatDoor.Am
namespace Go.Proofs.YtmpjlkclkhnpfaaGreatDoor.Am
section
theorem o_lw (z : Int) (d : Nat) (hd : 0 < d) : (mkRat z d).num.natAbs = z.natAbs / Nat.gcd z.natAbs d ∧ (mkRat z d).den = d / Nat.gcd z.natAbs d ∧ ((mkRat z d).num < 0 ↔ z < 0) := by
 have hg : 0 < Nat.gcd z.natAbs d := Nat.gcd_pos_of_pos_right _ hd
 rw [Rat.mkRat_def, dif_neg (by omega), Rat.normalize_eq]
 have hdv : ((Nat.gcd z.natAbs d : Nat) : Int) ∣ z := Int.ofNat_dvd_left.2 (Nat.gcd_dvd_left _ _)
 refine ⟨?_, rfl, ?_⟩
 ·show (z / ((Nat.gcd z.natAbs d : Nat) : Int)).natAbs = _
  rw [Int.natAbs_ediv_of_dvd hdv, Int.natAbs_natCast]
 ·show z / ((Nat.gcd z.natAbs d : Nat) : Int) < 0 ↔ z < 0
  obtain ⟨k, hk⟩ := hdv
  have hg' : 0 < ((Nat.gcd z.natAbs d : Nat) : Int) := by omega
  generalize ((Nat.gcd z.natAbs d : Nat) : Int) = g at *
  rw [hk, Int.mul_ediv_cancel_left _ (by omega)]
  constructor
  ·intro h; exact Int.mul_neg_of_pos_of_neg hg' h
  ·intro h
   rcases Int.lt_or_le k 0 with h1 | h1
   ·exact h1
   ·have := Int.mul_nonneg (Int.le_of_lt hg') h1; omega
theorem o_lx (x y : Rat) : x + y = mkRat (x.num * y.den + y.num * x.den) (x.den * y.den) := Rat.add_def' x y
theorem o_ly (x y : Rat) : x * y = mkRat (x.num * y.num) (x.den * y.den) := Rat.mul_def' x y
theorem o_lz (x y : Rat) : x < y ↔ x.num * y.den < y.num * x.den := Rat.lt_iff x y
end
end Go.Proofs.YtmpjlkclkhnpfaaGreatDoor.Am
namespace Go.Proofs.YtmpjlkclkhnpfaaGreatDoor.Am
section
open Go.RowKit
def wD (z : Int) : D := .agg [natW z.natAbs, .bool (decide (z < 0))]
def rD (q : Rat) : D := .agg [natW q.num.natAbs, .bool (decide (q.num < 0)), natW (q.den - 1)]

theorem o_m0 (a b : Nat) : size (a * b) ≤ size a + size b := by
 refine o_hb (o_hr _) ?_
 rw [o_hp, Nat.pow_add]
 have ha := o_gu (o_hq a)
 have hb := o_gu (o_hq b)
 rw [o_hp] at ha hb
 unfold size
 exact Nat.mul_lt_mul'' ha hb
theorem o_m1 (a b : Nat) : size (a + b) ≤ max (size a) (size b) + 1 := by
 refine o_hb (o_hr _) ?_
 rw [o_hp, Nat.pow_succ]
 have ha := o_gu (o_hq a)
 have hb := o_gu (o_hq b)
 rw [o_hp] at ha hb
 have h1 : 18446744073709551616 ^ (words a).length ≤ 18446744073709551616 ^ max (size a) (size b) := Nat.pow_le_pow_right (by decide) (Nat.le_max_left _ _)
 have h2 : 18446744073709551616 ^ (words b).length ≤ 18446744073709551616 ^ max (size a) (size b) := Nat.pow_le_pow_right (by decide) (Nat.le_max_right _ _)
 omega

theorem o_m2 (m n : Nat) (hm : size m ≤ 1000000) (hn : size n ≤ 1000000) (hlt : m < n) : Eqn Tryz.prog o_c1 [.d (.agg [natW m]), .d (.agg [natW n])] [] (.tup [.d (.agg [.nilsl]), .d (.int .i64 2)]) [] := by
 refine Eqn.pure o_c3 Plain.ok ?_
 have hc := o_i2 m n hm hn
 have hlt' : cmpZ m n < 0 := o_iv.2 hlt
 simp only [o_c2]
 refine G0 ?_; try with_reducible exact tt
 refine CallS.pu (hc) (R1 hlt' ?_); try with_reducible exact tt
 refine AW.cond rfl (fun h => ?_) (fun h => ?_)
 ·refine G0 ?_; try with_reducible exact tt
 ·simp [hlt'] at h

theorem o_m3 (s : Bool) (a : Nat) : Eqn Tryz.prog o_b4 [.d (.bool s), .d (.agg [natW a])] [] (.d (.agg [natW a, .bool (s && decide (a ≠ 0))])) [] := by
 refine Eqn.pure o_b6 Plain.ok ?_
 have hz := o_i0 a
 simp only [o_b5]
 cases s with
 | true =>
  refine G0 ?_; try with_reducible exact tt
  refine CallS.pu (hz) (R0 ?_); try with_reducible exact tt
  refine Sub1.of ?_
  simp
  cases a <;> rfl
 | false =>
  refine G0 ?_; try with_reducible exact tt
theorem o_m4 (s : Bool) (a : Nat) (z : Int) (hz : z = if s then -(a : Int) else a) : Eqn Tryz.prog o_b4 [.d (.bool s), .d (.agg [natW a])] [] (.d (wD z)) [] := by
 have h := o_m3 s a
 have e : D.agg [natW a, .bool (s && decide (a ≠ 0))] = wD z := by
  subst hz
  unfold wD
  cases s with
  | true =>
   simp only [if_true, Int.natAbs_neg, Int.natAbs_natCast, Bool.true_and]
   congr 4
   rw [decide_eq_decide]; omega
  | false =>
   simp only [Bool.false_and, Int.natAbs_natCast, Bool.false_eq_true, if_false]
   congr 4
 rw [e] at h
 exact h
theorem o_m5 (z : Int) : Eqn Tryz.prog o_b1 [.d (wD z)] [] (.d (.agg [natW z.natAbs])) [] := o_ka _ _
theorem o_m6 (z : Int) : Eqn Tryz.prog o_b7 [.d (wD z)] [] (.d (.bool (decide (z < 0)))) [] := o_kb _ _

theorem o_m7 (x y : Int) (hx : size x.natAbs ≤ 400000) (hy : size y.natAbs ≤ 400000) : Eqn Tryz.prog o_8m [.d (wD x), .d (wD y)] [] (.d (wD (x * y))) [] := by
 refine Eqn.pure o_8o (o_58 _) ?_
 have hm := o_k7 x.natAbs y.natAbs (by omega) (by omega)
 have hk := fun s h => o_m4 s (x.natAbs * y.natAbs) (x * y) h
 simp only [o_8n, wD] at hk ⊢
 refine G0 ?_; try with_reducible exact tt
 refine CallS.pu (hm) (R0 ?_); try with_reducible exact tt
 have e : x * y = if (decide (x < 0) != decide (y < 0)) = true then -((x.natAbs * y.natAbs : Nat) : Int) else ((x.natAbs * y.natAbs : Nat) : Int) := by
  rw [Int.natCast_mul]
  by_cases h1 : x < 0 <;> by_cases h2 : y < 0 <;> simp only [h1, h2, decide_true, decide_false]
  ·rw [if_neg (by decide), Int.ofNat_natAbs_of_nonpos (by omega), Int.ofNat_natAbs_of_nonpos (by omega), Int.neg_mul_neg]
  ·rw [if_pos (by decide), Int.ofNat_natAbs_of_nonpos (by omega), Int.natAbs_of_nonneg (by omega), Int.neg_mul, Int.neg_neg]
  ·rw [if_pos (by decide), Int.ofNat_natAbs_of_nonpos (a := y) (by omega), Int.natAbs_of_nonneg (by omega), Int.mul_neg, Int.neg_neg]
  ·rw [if_neg (by decide), Int.natAbs_of_nonneg (by omega), Int.natAbs_of_nonneg (by omega)]
 replace hk := hk _ e
 refine CallS.pu (hk) (R0 ?_); try with_reducible exact tt

theorem o_m8 (x : Int) : Eqn Tryz.prog o_am [.d (wD x)] [] (.d (wD (-x))) [] := by
 refine Eqn.pure o_ao (o_58 _) ?_
 have hk := o_m4 (!decide (x < 0)) x.natAbs (-x) (by
  by_cases h : x < 0
  ·simp only [h, decide_true, Bool.not_true, Bool.false_eq_true, if_false]; omega
  ·simp only [h, decide_false, Bool.not_false, if_true]; omega)
 simp only [o_an, wD] at hk ⊢
 refine G0 ?_; try with_reducible exact tt
 refine CallS.pu (hk) (R0 ?_); try with_reducible exact tt

theorem o_m9 (x y : Int) (hx : size x.natAbs ≤ 400000) (hy : size y.natAbs ≤ 400000) : Eqn Tryz.prog o_91 [.d (wD x), .d (wD y)] [] (.d (wD (x + y))) [] := by
 refine Eqn.pure o_93 (o_58 _) ?_
 by_cases hs : decide (x < 0) = decide (y < 0)
 ·have ha := o_ig x.natAbs y.natAbs (by omega) (by omega)
  have hk := o_m4 (decide (x < 0)) (x.natAbs + y.natAbs) (x + y) (by
   rw [decide_eq_decide] at hs
   by_cases h : x < 0
   ·rw [if_pos (by simpa using h)]; omega
   ·rw [if_neg (by simpa using h)]; omega)
  simp only [o_92, wD] at hk ⊢
  generalize decide (x < 0) = sx at *
  generalize decide (y < 0) = sy at *
  subst hs
  refine G0 ?_; try with_reducible exact tt
  refine AW.cond rfl (fun h => ?_) (fun h => ?_)
  ·refine G0 ?_; try with_reducible exact tt
   refine CallS.pu (ha) (R0 ?_); try with_reducible exact tt
   refine CallS.pu (hk) (R0 ?_); try with_reducible exact tt
  ·simp at h
 ·have hs' : ¬ (x < 0 ↔ y < 0) := fun h => hs (decide_eq_decide.2 h)
  by_cases hle : y.natAbs ≤ x.natAbs
  ·have ha := o_ik x.natAbs y.natAbs (by omega) hle
   have hk := o_m4 (decide (x < 0)) (x.natAbs - y.natAbs) (x + y) (by
    by_cases h : x < 0
    ·rw [if_pos (by simpa using h)]; omega
    ·rw [if_neg (by simpa using h)]; omega)
   simp only [o_92, wD] at hk ⊢
   generalize decide (x < 0) = sx at *
   generalize decide (y < 0) = sy at *
   have hs2 : (sx == sy) = false := by simpa using hs
   refine G1 (fs hs2 hs) ?_; try with_reducible exact tt
   refine AW.cond rfl (fun h => ?_) (fun h => ?_)
   ·simp [hs2, hs] at h
   ·refine G0 ?_; try with_reducible exact tt
    refine CallS.pu (ha) (R0 ?_); try with_reducible exact tt
    refine AW.cond rfl (fun h => ?_) (fun h => ?_)
    ·refine G0 ?_; try with_reducible exact tt
     refine CallS.pu (hk) (R0 ?_); try with_reducible exact tt
    ·simp at h
  ·have hb := o_m2 x.natAbs y.natAbs (by omega) (by omega) (by omega)
   have ha := o_ik y.natAbs x.natAbs (by omega) (by omega)
   have hk := o_m4 (decide (y < 0)) (y.natAbs - x.natAbs) (x + y) (by
    by_cases h : y < 0
    ·rw [if_pos (by simpa using h)]; omega
    ·rw [if_neg (by simpa using h)]; omega)
   simp only [o_92, wD] at hk ⊢
   generalize decide (x < 0) = sx at *
   generalize decide (y < 0) = sy at *
   have hs2 : (sx == sy) = false := by simpa using hs
   refine G1 (fs hs2 hs) ?_; try with_reducible exact tt
   refine AW.cond rfl (fun h => ?_) (fun h => ?_)
   ·simp [hs2, hs] at h
   ·refine G0 ?_; try with_reducible exact tt
    refine CallS.pu (hb) (R0 ?_); try with_reducible exact tt
    refine AW.cond rfl (fun h => ?_) (fun h => ?_)
    ·simp at h
    ·refine G0 ?_; try with_reducible exact tt
     refine CallS.pu (ha) (R0 ?_); try with_reducible exact tt
     refine CallS.pu (hk) (R0 ?_); try with_reducible exact tt

def cmpI (x y : Int) : Int := if x < y then -1 else if y < x then 1 else 0
theorem o_ma (x y : Int) (hx : size x.natAbs ≤ 900000) (hy : size y.natAbs ≤ 900000) : Eqn Tryz.prog o_8v [.d (wD x), .d (wD y)] [] (.d (.int .i64 (cmpI x y))) [] := by
 refine Eqn.pure o_8x (o_58 _) ?_
 have h1 := o_i2 y.natAbs x.natAbs (by omega) (by omega)
 have h2 := o_i2 x.natAbs y.natAbs (by omega) (by omega)
 simp only [o_8w, wD]
 by_cases hx0 : x < 0 <;> by_cases hy0 : y < 0
 ·have e : cmpI x y = cmpZ y.natAbs x.natAbs := by
   unfold cmpI cmpZ
   split <;> split <;> first | omega | (split <;> omega)
  rw [← e] at h1
  simp only [hx0, hy0, decide_true, decide_false]
  refine G0 ?_; try with_reducible exact tt
  refine AW.cond rfl (fun h => ?_) (fun h => ?_)
  ·refine G0 ?_; try with_reducible exact tt
   refine CallS.pu (h1) (R0 ?_); try with_reducible exact tt
  ·simp at h
 ·have e : cmpI x y = -1 := by unfold cmpI; rw [if_pos (by omega)]
  rw [e]
  simp only [hx0, hy0, decide_true, decide_false]
  refine G0 ?_; try with_reducible exact tt
  refine AW.cond rfl (fun h => ?_) (fun h => ?_)
  ·simp at h
  refine G0 ?_; try with_reducible exact tt
  refine AW.cond rfl (fun h => ?_) (fun h => ?_)
  ·refine G0 ?_; try with_reducible exact tt
  ·simp at h
 ·have e : cmpI x y = 1 := by unfold cmpI; rw [if_neg (by omega), if_pos (by omega)]
  rw [e]
  simp only [hx0, hy0, decide_true, decide_false]
  refine G0 ?_; try with_reducible exact tt
  refine AW.cond rfl (fun h => ?_) (fun h => ?_)
  ·simp at h
  refine G0 ?_; try with_reducible exact tt
  refine AW.cond rfl (fun h => ?_) (fun h => ?_)
  ·simp at h
  refine G0 ?_; try with_reducible exact tt
  refine AW.cond rfl (fun h => ?_) (fun h => ?_)
  ·refine G0 ?_; try with_reducible exact tt
  ·simp at h
 ·have e : cmpI x y = cmpZ x.natAbs y.natAbs := by
   unfold cmpI cmpZ
   split <;> split <;> first | omega | (split <;> omega)
  rw [← e] at h2
  simp only [hx0, hy0, decide_true, decide_false]
  refine G0 ?_; try with_reducible exact tt
  refine AW.cond rfl (fun h => ?_) (fun h => ?_)
  ·simp at h
  refine G0 ?_; try with_reducible exact tt
  refine AW.cond rfl (fun h => ?_) (fun h => ?_)
  ·simp at h
  refine G0 ?_; try with_reducible exact tt
  refine AW.cond rfl (fun h => ?_) (fun h => ?_)
  ·simp at h
  refine G0 ?_; try with_reducible exact tt
  refine CallS.pu (h2) (R0 ?_); try with_reducible exact tt
end
end Go.Proofs.YtmpjlkclkhnpfaaGreatDoor.Am
namespace Go.Proofs.YtmpjlkclkhnpfaaGreatDoor.Am
section
open Go.RowKit
theorem o_mb (z : Int) (d : Nat) (hd : 0 < d) (hz : size z.natAbs ≤ 900000) (hds : size d ≤ 900000) : Eqn Tryz.prog o_8y [.d (wD z), .d (.agg [natW d])] [] (.d (rD (mkRat z d))) [] := by
 refine Eqn.pure o_90 (o_58 _) ?_
 obtain ⟨p1, p2, p3⟩ := o_lw z d hd
 have hg0 : 0 < Nat.gcd z.natAbs d := Nat.gcd_pos_of_pos_right _ hd
 have hgs : size (Nat.gcd z.natAbs d) ≤ 900000 := Nat.le_trans (o_ij (Nat.gcd_le_right _ hd)) hds
 have h1 := o_lv z.natAbs d hz hds
 have h2 := o_lu z.natAbs (Nat.gcd z.natAbs d) hz hg0 hgs
 have h3 := o_lu d (Nat.gcd z.natAbs d) hds hg0 hgs
 have hdp : 0 < d / Nat.gcd z.natAbs d := Nat.div_pos (Nat.gcd_le_right _ hd) hg0
 have hdq : size (d / Nat.gcd z.natAbs d) ≤ 900000 := Nat.le_trans (o_ij (Nat.div_le_self _ _)) hds
 have h4 := o_ik (d / Nat.gcd z.natAbs d) 1 (by omega) hdp
 have hab := o_m5 z
 have hng := o_m6 z
 have hk := o_m3 (decide (z < 0)) (z.natAbs / Nat.gcd z.natAbs d)
 have hsg : (decide (z < 0) && decide (z.natAbs / Nat.gcd z.natAbs d ≠ 0)) = decide ((mkRat z d).num < 0) := by
  rw [Bool.eq_iff_iff]
  simp only [Bool.and_eq_true, decide_eq_true_eq, p3]
  rw [← p1]
  constructor
  ·intro h; exact h.1
  ·intro h
   have := p3.2 h
   exact ⟨h, by omega⟩
 rw [hsg, ← p1] at hk
 rw [← p1] at h2
 rw [← p2] at h3 h4
 simp only [o_8z, rD, wD] at hab hng ⊢
 refine G0 ?_; try with_reducible exact tt
 refine CallS.pu (hab) (R0 ?_); try with_reducible exact tt
 refine CallS.pu (h1) (R0 ?_); try with_reducible exact tt
 refine CallS.pu (hab) (R0 ?_); try with_reducible exact tt
 refine CallS.pu (h2) (R0 ?_); try with_reducible exact tt
 refine CallS.pu (h3) (R0 ?_); try with_reducible exact tt
 refine CallS.pf 8 1 ⟨194, _⟩ [.int .u64 (1 : Nat)] (o_hz [1] (o_iu (by omega)) (by simp)) (by first | rfl | (simp; done)) (R0 ?_); try with_reducible exact tt
 refine CallS.pu (h4) (R0 ?_); try with_reducible exact tt
 refine CallS.pu (hng) (R0 ?_); try with_reducible exact tt
 refine CallS.pu (hk) (R0 ?_); try with_reducible exact tt

theorem o_mc (q : Rat) (h : size q.den ≤ 900000) : Eqn Tryz.prog o_8d [.d (rD q)] [] (.d (.agg [natW q.den])) [] := by
 have hp := q.den_pos
 have := o_kd q.num.natAbs (q.den - 1) (decide (q.num < 0)) (Nat.le_trans (o_ij (Nat.sub_le _ _)) (by omega))
 rw [show q.den - 1 + 1 = q.den by omega] at this
 exact this
theorem o_md (q : Rat) (h : size q.den ≤ 900000) : Eqn Tryz.prog o_8p [.d (rD q)] [] (.d (wD q.den)) [] := by
 refine Eqn.pure o_8r (o_58 _) ?_
 have h1 := o_mc q h
 have h2 := o_m4 false q.den (q.den : Int) rfl
 simp only [o_8q, rD, wD] at h1 h2 ⊢
 refine G0 ?_; try with_reducible exact tt
 refine CallS.pu (h1) (R0 ?_); try with_reducible exact tt
 refine CallS.pu (h2) (R0 ?_); try with_reducible exact tt

def RS (q : Rat) (N : Nat) : Prop := size q.num.natAbs ≤ N ∧ size q.den ≤ N
theorem RS.le {q : Rat} {N M : Nat} (h : RS q N) (hm : N ≤ M) : RS q M := ⟨Nat.le_trans h.1 hm, Nat.le_trans h.2 hm⟩
theorem RS.mk' {z : Int} {d N : Nat} (hd : 0 < d) (h1 : size z.natAbs ≤ N) (h2 : size d ≤ N) : RS (mkRat z d) N := by
 obtain ⟨p1, p2, -⟩ := o_lw z d hd
 refine ⟨?_, ?_⟩
 ·rw [p1]; exact Nat.le_trans (o_ij (Nat.div_le_self _ _)) h1
 ·rw [p2]; exact Nat.le_trans (o_ij (Nat.div_le_self _ _)) h2
theorem RS.mul {x y : Rat} {N M : Nat} (hx : RS x N) (hy : RS y M) : RS (x * y) (N + M) := by
 rw [o_ly]
 refine RS.mk' (Nat.mul_pos x.den_pos y.den_pos) ?_ ?_
 ·rw [Int.natAbs_mul]; have := o_m0 x.num.natAbs y.num.natAbs; have := hx.1; have := hy.1; omega
 ·have := o_m0 x.den y.den; have := hx.2; have := hy.2; omega
theorem RS.add {x y : Rat} {N M : Nat} (hx : RS x N) (hy : RS y M) : RS (x + y) (N + M + 1) := by
 rw [o_lx]
 refine RS.mk' (Nat.mul_pos x.den_pos y.den_pos) ?_ ?_
 ·have h1 := o_ij (Int.natAbs_add_le (x.num * y.den) (y.num * x.den))
  have h2 := o_m1 (x.num * y.den).natAbs (y.num * x.den).natAbs
  rw [Int.natAbs_mul, Int.natAbs_mul, Int.natAbs_natCast, Int.natAbs_natCast] at *
  have h3 := o_m0 x.num.natAbs y.den
  have h4 := o_m0 y.num.natAbs x.den
  have := hx.1; have := hy.1; have := hx.2; have := hy.2
  omega
 ·have := o_m0 x.den y.den; have := hx.2; have := hy.2; omega
theorem RS.neg {x : Rat} {N : Nat} (hx : RS x N) : RS (-x) N := by
 refine ⟨?_, ?_⟩
 ·rw [Rat.neg_num, Int.natAbs_neg]; exact hx.1
 ·rw [Rat.neg_den]; exact hx.2
theorem RS.sub {x y : Rat} {N M : Nat} (hx : RS x N) (hy : RS y M) : RS (x - y) (N + M + 1) := by
 rw [Rat.sub_eq_add_neg]; exact hx.add hy.neg

theorem o_me (x y : Rat) (hx : RS x 100000) (hy : RS y 100000) : Eqn Tryz.prog o_7v [.d (rD x), .d (rD y)] [] (.d (rD (x * y))) [] := by
 refine Eqn.pure o_7x (o_58 _) ?_
 have h1 := o_m7 x.num y.num (by have := hx.1; omega) (by have := hy.1; omega)
 have h2 := o_mc x (by have := hx.2; omega)
 have h3 := o_mc y (by have := hy.2; omega)
 have h4 := o_k7 x.den y.den (by have := hx.2; omega) (by have := hy.2; omega)
 have h5 := o_mb (x.num * y.num) (x.den * y.den) (Nat.mul_pos x.den_pos y.den_pos) (by rw [Int.natAbs_mul]; have := o_m0 x.num.natAbs y.num.natAbs; have := hx.1; have := hy.1; omega) (by have := o_m0 x.den y.den; have := hx.2; have := hy.2; omega)
 rw [← o_ly] at h5
 simp only [o_7w, rD, wD] at h1 h2 h3 h5 ⊢
 refine G0 ?_; try with_reducible exact tt
 refine CallS.pu (h1) (R0 ?_); try with_reducible exact tt
 refine CallS.pu (h2) (R0 ?_); try with_reducible exact tt
 refine CallS.pu (h3) (R0 ?_); try with_reducible exact tt
 refine CallS.pu (h4) (R0 ?_); try with_reducible exact tt
 refine CallS.pu (h5) (R0 ?_); try with_reducible exact tt

theorem o_mf (x y : Rat) (hx : RS x 100000) (hy : RS y 100000) : Eqn Tryz.prog o_74 [.d (rD x), .d (rD y)] [] (.d (rD (x + y))) [] := by
 refine Eqn.pure o_76 (o_58 _) ?_
 have x1 := hx.1; have x2 := hx.2; have y1 := hy.1; have y2 := hy.2
 have s1 := o_m0 x.num.natAbs y.den
 have s2 := o_m0 y.num.natAbs x.den
 have e1 : (x.num * (y.den : Int)).natAbs = x.num.natAbs * y.den := by rw [Int.natAbs_mul, Int.natAbs_natCast]
 have e2 : (y.num * (x.den : Int)).natAbs = y.num.natAbs * x.den := by rw [Int.natAbs_mul, Int.natAbs_natCast]
 have h1 := o_m7 x.num y.den (by omega) (by rw [Int.natAbs_natCast]; omega)
 have h1' := o_m7 y.num x.den (by omega) (by rw [Int.natAbs_natCast]; omega)
 have h2 := o_mc x (by omega)
 have h3 := o_mc y (by omega)
 have h2' := o_md x (by omega)
 have h3' := o_md y (by omega)
 have h4 := o_k7 x.den y.den (by omega) (by omega)
 have h6 := o_m9 (x.num * y.den) (y.num * x.den) (by rw [e1]; omega) (by rw [e2]; omega)
 have h5 := o_mb (x.num * y.den + y.num * x.den) (x.den * y.den) (Nat.mul_pos x.den_pos y.den_pos) (by
  have h1 := o_ij (Int.natAbs_add_le (x.num * y.den) (y.num * x.den))
  have h2 := o_m1 (x.num * y.den).natAbs (y.num * x.den).natAbs
  rw [e1, e2] at *
  omega) (by have := o_m0 x.den y.den; omega)
 rw [← o_lx] at h5
 simp only [o_75, rD] at h2 h3 h2' h3' h5 ⊢
 generalize hz1 : x.num * (y.den : Int) = z1 at *
 generalize hz2 : y.num * (x.den : Int) = z2 at *
 simp only [wD] at h1 h1' h2' h3' h5 h6
 refine G0 ?_; try with_reducible exact tt
 refine CallS.pu (h3') (R0 ?_); try with_reducible exact tt
 refine CallS.pu (h1) (R0 ?_); try with_reducible exact tt
 refine CallS.pu (h2') (R0 ?_); try with_reducible exact tt
 refine CallS.pu (h1') (R0 ?_); try with_reducible exact tt
 refine CallS.pu (h6) (R0 ?_); try with_reducible exact tt
 refine CallS.pu (h2) (R0 ?_); try with_reducible exact tt
 refine CallS.pu (h3) (R0 ?_); try with_reducible exact tt
 refine CallS.pu (h4) (R0 ?_); try with_reducible exact tt
 refine CallS.pu (h5) (R0 ?_); try with_reducible exact tt

theorem o_mg (x y : Rat) (hx : RS x 100000) (hy : RS y 100000) : Eqn Tryz.prog o_7y [.d (rD x), .d (rD y)] [] (.d (rD (x - y))) [] := by
 refine Eqn.pure o_80 (o_58 _) ?_
 have h1 := o_m8 y.num
 have h2 := o_mf x (-y) hx hy.neg
 rw [← Rat.sub_eq_add_neg] at h2
 simp only [o_7z, rD, wD, Rat.neg_num, Rat.neg_den] at h1 h2 ⊢
 obtain ⟨w, hw⟩ : ∃ w, D.bool (decide (-y.num < 0)) = w := ⟨_, rfl⟩
 obtain ⟨u, hu⟩ : ∃ u, natW (-y.num).natAbs = u := ⟨_, rfl⟩
 rw [hu, hw] at h1 h2
 clear hu hw
 refine G0 ?_; try with_reducible exact tt
 refine CallS.pu (h1) (R0 ?_); try with_reducible exact tt
 refine CallS.pu (h2) (R0 ?_); try with_reducible exact tt

def cmpQ (x y : Rat) : Int := if x < y then -1 else if y < x then 1 else 0
theorem o_mh (x y : Rat) (hx : RS x 100000) (hy : RS y 100000) : Eqn Tryz.prog o_71 [.d (rD x), .d (rD y)] [] (.d (.int .i64 (cmpQ x y))) [] := by
 refine Eqn.pure o_73 (o_58 _) ?_
 have x1 := hx.1; have x2 := hx.2; have y1 := hy.1; have y2 := hy.2
 have s1 := o_m0 x.num.natAbs y.den
 have s2 := o_m0 y.num.natAbs x.den
 have e1 : (x.num * (y.den : Int)).natAbs = x.num.natAbs * y.den := by rw [Int.natAbs_mul, Int.natAbs_natCast]
 have e2 : (y.num * (x.den : Int)).natAbs = y.num.natAbs * x.den := by rw [Int.natAbs_mul, Int.natAbs_natCast]
 have h1 := o_m7 x.num y.den (by omega) (by rw [Int.natAbs_natCast]; omega)
 have h1' := o_m7 y.num x.den (by omega) (by rw [Int.natAbs_natCast]; omega)
 have h2' := o_md x (by omega)
 have h3' := o_md y (by omega)
 have h6 := o_ma (x.num * y.den) (y.num * x.den) (by rw [e1]; omega) (by rw [e2]; omega)
 have e : cmpI (x.num * y.den) (y.num * x.den) = cmpQ x y := by
  have a := o_lz x y
  have b := o_lz y x
  unfold cmpI cmpQ
  by_cases h : x < y
  ·rw [if_pos h, if_pos (a.1 h)]
  ·rw [if_neg h, if_neg (fun q => h (a.2 q))]
   by_cases h2 : y < x
   ·rw [if_pos h2, if_pos (b.1 h2)]
   ·rw [if_neg h2, if_neg (fun q => h2 (b.2 q))]
 rw [e] at h6
 simp only [o_72, rD] at h2' h3' ⊢
 generalize hz1 : x.num * (y.den : Int) = z1 at *
 generalize hz2 : y.num * (x.den : Int) = z2 at *
 simp only [wD] at h1 h1' h2' h3' h6
 refine G0 ?_; try with_reducible exact tt
 refine CallS.pu (h3') (R0 ?_); try with_reducible exact tt
 refine CallS.pu (h1) (R0 ?_); try with_reducible exact tt
 refine CallS.pu (h2') (R0 ?_); try with_reducible exact tt
 refine CallS.pu (h1') (R0 ?_); try with_reducible exact tt
 refine CallS.pu (h6) (R0 ?_); try with_reducible exact tt

theorem o_mi {I : Nat → Prop} {w : World} {v : Value} (h : D.rep I w .nilsl v) : D.rep I w (natW 0) v := by
 have := Sub1.nil (⟨fun _ => none, I, w⟩ : Mem) v (by rw [V.rep_d]; exact h)
 rw [V.rep_d] at this
 exact this
theorem Sub1.rat0 {x y : D} : Sub1 (.d (.agg [x, y, .nilsl])) (.d (.agg [x, y, natW 0])) := fun m v k => by
 rw [V.rep_d] at k ⊢
 unfold D.rep at k ⊢
 obtain ⟨vs, h1, h0, h2⟩ := k
 refine ⟨vs, h1, h0, ?_⟩
 obtain ⟨a, r, rfl, ha, h2⟩ := D.reps_cons'.1 h2
 obtain ⟨b, r, rfl, hb, h2⟩ := D.reps_cons'.1 h2
 obtain ⟨c, r, rfl, hc, h2⟩ := D.reps_cons'.1 h2
 exact D.reps_cons.2 ⟨ha, D.reps_cons.2 ⟨hb, D.reps_cons.2 ⟨o_mi hc, h2⟩⟩⟩
end
end Go.Proofs.YtmpjlkclkhnpfaaGreatDoor.Am
namespace Go.Proofs.YtmpjlkclkhnpfaaGreatDoor.Am
section
open Go.RowKit
theorem o_mj (m : Nat) (hm : m ≤ 4611686018427387904) : bits BinOp.and IntKind.i64 (m : Int) 1 = ((m % 2 : Nat) : Int) := by
 show IntKind.i64.wrap (((BitVec.ofInt 64 (m : Int)) &&& (BitVec.ofInt 64 (1 : Int))).toNat : Int) = _
 have h1 : (BitVec.ofInt 64 (1 : Int)).toNat = 1 := by decide
 rw [BitVec.toNat_and, h1, BitVec.ofInt_natCast, BitVec.toNat_ofNat, Nat.mod_eq_of_lt (by omega), Nat.and_one_is_mod]
 exact w64 (by omega) (by omega)

theorem o_mk {r x m T : Nat} (h : r * x ^ m = T) : (if m % 2 = 1 then r * x else r) * (x * x) ^ (m / 2) = T := by
 have e : x ^ m = (x * x) ^ (m / 2) * x ^ (m % 2) := by
  rw [← Nat.pow_two, ← Nat.pow_mul, ← Nat.pow_add, Nat.div_add_mod]
 rw [← h, e]
 rcases Nat.mod_two_eq_zero_or_one m with h2 | h2
 ·rw [h2, if_neg (by omega)]; simp
 ·rw [h2, if_pos rfl, Nat.pow_one, Nat.mul_assoc, Nat.mul_comm x]
theorem o_ml {r x m T : Nat} (h : r * x ^ m = T) (hm : 0 < m) (hx : 1 ≤ x) (hr : 1 ≤ r) : x ≤ T ∧ r ≤ T := by
 have h1 : 1 ≤ x ^ m := Nat.pow_pos hx
 have h2 : x ≤ x ^ m := by
  calc x = x ^ 1 := (Nat.pow_one x).symm
   _ ≤ x ^ m := Nat.pow_le_pow_right hx hm
 constructor
 ·rw [← h]; exact Nat.le_trans h2 (Nat.le_mul_of_pos_left _ hr)
 ·rw [← h]; exact Nat.le_mul_of_pos_right _ h1

set_option maxHeartbeats 2000000 in
theorem o_mm (a n : Nat) (hn : n ≤ 8192) (hb : bitsN a ≤ 1 ∨ n ≤ 8192 / bitsN a) (has : size a ≤ 129) : Eqn Tryz.prog o_ay [.d (.agg [natW a]), .d (.int .i64 n)] [] (.tup [.d (.agg [natW (a ^ n)]), .d (.int .i64 0)]) [] := by
 refine Eqn.pure o_b0 Plain.ok ?_
 have hbits := o_jm a (by omega)
 have hof : Eqn Tryz.prog o_bg [.d (.sl 1 [.int .u64 (1 : Nat)])] [] (.d (.agg [natW 1])) [] := by
  have := o_hz [1] (o_iu (by omega)) (by simp)
  simpa [W, wval] using this
 obtain ⟨q, hq⟩ : ∃ q, bitsN a = q := ⟨_, rfl⟩
 simp only [o_az]
 have hn0 : ¬ (n : Int) < 0 := by omega
 rw [hq] at hbits hb
 obtain ⟨T, hT⟩ : ∃ T, a ^ n = T := ⟨_, rfl⟩
 have hTs : size T ≤ 129 := by
  rw [← hT]
  by_cases h1 : q ≤ 1
  ·have : a ≤ 1 := by have := o_j0 a; rw [hq] at this; have := Nat.pow_le_pow_right (n := 2) (by omega) h1; omega
   have h2 : a ^ n ≤ 1 := by have := Nat.pow_le_pow_left this n; rwa [Nat.one_pow] at this
   have := o_ij h2
   have := o_k8 (x := 1) (by omega)
   omega
  ·refine o_kh (n := q * n + 1) ?_ ?_
   ·rw [Nat.pow_succ]
    have h2 := o_j0 a
    rw [hq] at h2
    have h3 : a ^ n ≤ (2 ^ q) ^ n := Nat.pow_le_pow_left (Nat.le_of_lt h2) n
    rw [← Nat.pow_mul] at h3
    have := Nat.two_pow_pos (q * n)
    omega
   ·have h2 : n ≤ 8192 / q := hb.resolve_left h1
    rw [Nat.le_div_iff_mul_le (by omega)] at h2
    rw [Nat.mul_comm] at h2
    omega
 obtain ⟨n', hn', hn2⟩ : ∃ n' : Nat, n' = (if q ≤ 1 then min n 1 else n) ∧ a ^ n' = T := by
  refine ⟨_, rfl, ?_⟩
  by_cases h1 : q ≤ 1
  ·have ha1 : a ≤ 1 := by have := o_j0 a; rw [hq] at this; have := Nat.pow_le_pow_right (n := 2) (by omega) h1; omega
   rw [if_pos h1, ← hT]
   rcases (by omega : a = 0 ∨ a = 1) with rfl | rfl
   ·rcases Nat.eq_zero_or_pos n with rfl | hp
    ·rfl
    ·rw [Nat.min_eq_right hp, Nat.zero_pow hp]
   ·rw [Nat.one_pow, Nat.one_pow]
  ·rw [if_neg h1, hT]
 rw [hT]
 by_cases h1 : q ≤ 1
 ·rw [if_pos h1] at hn'
  have hq1 : ¬ (1 : Int) < q := by omega
  have hq1n : ¬ 1 < q := by omega
  have hq2 : (q : Int) ≤ 1 := by omega
  have hmin : min (n : Int) 1 = (n' : Int) := by omega
  have hn8 : n' ≤ 8192 := by omega
  have hn1 : 1 < n' → 1 ≤ a ∧ 1 ≤ 1 := fun h => by omega
  refine G1 hn0 ?_; try with_reducible exact tt
  refine AW.cond rfl (fun h => ?_) (fun h => ?_)
  ·simp [hn0] at h
  refine G0 ?_; try with_reducible exact tt
  refine CallS.pu (hbits) (R1 (fs hq1 (fs hq1n h1)) ?_); try with_reducible exact tt
  refine AW.cond rfl (fun h => ?_) (fun h => ?_)
  ·simp at h
  refine AW.skip ?_
  simp
  refine G0 ?_; try with_reducible exact tt
  refine CallS.pf 2 1 ⟨194, _⟩ [.int .u64 (1 : Nat)] (hof) (by first | rfl | (simp; done)) (R0 ?_); try with_reducible exact tt
  refine CallS.pu (hbits) (R1 (fs hq2 h1) ?_); try with_reducible exact tt
  refine AW.cond rfl (fun h => ?_) (fun h => ?_)
  rotate_left
  ·simp [hq2, h1] at h
  refine G1 hmin ?_; try with_reducible exact tt
  refine AW.loopT (α := Nat × Nat × Nat) 4 (fun s => [(1, .d (.int .i64 (s.1 : Nat)))]) (fun s => [(0, ⟨25, [.d (natW s.2.1)]⟩), (3, ⟨25, [.d (natW s.2.2)]⟩)]) (fun s => s.1 ≤ 8192 ∧ s.2.2 * s.2.1 ^ s.1 = T ∧ (0 < s.1 → size s.2.1 ≤ 200 ∧ size s.2.2 ≤ 200) ∧ (1 < s.1 → 1 ≤ s.2.1 ∧ 1 ≤ s.2.2)) (fun s => s.1) (n', a, 1) ?_ ?_ ⟨hn8, by rw [Nat.one_mul]; exact hn2, fun _ => ⟨Nat.le_trans has (by omega), Nat.le_trans (o_k8 (x := 1) (by omega)) (by omega)⟩, hn1⟩ ?_ ?_ ?_
  ·simp
  ·simp
  ·simp
  ·simp
  clear hn8 hn1 hn2 hn'
  rintro ⟨m, x, r⟩ ⟨hm8, hT2, hsz, hpos⟩
  simp only at hm8 hT2 hsz hpos
  simp
  by_cases hm0 : m = 0
  ·subst hm0
   rw [Nat.pow_zero, Nat.mul_one] at hT2
   subst hT2
   refine G0 ?_; try with_reducible exact tt
   refine AW.cond rfl (fun h => ?_) (fun h => ?_)
   ·simp at h
   refine AW.exit ?_
   (try (simp -implicitDefEqProofs; try simp (disch := omega) only [w64, wu64]))
   refine G0 ?_; try with_reducible exact tt
  ·have hm1 : (0 : Int) < m := by omega
   have hm2 : 0 < m := by omega
   obtain ⟨sx, sr⟩ := hsz hm2
   have hand := o_mj m (by omega)
   have hm1' := o_k7 r x (by omega) (by omega)
   have hm2' := o_k7 x x (by omega) (by omega)
   have hdv : (m : Int) / 2 = ((m / 2 : Nat) : Int) := rfl
   have hr := o_mk hT2
   have hnext : (1 < m / 2 → 1 ≤ x * x ∧ 1 ≤ (if m % 2 = 1 then r * x else r)) := fun h => by
    obtain ⟨p1, p2⟩ := hpos (by omega)
    refine ⟨Nat.mul_pos p1 p1, ?_⟩
    split
    ·exact Nat.mul_pos p2 p1
    ·exact p2
   have hnext2 : (0 < m / 2 → size (x * x) ≤ 200 ∧ size (if m % 2 = 1 then r * x else r) ≤ 200) := fun h => by
    obtain ⟨p1, p2⟩ := hpos (by omega)
    have q1 : 1 ≤ x * x := Nat.mul_pos p1 p1
    have q2 : 1 ≤ (if m % 2 = 1 then r * x else r) := by
     split
     ·exact Nat.mul_pos p2 p1
     ·exact p2
    obtain ⟨k1, k2⟩ := o_ml hr h q1 q2
    exact ⟨Nat.le_trans (o_ij k1) (by omega), Nat.le_trans (o_ij k2) (by omega)⟩
   have hlt2 : m / 2 < m := by omega
   generalize m / 2 = hm at *
   rcases Nat.mod_two_eq_zero_or_one m with h2 | h2
   ·rw [h2] at hand hr hnext hnext2
    rw [if_neg (by omega)] at hr hnext hnext2
    refine G1 (fs hm1 hm2) ?_; try with_reducible exact tt
    refine AW.cond rfl (fun h => ?_) (fun h => ?_)
    rotate_left
    ·simp [hm1, hm2] at h
    refine G1 hand ?_; try with_reducible exact tt
    refine AW.cond rfl (fun h => ?_) (fun h => ?_)
    ·simp at h
    refine G0 ?_; try with_reducible exact tt
    refine CallS.pu (hm2') (R1 hdv ?_); try with_reducible exact tt
    repeat (first | refine AW.seq ?_ | refine AW.block ?_ | (refine AW.reg mix ?_; simp -implicitDefEqProofs [hdv]; try simp (disch := omega) only [w64, wu64]) | (refine need.of (by first | omega | kernel_rfl) ?_) | (refine AW.fin ?_; try simp -implicitDefEqProofs [hdv]))
    (try (simp -implicitDefEqProofs [hdv]; try simp (disch := omega) only [w64, wu64]))
    repeat (first | refine AW.seq ?_ | refine AW.block ?_ | (refine AW.reg mix ?_; simp -implicitDefEqProofs [hdv]; try simp (disch := omega) only [w64, wu64]) | (refine need.of (by first | omega | kernel_rfl) ?_) | (refine AW.fin ?_; try simp -implicitDefEqProofs [hdv]))
    exact ⟨hm, _, _, ⟨by omega, hr, hnext2, hnext⟩, hlt2, by simp, Subs.refl _, Subs.refl _⟩
   ·rw [h2] at hand hr hnext hnext2
    rw [if_pos rfl] at hr hnext hnext2
    refine G1 (fs hm1 hm2) ?_; try with_reducible exact tt
    refine AW.cond rfl (fun h => ?_) (fun h => ?_)
    rotate_left
    ·simp [hm1, hm2] at h
    refine G1 hand ?_; try with_reducible exact tt
    refine AW.cond rfl (fun h => ?_) (fun h => ?_)
    rotate_left
    ·simp at h
    refine G0 ?_; try with_reducible exact tt
    refine CallS.pu (hm1') (R0 ?_); try with_reducible exact tt
    refine CallS.pu (hm2') (R1 hdv ?_); try with_reducible exact tt
    repeat (first | refine AW.seq ?_ | refine AW.block ?_ | (refine AW.reg mix ?_; simp -implicitDefEqProofs [hdv]; try simp (disch := omega) only [w64, wu64]) | (refine need.of (by first | omega | kernel_rfl) ?_) | (refine AW.fin ?_; try simp -implicitDefEqProofs [hdv]))
    (try (simp -implicitDefEqProofs [hdv]; try simp (disch := omega) only [w64, wu64]))
    repeat (first | refine AW.seq ?_ | refine AW.block ?_ | (refine AW.reg mix ?_; simp -implicitDefEqProofs [hdv]; try simp (disch := omega) only [w64, wu64]) | (refine need.of (by first | omega | kernel_rfl) ?_) | (refine AW.fin ?_; try simp -implicitDefEqProofs [hdv]))
    exact ⟨hm, _, _, ⟨by omega, hr, hnext2, hnext⟩, hlt2, by simp, Subs.refl _, Subs.refl _⟩
 ·rw [if_neg h1] at hn'
  rw [hn'] at hn2
  clear hn' n'
  have hq1 : (1 : Int) < q := by omega
  have hq1n : 1 < q := by omega
  have hq2 : ¬ (q : Int) ≤ 1 := by omega
  have hq0 : (q : Int) ≠ 0 := by omega
  have hle : n ≤ 8192 / q := hb.resolve_left h1
  have hdq : IntKind.i64.wrap ((8192 : Int).tdiv q) = ((8192 / q : Nat) : Int) := by
   rw [show (8192 : Int).tdiv q = ((8192 / q : Nat) : Int) from rfl, w64 (by omega) (by have := Nat.div_le_self 8192 q; omega)]
  have ha1 : 1 ≤ a := by
   rcases Nat.eq_zero_or_pos a with rfl | h
   ·exfalso
    have : bitsN 0 ≤ 0 := o_j1 (by decide)
    omega
   ·exact h
  have hn8 : n ≤ 8192 := hn
  have hn1 : 1 < n → 1 ≤ a ∧ 1 ≤ 1 := fun _ => ⟨ha1, by omega⟩
  generalize 8192 / q = dq at *
  have hle2 : ¬ (dq : Int) < n := by omega
  have hle3 : ¬ dq < n := by omega
  have hn' : True := trivial
  refine G1 hn0 ?_; try with_reducible exact tt
  refine AW.cond rfl (fun h => ?_) (fun h => ?_)
  ·simp [hn0] at h
  refine G0 ?_; try with_reducible exact tt
  refine CallS.pu (hbits) (R1 (fs hq1 hq1n) ?_); try with_reducible exact tt
  refine CallS.pu (hbits) (R1 (fs hq0 (fs hdq (fs hle2 (fs hle3 (fs hq1 hq1n))))) ?_); try with_reducible exact tt
  refine AW.cond rfl (fun h => ?_) (fun h => ?_)
  ·simp [hle2, hle3] at h
  refine AW.skip ?_
  simp
  refine G0 ?_; try with_reducible exact tt
  refine CallS.pf 2 1 ⟨194, _⟩ [.int .u64 (1 : Nat)] (hof) (by first | rfl | (simp; done)) (R0 ?_); try with_reducible exact tt
  refine CallS.pu (hbits) (R1 (fs hq2 h1) ?_); try with_reducible exact tt
  refine AW.cond rfl (fun h => ?_) (fun h => ?_)
  ·simp [hq2, h1] at h
  refine AW.skip ?_
  simp
  refine G0 ?_; try with_reducible exact tt
  refine AW.loopT (α := Nat × Nat × Nat) 4 (fun s => [(1, .d (.int .i64 (s.1 : Nat)))]) (fun s => [(0, ⟨25, [.d (natW s.2.1)]⟩), (3, ⟨25, [.d (natW s.2.2)]⟩)]) (fun s => s.1 ≤ 8192 ∧ s.2.2 * s.2.1 ^ s.1 = T ∧ (0 < s.1 → size s.2.1 ≤ 200 ∧ size s.2.2 ≤ 200) ∧ (1 < s.1 → 1 ≤ s.2.1 ∧ 1 ≤ s.2.2)) (fun s => s.1) (n, a, 1) ?_ ?_ ⟨hn8, by rw [Nat.one_mul]; exact hn2, fun _ => ⟨Nat.le_trans has (by omega), Nat.le_trans (o_k8 (x := 1) (by omega)) (by omega)⟩, hn1⟩ ?_ ?_ ?_
  ·simp
  ·simp
  ·simp
  ·simp
  clear hn8 hn1 hn2 hn'
  rintro ⟨m, x, r⟩ ⟨hm8, hT2, hsz, hpos⟩
  simp only at hm8 hT2 hsz hpos
  simp
  by_cases hm0 : m = 0
  ·subst hm0
   rw [Nat.pow_zero, Nat.mul_one] at hT2
   subst hT2
   refine G0 ?_; try with_reducible exact tt
   refine AW.cond rfl (fun h => ?_) (fun h => ?_)
   ·simp at h
   refine AW.exit ?_
   (try (simp -implicitDefEqProofs; try simp (disch := omega) only [w64, wu64]))
   refine G0 ?_; try with_reducible exact tt
  ·have hm1 : (0 : Int) < m := by omega
   have hm2 : 0 < m := by omega
   obtain ⟨sx, sr⟩ := hsz hm2
   have hand := o_mj m (by omega)
   have hm1' := o_k7 r x (by omega) (by omega)
   have hm2' := o_k7 x x (by omega) (by omega)
   have hdv : (m : Int) / 2 = ((m / 2 : Nat) : Int) := rfl
   have hr := o_mk hT2
   have hnext : (1 < m / 2 → 1 ≤ x * x ∧ 1 ≤ (if m % 2 = 1 then r * x else r)) := fun h => by
    obtain ⟨p1, p2⟩ := hpos (by omega)
    refine ⟨Nat.mul_pos p1 p1, ?_⟩
    split
    ·exact Nat.mul_pos p2 p1
    ·exact p2
   have hnext2 : (0 < m / 2 → size (x * x) ≤ 200 ∧ size (if m % 2 = 1 then r * x else r) ≤ 200) := fun h => by
    obtain ⟨p1, p2⟩ := hpos (by omega)
    have q1 : 1 ≤ x * x := Nat.mul_pos p1 p1
    have q2 : 1 ≤ (if m % 2 = 1 then r * x else r) := by
     split
     ·exact Nat.mul_pos p2 p1
     ·exact p2
    obtain ⟨k1, k2⟩ := o_ml hr h q1 q2
    exact ⟨Nat.le_trans (o_ij k1) (by omega), Nat.le_trans (o_ij k2) (by omega)⟩
   have hlt2 : m / 2 < m := by omega
   generalize m / 2 = hm at *
   rcases Nat.mod_two_eq_zero_or_one m with h2 | h2
   ·rw [h2] at hand hr hnext hnext2
    rw [if_neg (by omega)] at hr hnext hnext2
    refine G1 (fs hm1 hm2) ?_; try with_reducible exact tt
    refine AW.cond rfl (fun h => ?_) (fun h => ?_)
    rotate_left
    ·simp [hm1, hm2] at h
    refine G1 hand ?_; try with_reducible exact tt
    refine AW.cond rfl (fun h => ?_) (fun h => ?_)
    ·simp at h
    refine G0 ?_; try with_reducible exact tt
    refine CallS.pu (hm2') (R1 hdv ?_); try with_reducible exact tt
    repeat (first | refine AW.seq ?_ | refine AW.block ?_ | (refine AW.reg mix ?_; simp -implicitDefEqProofs [hdv]; try simp (disch := omega) only [w64, wu64]) | (refine need.of (by first | omega | kernel_rfl) ?_) | (refine AW.fin ?_; try simp -implicitDefEqProofs [hdv]))
    (try (simp -implicitDefEqProofs [hdv]; try simp (disch := omega) only [w64, wu64]))
    repeat (first | refine AW.seq ?_ | refine AW.block ?_ | (refine AW.reg mix ?_; simp -implicitDefEqProofs [hdv]; try simp (disch := omega) only [w64, wu64]) | (refine need.of (by first | omega | kernel_rfl) ?_) | (refine AW.fin ?_; try simp -implicitDefEqProofs [hdv]))
    exact ⟨hm, _, _, ⟨by omega, hr, hnext2, hnext⟩, hlt2, by simp, Subs.refl _, Subs.refl _⟩
   ·rw [h2] at hand hr hnext hnext2
    rw [if_pos rfl] at hr hnext hnext2
    refine G1 (fs hm1 hm2) ?_; try with_reducible exact tt
    refine AW.cond rfl (fun h => ?_) (fun h => ?_)
    rotate_left
    ·simp [hm1, hm2] at h
    refine G1 hand ?_; try with_reducible exact tt
    refine AW.cond rfl (fun h => ?_) (fun h => ?_)
    rotate_left
    ·simp at h
    refine G0 ?_; try with_reducible exact tt
    refine CallS.pu (hm1') (R0 ?_); try with_reducible exact tt
    refine CallS.pu (hm2') (R1 hdv ?_); try with_reducible exact tt
    repeat (first | refine AW.seq ?_ | refine AW.block ?_ | (refine AW.reg mix ?_; simp -implicitDefEqProofs [hdv]; try simp (disch := omega) only [w64, wu64]) | (refine need.of (by first | omega | kernel_rfl) ?_) | (refine AW.fin ?_; try simp -implicitDefEqProofs [hdv]))
    (try (simp -implicitDefEqProofs [hdv]; try simp (disch := omega) only [w64, wu64]))
    repeat (first | refine AW.seq ?_ | refine AW.block ?_ | (refine AW.reg mix ?_; simp -implicitDefEqProofs [hdv]; try simp (disch := omega) only [w64, wu64]) | (refine need.of (by first | omega | kernel_rfl) ?_) | (refine AW.fin ?_; try simp -implicitDefEqProofs [hdv]))
    exact ⟨hm, _, _, ⟨by omega, hr, hnext2, hnext⟩, hlt2, by simp, Subs.refl _, Subs.refl _⟩
end
end Go.Proofs.YtmpjlkclkhnpfaaGreatDoor.Am
namespace Go.Proofs.YtmpjlkclkhnpfaaGreatDoor.Am
section
open Go.RowKit
def lit1 : ByteArray := ⟨#[48, 49, 50, 51, 52, 53, 54, 55, 56, 57, 97, 98, 99, 100, 101, 102, 103, 104, 105, 106, 107, 108, 109, 110, 111, 112, 113, 114, 115, 116, 117, 118, 119, 120, 121, 122]⟩
def lit2 : ByteArray := ⟨#[48, 48, 48, 49, 48, 50, 48, 51, 48, 52, 48, 53, 48, 54, 48, 55, 48, 56, 48, 57, 49, 48, 49, 49, 49, 50, 49, 51, 49, 52, 49, 53, 49, 54, 49, 55, 49, 56, 49, 57, 50, 48, 50, 49, 50, 50, 50, 51, 50, 52, 50, 53, 50, 54, 50, 55, 50, 56, 50, 57, 51, 48, 51, 49, 51, 50, 51, 51, 51, 52, 51, 53, 51, 54, 51, 55, 51, 56, 51, 57, 52, 48, 52, 49, 52, 50, 52, 51, 52, 52, 52, 53, 52, 54, 52, 55, 52, 56, 52, 57, 53, 48, 53, 49, 53, 50, 53, 51, 53, 52, 53, 53, 53, 54, 53, 55, 53, 56, 53, 57, 54, 48, 54, 49, 54, 50, 54, 51, 54, 52, 54, 53, 54, 54, 54, 55, 54, 56, 54, 57, 55, 48, 55, 49, 55, 50, 55, 51, 55, 52, 55, 53, 55, 54, 55, 55, 55, 56, 55, 57, 56, 48, 56, 49, 56, 50, 56, 51, 56, 52, 56, 53, 56, 54, 56, 55, 56, 56, 56, 57, 57, 48, 57, 49, 57, 50, 57, 51, 57, 52, 57, 53, 57, 54, 57, 55, 57, 56, 57, 57]⟩
theorem o_mn : lit1.size = 36 := by kernel_rfl
theorem o_mo : lit2.size = 200 := by kernel_rfl
def smallS (n : Nat) : ByteArray := if n < 10 then lit1.extract n (n + 1) else lit2.extract (n * 2) (n * 2 + 2)

theorem o_mp (n : Nat) (h : n < 100) : Eqn Tryz.prog o_em [.d (.int .i64 n)] [] (.d (.str (smallS n))) [] := by
 refine Eqn.pure o_eo (o_58 _) ?_
 simp only [o_en]
 rw [show (⟨#[48, 49, 50, 51, 52, 53, 54, 55, 56, 57, 97, 98, 99, 100, 101, 102, 103, 104, 105, 106, 107, 108, 109, 110, 111, 112, 113, 114, 115, 116, 117, 118, 119, 120, 121, 122]⟩ : ByteArray) = lit1 from rfl, show (⟨#[48, 48, 48, 49, 48, 50, 48, 51, 48, 52, 48, 53, 48, 54, 48, 55, 48, 56, 48, 57, 49, 48, 49, 49, 49, 50, 49, 51, 49, 52, 49, 53, 49, 54, 49, 55, 49, 56, 49, 57, 50, 48, 50, 49, 50, 50, 50, 51, 50, 52, 50, 53, 50, 54, 50, 55, 50, 56, 50, 57, 51, 48, 51, 49, 51, 50, 51, 51, 51, 52, 51, 53, 51, 54, 51, 55, 51, 56, 51, 57, 52, 48, 52, 49, 52, 50, 52, 51, 52, 52, 52, 53, 52, 54, 52, 55, 52, 56, 52, 57, 53, 48, 53, 49, 53, 50, 53, 51, 53, 52, 53, 53, 53, 54, 53, 55, 53, 56, 53, 57, 54, 48, 54, 49, 54, 50, 54, 51, 54, 52, 54, 53, 54, 54, 54, 55, 54, 56, 54, 57, 55, 48, 55, 49, 55, 50, 55, 51, 55, 52, 55, 53, 55, 54, 55, 55, 55, 56, 55, 57, 56, 48, 56, 49, 56, 50, 56, 51, 56, 52, 56, 53, 56, 54, 56, 55, 56, 56, 56, 57, 57, 48, 57, 49, 57, 50, 57, 51, 57, 52, 57, 53, 57, 54, 57, 55, 57, 56, 57, 57]⟩ : ByteArray) = lit2 from rfl]
 have e1 := o_mn
 have e2 := o_mo
 generalize hl1 : lit1 = l1 at *
 generalize hl2 : lit2 = l2 at *
 by_cases hs : n < 10
 ·have hs' : (n : Int) < 10 := by omega
  refine G1 hs' ?_; try with_reducible exact tt
  refine AW.cond rfl (fun h => ?_) (fun h => ?_)
  ·have ew : IntKind.i64.wrap ((n : Int) + 1) = (n : Int) + 1 := w64 (by omega) (by omega)
   refine G1 (fs ew e1) ?_; try with_reducible exact tt
   refine Sub1.of ?_
   rw [smallS, if_pos hs, hl1]
  ·simp [hs] at h
 ·have hs' : ¬ (n : Int) < 10 := by omega
  refine G1 hs' ?_; try with_reducible exact tt
  refine AW.cond rfl (fun h => ?_) (fun h => ?_)
  ·simp [hs] at h
  ·have ew : IntKind.i64.wrap ((n : Int) * 2) = (n : Int) * 2 := w64 (by omega) (by omega)
   have ew2 : IntKind.i64.wrap ((n : Int) * 2 + 2) = (n : Int) * 2 + 2 := w64 (by omega) (by omega)
   refine G1 (fs ew (fs ew2 e2)) ?_; try with_reducible exact tt
   refine Sub1.of ?_
   rw [smallS, if_neg hs, hl2, show ((n : Int) * 2).toNat = n * 2 by omega, show ((n : Int) * 2 + 2).toNat = n * 2 + 2 by omega]

theorem o_mq (n : Nat) : (smallS n).size ≤ 2 := by
 unfold smallS
 split <;> rw [ByteArray.size_extract] <;> omega
@[simp] theorem o_mr : ByteArray.size ⟨#[]⟩ = 0 := rfl
@[simp] theorem o_ms : ByteArray.size ⟨#[47]⟩ = 1 := rfl
theorem o_mt (s : ByteArray) : s ++ (⟨#[]⟩ : ByteArray) = s := by
 exact ByteArray.append_empty
theorem o_mu (n : Nat) (h : n < 100) : Eqn Tryz.prog o_dj [.d (.int .u64 n), .d (.int .i64 10)] [] (.d (.str (smallS n))) [] := by
 refine Eqn.pure o_dl (o_58 _) ?_
 simp only [o_dk]
 have h1 : (n : Int) < 100 := by omega
 refine G1 h1 ?_; try with_reducible exact tt
 refine AW.cond rfl (fun h => ?_) (fun h => ?_)
 ·refine G1 h1 ?_; try with_reducible exact tt
  refine AW.cond rfl (fun h => ?_) (fun h => ?_)
  ·have e : IntKind.i64.wrap (n : Int) = n := w64 (by omega) (by omega)
   refine G1 e ?_; try with_reducible exact tt
   refine CallS.pu (o_mp n (by omega)) (R0 ?_); try with_reducible exact tt
  ·simp [h1] at h
 ·simp at h

theorem o_mv (n : Nat) (h : n < 100) : Eqn Tryz.prog o_bp [.d (.int .u64 n), .d (.int .i64 10)] [] (.d (.str (smallS n))) [] := by
 refine Eqn.pure o_br (o_58 _) ?_
 simp only [o_bq]
 refine G0 ?_; try with_reducible exact tt
 refine CallS.pu (o_mu n h) (R0 ?_); try with_reducible exact tt

theorem o_mw (n : Nat) (h : n < 100) : Eqn Tryz.prog o_8g [.d (.agg [natW n])] [] (.d (.str (smallS n))) [] := by
 refine Eqn.pure o_8i (o_58 _) ?_
 simp only [o_8h]
 refine G0 ?_; try with_reducible exact tt
 refine CallS.pu (o_i0 n) (R0 ?_); try with_reducible exact tt
 rcases Nat.eq_zero_or_pos n with rfl | h0
 ·refine AW.cond rfl (fun h => ?_) (fun h => ?_)
  ·refine G0 ?_; try with_reducible exact tt
   exact Sub1.of (by kernel_rfl)
  ·simp at h
 have e : natW n = .sl 1 [.int .u64 n] := by rw [natW, o_it h0 (by omega)]; rfl
 have hz : ¬ n = 0 := by omega
 refine AW.cond rfl (fun h => ?_) (fun h => ?_)
 ·simp [hz] at h
 refine G1 e ?_; try with_reducible exact tt
 refine AW.loopT (α := Nat) 1 (fun i => [(4, .d (if i = 0 then .sl 0 [] else .sl 1 [.int .u64 n])), (3, .d (if i = 0 then .str (smallS n) else .str ⟨#[]⟩))]) (fun i => []) (fun i => i ≤ 1) (fun i => i) 1 ?_ ?_ (Nat.le_refl _) ?_ ?_ ?_
 ·simp
 ·simp
 ·simp
 ·simp
 rintro i hi
 simp
 cases i with
 | zero =>
  refine G0 ?_; try with_reducible exact tt
  refine AW.cond rfl (fun h => ?_) (fun h => ?_)
  ·simp at h
  refine G0 ?_; try with_reducible exact tt
 | succ i =>
  obtain rfl : i = 0 := by omega
  refine G0 ?_; try with_reducible exact tt
  refine AW.cond rfl (fun h => ?_) (fun h => ?_)
  ·refine G0 ?_; try with_reducible exact tt
   have hs := o_ix n 1000000000000000000 (by omega) (by omega) (by omega)
   rw [show n / 1000000000000000000 = 0 by omega, show n % 1000000000000000000 = n by omega] at hs
   refine CallS.pu (hs) (R0 ?_); try with_reducible exact tt
   have ht := o_hy [0] (o_iu (by omega)) (by simp)
   rw [show wval [0] = 0 by rfl] at ht
   refine CallS.pu (ht) (R0 ?_); try with_reducible exact tt
   refine CallS.pu (o_mv n (by omega)) ?_
   (try (simp -implicitDefEqProofs [o_hv]; try simp (disch := omega) only [w64, wu64]))
   repeat (first | refine AW.seq ?_ | refine AW.block ?_ | (refine AW.reg mix ?_; simp -implicitDefEqProofs [o_hv]; try simp (disch := omega) only [w64, wu64]) | (refine need.of (by first | omega | kernel_rfl) ?_) | (refine AW.fin ?_; try simp -implicitDefEqProofs [o_hv]))
   refine AW.cond rfl (fun h => ?_) (fun h => ?_)
   ·simp at h
   have s1 := o_mq n
   have sn := o_mt (smallS n)
   repeat (first | refine AW.seq ?_ | refine AW.block ?_ | (refine AW.reg mix ?_; simp -implicitDefEqProofs [o_hv, sn]; try simp (disch := omega) only [w64, wu64]) | (refine need.of (by first | omega | kernel_rfl) ?_) | (refine AW.fin ?_; try simp -implicitDefEqProofs [o_hv, sn]))
   exact ⟨0, by omega, rfl, by simp [sn], by simp⟩
  ·simp at h

theorem o_mx (n : Nat) (h : n < 100) : Eqn Tryz.prog o_8a [.d (.agg [natW n, .bool false])] [] (.d (.str (smallS n))) [] := by
 refine Eqn.pure o_8c (o_58 _) ?_
 simp only [o_8b]
 refine G0 ?_; try with_reducible exact tt
 refine AW.cond rfl (fun h => ?_) (fun h => ?_)
 ·simp at h
 refine G0 ?_; try with_reducible exact tt
 refine CallS.pu (o_mw n (by omega)) (R0 ?_); try with_reducible exact tt

theorem o_my (n d : Nat) (h : n < 100) (hd : d + 1 < 100) (h0 : d ≠ 0) : Eqn Tryz.prog o_6s [.d (.agg [natW n, .bool false, natW d])] [] (.d (.str (smallS n ++ ⟨#[47]⟩ ++ smallS (d + 1)))) [] := by
 refine Eqn.pure o_6u (o_58 _) ?_
 simp only [o_6t]
 have s1 := o_mq n
 have s2 := o_mq (d + 1)
 refine G0 ?_; try with_reducible exact tt
 refine CallS.pu (o_ke n d false) (R0 ?_); try with_reducible exact tt
 refine AW.cond rfl (fun h => ?_) (fun h => ?_)
 ·simp [h0] at h
 refine G0 ?_; try with_reducible exact tt
 refine CallS.pu (o_mx n (by omega)) (R0 ?_); try with_reducible exact tt
 refine CallS.pu (o_kd n d false (by have := o_k8 (x := d) (by omega); omega)) (R0 ?_); try with_reducible exact tt
 refine CallS.pu (o_mw (d + 1) hd) (R0 ?_); try with_reducible exact tt
end
end Go.Proofs.YtmpjlkclkhnpfaaGreatDoor.Am
namespace Go.Proofs.YtmpjlkclkhnpfaaGreatDoor.Am
section
open Go.RowKit
def BL (cs : List Bool) : D := .sl cs.length (cs.map .bool)
abbrev tapeO (cs : List Bool) (p : Nat) (dead : Bool) : Ob := ⟨220, [.d (.int .i64 p), .d (.bool dead), .d (BL cs)]⟩

def flipB (cs : List Bool) (p : Nat) (dead : Bool) : Bool := if dead ∨ p = cs.length then false else cs.getD p false
def flipE (cs : List Bool) (p : Nat) (dead : Bool) : Int := if dead ∨ p = cs.length then 8 else 0
def flipP (cs : List Bool) (p : Nat) (dead : Bool) : Nat := if dead ∨ p = cs.length then p else p + 1
def flipD (cs : List Bool) (p : Nat) (dead : Bool) : Bool := if dead ∨ p = cs.length then true else dead

def halfR (cs : List Bool) : Nat → Nat → Bool → Bool × Int × Nat × Bool
 | 0, p, dd => (true, 0, p, dd)
 | k + 1, p, dd => if flipB cs p dd then halfR cs k (flipP cs p dd) (flipD cs p dd) else (false, flipE cs p dd, flipP cs p dd, flipD cs p dd)
end
end Go.Proofs.YtmpjlkclkhnpfaaGreatDoor.Am
namespace Go.Proofs.YtmpjlkclkhnpfaaGreatDoor.Am
section
open Go.RowKit
theorem o_mz (d : Int) : Eqn Tryz.prog o_fp [.d (.int .i64 d)] [] (.d (.bool (decide (0 ≤ d ∧ d ≤ 8)))) [] := by
 refine Eqn.pure o_fr (o_58 _) ?_
 simp only [o_fq]
 by_cases h : 0 ≤ d
 ·refine G1 h ?_; try with_reducible exact tt
 ·refine G1 h ?_; try with_reducible exact tt

def okK (k : Int) : Bool := decide (0 ≤ k ∧ k ≤ 1023)
def wrongZ (d : Int) (ks : List Int) : Int := if 0 ≤ d ∧ d ≤ 8 then (if ks.all okK then 0 else 2) else 10

theorem o_n0 (d : Int) (ks : List Int) (hn : ks.length ≤ 1000000) : Eqn Tryz.prog o_fs [.d (.int .i64 d), .d (.sl ks.length (ks.map fun k : Int => .int .i64 k))] [] (.d (.int .i64 (wrongZ d ks))) [] := by
 refine Eqn.pure o_fu (o_58 _) ?_
 simp only [o_ft]
 refine G0 ?_; try with_reducible exact tt
 refine CallS.pu (o_mz d) (R0 ?_); try with_reducible exact tt
 by_cases hd : 0 ≤ d ∧ d ≤ 8
 ·refine AW.cond rfl (fun h => ?_) (fun h => ?_)
  ·simp [hd] at h
  refine G0 ?_; try with_reducible exact tt
  refine AW.loopT (α := Nat) 0 (fun i => [(12, .d (.int .i64 (i : Int)))]) (fun i => []) (fun i => i ≤ ks.length ∧ (ks.take i).all okK = true) (fun i => ks.length - i) 0 ?_ ?_ ⟨Nat.zero_le _, by simp⟩ ?_ ?_ ?_
  ·simp
  ·simp
  ·simp
  ·simp
  rintro i ⟨hi, hall⟩
  simp
  by_cases h : i = ks.length
  ·subst h
   rw [List.take_length] at hall
   refine G0 ?_; try with_reducible exact tt
   refine AW.cond rfl (fun h => ?_) (fun h => ?_)
   ·simp at h
   refine G0 ?_; try with_reducible exact tt
   refine Sub1.int ?_
   rw [wrongZ, if_pos hd, if_pos hall]
  ·have hi' : i < ks.length := by omega
   have hp : (i : Int) < ks.length := by omega
   refine G1 (fs hi' hp) ?_; try with_reducible exact tt
   refine AW.cond rfl (fun h => ?_) (fun h => ?_)
   ·have hbad : okK ks[i] = false → wrongZ d ks = 2 := by
     intro hb
     rw [wrongZ, if_pos hd, if_neg]
     intro ha
     rw [List.all_eq_true] at ha
     have := ha ks[i] (List.getElem_mem _)
     rw [hb] at this; cases this
    by_cases h0 : ks[i] < 0
    ·refine G1 (fs hi' (fs hp h0)) ?_; try with_reducible exact tt
     refine AW.cond rfl (fun h => ?_) (fun h => ?_)
     ·refine G0 ?_; try with_reducible exact tt
      refine Sub1.int ?_
      rw [hbad (by simp [okK]; omega)]
     ·simp [h0] at h
    ·by_cases h1 : 1023 < ks[i]
     ·refine G1 (fs hi' (fs hp (fs h0 h1))) ?_; try with_reducible exact tt
      refine AW.cond rfl (fun h => ?_) (fun h => ?_)
      ·refine G0 ?_; try with_reducible exact tt
       refine Sub1.int ?_
       rw [hbad (by simp [okK]; omega)]
      ·simp [h0, h1] at h
     ·refine G1 (fs hi' (fs hp (fs h0 h1))) ?_; try with_reducible exact tt
      refine AW.cond rfl (fun h => ?_) (fun h => ?_)
      ·simp [h0, h1] at h
      have ew : IntKind.i64.wrap ((i : Int) + 1) = (i : Int) + 1 := w64 (by omega) (by omega)
      refine G1 ew ?_; try with_reducible exact tt
      refine ⟨i + 1, ⟨by omega, ?_⟩, by omega, by simp⟩
      rw [List.take_add_one, List.getElem?_eq_getElem hi']
      intro x hx
      rcases List.mem_append.1 hx with hx | hx
      ·exact List.all_eq_true.1 hall x hx
      ·simp at hx
       subst hx
       simp [okK]; omega
   ·simp [hi'] at h
 ·refine AW.cond rfl (fun h => ?_) (fun h => ?_)
  ·refine G0 ?_; try with_reducible exact tt
   refine Sub1.int ?_
   rw [wrongZ, if_neg hd]
  ·simp at h
   exact absurd h hd

def partV (d k : Nat) : Int := bits .and .i64 k (IntKind.i64.wrap (IntKind.i64.wrap (2 ^ d) - 1))
theorem o_n1 (d k : Nat) (hd : d ≤ 8) (hk : k ≤ 1023) : Eqn Tryz.prog o_fv [.d (.int .i64 d), .d (.int .i64 k)] [] (.tup [.d (.int .i64 (k / 2 ^ d : Nat)), .d (.int .i64 (partV d k))]) [] := by
 refine Eqn.pure o_fx (o_ie _ _) ?_
 simp only [o_fw]
 refine G0 ?_; try with_reducible exact tt
 exact Sub1.of rfl

theorem o_n2 (d k : Int) : Eqn Tryz.prog o_fs [.d (.int .i64 d), .d (.sl 1 [.int .i64 k])] [] (.d (.int .i64 (wrongZ d [k]))) [] := o_n0 d [k] (by simp)
def againR (cs : List Bool) (d k j : Int) : Bool × Int × Nat × Bool := if wrongZ d [k, j] = 0 then halfR cs (k.toNat / 2 ^ d.toNat - j.toNat / 2 ^ d.toNat) 0 false else (false, wrongZ d [k, j], 0, false)

def stepR (cs : List Bool) (d k : Int) : Bool × Int × Nat × Bool := if wrongZ d [k] = 0 then halfR cs (k.toNat / 2 ^ d.toNat) 0 false else (false, wrongZ d [k], 0, false)
end
end Go.Proofs.YtmpjlkclkhnpfaaGreatDoor.Am
namespace Go.Proofs.YtmpjlkclkhnpfaaGreatDoor.Am
section
open Go.RowKit
def ratioR (cs : List Bool) (q : Nat) : Nat → Nat → Nat → Bool → Bool × Int × Nat × Bool
 | 0, _, p, dd => (true, 0, p, dd)
 | f + 1, r, p, dd =>
  if r < q then
   if flipE cs p dd = 0 then
    if flipB cs p dd ≠ decide (q ≤ r + r) ∨ (if q ≤ r + r then r + r - q else r + r) = 0 then (decide (q ≤ r + r) && !flipB cs p dd, 0, flipP cs p dd, flipD cs p dd)
    else ratioR cs q f (if q ≤ r + r then r + r - q else r + r) (flipP cs p dd) (flipD cs p dd)
   else (false, flipE cs p dd, flipP cs p dd, flipD cs p dd)
  else (true, 0, p, dd)
def ratioA (cs : List Bool) (a q : Nat) (p : Nat) (dd : Bool) : Bool × Int × Nat × Bool := if a = 0 then (false, 0, p, dd) else ratioR cs q (cs.length + 1 - p) a p dd
end
end Go.Proofs.YtmpjlkclkhnpfaaGreatDoor.Am
namespace Go.Proofs.YtmpjlkclkhnpfaaGreatDoor.Am
section
open Go.RowKit
def powerR (cs : List Bool) (a q : Nat) : Nat → Nat → Bool → Bool × Int × Nat × Bool
 | 0, p, dd => (true, 0, p, dd)
 | k + 1, p, dd => if (ratioA cs a q p dd).1 then powerR cs a q k (ratioA cs a q p dd).2.2.1 (ratioA cs a q p dd).2.2.2 else ratioA cs a q p dd
end
end Go.Proofs.YtmpjlkclkhnpfaaGreatDoor.Am
namespace Go.Proofs.YtmpjlkclkhnpfaaGreatDoor.Am
section
open Go.RowKit
theorem o_n3 (d : Int) : Eqn Tryz.prog o_6p [.d (.int .i64 d)] [] (.d (.bool (decide (1 ≤ d ∧ d ≤ 4096)))) [] := by
 refine Eqn.pure o_6r (o_58 _) ?_
 simp only [o_6q]
 by_cases h : 1 ≤ d
 ·refine G1 h ?_; try with_reducible exact tt
 ·refine G1 h ?_; try with_reducible exact tt

def wrongM (d : Int) (ks : List Int) : Int := if 1 ≤ d ∧ d ≤ 4096 then (if ks.all okK then 0 else 2) else 10

theorem o_n4 (d : Int) (ks : List Int) (hn : ks.length ≤ 1000000) : Eqn Tryz.prog o_81 [.d (.int .i64 d), .d (.sl ks.length (ks.map fun k : Int => .int .i64 k))] [] (.d (.int .i64 (wrongM d ks))) [] := by
 refine Eqn.pure o_83 (o_58 _) ?_
 simp only [o_82]
 refine G0 ?_; try with_reducible exact tt
 refine CallS.pu (o_n3 d) (R0 ?_); try with_reducible exact tt
 by_cases hd : 1 ≤ d ∧ d ≤ 4096
 ·refine AW.cond rfl (fun h => ?_) (fun h => ?_)
  ·simp [hd] at h
  refine G0 ?_; try with_reducible exact tt
  refine AW.loopT (α := Nat) 0 (fun i => [(12, .d (.int .i64 (i : Int)))]) (fun i => []) (fun i => i ≤ ks.length ∧ (ks.take i).all okK = true) (fun i => ks.length - i) 0 ?_ ?_ ⟨Nat.zero_le _, by simp⟩ ?_ ?_ ?_
  ·simp
  ·simp
  ·simp
  ·simp
  rintro i ⟨hi, hall⟩
  simp
  by_cases h : i = ks.length
  ·subst h
   rw [List.take_length] at hall
   refine G0 ?_; try with_reducible exact tt
   refine AW.cond rfl (fun h => ?_) (fun h => ?_)
   ·simp at h
   refine G0 ?_; try with_reducible exact tt
   refine Sub1.int ?_
   rw [wrongM, if_pos hd, if_pos hall]
  ·have hi' : i < ks.length := by omega
   have hp : (i : Int) < ks.length := by omega
   refine G1 (fs hi' hp) ?_; try with_reducible exact tt
   refine AW.cond rfl (fun h => ?_) (fun h => ?_)
   ·have hbad : okK ks[i] = false → wrongM d ks = 2 := by
     intro hb
     rw [wrongM, if_pos hd, if_neg]
     intro ha
     rw [List.all_eq_true] at ha
     have := ha ks[i] (List.getElem_mem _)
     rw [hb] at this; cases this
    by_cases h0 : ks[i] < 0
    ·refine G1 (fs hi' (fs hp h0)) ?_; try with_reducible exact tt
     refine AW.cond rfl (fun h => ?_) (fun h => ?_)
     ·refine G0 ?_; try with_reducible exact tt
      refine Sub1.int ?_
      rw [hbad (by simp [okK]; omega)]
     ·simp [h0] at h
    ·by_cases h1 : 1023 < ks[i]
     ·refine G1 (fs hi' (fs hp (fs h0 h1))) ?_; try with_reducible exact tt
      refine AW.cond rfl (fun h => ?_) (fun h => ?_)
      ·refine G0 ?_; try with_reducible exact tt
       refine Sub1.int ?_
       rw [hbad (by simp [okK]; omega)]
      ·simp [h0, h1] at h
     ·refine G1 (fs hi' (fs hp (fs h0 h1))) ?_; try with_reducible exact tt
      refine AW.cond rfl (fun h => ?_) (fun h => ?_)
      ·simp [h0, h1] at h
      have ew : IntKind.i64.wrap ((i : Int) + 1) = (i : Int) + 1 := w64 (by omega) (by omega)
      refine G1 ew ?_; try with_reducible exact tt
      refine ⟨i + 1, ⟨by omega, ?_⟩, by omega, by simp⟩
      rw [List.take_add_one, List.getElem?_eq_getElem hi']
      intro x hx
      rcases List.mem_append.1 hx with hx | hx
      ·exact List.all_eq_true.1 hall x hx
      ·simp at hx
       subst hx
       simp [okK]; omega
   ·simp [hi'] at h
 ·refine AW.cond rfl (fun h => ?_) (fun h => ?_)
  ·refine G0 ?_; try with_reducible exact tt
   refine Sub1.int ?_
   rw [wrongM, if_neg hd]
  ·simp at h
   exact absurd h hd

theorem o_n5 (d k : Int) : Eqn Tryz.prog o_81 [.d (.int .i64 d), .d (.sl 1 [.int .i64 k])] [] (.d (.int .i64 (wrongM d [k]))) [] := o_n4 d [k] (by simp)
def stepM (cs : List Bool) (d k : Int) (p : Nat) (dd : Bool) : Bool × Int × Nat × Bool := if wrongM d [k] = 0 then powerR cs d.toNat (d.toNat + 1) k.toNat p dd else (false, wrongM d [k], p, dd)
end
end Go.Proofs.YtmpjlkclkhnpfaaGreatDoor.Am
namespace Go.Proofs.YtmpjlkclkhnpfaaGreatDoor.Am
section
open Go.RowKit
theorem o_n6 (x : Rat) : ∀ n : Nat, x ^ n = mkRat (x.num ^ n) (x.den ^ n)
 | 0 => by rw [Rat.pow_zero, Int.pow_zero, Nat.pow_zero]; rfl
 | n + 1 => by
  rw [Rat.pow_succ, o_n6 x n]
  conv => lhs; rhs; rw [← Rat.mkRat_self x]
  rw [Rat.mkRat_mul_mkRat, Int.pow_succ, Nat.pow_succ]

theorem o_n7 (x : Rat) (n : Nat) (hx : 0 ≤ x.num) (hn : n ≤ 8192) (hb1 : bitsN x.num.natAbs ≤ 1 ∨ n ≤ 8192 / bitsN x.num.natAbs) (hb2 : bitsN x.den ≤ 1 ∨ n ≤ 8192 / bitsN x.den) (hs : RS x 129) (hs1 : size (x.num.natAbs ^ n) ≤ 130) (hs2 : size (x.den ^ n) ≤ 130) :
  Eqn Tryz.prog o_84 [.d (rD x), .d (.int .i64 n)] [] (.tup [.d (rD (x ^ n)), .d (.int .i64 0)]) [] := by
 refine Eqn.pure o_86 Plain.ok ?_
 have h1 := o_mm x.num.natAbs n hn hb1 hs.1
 have h2 := o_mm x.den n hn hb2 hs.2
 have h3 := o_mc x (by have := hs.2; omega)
 have hneg : decide (x.num < 0) = false := by rw [decide_eq_false_iff_not]; omega
 have hab := o_ka x.num.natAbs (decide (x.num < 0))
 have hng := o_kb x.num.natAbs (decide (x.num < 0))
 have h4 := o_m4 false (x.num.natAbs ^ n) (x.num ^ n) (by rw [if_neg (by simp), Int.natCast_pow, Int.natAbs_of_nonneg hx])
 have e : (x.num ^ n).natAbs = x.num.natAbs ^ n := Int.natAbs_pow _ _
 have h5 := o_mb (x.num ^ n) (x.den ^ n) (Nat.pow_pos x.den_pos) (by rw [e]; omega) (by omega)
 rw [← o_n6] at h5
 simp only [o_85, rD, hneg] at hab hng h3 h5 ⊢
 generalize hz : x.num ^ n = z at *
 simp only [wD] at h4 h5
 refine G0 ?_; try with_reducible exact tt
 refine CallS.pu (hab) (R0 ?_); try with_reducible exact tt
 refine CallS.pu (h1) (R0 ?_); try with_reducible exact tt
 refine AW.cond rfl (fun h => ?_) (fun h => ?_)
 ·simp at h
 refine G0 ?_; try with_reducible exact tt
 refine CallS.pu (h3) (R0 ?_); try with_reducible exact tt
 refine CallS.pu (h2) (R0 ?_); try with_reducible exact tt
 refine AW.cond rfl (fun h => ?_) (fun h => ?_)
 ·simp at h
 refine G0 ?_; try with_reducible exact tt
 refine CallS.pu (hng) (R0 ?_); try with_reducible exact tt
 refine CallS.pu (h4) (R0 ?_); try with_reducible exact tt
 refine CallS.pu (h5) (R0 ?_); try with_reducible exact tt

theorem o_n8 (n : Nat) (h : n < 9223372036854775808) : Eqn Tryz.prog o_6y [.d (.int .i64 n)] [] (.d (rD (n : Rat))) [] := by
 refine Eqn.pure o_70 (o_58 _) ?_
 have h1 := o_kc n h
 have e : rD (n : Rat) = .agg [natW n, .bool false, natW 0] := by
  unfold rD
  rw [Rat.num_natCast, Rat.den_natCast, Int.natAbs_natCast]
  congr 4
 rw [e]
 simp only [o_6z]
 refine G0 ?_; try with_reducible exact tt
 refine CallS.pu (h1) (R0 ?_); try with_reducible exact tt
 exact Sub1.rat0

theorem o_n9 (p q : Nat) (hp : p < 9223372036854775808) (hq : q < 9223372036854775808) (h0 : 0 < q) : Eqn Tryz.prog o_77 [.d (.int .i64 p), .d (.int .i64 q)] [] (.tup [.d (rD (mkRat p q)), .d (.int .i64 0)]) [] := by
 have hfr : Eqn Tryz.prog o_8j [.d (.agg [natW p, .bool false]), .d (.agg [natW q, .bool false])] [] (.tup [.d (rD (mkRat p q)), .d (.int .i64 0)]) [] := by
  refine Eqn.pure o_8l Plain.ok ?_
  have ha := o_ka q false
  have hp1 := o_ka p false
  have hn1 := o_kb p false
  have hn2 := o_kb q false
  have hz := o_i0 q
  have hq0 : (q == 0) = false := by simp; omega
  rw [hq0] at hz
  have h4 := o_m4 false p (p : Int) rfl
  have h5 := o_mb (p : Int) q h0 (by rw [Int.natAbs_natCast]; exact Nat.le_trans (o_k8 (by omega)) (by omega)) (Nat.le_trans (o_k8 (by omega)) (by omega))
  have e2 : wD (p : Int) = .agg [natW p, .bool false] := by
   unfold wD
   rw [Int.natAbs_natCast]
   congr 4
  rw [e2] at h4 h5
  simp only [o_8k, rD] at h5 ⊢
  refine G0 ?_; try with_reducible exact tt
  refine CallS.pu (ha) (R0 ?_); try with_reducible exact tt
  refine CallS.pu (hz) (R0 ?_); try with_reducible exact tt
  refine AW.cond rfl (fun h => ?_) (fun h => ?_)
  ·simp at h
  refine G0 ?_; try with_reducible exact tt
  refine CallS.pu (hn1) (R0 ?_); try with_reducible exact tt
  refine CallS.pu (hn2) (R0 ?_); try with_reducible exact tt
  refine CallS.pu (hp1) (R0 ?_); try with_reducible exact tt
  refine CallS.pu (h4) (R0 ?_); try with_reducible exact tt
  refine CallS.pu (ha) (R0 ?_); try with_reducible exact tt
  refine CallS.pu (h5) (R0 ?_); try with_reducible exact tt
 refine Eqn.pure o_79 Plain.ok ?_
 have h1 := o_kc p hp
 have h2 := o_kc q hq
 simp only [o_78, rD] at hfr ⊢
 refine G0 ?_; try with_reducible exact tt
 refine CallS.pu (h1) (R0 ?_); try with_reducible exact tt
 refine CallS.pu (h2) (R0 ?_); try with_reducible exact tt
 refine CallS.pu (hfr) (R0 ?_); try with_reducible exact tt
end
end Go.Proofs.YtmpjlkclkhnpfaaGreatDoor.Am
namespace Go.Proofs.YtmpjlkclkhnpfaaGreatDoor.Am
section
section
variable {α β : Type} {f : α → List β} {n : Nat}
theorem o_na (hf : ∀ x, (f x).length = n) : ∀ l : List α, (l.flatMap f).length = l.length * n
 | [] => by simp
 | x :: l => by rw [List.flatMap_cons, List.length_append, hf, o_na hf l, List.length_cons, Nat.add_mul]; omega
theorem o_nb (hf : ∀ x, (f x).length = n) : ∀ (l : List α) (i : Nat), (l.flatMap f).drop (i * n) = (l.drop i).flatMap f
 | l, 0 => by simp
 | [], i + 1 => by simp
 | x :: l, i + 1 => by
  rw [List.flatMap_cons, List.drop_succ_cons, ← o_nb hf l i]
  have h := hf x
  rw [List.drop_append, List.drop_of_length_le (by rw [h, Nat.add_mul]; omega), h, Nat.add_mul]
  simp
theorem o_nc (hf : ∀ x, (f x).length = n) (l : List α) (i : Nat) (h : i < l.length) : ((l.flatMap f).drop (i * n)).take n = f l[i] := by
 rw [o_nb hf, List.drop_eq_getElem_cons h, List.flatMap_cons]
 conv => lhs; arg 1; rw [← hf l[i]]
 simp
end
end
end Go.Proofs.YtmpjlkclkhnpfaaGreatDoor.Am
namespace Go.Proofs.YtmpjlkclkhnpfaaGreatDoor.Am
section
open Go.RowKit
section
variable {P : Program} {L : Nat} {Q : Exit → List V → List (Option Ob) → Prop} {T : List V} {H : List (Option Ob)} {x : C}
def AWu (P : Program) (L : Nat) (x : C) (Q : Exit → List V → List (Option Ob) → Prop) : Nat → List V → List (Option Ob) → Prop
 | 0, _, _ => False
 | n + 1, T, H => AW P L x (thenQ (AWu P L x Q n) Q) T H
theorem AW.rounds (n : Nat) (h : AWu P L x Q n T H) : AW P L (.loop x) Q T H := by
 refine AW.loop (fun k T H => AWu P L x Q k T H) n h fun k T H hk => ?_
 cases k with
 | zero => exact hk.elim
 | succ k =>
  refine AW.mono hk fun e T' H' hq => ?_
  cases e <;> first | exact ⟨k, Nat.lt_succ_self k, hq⟩ | exact hq
theorem AWu.next {n : Nat} (h : AW P L x (thenQ (AWu P L x Q n) Q) T H) : AWu P L x Q (n + 1) T H := h
end
theorem EqnD.sub {P : Program} {f : FuncId} {args args' : List V} {Hs Hs' : List Ob} {X : V} {dead : List Nat} (E : EqnD P f args' Hs X Hs' dead) (h : Subs args args') : EqnD P f args Hs X Hs' dead :=
 ⟨E.len, E.old, E.lowx, E.lowo, fun m vs hb hv => E.run m vs hb (h m vs hv)⟩
end
end Go.Proofs.YtmpjlkclkhnpfaaGreatDoor.Am
namespace Go.Proofs.YtmpjlkclkhnpfaaGreatDoor.Am
section
open Go.RowKit
theorem o_nd : MethOK Tryz.prog 223 "tallymark/chain.good" o_fd := fun v w => by kernel_rfl
theorem o_ne : MethOK Tryz.prog 224 "tallymark/chain.good" o_fj := fun v w => by kernel_rfl
theorem o_nf : MethOK Tryz.prog 225 "tallymark/chain.good" o_g1 := fun v w => by kernel_rfl
theorem o_ng (a : Int) : Eqn Tryz.prog o_fd [.d (.int .i64 a)] [] (.d (.bool (decide (1 ≤ a ∧ a ≤ 4096)))) [] := by
 refine Eqn.pure o_ff (o_58 _) ?_
 simp only [o_fe]
 refine G0 ?_; try with_reducible exact tt
 refine CallS.pu (o_n3 a) (R0 ?_); try with_reducible exact tt
theorem o_nh (a : Int) : Eqn Tryz.prog o_fj [.d (.int .i64 a)] [] (.d (.bool (decide (0 ≤ a ∧ a ≤ 8)))) [] := by
 refine Eqn.pure o_fl (o_58 _) ?_
 simp only [o_fk]
 refine G0 ?_; try with_reducible exact tt
 refine CallS.pu (o_mz a) (R0 ?_); try with_reducible exact tt

def kindD (k a : Int) : D := if k = 1 then .ifc 223 (.int .i64 a) else if k = 2 then .ifc 224 (.int .i64 a) else if k = 3 then .ifc 225 (.int .i64 a) else .nilifc
theorem o_ni (k a w : Int) : Eqn Tryz.prog o_9g [.d (.agg [.int .i64 k, .int .i64 a, .int .i64 w])] [] (.d (kindD k a)) [] := by
 refine Eqn.pure o_9i (o_58 _) ?_
 simp only [o_9h, kindD]
 refine G0 ?_; try with_reducible exact tt
 refine AW.cond rfl (fun h => ?_) (fun h => ?_)
 ·have hk : k = 1 := by simpa using h
  subst hk
  refine G0 ?_; try with_reducible exact tt
 have h1 : ¬ k = 1 := by simpa using h
 clear h
 refine G1 h1 ?_; try with_reducible exact tt
 refine AW.cond rfl (fun h => ?_) (fun h => ?_)
 ·have hk : k = 2 := by simpa using h
  subst hk
  refine G0 ?_; try with_reducible exact tt
 have h2 : ¬ k = 2 := by simpa using h
 clear h
 refine G1 (fs h1 h2) ?_; try with_reducible exact tt
 refine AW.cond rfl (fun h => ?_) (fun h => ?_)
 ·have hk : k = 3 := by simpa using h
  subst hk
  refine G0 ?_; try with_reducible exact tt
 have h3 : ¬ k = 3 := by simpa using h
 clear h
 refine G1 (fs h1 (fs h2 h3)) ?_; try with_reducible exact tt
end
end Go.Proofs.YtmpjlkclkhnpfaaGreatDoor.Am
namespace Go.Proofs.YtmpjlkclkhnpfaaGreatDoor.Am
section
open Go.RowKit
theorem o_nj (s : Int) : Eqn Tryz.prog o_g7 [.d (.int .i64 s)] [] (.d (.bool (decide (1 ≤ s ∧ s ≤ 5)))) [] := by
 refine Eqn.pure o_g9 (o_58 _) ?_
 simp only [o_g8]
 by_cases h : 1 ≤ s
 ·refine G1 h ?_; try with_reducible exact tt
 ·refine G1 h ?_; try with_reducible exact tt

theorem o_nk {x m : Nat} (h : x < 2 ^ (64 * m)) : size x ≤ m := by
 apply o_hb (o_hr x)
 rw [o_hp, show (18446744073709551616 : Nat) = 2 ^ 64 by rfl, ← Nat.pow_mul]
 exact h

theorem o_nl {a b m : Nat} (ha : size a ≤ m) (hb : size b ≤ m) : size (a + b) ≤ m + 1 := by
 refine o_nk ?_
 have h1 := o_gu (o_hq a)
 have h2 := o_gu (o_hq b)
 rw [o_hp, show (18446744073709551616 : Nat) = 2 ^ 64 by rfl, ← Nat.pow_mul] at h1 h2
 have h3 : (2 : Nat) ^ (64 * (words a).length) ≤ 2 ^ (64 * m) := Nat.pow_le_pow_right (by omega) (by unfold size at ha; omega)
 have h4 : (2 : Nat) ^ (64 * (words b).length) ≤ 2 ^ (64 * m) := Nat.pow_le_pow_right (by omega) (by unfold size at hb; omega)
 have h5 : (2 : Nat) ^ (64 * (m + 1)) = 2 ^ (64 * m) * 18446744073709551616 := by rw [show 64 * (m + 1) = 64 * m + 64 by omega, Nat.pow_add]
 rw [h5]
 generalize (2 : Nat) ^ (64 * m) = z at *
 omega

theorem o_nm {x n m : Nat} (h : x < 2 ^ n) (hm : n ≤ 64 * m) : size x ≤ m :=
 o_nk (Nat.lt_of_lt_of_le h (Nat.pow_le_pow_right (by omega) hm))
theorem o_nn (t : Nat) : bitsN t ≤ 64 * size t := by
 apply o_j1
 have h1 := o_gu (o_hq t)
 rw [o_hp, show (18446744073709551616 : Nat) = 2 ^ 64 by rfl, ← Nat.pow_mul] at h1
 exact h1
theorem o_no (s t : Nat) (hs : s ≤ 5) (ht : size t ≤ 1000) : Eqn Tryz.prog o_gl [.d (.int .i64 s), .d (.agg [natW t])] [] (.d (.int .i64 (shiftY s t))) [] := by
 refine Eqn.pure o_gn (o_58 _) ?_
 simp only [o_gm]
 have hb := o_nn t
 refine G0 ?_; try with_reducible exact tt
 refine CallS.pu (o_jm t (by omega)) (R0 ?_); try with_reducible exact tt
 have e1 : IntKind.i64.wrap ((bitsN t : Int) - 1) = (bitsN t : Int) - 1 := w64 (by omega) (by omega)
 have e2 : IntKind.i64.wrap (2 * (s : Int)) = 2 * (s : Int) := w64 (by omega) (by omega)
 have e3 : IntKind.i64.wrap ((bitsN t : Int) - 1 - 2 * (s : Int)) = (bitsN t : Int) - 1 - 2 * (s : Int) := w64 (by omega) (by omega)
 have e4 : max 0 ((bitsN t : Int) - 1 - 2 * (s : Int)) = (shiftY s t : Int) := by unfold shiftY; omega
 simp [e1, e2, e3, e4]

theorem o_np (s t : Nat) (hs : s ≤ 5) (ht : size t ≤ 1000) : Eqn Tryz.prog o_gi [.d (.int .i64 s), .d (.agg [natW t])] [] (.d (.agg [natW (moreY s t)])) [] := by
 refine Eqn.pure o_gk (o_58 _) ?_
 simp only [o_gj]
 have hq := Nat.div_le_self t (2 ^ s)
 have hq2 := Nat.div_mul_le_self t (2 ^ s)
 have hm : moreY s t = t + (if t / 2 ^ s * 2 ^ s < t then t / 2 ^ s + 1 else t / 2 ^ s) := rfl
 rw [hm]
 have s1 := o_ij hq
 have s2 := o_ij hq2
 have s1' : size 1 ≤ 1 := o_k8 (by omega)
 refine G0 ?_; try with_reducible exact tt
 refine CallS.pu (o_ju t s (by omega) (by omega)) (R0 ?_); try with_reducible exact tt
 refine CallS.pu (o_is (t / 2 ^ s) s (by omega) (by omega)) (R0 ?_); try with_reducible exact tt
 generalize hQ : t / 2 ^ s = q at *
 generalize q * 2 ^ s = b at *
 refine CallS.pu (o_i2 b t (by omega) (by omega)) (R0 ?_); try with_reducible exact tt
 have hb : size (q + 1) ≤ 1001 := by
  have := o_nl (a := q) (b := 1) (m := 1000) (by omega) (by omega)
  omega
 by_cases hlt : b < t
 ·simp only [if_pos hlt]
  refine AW.cond rfl (fun h => ?_) (fun h => ?_)
  ·refine G0 ?_; try with_reducible exact tt
   refine CallS.pf 4 1 ⟨194, _⟩ [.int .u64 (1 : Nat)] (o_hz [1] (o_iu (by omega)) (by simp)) (by first | rfl | (simp; done)) (R0 ?_); try with_reducible exact tt
   refine CallS.pu (o_ig q 1 (by omega) (by omega)) (R0 ?_); try with_reducible exact tt
   refine CallS.pu (o_ig t (q + 1) (by omega) (by omega)) (R0 ?_); try with_reducible exact tt
  ·simp [o_iv, hlt] at h
 ·simp only [if_neg hlt]
  refine AW.cond rfl (fun h => ?_) (fun h => ?_)
  ·simp [o_iv, hlt] at h
  ·refine G0 ?_; try with_reducible exact tt
   refine CallS.pu (o_ig t q (by omega) (by omega)) (R0 ?_); try with_reducible exact tt

def plD (p : Pl) : D := .agg [.int .i64 p.x, .int .i64 p.shift, natW p.value, natW p.reply]

theorem o_nq {s t : Nat} : moreY s t ≤ 4 * t := by
 unfold moreY
 have h1 := Nat.div_le_self t (2 ^ s)
 split
 ·rename_i h
  have : 0 < t := by omega
  omega
 ·omega

theorem o_nr (s : Nat) (p : Pl) (hs : s ≤ 5) (hx : p.x ≤ 100000) (h1 : p.shift ≤ 8192) (h2 : size p.value ≤ 900) (h3 : size p.reply ≤ 900) :
  Eqn Tryz.prog o_gf [.d (plD p), .d (.int .i64 s)] [] (.d (plD (nextY s p))) [] := by
 refine Eqn.pure o_gh (o_58 _) ?_
 obtain ⟨x, sh, v, r⟩ := p
 simp only at hx h1 h2 h3
 simp only [o_gg, plD, nextY]
 have s1 : size 1 ≤ 1 := o_k8 (by omega)
 have hsz : size (1 * 2 ^ sh) ≤ 129 := o_nm (n := sh + 1) (by rw [Nat.one_mul]; exact Nat.pow_lt_pow_right (by omega) (Nat.lt_succ_self _)) (by omega)
 have hv := o_nl (m := 900) h2 (by omega : size (1 * 2 ^ sh) ≤ 900)
 refine G0 ?_; try with_reducible exact tt
 refine CallS.pf 2 1 ⟨194, _⟩ [.int .u64 (1 : Nat)] (o_hz [1] (o_iu (by omega)) (by simp)) (by first | rfl | (simp; done)) (R0 ?_); try with_reducible exact tt
 refine CallS.pu (o_is 1 sh (by omega) h1) (R0 ?_); try with_reducible exact tt
 rw [Nat.one_mul] at hsz hv
 generalize 2 ^ sh = st at *
 refine CallS.pu (o_ig v st (by omega) (by omega)) (R0 ?_); try with_reducible exact tt
 refine CallS.pu (o_i2 (v + st) r (by omega) (by omega)) (R0 ?_); try with_reducible exact tt
 have hge : (0 ≤ cmpZ (v + st) r) ↔ r ≤ v + st := by
  unfold cmpZ; split <;> (try split) <;> omega
 by_cases hr : r ≤ v + st
 ·simp only [if_pos hr]
  have ew : IntKind.i64.wrap ((x : Int) + 1) = (x : Int) + 1 := w64 (by omega) (by omega)
  refine AW.cond rfl (fun h => ?_) (fun h => ?_)
  ·have hm := o_nq (s := s) (t := r)
   have hms := o_ij hm
   have hrr := o_nl h3 h3
   have hmsz : size (moreY s r) ≤ 1000 := by
    have := o_nl hrr hrr
    have h4 : r + r + (r + r) = 4 * r := by omega
    rw [h4] at this
    omega
   refine G1 ew ?_; try with_reducible exact tt
   refine CallS.pu (o_np s r hs (by omega)) (R0 ?_); try with_reducible exact tt
   refine CallS.pu (o_no s (moreY s r) hs hmsz) (R0 ?_); try with_reducible exact tt
  ·simp [hge, hr] at h
 ·simp only [if_neg hr]
  refine AW.cond rfl (fun h => ?_) (fun h => ?_)
  ·simp [hge, hr] at h
  ·refine G0 ?_; try with_reducible exact tt
end
end Go.Proofs.YtmpjlkclkhnpfaaGreatDoor.Am
namespace Go.Proofs.YtmpjlkclkhnpfaaGreatDoor.Am
section
open Go.RowKit
theorem o_ns (s : Nat) : Eqn Tryz.prog n_yu_walk [.d (.int .i64 s)] [] (.fn (.func o_gd) [.p 0 0]) [⟨3, [.d (.int .i64 s)]⟩] := by
 refine Eqn.newX r_yu_walk rfl ⟨rfl, fun _ => rfl⟩ (fun n => rfl) ?_
 simp only [c_yu_walk]
 refine G0 ?_; try with_reducible exact tt
 exact ⟨0, Sub1.refl _, _, rfl, rfl, Subs.refl _⟩

structure WalkS where
 r0 : C
 r1 : C
 g : C
 os : List O
 call : Option (Nat × List Nat × Option Nat)
 o4 : O
 cy : X
 r5 : C
 r6 : C
 ids : Nat × Nat
 calm : Bool
 res : Nat
 nt : Nat
def callS (o : Oper) : Option (Nat × List Nat × Option Nat) := match o.op, o.guard with
 | .call c, none => match c.callee, c.args.toList with
  | .value (.tmp f), [.tmp x, .tmp y] => some (f, [x, y], o.dst)
  | _, _ => none
 | _, _ => none
def walkS (P : Program) (f : FuncId) : Option WalkS := match P.funcs[f]? with
 | some fn => match fn.body with
  | some (.seq r0 (.seq r1 (.block i0 (.loop (.seq g (.seq (.block i1 (.seq (.seq (.region _ ops false) (.cond cy .ret .skip)) r5)) r6)))))) => match ops.toList with
   | [o0, o1, o2, o3, o4] => some ⟨resolveC P r0, resolveC P r1, resolveC P g, [o0, o1, o2].map (resolveO P ops), callS o3, resolveO P ops o4, X.of cy, resolveC P r5, resolveC P r6, (i0, i1), [o0, o1, o2].all notDefer && [o4].all notDefer, fn.results.size, fn.ntmps⟩
   | _ => none
  | _ => none
 | none => none
theorem o_nt {P : Program} {f : FuncId} {s : WalkS} (h : walkS P f = some s) : ∃ (fn : Func) (r0 r1 g r5 r6 : Code) (i id : Nat) (ops : Array Oper) (o0 o1 o2 o3 o4 : Oper) (cy : Operand),
  P.funcs[f]? = some fn ∧ fn.body = some (.seq r0 (.seq r1 (.block s.ids.1 (.loop (.seq g (.seq (.block s.ids.2 (.seq (.seq (.region id ops false) (.cond cy .ret .skip)) r5)) r6)))))) ∧ ops.toList = [o0, o1, o2, o3, o4] ∧
  resolveC P r0 = s.r0 ∧ resolveC P r1 = s.r1 ∧ resolveC P g = s.g ∧ [o0, o1, o2].map (resolveO P ops) = s.os ∧ callS o3 = s.call ∧ resolveO P ops o4 = s.o4 ∧ X.of cy = s.cy ∧ resolveC P r5 = s.r5 ∧ resolveC P r6 = s.r6 ∧ ([o0, o1, o2].all notDefer && [o4].all notDefer) = s.calm ∧ fn.results.size = s.res ∧ fn.ntmps = s.nt := by
 unfold walkS at h
 split at h
 ·rename_i fn hf
  split at h
  ·rename_i r0 r1 i0 g i1 id ops cy r5 r6 hb
   split at h
   ·rename_i o0 o1 o2 o3 o4 ho
    cases h
    exact ⟨fn, r0, r1, g, r5, r6, 0, id, ops, o0, o1, o2, o3, o4, cy, hf, hb, ho, rfl, rfl, rfl, rfl, rfl, rfl, rfl, rfl, rfl, rfl, rfl, rfl⟩
   ·cases h
  ·cases h
 ·cases h
theorem o_nu {o : Oper} {f x y : Nat} {d : Option Nat} (h : callS o = some (f, [x, y], d)) : ∃ c, o.op = .call c ∧ o.guard = none ∧ c.callee = .value (.tmp f) ∧ c.args.toList = [.tmp x, .tmp y] ∧ o.dst = d := by
 unfold callS at h
 split at h
 ·rename_i c ho hg
  split at h
  ·rename_i hc ha
   cases h
   exact ⟨c, ho, hg, hc, ha, rfl⟩
  ·cases h
 ·cases h

structure AtS where
 a1 : C
 a2 : C
 a3 : C
 a4 : C
 g : X
 ps : List Nat
 asg : C
 bd : C
 a5 : List O
 id : Nat
 calm : Bool
 rs : List RV
 nt : Nat
def atS (P : Program) (f : FuncId) : Option AtS := match P.funcs[f]? with
 | some fn => match fn.body with
  | some (.seq a1 (.seq a2 (.seq a3 (.seq (.seq a4 (.block id (.rangeFunc g ps asg bd))) (.seq (.region _ ops false) .ret))))) =>
   some ⟨resolveC P a1, resolveC P a2, resolveC P a3, resolveC P a4, X.of g, ps.toList, resolveC P asg, resolveC P bd, ops.toList.map (resolveO P ops), id, Code.calm asg && (Code.calm bd && ops.toList.all notDefer), fn.results.toList.map (resolveR P), fn.ntmps⟩
  | _ => none
 | none => none
theorem o_nv {P : Program} {f : FuncId} {s : AtS} (h : atS P f = some s) : ∃ (fn : Func) (a1 a2 a3 a4 asg bd : Code) (g : Operand) (ps : Array Nat) (id : Nat) (ops : Array Oper),
  P.funcs[f]? = some fn ∧ fn.body = some (.seq a1 (.seq a2 (.seq a3 (.seq (.seq a4 (.block s.id (.rangeFunc g ps asg bd))) (.seq (.region id ops false) .ret))))) ∧
  resolveC P a1 = s.a1 ∧ resolveC P a2 = s.a2 ∧ resolveC P a3 = s.a3 ∧ resolveC P a4 = s.a4 ∧ X.of g = s.g ∧ ps.toList = s.ps ∧ resolveC P asg = s.asg ∧ resolveC P bd = s.bd ∧ ops.toList.map (resolveO P ops) = s.a5 ∧ (Code.calm asg && (Code.calm bd && ops.toList.all notDefer)) = s.calm ∧ fn.results.toList.map (resolveR P) = s.rs ∧ fn.ntmps = s.nt := by
 unfold atS at h
 split at h
 ·rename_i fn hf
  split at h
  ·rename_i a1 a2 a3 a4 id g ps asg bd id' ops hb
   cases h
   exact ⟨fn, a1, a2, a3, a4, asg, bd, g, ps, id', ops, hf, hb, rfl, rfl, rfl, rfl, rfl, rfl, rfl, rfl, rfl, rfl, rfl, rfl⟩
  ·cases h
 ·cases h

def C.l : C → C
 | .seq a _ => a
 | c => c
def C.r : C → C
 | .seq _ b => b
 | c => c
def C.b : C → C
 | .block _ a | .loop a => a
 | c => c
def C.os : C → List O
 | .reg _ l => l
 | _ => []
def cAsg : C := .seq (.reg false [⟨some 7, .mv (.t 24), none, []⟩]) (.reg false [⟨some 8, .new 331 [.int .i64 0, .int .i64 0, .nilsl, .nilsl], none, []⟩, ⟨none, .store 4 (.t 8) (.t 25), none, [0, 0]⟩])
def cBd : C := .block 2 (.seq (.reg false [⟨some 26, .load true 4 (.t 8), none, []⟩, ⟨none, .store 4 (.t 6) (.t 26), none, [0, 0]⟩])
 (.seq (.reg false [⟨some 27, .mv (.t 7), none, []⟩, ⟨some 28, .load false 1 (.t 3), none, []⟩, ⟨some 29, .bin .eql (.t 27) (.t 28), none, [0, 1]⟩]) (.cond (.t 29) (.exit 1) .skip)))
theorem at_s : atS Tryz.prog o_ga = some ⟨o_gb.l, o_gb.r.l, o_gb.r.r.l, o_gb.r.r.r.l.l, .t 23, [24, 25], cAsg, cBd, o_gb.r.r.r.r.l.os, 1, true, [.cell 4 true 4, .t 5], 31⟩ := by kernel_rfl
abbrev cWb : C := o_ge.r.r.b.b
theorem o_nw : walkS Tryz.prog o_gd = some ⟨o_ge.l, o_ge.r.l, cWb.l, (cWb.r.l.b.l.l.os).take 3, some (15, [16, 17], some 18), ((cWb.r.l.b.l.l.os).drop 4).headD ⟨none, .bad, none, []⟩, .t 19, cWb.r.l.b.r, cWb.r.r, (0, 1), true, 0, 23⟩ := by kernel_rfl

abbrev kO (K : Nat) : Ob := ⟨3, [.d (.int .i64 K)]⟩
abbrev plO (c : List V) : Ob := ⟨331, c⟩

def Tr (i : Nat) (p : List D) : List V := [.junk, .junk, .junk, .p 0 0, .junk, .junk, .p 2 0] ++ List.replicate 17 .junk ++ [.d (.int .i64 i), .d (.agg p)] ++ List.replicate 5 .junk

theorem o_nx (l n K i : Nat) (c : List V) (p : List D) (hp : p.length = 4) : AWr Tryz.prog (some l) n 3 cAsg (thenQ (fun T H => T = ((Tr i p).set 7 (.d (.int .i64 i))).set 8 (.p 3 0) ∧ H = [some (kO K), none, some (plO c), some (plO (p.map .d))]) noQ) (Tr i p) [some (kO K), none, some (plO c)] := by
 obtain ⟨p1, p2, p3, p4, rfl⟩ : ∃ a b c d, p = [a, b, c, d] := by
  match p, hp with
  | [a, b, c, d], _ => exact ⟨a, b, c, d, rfl⟩
 simp only [cAsg, Tr]
 refine AWr.seq (AWr.reg ?_)
 simp
 refine AWr.reg ?_
 simp

theorem o_ny (l n K i : Nat) (c : List V) (hc : c.length = 4) (p : List D) (hp : p.length = 4) : AWr Tryz.prog (some l) n 3 cBd (fun e T H => H = [some (kO K), none, some (plO (p.map .d)), some (plO (p.map .d))] ∧ e = if i = K then .exit 1 else .normal) (((Tr i p).set 7 (.d (.int .i64 i))).set 8 (.p 3 0)) [some (kO K), none, some (plO c), some (plO (p.map .d))] := by
 obtain ⟨p1, p2, p3, p4, rfl⟩ : ∃ a b c d, p = [a, b, c, d] := by
  match p, hp with
  | [a, b, c, d], _ => exact ⟨a, b, c, d, rfl⟩
 obtain ⟨c1, c2, c3, c4, rfl⟩ : ∃ a b c' d, c = [a, b, c', d] := by
  match c, hc with
  | [a, b, c, d], _ => exact ⟨a, b, c, d, rfl⟩
 simp only [cBd, Tr]
 refine AWr.block ?_
 refine AWr.seq (AWr.reg ?_)
 simp
 refine AWr.seq (AWr.reg ?_)
 by_cases h : i = K
 ·subst h
  simp
  refine AWr.cond rfl (fun h => ?_) (fun h => ?_)
  ·refine AWr.exit ?_
   simp
  ·simp at h
 ·have h' : ¬ (i : Int) = K := by omega
  simp [h, h']
  refine AWr.cond rfl (fun h => ?_) (fun h => ?_)
  ·simp at h
   omega
  ·refine AWr.skip ?_
   simp

theorem o_nz {m : Mem} {n : Nat} {o : Ob} (h : m.obj n o) : ∃ b, m.ρ n = some b := by
 obtain ⟨b, _, _, h1, _⟩ := h; exact ⟨b, h1⟩

def RoundR (K i : Nat) (p : List D) (m : Mem) (l : Nat) (rec : LoopState → Option Code → Loop) (e : Ending) (w' : World) : Prop :=
 ∃ m' : Mem, m'.w = w' ∧ m'.base ∧ m'.obj 0 (kO K) ∧ m'.obj 2 (plO (p.map .d)) ∧
  if i = K then e = .returned (.bool false) ∧ (m.at (m.w.putObj l (.loop (rec .done (some (.exit 1)))))).le m' (· < 3) else e = .returned (.bool true) ∧ m.le m' (· < 3)

theorem o_o0 {asg bd : Code} (hasg : resolveC Tryz.prog asg = cAsg) (hbd : resolveC Tryz.prog bd = cBd) (ca : Code.calm asg = true) (cb : Code.calm bd = true) {fn df : Nat} {tmps : Array Value} {rec : LoopState → Option Code → Loop}
  (hrec : rec = fun st pe => { state := st, pending := pe, fn, tmps, params := #[24, 25], assign := asg, body := bd, defers := df }) (n K i : Nat) (p : List D) (hp : p.length = 4) {m : Mem} {l : Nat} {c : List V} (mb : m.base) (h0 : m.obj 0 (kO K)) (h2 : m.obj 2 (plO c)) (hc : c.length = 4)
  (hinj : ∀ b, m.ρ 0 = some b → m.ρ 2 ≠ some b) (htop : ∀ n, n ≠ 0 → n ≠ 2 → m.ρ n = none) (t3 : (V.p 0 0).rep m (tmps.getD 3 undef)) (t6 : (V.p 2 0).rep m (tmps.getD 6 undef)) (hsz : tmps.size = 31) (hlo : m.loose l) (hl : m.w.heap[l]? = some (.loop (rec .ready none))) {v : Value} (hv : (V.d (.agg p)).rep m v) :
  YieldAt Fence.wide n Tryz.prog l #[.int .i64 i, v] m.w (RoundR K i p m l rec) := by
 have hy := run_yield (P := Tryz.prog) (args := #[.int .i64 i, v]) hl (by rw [hrec]; rfl)
 refine ⟨_, _, _, _, hy, ?_⟩
 have ht : ((rec .ready none).params.zip #[.int .i64 i, v]).foldl (fun tmps (t, a) => tmps.setIfInBounds t a) (rec .ready none).tmps = (tmps.setIfInBounds 24 (.int .i64 i)).setIfInBounds 25 v := by
  rw [hrec]; simp
 rw [ht, show (rec .ready none).assign = asg by rw [hrec], show (rec .ready none).body = bd by rw [hrec]]
 clear hy ht
 have sat : Sat m ⟨(tmps.setIfInBounds 24 (.int .i64 i)).setIfInBounds 25 v, []⟩ (Tr i p) [some (kO K), none, some (plO c)] := by
  refine ⟨mb, fun s => ?_, fun n ob h => ?_, fun n k b ln lk h1 h3 => ?_, fun n h => htop n (by simp at h; omega) (by simp at h; omega), by simp [Tr, hsz], rfl⟩
  ·have g : ((tmps.setIfInBounds 24 (.int .i64 i)).setIfInBounds 25 v).getD s undef = if s = 25 then v else if s = 24 then .int .i64 i else tmps.getD s undef := by
    rw [Array.getD_eq_getD_getElem?, Array.getElem?_setIfInBounds]
    by_cases e1 : s = 25
    ·subst e1; simp [hsz]
    ·rw [if_neg (by omega), if_neg e1, Array.getElem?_setIfInBounds]
     by_cases e2 : s = 24
     ·subst e2; simp [hsz]
     ·rw [if_neg (by omega), if_neg e2, Array.getD_eq_getD_getElem?]
   have g2 : (Tr i p).getD s .junk = if s = 25 then .d (.agg p) else if s = 24 then .d (.int .i64 i) else if s = 3 then .p 0 0 else if s = 6 then .p 2 0 else .junk := by
    rcases Nat.lt_or_ge s 31 with hs | hs
    ·have : ∀ s, s < 31 → (Tr i p).getD s .junk = if s = 25 then .d (.agg p) else if s = 24 then .d (.int .i64 i) else if s = 3 then .p 0 0 else if s = 6 then .p 2 0 else .junk := by
      intro s hs
      iterate 31 (rcases s with _ | s; · rfl)
      omega
     exact this s hs
    ·rw [if_neg (by omega), if_neg (by omega), if_neg (by omega), if_neg (by omega), List.getD_eq_getElem?_getD, List.getElem?_eq_none (by simp [Tr]; omega)]; rfl
   rw [g, g2]
   split
   ·exact hv
   ·split
    ·exact V.rep_int.2 rfl
    ·split
     ·rename_i e; subst e; exact t3
     ·split
      ·rename_i e; subst e; exact t6
      ·unfold V.rep; trivial
  ·rcases n with _ | _ | _ | n
   ·simp at h; subst h; exact h0
   ·simp at h
   ·simp at h; subst h; exact h2
   ·simp at h
  ·have l2 : ∀ n, live [some (kO K), none, some (plO c)] n → n = 0 ∨ n = 2 := fun n h => by
    rcases n with _ | _ | _ | n
    ·exact .inl rfl
    ·simp [live] at h
    ·exact .inr rfl
    ·simp [live] at h
   rcases l2 n ln with rfl | rfl <;> rcases l2 k lk with rfl | rfl
   ·rfl
   ·exact (hinj b h1 h3).elim
   ·exact (hinj b h3 h1).elim
   ·rfl
 have htop3 : ∀ n, 3 ≤ n → m.ρ n = none := fun n h => htop n (by omega) (by omega)
 refine roundIn_of_wpIn trivial (wpIn_mono (o_nx l n K i c p hp asg hasg ca m m _ sat (Mem.le.refl _ _) htop3 (by simp)) ?_)
 rintro e a1 w1 ⟨T1, H1, m1, rfl, hq, sat1, hle1, _⟩
 cases e with
 | normal =>
  obtain ⟨rfl, rfl⟩ := hq
  obtain ⟨lo1, hl1⟩ := hlo.keep hle1
  have hl1' := hl1.trans hl
  refine ⟨_, run_beginRound hl1' (by rw [hrec]), ?_⟩
  have nc : ∀ (r : Loop) c t f, Obj.loop r ≠ .cells c t f := by intro r c t f h; cases h
  have hle2 := hlo.le hle1 (o := .loop { rec .ready none with state := .busy }) (o' := .loop { rec .ready none with state := .busy }) hl (nc _) (nc _) (nc _) rfl
  have sat2 := lo1.sat (.loop { rec .ready none with state := .busy }) sat1
  refine wpIn_mono (o_ny l n K i c hc p hp bd hbd cb (m.at (m.w.putObj l (.loop { rec .ready none with state := .busy }))) _ a1 sat2 hle2 htop3 (by simp)) ?_
  rintro e a3 w3 ⟨T3, H3, m3, rfl, ⟨rfl, rfl⟩, sat3, hle3, _⟩
  obtain ⟨lo3, hl3⟩ := (hlo.put (.loop { rec .ready none with state := .busy })).keep hle3
  rw [World.putObj_heap_same hlo.lt] at hl3
  have hend := fun jump => run_endRound (P := Tryz.prog) jump hl3
  have hle4 := fun o (ho : ∀ c t f, o ≠ Obj.cells c t f) => (hlo.put (.loop { rec .ready none with state := .busy })).le hle3 (o := o) (o' := o) (World.putObj_heap_same hlo.lt) (nc _) ho ho rfl
  have sat4 := fun o => lo3.sat o sat3
  by_cases hik : i = K
  ·simp only [if_pos hik]
   refine ⟨_, _, hend (some (.exit 1)), ⟨_, rfl, (sat4 _).base, (sat4 _).obj 0 _ rfl, (sat4 _).obj 2 _ rfl, ?_⟩⟩
   rw [if_pos hik]
   refine ⟨rfl, ?_⟩
   have := hle4 (.loop { rec .ready none with state := .done, pending := some (.exit 1) }) (nc _)
   simp only [o_69] at this
   rw [hrec] at this ⊢
   exact this
  ·simp only [if_neg hik]
   refine ⟨_, _, hend none, ⟨_, rfl, (sat4 _).base, (sat4 _).obj 0 _ rfl, (sat4 _).obj 2 _ rfl, ?_⟩⟩
   rw [if_neg hik]
   refine ⟨rfl, ?_⟩
   have := hle4 (.loop (rec .ready none)) (nc _)
   simp only [o_69, o_6a hl] at this
   rw [hrec] at this ⊢
   exact this
 | _ => exact hq.elim
end
end Go.Proofs.YtmpjlkclkhnpfaaGreatDoor.Am
namespace Go.Proofs.YtmpjlkclkhnpfaaGreatDoor.Am
section
open Go.RowKit
theorem Sat.put {m : Mem} {a : Act} {T : List V} {H : List (Option Ob)} (sat : Sat m a T H) (s : Nat) {x : V} {v : Value} (hv : x.rep m v) : Sat m (a.put (some s) v) (T.set s x) H := by
 refine ⟨sat.base, fun i => ?_, sat.obj, sat.inj, sat.top, by rw [o_42]; simpa using sat.size, by rw [o_43]; exact sat.defers⟩
 have h1 : T.set s x = putT T (some s) x := rfl
 rw [h1, o_44, o_41, sat.size]
 split
 ·exact hv
 ·exact sat.slots i

abbrev sO (s : Nat) : Ob := ⟨3, [.d (.int .i64 s)]⟩
def plC (p : Pl) : List D := [.int .i64 p.x, .int .i64 p.shift, natW p.value, natW p.reply]
abbrev fnY (l : Nat) : V := .fn (.yield l) []
def Tw0 (l : Nat) : List V := [fnY l, .p 3 0, .junk, .p 5 0] ++ List.replicate 19 .junk
def Tw (l i : Nat) : List V := [fnY l, .p 3 0, .junk, .p 5 0, .d (.int .i64 i)] ++ List.replicate 18 .junk
def Hw (K s i : Nat) (c : List V) : List (Option Ob) := [some (kO K), none, some (plO c), some (sO s), none, some (plO ((plC (placeY s i)).map .d))]

theorem o_o1 {s k : Nat} (h1 : 1 ≤ s) (h5 : s ≤ 5) (hk : k ≤ 1024) : (placeY s k).x ≤ 100000 ∧ (placeY s k).shift ≤ 8192 ∧ size (placeY s k).value ≤ 900 ∧ size (placeY s k).reply ≤ 900 := by
 obtain ⟨a1, a2, a3, a4, a5⟩ := o_j5 h1 k
 refine ⟨by omega, by omega, ?_, ?_⟩
 ·refine Nat.le_trans (o_nm (n := 11 + (2 * s + k)) (m := 20) (Nat.lt_of_le_of_lt a4 ?_) (by omega)) (by omega)
  have hp := Nat.two_pow_pos (2 * s + k)
  rw [Nat.pow_add 2 11]
  generalize 2 ^ (2 * s + k) = z at *
  have h1 : k * z ≤ 1024 * z := Nat.mul_le_mul_right _ hk
  have h2 : (2 : Nat) ^ 11 * z = 2048 * z := rfl
  rw [h2]
  omega
 ·exact Nat.le_trans (o_nm (n := 2 * s + k + 1) (m := 20) (Nat.lt_of_le_of_lt a2 (Nat.pow_lt_pow_right (by omega) (Nat.lt_succ_self _))) (by omega)) (by omega)

theorem w_r0 (l K s : Nat) (h1 : 1 ≤ s) (h5 : s ≤ 5) (c : List V) (hc : V.lowl 6 c = true) : AW Tryz.prog 4 o_ge.l (thenQ (fun T H => wk 6 T (Tw0 l) ∧ wkH 6 H (Hw K s 0 c)) noQ) ([fnY l, .p 3 0] ++ List.replicate 21 .junk) [some (kO K), none, some (plO c), some (sO s)] := by
 simp only [o_ge, C.l, Tw0, Hw]
 have e1 : IntKind.i64.wrap (2 * (s : Int)) = 2 * (s : Int) := w64 (by omega) (by omega)
 have e2 : ((2 : Int) * s).toNat = 2 * s := by omega
 have e3 : (2 : Int) ^ (2 * s) = (2 ^ (2 * s) : Nat) := by rw [Int.natCast_pow]; rfl
 have hlt : 2 ^ (2 * s) ≤ 2 ^ 10 := Nat.pow_le_pow_right (by omega) (by omega)
 have hp0 : placeY s 0 = ⟨0, 0, 0, 2 ^ (2 * s)⟩ := rfl
 rw [hp0]
 generalize 2 ^ (2 * s) = q at *
 have e4 : IntKind.u64.wrap (q : Int) = q := wu64 (by omega) (by omega)
 have e5 : (2 : Int) * s ≤ 64 := by omega
 refine G1 (fs e1 (fs e2 (fs e3 (fs e4 e5)))) ?_; try with_reducible exact tt
 refine CallS.pf 4 1 ⟨194, _⟩ [.int .u64 q] (o_hz [q] (o_iu (by omega)) (by simp)) (by first | rfl | (simp; done)) (R0 ?_); try with_reducible exact tt
 exact ⟨Subs.cons (Sub1.refl _) (Subs.cons (Sub1.refl _) (Subs.cons Sub1.nil (Subs.of (by simp [wval])))), rfl⟩

theorem w_r1 (l K s : Nat) (c : List V) (hc : V.lowl 6 c = true) : AW Tryz.prog 4 o_ge.r.l (thenQ (fun T H => wk 6 T (Tw l 0) ∧ wkH 6 H (Hw K s 0 c)) noQ) (Tw0 l) (Hw K s 0 c) := by
 simp only [o_ge, C.l, C.r, Tw0, Tw, Hw]
 have hp : V.lowl 6 ((plC (placeY s 0)).map V.d) = true := rfl
 refine G1 (fs hc hp) ?_; try with_reducible exact tt

theorem w_g (l K s i : Nat) (hi : i ≤ 1023) (c : List V) (hc : V.lowl 6 c = true) : AW Tryz.prog 4 cWb.l (thenQ (fun T H => wk 6 T (Tw l i) ∧ wkH 6 H (Hw K s i c)) noQ) (Tw l i) (Hw K s i c) := by
 simp only [o_ge, C.l, C.r, C.b, Tw, Hw]
 have hp : V.lowl 6 ((plC (placeY s i)).map V.d) = true := rfl
 have h1 : (i : Int) ≤ 1023 := by omega
 refine G1 (fs hc (fs hp h1)) ?_; try with_reducible exact tt
 refine AW.cond rfl (fun h => ?_) (fun h => ?_)
 ·refine G1 (fs hc hp) ?_; try with_reducible exact tt
 ·simp [h1] at h

theorem w_r5 (l K s i : Nat) (h1 : 1 ≤ s) (h5 : s ≤ 5) (hi : i ≤ 1023) (c : List V) (hc : V.lowl 6 c = true) : AW Tryz.prog 4 cWb.r.l.b.r (thenQ (fun T H => wk 6 T (Tw l i) ∧ wkH 6 H (Hw K s (i + 1) c)) noQ) (Tw l i) (Hw K s i c) := by
 simp only [o_ge, C.l, C.r, C.b, Tw, Hw]
 obtain ⟨b1, b2, b3, b4⟩ := o_o1 h1 h5 (k := i) (by omega)
 have hn := o_nr s (placeY s i) h5 b1 b2 b3 b4
 rw [show nextY s (placeY s i) = placeY s (i + 1) from rfl] at hn
 generalize placeY s i = p at *
 generalize placeY s (i + 1) = p' at *
 simp only [plC, List.map_cons, List.map_nil, plD] at hn ⊢
 refine G1 hc ?_; try with_reducible exact tt
 refine CallS.pu (hn) (R1 hc ?_); try with_reducible exact tt

theorem w_r6 (l K s i : Nat) (hi : i ≤ 1023) (c : List V) (hc : V.lowl 6 c = true) : AW Tryz.prog 4 cWb.r.r (thenQ (fun T H => wk 6 T (Tw l (i + 1)) ∧ wkH 6 H (Hw K s (i + 1) c)) noQ) (Tw l i) (Hw K s (i + 1) c) := by
 simp only [o_ge, C.l, C.r, C.b, Tw, Hw]
 have hp : V.lowl 6 ((plC (placeY s (i + 1))).map V.d) = true := rfl
 generalize (plC (placeY s (i + 1))).map V.d = pc at *
 have ew : IntKind.i64.wrap ((i : Int) + 1) = (i : Int) + 1 := w64 (by omega) (by omega)
 refine G1 (fs hc (fs hp ew)) ?_; try with_reducible exact tt

theorem w_os (l K s i : Nat) (c : List V) (ops : Array Oper) {K' : List V → List (Option Ob) → Prop} (h : K' ((((Tw l i).set 15 (fnY l)).set 16 (.d (.int .i64 i))).set 17 (.d (.agg (plC (placeY s i))))) (Hw K s i c)) :
  vops Tryz.prog false K' ((cWb.r.l.b.l.l.os).take 3) [] (Tw l i) (Hw K s i c) := by
 simp only [cWb, o_ge, C.l, C.r, C.b, C.os, Tw, Hw] at h ⊢
 generalize placeY s i = p at *
 simp only [plC, List.map_cons, List.map_nil] at h ⊢
 simp
 simpa using h
theorem w_o4 (l K s i : Nat) (p : D) (b : Bool) (H : List (Option Ob)) {K' : List V → List (Option Ob) → Prop} (h : K' (((((Tw l i).set 15 (fnY l)).set 16 (.d (.int .i64 i))).set 17 (.d p)).set 18 (.d (.bool b)) |>.set 19 (.d (.bool !b))) H) :
  vops Tryz.prog false K' [((cWb.r.l.b.l.l.os).drop 4).headD ⟨none, .bad, none, []⟩] [] (((((Tw l i).set 15 (fnY l)).set 16 (.d (.int .i64 i))).set 17 (.d p)).set 18 (.d (.bool b))) H := by
 simp only [cWb, o_ge, C.l, C.r, C.b, C.os, Tw] at h ⊢
 simp
 simpa using h
end
end Go.Proofs.YtmpjlkclkhnpfaaGreatDoor.Am
