import Derived.Test.YtakjegcjeffmgaaYuAt2
import Derived.Test.YtakjegcjeffmgaaAmTri
import Derived.Test.YtakjegcjeffmgaaText1
namespace Go.Proofs.Ytakjegcjeffmgaa.Am
open Go.RowKit
set_option maxRecDepth 100000
set_option linter.unusedSimpArgs false
set_option linter.unusedVariables false

theorem moreY_eq (s t : Nat) (ht : 0 < t) : ∃ c, moreY s t = t + c ∧ 0 < c ∧ t / 2 ^ s ≤ c := by
  unfold moreY
  have hz : t / 2 ^ s * 2 ^ s < t ∨ 0 < t / 2 ^ s := by
    rcases Nat.eq_zero_or_pos (t / 2 ^ s) with h | h
    · left; rw [h]; omega
    · exact .inr h
  generalize t / 2 ^ s = q at *
  generalize q * 2 ^ s = b at *
  split
  · exact ⟨q + 1, rfl, by omega, by omega⟩
  · exact ⟨q, rfl, by omega, by omega⟩
theorem placeY_inv {s : Nat} (hs : 1 ≤ s) (k : Nat) : (placeY s k).shift = shiftY s (placeY s k).reply ∧ (placeY s k).value < (placeY s k).reply ∧ 0 < (placeY s k).reply := by
  induction k with
  | zero =>
    simp only [placeY]
    refine ⟨?_, Nat.two_pow_pos _, Nat.two_pow_pos _⟩
    have h1 : bitsN (2 ^ (2 * s)) = 2 * s + 1 := by
      rw [bitsN_div (k := 2 * s) (Nat.le_refl _), Nat.div_self (Nat.two_pow_pos _)]; rfl
    rw [shiftY, h1]; omega
  | succ k ih =>
    obtain ⟨h1, h2, h3⟩ := ih
    have hm : (placeY s k).reply < moreY s (placeY s k).reply ∧ (placeY s k).value + 2 ^ (placeY s k).shift < moreY s (placeY s k).reply := by
      generalize placeY s k = p at *
      obtain ⟨c, hc1, hc2, hc3⟩ := moreY_eq s p.reply h3
      have hc : 2 ^ p.shift ≤ c := by
        obtain ⟨hb1, hb2⟩ := bitsN_pos h3
        rcases Nat.eq_zero_or_pos p.shift with h0 | h0
        · rw [h0]; exact hc2
        · rw [h1, shiftY] at h0
          refine Nat.le_trans ?_ hc3
          rw [Nat.le_div_iff_mul_le (Nat.two_pow_pos _), ← Nat.pow_add]
          refine Nat.le_trans (Nat.pow_le_pow_right (by omega) ?_) hb1
          rw [h1, shiftY]; omega
      omega
    simp only [placeY, nextY]
    split
    · exact ⟨rfl, hm.2, by simp only; omega⟩
    · exact ⟨h1, by simp only; omega, h3⟩
theorem bitsN_mono {a b : Nat} (h : a ≤ b) : bitsN a ≤ bitsN b := bitsN_le (Nat.lt_of_le_of_lt h (lt_bitsN b))
theorem bitsN_two {a b : Nat} (h : b ≤ 2 * a) : bitsN b ≤ bitsN a + 1 := bitsN_le (by have := lt_bitsN a; rw [Nat.pow_succ]; omega)

theorem place_rises {s k : Nat} (hs : 1 ≤ s) : (placeY s k).value < (placeY s (k + 1)).value ∧ (placeY s k).shift ≤ (placeY s (k + 1)).shift ∧ (placeY s (k + 1)).shift ≤ (placeY s k).shift + 1 ∧ (placeY s k).value < (placeY s k).reply ∧
    (((placeY s (k + 1)).x = (placeY s k).x ∧ (placeY s (k + 1)).reply = (placeY s k).reply) ∨ ((placeY s (k + 1)).x = (placeY s k).x + 1 ∧ (placeY s k).reply < (placeY s (k + 1)).reply)) := by
  obtain ⟨h1, h2, h3⟩ := placeY_inv hs k
  obtain ⟨g1, g2, g3⟩ := placeY_inv hs (k + 1)
  have h4 := (placeY_le hs k).1
  have hm := moreY_le hs (show 2 ≤ (placeY s k).reply by omega)
  have hm2 : (placeY s k).reply ≤ moreY s (placeY s k).reply := by
    obtain ⟨c, hc1, hc2, hc3⟩ := moreY_eq s _ h3
    omega
  have b1 := bitsN_mono hm2
  have b2 := bitsN_two hm
  have hp := Nat.two_pow_pos (placeY s k).shift
  have hm3 : (placeY s k).reply < moreY s (placeY s k).reply := by
    obtain ⟨c, hc1, hc2, hc3⟩ := moreY_eq s _ h3
    omega
  simp only [placeY, nextY] at g1 g2 g3 ⊢
  split
  · refine ⟨by simp only; omega, ?_, ?_, h2, .inr ⟨rfl, hm3⟩⟩
    · simp only [h1, shiftY]; omega
    · simp only [h1, shiftY]; omega
  · exact ⟨by simp only; omega, Nat.le_refl _, Nat.le_succ _, h2, .inl ⟨rfl, rfl⟩⟩

theorem and_mask (k : Int) (m : Nat) (hm : m ≤ 4611686018427387904) : ∃ n : Nat, bits BinOp.and IntKind.i64 k (m : Int) = n ∧ n ≤ m := by
  refine ⟨(BitVec.ofInt 64 k).toNat &&& m, ?_, Nat.and_le_right⟩
  have hm' : m % 2 ^ 64 = m := Nat.mod_eq_of_lt (by omega)
  have hle : (BitVec.ofInt 64 k).toNat &&& m ≤ m := Nat.and_le_right
  show IntKind.i64.wrap (((BitVec.ofInt 64 k) &&& (BitVec.ofInt 64 (m : Int))).toNat : Int) = _
  rw [BitVec.toNat_and, BitVec.ofInt_natCast, BitVec.toNat_ofNat, hm']
  generalize (BitVec.ofInt 64 k).toNat &&& m = n at *
  exact w64 (by omega) (by omega)

end Go.Proofs.Ytakjegcjeffmgaa.Am
