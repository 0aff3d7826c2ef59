import Derived.Test.YtakjegcjeffmgaaDoorNat6
namespace Go.Proofs.YtakjegcjeffmgaaDoor.Am
open Go.RowKit
set_option maxRecDepth 100000
set_option linter.unusedSimpArgs false
set_option linter.unusedVariables false

theorem and32 (x : Nat) (h : x < 18446744073709551616) : bits BinOp.and IntKind.u64 (x : Int) 4294967295 = ((x % 4294967296 : Nat) : Int) := by
  have := bits_and_u64_nat x 4294967295 h (by omega)
  rw [show ((4294967295 : Nat) : Int) = 4294967295 by rfl] at this
  rw [this, show (4294967295 : Nat) = 2 ^ 32 - 1 by rfl, Nat.and_two_pow_sub_one_eq_mod]

/-- a product of two words, by halves -/
theorem mul_parts (x y : Nat) (hx : x < 18446744073709551616) (hy : y < 18446744073709551616) :
    let x0 := x % 4294967296; let x1 := x / 4294967296; let y0 := y % 4294967296; let y1 := y / 4294967296
    let w0 := x0 * y0; let t := x1 * y0 + w0 / 4294967296; let w1 := t % 4294967296 + x0 * y1
    w0 < 18446744073709551616 ∧ x1 * y0 < 18446744073709551616 ∧ t < 18446744073709551616 ∧ x0 * y1 < 18446744073709551616 ∧ w1 < 18446744073709551616 ∧ x1 * y1 < 18446744073709551616 ∧
    x1 * y1 + t / 4294967296 < 18446744073709551616 ∧ x1 * y1 + t / 4294967296 + w1 / 4294967296 < 18446744073709551616 ∧
    x * y = (x1 * y1 + t / 4294967296 + w1 / 4294967296) * 18446744073709551616 + x * y % 18446744073709551616 := by
  intro x0 x1 y0 y1 w0 t w1
  have hx0 : x0 < 4294967296 := Nat.mod_lt _ (by decide)
  have hy0 : y0 < 4294967296 := Nat.mod_lt _ (by decide)
  have hx1 : x1 < 4294967296 := by simp only [x1]; omega
  have hy1 : y1 < 4294967296 := by simp only [y1]; omega
  have ex : x = x1 * 4294967296 + x0 := by simp only [x1, x0]; omega
  have ey : y = y1 * 4294967296 + y0 := by simp only [y1, y0]; omega
  have b : ∀ {a c : Nat}, a < 4294967296 → c < 4294967296 → a * c ≤ 18446744065119617025 := fun {a c} ha hc => by
    have := Nat.mul_le_mul (show a ≤ 4294967295 by omega) (show c ≤ 4294967295 by omega)
    omega
  have b00 := b hx0 hy0
  have b10 := b hx1 hy0
  have b01 := b hx0 hy1
  have b11 := b hx1 hy1
  have exy : x * y = x1 * y1 * 18446744073709551616 + (x1 * y0 + x0 * y1) * 4294967296 + x0 * y0 := by
    rw [ex, ey]
    simp only [Nat.add_mul, Nat.mul_add]
    have e1 : x1 * 4294967296 * (y1 * 4294967296) = x1 * y1 * 18446744073709551616 := by
      rw [Nat.mul_mul_mul_comm]
    have e2 : x1 * 4294967296 * y0 = x1 * y0 * 4294967296 := by rw [Nat.mul_right_comm]
    have e3 : x0 * (y1 * 4294967296) = x0 * y1 * 4294967296 := by rw [Nat.mul_assoc]
    rw [e1, e2, e3]; omega
  have hw0 : w0 = x0 * y0 := rfl
  generalize x * y = xy at exy ⊢
  generalize x0 * y0 = a00 at *
  have ht : t = x1 * y0 + w0 / 4294967296 := rfl
  generalize x1 * y0 = a10 at *
  have hw1 : w1 = t % 4294967296 + x0 * y1 := rfl
  generalize x0 * y1 = a01 at *
  generalize x1 * y1 = a11 at *
  clear_value w0 t w1
  omega

theorem mul64_ok (x y : Nat) (hx : x < 18446744073709551616) (hy : y < 18446744073709551616) : Eqn Tryd.prog n_math_bits_Mul64 [.d (.int .u64 x), .d (.int .u64 y)] [] (.tup [.d (.int .u64 (x * y / 18446744073709551616 : Nat)), .d (.int .u64 (x * y % 18446744073709551616 : Nat))]) [] := by
  refine Eqn.pure r_math_bits_Mul64 (plain_tup2 _ _) ?_
  simp only [c_math_bits_Mul64]
  have hp := mul_parts x y hx hy
  simp only at hp
  have a1 := and32 x hx
  have a2 := and32 y hy
  have d1 : (x : Int) / 4294967296 = (x / 4294967296 : Nat) := rfl
  have d2 : (y : Int) / 4294967296 = (y / 4294967296 : Nat) := rfl
  have l1 : x % 4294967296 < 4294967296 := Nat.mod_lt _ (by decide)
  generalize x % 4294967296 = x0 at hp a1 l1
  generalize x / 4294967296 = x1 at hp d1
  generalize y % 4294967296 = y0 at hp a2
  generalize y / 4294967296 = y1 at hp d2
  obtain ⟨p1, p2, p3, p4, p5, p6, p7, p8, p9⟩ := hp
  have m1 : IntKind.u64.wrap ((x0 : Int) * y0) = (x0 * y0 : Nat) := by rw [← Int.natCast_mul]; exact wu64 (by omega) (by omega)
  have m2 : IntKind.u64.wrap ((x1 : Int) * y0) = (x1 * y0 : Nat) := by rw [← Int.natCast_mul]; exact wu64 (by omega) (by omega)
  have m3 : IntKind.u64.wrap ((x0 : Int) * y1) = (x0 * y1 : Nat) := by rw [← Int.natCast_mul]; exact wu64 (by omega) (by omega)
  have m4 : IntKind.u64.wrap ((x1 : Int) * y1) = (x1 * y1 : Nat) := by rw [← Int.natCast_mul]; exact wu64 (by omega) (by omega)
  have m5 : IntKind.u64.wrap ((x : Int) * y) = (x * y % 18446744073709551616 : Nat) := by rw [IntKind.wrap_u64, Int.natCast_emod, Int.natCast_mul]; rfl
  have lo : x * y % 18446744073709551616 < 18446744073709551616 := Nat.mod_lt _ (by decide)
  generalize x * y % 18446744073709551616 = low at *
  generalize x * y = xy at *
  generalize x0 * y0 = a00 at *
  generalize x1 * y0 = a10 at *
  generalize x0 * y1 = a01 at *
  generalize x1 * y1 = a11 at *
  have q1 : (a00 : Int) / 4294967296 = (a00 / 4294967296 : Nat) := rfl
  generalize a00 / 4294967296 = b0 at *
  have s1 : IntKind.u64.wrap ((a10 : Int) + b0) = (a10 + b0 : Nat) := wu64 (by omega) (by omega)
  have a3 := and32 (a10 + b0) p3
  have q2 : ((a10 + b0 : Nat) : Int) / 4294967296 = ((a10 + b0) / 4294967296 : Nat) := rfl
  generalize (a10 + b0) / 4294967296 = t1 at *
  generalize (a10 + b0) % 4294967296 = t0 at *
  generalize a10 + b0 = t at *
  have s2 : IntKind.u64.wrap ((t0 : Int) + a01) = (t0 + a01 : Nat) := wu64 (by omega) (by omega)
  have q3 : ((t0 + a01 : Nat) : Int) / 4294967296 = ((t0 + a01) / 4294967296 : Nat) := rfl
  generalize (t0 + a01) / 4294967296 = v1 at *
  generalize t0 + a01 = v at *
  have s3 : IntKind.u64.wrap ((a11 : Int) + t1) = (a11 + t1 : Nat) := wu64 (by omega) (by omega)
  have s4 : IntKind.u64.wrap (((a11 + t1 : Nat) : Int) + v1) = (a11 + t1 + v1 : Nat) := wu64 (by omega) (by omega)
  have fin : xy / 18446744073709551616 = a11 + t1 + v1 := by omega
  rw [fin]
  generalize a11 + t1 + v1 = hi at *
  generalize a11 + t1 = r at *
  repeat (first | refine AW.seq ?_ | refine AW.block ?_ | (refine AW.reg mix ?_; (simp [a1, a2, d1, d2, m1, m2, m3, m4, m5, q1, s1, a3, q2, s2, q3, s3, s4]; try simp (disch := omega) only [w64, wu64])) | (refine need.of (by first | omega | kernel_rfl) ?_) | (refine AW.skip ?_; (try simp [a1, a2, d1, d2, m1, m2, m3, m4, m5, q1, s1, a3, q2, s2, q3, s3, s4])) | (refine AW.ret ?_; (try simp [a1, a2, d1, d2, m1, m2, m3, m4, m5, q1, s1, a3, q2, s2, q3, s3, s4])) | (refine AW.exit ?_; (try simp [a1, a2, d1, d2, m1, m2, m3, m4, m5, q1, s1, a3, q2, s2, q3, s3, s4])))
end Go.Proofs.YtakjegcjeffmgaaDoor.Am
