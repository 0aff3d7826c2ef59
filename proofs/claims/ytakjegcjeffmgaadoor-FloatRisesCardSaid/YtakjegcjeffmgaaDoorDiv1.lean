import Derived.Test.YtakjegcjeffmgaaDoorNat7
import Derived.Test.YtakjegcjeffmgaaDoorAmTri
import Derived.Test.YtakjegcjeffmgaaDoorMul1
namespace Go.Proofs.YtakjegcjeffmgaaDoor.Am
open Go.RowKit
set_option maxRecDepth 100000
set_option linter.unusedSimpArgs false
set_option linter.unusedVariables false

theorem div_parts (hi lo y : Nat) (h0 : hi < y) (hl : lo < 18446744073709551616) (hy : y < 18446744073709551616) :
    ∃ s Y u v : Nat, s = 64 - bitsN y ∧ s ≤ 63 ∧ y * 2 ^ s = Y ∧ Y < 18446744073709551616 ∧ 9223372036854775808 ≤ Y ∧ hi * 2 ^ s < 18446744073709551616 ∧ hi * 2 ^ s ||| lo / 2 ^ (64 - s) = u ∧ lo * 2 ^ s % 18446744073709551616 = v ∧ u < Y ∧ v < 18446744073709551616 ∧
      (hi * 18446744073709551616 + lo) * 2 ^ s = u * 18446744073709551616 + v := by
  obtain ⟨b1, b2⟩ := bitsN_pos (n := y) (by omega)
  have b3 := lt_bitsN y
  have b4 : bitsN y ≤ 64 := bitsN_le (by omega)
  have hs : 64 - bitsN y ≤ 63 := by omega
  have hY1 : y * 2 ^ (64 - bitsN y) < 18446744073709551616 := by
    have : 2 ^ bitsN y * 2 ^ (64 - bitsN y) = 18446744073709551616 := by rw [← Nat.pow_add, show bitsN y + (64 - bitsN y) = 64 by omega]
    rw [← this]
    exact Nat.mul_lt_mul_of_pos_right b3 (Nat.two_pow_pos _)
  have hY2 : 9223372036854775808 ≤ y * 2 ^ (64 - bitsN y) := by
    have : 2 ^ (bitsN y - 1) * 2 ^ (64 - bitsN y) = 9223372036854775808 := by rw [← Nat.pow_add, show bitsN y - 1 + (64 - bitsN y) = 63 by omega]
    rw [← this]
    exact Nat.mul_le_mul_right _ b1
  generalize 64 - bitsN y = s at *
  have hB : (18446744073709551616 : Nat) = 2 ^ s * 2 ^ (64 - s) := by rw [← Nat.pow_add, show s + (64 - s) = 64 by omega]
  have hp := Nat.two_pow_pos s
  have hp' := Nat.two_pow_pos (64 - s)
  have hh : hi * 2 ^ s < y * 2 ^ s := Nat.mul_lt_mul_of_pos_right h0 hp
  have hlq : lo / 2 ^ (64 - s) < 2 ^ s := by rw [Nat.div_lt_iff_lt_mul hp', ← hB]; exact hl
  have hor : hi * 2 ^ s ||| lo / 2 ^ (64 - s) = hi * 2 ^ s + lo / 2 ^ (64 - s) := by
    rw [Nat.mul_comm, ← Nat.two_pow_add_eq_or_of_lt hlq]
  have hlo : lo * 2 ^ s = lo / 2 ^ (64 - s) * 18446744073709551616 + lo * 2 ^ s % 18446744073709551616 := by
    have h1 : lo * 2 ^ s / 18446744073709551616 = lo / 2 ^ (64 - s) := by
      conv => lhs; rw [hB]
      rw [Nat.mul_comm lo, Nat.mul_div_mul_left _ _ hp]
    have h2 := Nat.div_add_mod (lo * 2 ^ s) 18446744073709551616
    rw [h1] at h2
    omega
  have hlm : lo * 2 ^ s % 18446744073709551616 < 18446744073709551616 := Nat.mod_lt _ (by decide)
  have hN : (hi * 18446744073709551616 + lo) * 2 ^ s = (hi * 2 ^ s) * 18446744073709551616 + lo * 2 ^ s := by
    rw [Nat.add_mul, Nat.mul_right_comm]
  refine ⟨s, y * 2 ^ s, hi * 2 ^ s + lo / 2 ^ (64 - s), lo * 2 ^ s % 18446744073709551616, rfl, hs, rfl, hY1, hY2, by omega, hor, rfl, ?_, hlm, ?_⟩
  · have h1 : (hi + 1) * 2 ^ s ≤ y * 2 ^ s := Nat.mul_le_mul_right _ h0
    rw [Nat.add_mul, Nat.one_mul] at h1
    omega
  · rw [hN, hlo, Nat.add_mul]
    generalize lo * 2 ^ s % 18446744073709551616 = a at *
    generalize lo / 2 ^ (64 - s) = b at *
    generalize hi * 2 ^ s = c at *
    omega

/-- a half digit: q guessed, r left -/
def hInv (Y1 Y0 u v : Nat) (q r : Nat) : Prop := q * Y1 + r = u ∧ u * 4294967296 + v < (q + 1) * (Y1 * 4294967296 + Y0) ∧ r < 4294967296

theorem hInv_first {Y1 Y0 u v : Nat} (h1 : 0 < Y1) (h2 : Y1 < 4294967296) (hv : v < 4294967296) : hInv Y1 Y0 u v (u / Y1) (u % Y1) := by
  refine ⟨?_, half_first h1 hv, ?_⟩
  · rw [Nat.mul_comm]; exact Nat.div_add_mod u Y1
  · have := Nat.mod_lt u h1; omega

set_option maxHeartbeats 8000000 in
theorem div64_ok (hi lo y : Nat) (h0 : hi < y) (hl : lo < 18446744073709551616) (hy : y < 18446744073709551616) : Eqn Tryd.prog n_math_bits_Div64 [.d (.int .u64 hi), .d (.int .u64 lo), .d (.int .u64 y)] [] (.tup [.d (.int .u64 ((hi * 18446744073709551616 + lo) / y : Nat)), .d (.int .u64 ((hi * 18446744073709551616 + lo) % y : Nat))]) [] := by
  rcases Nat.eq_zero_or_pos hi with rfl | hpos
  · rw [Nat.zero_mul, Nat.zero_add]
    exact div64_small lo y hl (by omega)
  refine Eqn.pure r_math_bits_Div64 (plain_tup2 _ _) ?_
  simp only [c_math_bits_Div64]
  obtain ⟨s, Y, u, v, hs, hs63, hY, hYl, hYg, hhs, hor, hv, hu, hvl, hN⟩ := div_parts hi lo y h0 hl hy
  have hq : (hi * 18446744073709551616 + lo) / y = (u * 18446744073709551616 + v) / Y := by rw [← hN, ← hY]; exact shifted_div.1.symm
  have hr : (hi * 18446744073709551616 + lo) % y = (u * 18446744073709551616 + v) % Y / 2 ^ s := by rw [← hN, ← hY]; exact shifted_div.2.symm
  rw [hq, hr]
  clear hq hr hN
  obtain ⟨Qf, hQf⟩ : ∃ Qf, Qf = (u * 18446744073709551616 + v) / Y := ⟨_, rfl⟩
  obtain ⟨Rf, hRf⟩ : ∃ Rf, Rf = (u * 18446744073709551616 + v) % Y / 2 ^ s := ⟨_, rfl⟩
  rw [← hQf, ← hRf]
  have h1 : ¬ y = 0 := by omega
  have h2 : ¬ (y : Int) ≤ hi := by omega
  have h3 : ¬ hi = 0 := by omega
  have h1' : ¬ (y : Int) = 0 := by omega
  have h3' : ¬ (hi : Int) = 0 := by omega
  repeat (first | refine AW.seq ?_ | refine AW.block ?_ | (refine AW.reg mix ?_; (simp (implicitDefEqProofs := false) [↓callI, vopsN, vopsG, ↓step_slice, ↓A.step, ↓binInt, ↓binStr, vopsE0, vopsE1, -vops, h1, h1']; try simp (disch := omega) only [w64, wu64])) | (refine need.of (by first | omega | kernel_rfl) ?_) | (refine AW.skip ?_; (try simp (implicitDefEqProofs := false) [↓callI, vopsN, vopsG, ↓step_slice, ↓A.step, ↓binInt, ↓binStr, vopsE0, vopsE1, -vops, h1, h1'])) | (refine AW.ret ?_; (try simp (implicitDefEqProofs := false) [↓callI, vopsN, vopsG, ↓step_slice, ↓A.step, ↓binInt, ↓binStr, vopsE0, vopsE1, -vops, h1, h1'])) | (refine AW.exit ?_; (try simp (implicitDefEqProofs := false) [↓callI, vopsN, vopsG, ↓step_slice, ↓A.step, ↓binInt, ↓binStr, vopsE0, vopsE1, -vops, h1, h1'])))
  refine AW.cond rfl (fun h => ?_) (fun h => ?_)
  · simp [h1] at h
  repeat (first | refine AW.seq ?_ | refine AW.block ?_ | (refine AW.reg mix ?_; (simp (implicitDefEqProofs := false) [↓callI, vopsN, vopsG, ↓step_slice, ↓A.step, ↓binInt, ↓binStr, vopsE0, vopsE1, -vops, h2]; try simp (disch := omega) only [w64, wu64])) | (refine need.of (by first | omega | kernel_rfl) ?_) | (refine AW.skip ?_; (try simp (implicitDefEqProofs := false) [↓callI, vopsN, vopsG, ↓step_slice, ↓A.step, ↓binInt, ↓binStr, vopsE0, vopsE1, -vops, h2])) | (refine AW.ret ?_; (try simp (implicitDefEqProofs := false) [↓callI, vopsN, vopsG, ↓step_slice, ↓A.step, ↓binInt, ↓binStr, vopsE0, vopsE1, -vops, h2])) | (refine AW.exit ?_; (try simp (implicitDefEqProofs := false) [↓callI, vopsN, vopsG, ↓step_slice, ↓A.step, ↓binInt, ↓binStr, vopsE0, vopsE1, -vops, h2])))
  refine AW.cond rfl (fun h => ?_) (fun h => ?_)
  · simp [h2] at h
  repeat (first | refine AW.seq ?_ | refine AW.block ?_ | (refine AW.reg mix ?_; (simp (implicitDefEqProofs := false) [↓callI, vopsN, vopsG, ↓step_slice, ↓A.step, ↓binInt, ↓binStr, vopsE0, vopsE1, -vops, h3, h3']; try simp (disch := omega) only [w64, wu64])) | (refine need.of (by first | omega | kernel_rfl) ?_) | (refine AW.skip ?_; (try simp (implicitDefEqProofs := false) [↓callI, vopsN, vopsG, ↓step_slice, ↓A.step, ↓binInt, ↓binStr, vopsE0, vopsE1, -vops, h3, h3'])) | (refine AW.ret ?_; (try simp (implicitDefEqProofs := false) [↓callI, vopsN, vopsG, ↓step_slice, ↓A.step, ↓binInt, ↓binStr, vopsE0, vopsE1, -vops, h3, h3'])) | (refine AW.exit ?_; (try simp (implicitDefEqProofs := false) [↓callI, vopsN, vopsG, ↓step_slice, ↓A.step, ↓binInt, ↓binStr, vopsE0, vopsE1, -vops, h3, h3'])))
  refine AW.cond rfl (fun h => ?_) (fun h => ?_)
  · simp [h3] at h
  repeat (first | refine AW.seq ?_ | refine AW.block ?_ | (refine AW.reg mix ?_; (simp (implicitDefEqProofs := false) [↓callI, vopsN, vopsG, ↓step_slice, ↓A.step, ↓binInt, ↓binStr, vopsE0, vopsE1, -vops]; try simp (disch := omega) only [w64, wu64])) | (refine need.of (by first | omega | kernel_rfl) ?_) | (refine AW.skip ?_; (try simp (implicitDefEqProofs := false) [↓callI, vopsN, vopsG, ↓step_slice, ↓A.step, ↓binInt, ↓binStr, vopsE0, vopsE1, -vops])) | (refine AW.ret ?_; (try simp (implicitDefEqProofs := false) [↓callI, vopsN, vopsG, ↓step_slice, ↓A.step, ↓binInt, ↓binStr, vopsE0, vopsE1, -vops])) | (refine AW.exit ?_; (try simp (implicitDefEqProofs := false) [↓callI, vopsN, vopsG, ↓step_slice, ↓A.step, ↓binInt, ↓binStr, vopsE0, vopsE1, -vops])))
  have hlead := lead64_ok y hy
  rw [← hs] at hlead
  have hq1' := Nat.div_add_mod Y 4294967296
  have hY0' : Y % 4294967296 < 4294967296 := Nat.mod_lt _ (by decide)
  have hv' := Nat.div_add_mod v 4294967296
  have hv0' : v % 4294967296 < 4294967296 := Nat.mod_lt _ (by decide)
  have f1 : IntKind.u64.wrap (s : Int) = s := wu64 (by omega) (by omega)
  have f2 : IntKind.u64.wrap ((y : Int) * 2 ^ s) = Y := by
    rw [show (y : Int) * 2 ^ s = ((y * 2 ^ s : Nat) : Int) by rw [Int.natCast_mul, Int.natCast_pow]; rfl, hY]; exact wu64 (by omega) (by omega)
  have f3 : (Y : Int) / 4294967296 = (Y / 4294967296 : Nat) := rfl
  have f4 := and32 Y hYl
  have f5 : IntKind.u64.wrap ((hi : Int) * 2 ^ s) = (hi * 2 ^ s : Nat) := by
    rw [show (hi : Int) * 2 ^ s = ((hi * 2 ^ s : Nat) : Int) by rw [Int.natCast_mul, Int.natCast_pow]; rfl]; exact wu64 (by omega) (by omega)
  have f6 : IntKind.u64.wrap ((64 : Int) - s) = (64 : Int) - s := wu64 (by omega) (by omega)
  have f7 : ((64 : Int) - s).toNat = 64 - s := by omega
  have f8 : (lo : Int) / 2 ^ (64 - s) = (lo / 2 ^ (64 - s) : Nat) := by rw [Int.natCast_ediv, Int.natCast_pow]; rfl
  have hll : lo / 2 ^ (64 - s) ≤ lo := Nat.div_le_self _ _
  have f9 := bits_or_u64_nat (hi * 2 ^ s) (lo / 2 ^ (64 - s)) hhs (by omega)
  rw [hor] at f9
  have f10 : IntKind.u64.wrap ((lo : Int) * 2 ^ s) = v := by
    rw [IntKind.wrap_u64, show (lo : Int) * 2 ^ s = ((lo * 2 ^ s : Nat) : Int) by rw [Int.natCast_mul, Int.natCast_pow]; rfl, ← hv]; rfl
  have f11 : (v : Int) / 4294967296 = (v / 4294967296 : Nat) := rfl
  have f12 := and32 v hvl
  have f13 : (s : Int) ≤ 64 := by omega
  have f14 : (0 : Int) ≤ 64 - s := by omega
  have f15 : (64 : Int) - s ≤ 64 := by omega
  generalize Y / 4294967296 = Y1 at *
  generalize Y % 4294967296 = Y0 at *
  generalize v / 4294967296 = v1 at *
  generalize v % 4294967296 = v0 at *
  generalize hi * 2 ^ s = h' at *
  generalize lo / 2 ^ (64 - s) = l' at *
  have hYY : Y = Y1 * 4294967296 + Y0 := by omega
  have hvv : v = v1 * 4294967296 + v0 := by omega
  have hY1 : 2147483648 ≤ Y1 := by omega
  have hY1l : Y1 < 4294967296 := by omega
  have hY0 : Y0 < 4294967296 := by omega
  have hv1 : v1 < 4294967296 := by omega
  have hv0 : v0 < 4294967296 := by omega
  have hYn : ¬ (Y1 : Int) = 0 := by omega
  have hYn' : ¬ Y1 = 0 := by omega
  have huq := Nat.div_add_mod u Y1
  have hqle : u / Y1 ≤ u := Nat.div_le_self _ _
  have g1 : IntKind.u64.wrap ((u : Int) / Y1) = (u / Y1 : Nat) := by rw [← Int.natCast_ediv]; generalize u / Y1 = q at *; exact wu64 (by omega) (by omega)
  have g2 : IntKind.u64.wrap (((u / Y1 : Nat) : Int) * Y1) = (u / Y1 * Y1 : Nat) := by
    rw [Nat.mul_comm] at huq
    rw [← Int.natCast_mul]; generalize u / Y1 * Y1 = q at *; exact wu64 (by omega) (by omega)
  have g3 : IntKind.u64.wrap ((u : Int) - (u / Y1 * Y1 : Nat)) = (u % Y1 : Nat) := by
    rw [Nat.mul_comm] at huq
    generalize u / Y1 * Y1 = q at *
    generalize u % Y1 = r at *
    rw [wu64 (by omega) (by omega)]; omega
  obtain ⟨q1, hq1⟩ : ∃ q1, q1 = (u * 4294967296 + v1) / Y := ⟨_, rfl⟩
  have gA : IntKind.u64.wrap ((u : Int) - IntKind.u64.wrap ((u : Int) / Y1 * Y1)) = (u : Int) % Y1 := by
    have h1 : ((u : Int) / Y1 * Y1) = ((u / Y1 : Nat) : Int) * Y1 := by rw [Int.natCast_ediv]
    rw [h1, g2, g3, Int.natCast_emod]
  repeat (first | refine AW.seq ?_ | refine AW.block ?_ | (refine AW.reg mix ?_; (simp (implicitDefEqProofs := false) [↓callI, vopsN, vopsG, ↓step_slice, ↓A.step, ↓binInt, ↓binStr, vopsE0, vopsE1, -vops]; try simp (disch := omega) only [w64, wu64])) | (refine need.of (by first | omega | kernel_rfl) ?_) | (refine AW.skip ?_; (try simp (implicitDefEqProofs := false) [↓callI, vopsN, vopsG, ↓step_slice, ↓A.step, ↓binInt, ↓binStr, vopsE0, vopsE1, -vops])) | (refine AW.ret ?_; (try simp (implicitDefEqProofs := false) [↓callI, vopsN, vopsG, ↓step_slice, ↓A.step, ↓binInt, ↓binStr, vopsE0, vopsE1, -vops])) | (refine AW.exit ?_; (try simp (implicitDefEqProofs := false) [↓callI, vopsN, vopsG, ↓step_slice, ↓A.step, ↓binInt, ↓binStr, vopsE0, vopsE1, -vops])))
  refine CallS.pure (hlead) (by first | exact plain_d _ | exact plain_tup2 _ _ | exact plain_tup3 _ _ _) rfl (fun _ => rfl) (Subs.refl _) ?_
  (try simp (implicitDefEqProofs := false) [↓callI, vopsN, vopsG, ↓step_slice, ↓A.step, ↓binInt, ↓binStr, vopsE0, vopsE1, -vops, f1, f2, f3, f4, f5, f6, f7, f8, f9, f10, f11, f12, f13, f14, f15, hYn, hYn', g1]; try simp (disch := omega) only [w64, wu64])
  repeat (first | refine AW.seq ?_ | refine AW.block ?_ | (refine AW.reg mix ?_; (simp (implicitDefEqProofs := false) [↓callI, vopsN, vopsG, ↓step_slice, ↓A.step, ↓binInt, ↓binStr, vopsE0, vopsE1, -vops, f1, f2, f3, f4, f5, f6, f7, f8, f9, f10, f11, f12, f13, f14, f15, hYn, hYn', g1]; try simp (disch := omega) only [w64, wu64])) | (refine need.of (by first | omega | kernel_rfl) ?_) | (refine AW.skip ?_; (try simp (implicitDefEqProofs := false) [↓callI, vopsN, vopsG, ↓step_slice, ↓A.step, ↓binInt, ↓binStr, vopsE0, vopsE1, -vops, f1, f2, f3, f4, f5, f6, f7, f8, f9, f10, f11, f12, f13, f14, f15, hYn, hYn', g1])) | (refine AW.ret ?_; (try simp (implicitDefEqProofs := false) [↓callI, vopsN, vopsG, ↓step_slice, ↓A.step, ↓binInt, ↓binStr, vopsE0, vopsE1, -vops, f1, f2, f3, f4, f5, f6, f7, f8, f9, f10, f11, f12, f13, f14, f15, hYn, hYn', g1])) | (refine AW.exit ?_; (try simp (implicitDefEqProofs := false) [↓callI, vopsN, vopsG, ↓step_slice, ↓A.step, ↓binInt, ↓binStr, vopsE0, vopsE1, -vops, f1, f2, f3, f4, f5, f6, f7, f8, f9, f10, f11, f12, f13, f14, f15, hYn, hYn', g1])))
  refine AW.blockCut 0 [(15, .d (.int .u64 q1))] [] (by simp) (by simp) ?_ ?_
  · -- the half digit 15
    refine AW.loopT (α := Nat × Nat) 0 (fun a => [(15, .d (.int .u64 (a.1 : Int))), (16, .d (.int .u64 (a.2 : Int)))]) (fun _ => []) (fun a => hInv Y1 Y0 u v1 a.1 a.2) (fun a => a.1) (u / Y1, u % Y1) (by simp) (by simp) (hInv_first (by omega) (by omega) (by omega)) (by simp [gA]) (by simp) ?_
    rintro ⟨q, r⟩ ⟨i1, i2, i3⟩
    simp only at i1 i2 i3
    have hqY : q * 2147483648 ≤ q * Y1 := Nat.mul_le_mul_left _ hY1
    have hend : q * Y0 ≤ r * 4294967296 + v1 → q1 = q := fun h => by rw [hq1, hYY]; exact half_end i1 h i2
    have hnext : (4294967296 ≤ q ∨ r * 4294967296 + v1 < q * Y0) → 0 < q ∧ (q - 1) * Y1 + (r + Y1) = u ∧ u * 4294967296 + v1 < (q - 1 + 1) * (Y1 * 4294967296 + Y0) := fun h => half_next i1 (by omega) (by omega) h
    have hstep : ∀ (T : List V) , (4294967296 ≤ q ∨ r * 4294967296 + v1 < q * Y0) → 0 < q ∧ hInv Y1 Y0 u v1 (q - 1) (r + Y1) ∨ (0 < q ∧ 4294967296 ≤ r + Y1 ∧ q1 = q - 1) := fun _ h => by
      obtain ⟨n1, n2, n3⟩ := hnext h
      rcases Nat.lt_or_ge (r + Y1) 4294967296 with h1 | h1
      · exact .inl ⟨n1, n2, n3, h1⟩
      · refine .inr ⟨n1, h1, ?_⟩
        rw [hq1, hYY]
        exact half_end n2 (half_break n2 (by omega) hY0 h1 _) n3
    have b1 : IntKind.u64.wrap ((r : Int) + Y1) = ((r + Y1 : Nat) : Int) := wu64 (by omega) (by omega)
    have body : (4294967296 ≤ q ∨ r * 4294967296 + v1 < q * Y0) → IntKind.u64.wrap ((q : Int) - 1) = ((q - 1 : Nat) : Int) := fun h => by
      have := (hnext h).1
      rw [wu64 (by omega) (by omega)]; omega
    by_cases c1 : 4294967296 ≤ q
    · have c1' : (4294967296 : Int) ≤ q := by omega
      repeat (first | refine AW.seq ?_ | refine AW.block ?_ | (refine AW.reg mix ?_; (simp (implicitDefEqProofs := false) [↓callI, vopsN, vopsG, ↓step_slice, ↓A.step, ↓binInt, ↓binStr, vopsE0, vopsE1, -vops, c1']; try simp (disch := omega) only [w64, wu64])) | (refine need.of (by first | omega | kernel_rfl) ?_) | (refine AW.skip ?_; (try simp (implicitDefEqProofs := false) [↓callI, vopsN, vopsG, ↓step_slice, ↓A.step, ↓binInt, ↓binStr, vopsE0, vopsE1, -vops, c1'])) | (refine AW.ret ?_; (try simp (implicitDefEqProofs := false) [↓callI, vopsN, vopsG, ↓step_slice, ↓A.step, ↓binInt, ↓binStr, vopsE0, vopsE1, -vops, c1'])) | (refine AW.exit ?_; (try simp (implicitDefEqProofs := false) [↓callI, vopsN, vopsG, ↓step_slice, ↓A.step, ↓binInt, ↓binStr, vopsE0, vopsE1, -vops, c1'])))
      refine AW.cond rfl (fun h => ?_) (fun h => ?_)
      · have e1 := body (.inl c1)
        rcases hstep [] (.inl c1) with ⟨n1, n2⟩ | ⟨n1, n2, n3⟩
        · have n4 : ¬ (4294967296 : Int) ≤ ((r + Y1 : Nat) : Int) := by have := n2.2.2; omega
          generalize hr' : r + Y1 = r' at *
          generalize hq' : q - 1 = q' at *
          repeat (first | refine AW.seq ?_ | refine AW.block ?_ | (refine AW.reg mix ?_; (simp (implicitDefEqProofs := false) [↓callI, vopsN, vopsG, ↓step_slice, ↓A.step, ↓binInt, ↓binStr, vopsE0, vopsE1, -vops, e1, b1, n4]; try simp (disch := omega) only [w64, wu64])) | (refine need.of (by first | omega | kernel_rfl) ?_) | (refine AW.skip ?_; (try simp (implicitDefEqProofs := false) [↓callI, vopsN, vopsG, ↓step_slice, ↓A.step, ↓binInt, ↓binStr, vopsE0, vopsE1, -vops, e1, b1, n4])) | (refine AW.ret ?_; (try simp (implicitDefEqProofs := false) [↓callI, vopsN, vopsG, ↓step_slice, ↓A.step, ↓binInt, ↓binStr, vopsE0, vopsE1, -vops, e1, b1, n4])) | (refine AW.exit ?_; (try simp (implicitDefEqProofs := false) [↓callI, vopsN, vopsG, ↓step_slice, ↓A.step, ↓binInt, ↓binStr, vopsE0, vopsE1, -vops, e1, b1, n4])))
          refine AW.cond rfl (fun h => ?_) (fun h => ?_)
          · first | (simp [n4] at h; done) | (simp [n4] at h; omega)
          repeat (first | refine AW.seq ?_ | refine AW.block ?_ | (refine AW.reg mix ?_; (simp (implicitDefEqProofs := false) [↓callI, vopsN, vopsG, ↓step_slice, ↓A.step, ↓binInt, ↓binStr, vopsE0, vopsE1, -vops]; try simp (disch := omega) only [w64, wu64])) | (refine need.of (by first | omega | kernel_rfl) ?_) | (refine AW.skip ?_; (try simp (implicitDefEqProofs := false) [↓callI, vopsN, vopsG, ↓step_slice, ↓A.step, ↓binInt, ↓binStr, vopsE0, vopsE1, -vops])) | (refine AW.ret ?_; (try simp (implicitDefEqProofs := false) [↓callI, vopsN, vopsG, ↓step_slice, ↓A.step, ↓binInt, ↓binStr, vopsE0, vopsE1, -vops])) | (refine AW.exit ?_; (try simp (implicitDefEqProofs := false) [↓callI, vopsN, vopsG, ↓step_slice, ↓A.step, ↓binInt, ↓binStr, vopsE0, vopsE1, -vops])))
          exact ⟨q', r', n2, by omega, by simp, by simp⟩
        · have n4 : (4294967296 : Int) ≤ ((r + Y1 : Nat) : Int) := by omega
          generalize hr' : r + Y1 = r' at *
          generalize hq' : q - 1 = q' at *
          repeat (first | refine AW.seq ?_ | refine AW.block ?_ | (refine AW.reg mix ?_; (simp (implicitDefEqProofs := false) [↓callI, vopsN, vopsG, ↓step_slice, ↓A.step, ↓binInt, ↓binStr, vopsE0, vopsE1, -vops, e1, b1, n4]; try simp (disch := omega) only [w64, wu64])) | (refine need.of (by first | omega | kernel_rfl) ?_) | (refine AW.skip ?_; (try simp (implicitDefEqProofs := false) [↓callI, vopsN, vopsG, ↓step_slice, ↓A.step, ↓binInt, ↓binStr, vopsE0, vopsE1, -vops, e1, b1, n4])) | (refine AW.ret ?_; (try simp (implicitDefEqProofs := false) [↓callI, vopsN, vopsG, ↓step_slice, ↓A.step, ↓binInt, ↓binStr, vopsE0, vopsE1, -vops, e1, b1, n4])) | (refine AW.exit ?_; (try simp (implicitDefEqProofs := false) [↓callI, vopsN, vopsG, ↓step_slice, ↓A.step, ↓binInt, ↓binStr, vopsE0, vopsE1, -vops, e1, b1, n4])))
          refine AW.cond rfl (fun h => ?_) (fun h => ?_)
          · refine AW.exit ?_
            (try simp (implicitDefEqProofs := false) [↓callI, vopsN, vopsG, ↓step_slice, ↓A.step, ↓binInt, ↓binStr, vopsE0, vopsE1, -vops]; try simp (disch := omega) only [w64, wu64])
            rw [n3]
            exact Sub1.refl _
          · first | (simp at h; done) | (simp at h; omega)
      · simp [c1'] at h
    · have c1' : ¬ (4294967296 : Int) ≤ q := by omega
      have hqy : q * Y0 ≤ 4294967295 * 4294967295 := Nat.mul_le_mul (by omega) (by omega)
      have e1 : IntKind.u64.wrap ((q : Int) * Y0) = ((q * Y0 : Nat) : Int) := by rw [← Int.natCast_mul]; exact wu64 (by omega) (by omega)
      have e2 : IntKind.u64.wrap (4294967296 * (r : Int)) = ((4294967296 * r : Nat) : Int) := wu64 (by omega) (by omega)
      have e3 : IntKind.u64.wrap (((4294967296 * r : Nat) : Int) + v1) = ((4294967296 * r + v1 : Nat) : Int) := wu64 (by omega) (by omega)
      by_cases c2 : r * 4294967296 + v1 < q * Y0
      · have c2' : ((4294967296 * r + v1 : Nat) : Int) < ((q * Y0 : Nat) : Int) := by omega
        have e4 := body (.inr c2)
        have hs := hstep [] (.inr c2)
        clear hend hnext hstep body
        generalize q * Y0 = m at *
        generalize 4294967296 * r = m2 at *
        generalize m2 + v1 = m3 at *
        repeat (first | refine AW.seq ?_ | refine AW.block ?_ | (refine AW.reg mix ?_; (simp (implicitDefEqProofs := false) [↓callI, vopsN, vopsG, ↓step_slice, ↓A.step, ↓binInt, ↓binStr, vopsE0, vopsE1, -vops, c1', e1, e2, e3, c2']; try simp (disch := omega) only [w64, wu64])) | (refine need.of (by first | omega | kernel_rfl) ?_) | (refine AW.skip ?_; (try simp (implicitDefEqProofs := false) [↓callI, vopsN, vopsG, ↓step_slice, ↓A.step, ↓binInt, ↓binStr, vopsE0, vopsE1, -vops, c1', e1, e2, e3, c2'])) | (refine AW.ret ?_; (try simp (implicitDefEqProofs := false) [↓callI, vopsN, vopsG, ↓step_slice, ↓A.step, ↓binInt, ↓binStr, vopsE0, vopsE1, -vops, c1', e1, e2, e3, c2'])) | (refine AW.exit ?_; (try simp (implicitDefEqProofs := false) [↓callI, vopsN, vopsG, ↓step_slice, ↓A.step, ↓binInt, ↓binStr, vopsE0, vopsE1, -vops, c1', e1, e2, e3, c2'])))
        refine AW.cond rfl (fun h => ?_) (fun h => ?_)
        · rcases hs with ⟨n1, n2⟩ | ⟨n1, n2, n3⟩
          · have n4 : ¬ (4294967296 : Int) ≤ ((r + Y1 : Nat) : Int) := by have := n2.2.2; omega
            generalize hr' : r + Y1 = r' at *
            generalize hq' : q - 1 = q' at *
            repeat (first | refine AW.seq ?_ | refine AW.block ?_ | (refine AW.reg mix ?_; (simp (implicitDefEqProofs := false) [↓callI, vopsN, vopsG, ↓step_slice, ↓A.step, ↓binInt, ↓binStr, vopsE0, vopsE1, -vops, e4, b1, n4]; try simp (disch := omega) only [w64, wu64])) | (refine need.of (by first | omega | kernel_rfl) ?_) | (refine AW.skip ?_; (try simp (implicitDefEqProofs := false) [↓callI, vopsN, vopsG, ↓step_slice, ↓A.step, ↓binInt, ↓binStr, vopsE0, vopsE1, -vops, e4, b1, n4])) | (refine AW.ret ?_; (try simp (implicitDefEqProofs := false) [↓callI, vopsN, vopsG, ↓step_slice, ↓A.step, ↓binInt, ↓binStr, vopsE0, vopsE1, -vops, e4, b1, n4])) | (refine AW.exit ?_; (try simp (implicitDefEqProofs := false) [↓callI, vopsN, vopsG, ↓step_slice, ↓A.step, ↓binInt, ↓binStr, vopsE0, vopsE1, -vops, e4, b1, n4])))
            refine AW.cond rfl (fun h => ?_) (fun h => ?_)
            · first | (simp at h; done) | (simp at h; omega)
            repeat (first | refine AW.seq ?_ | refine AW.block ?_ | (refine AW.reg mix ?_; (simp (implicitDefEqProofs := false) [↓callI, vopsN, vopsG, ↓step_slice, ↓A.step, ↓binInt, ↓binStr, vopsE0, vopsE1, -vops]; try simp (disch := omega) only [w64, wu64])) | (refine need.of (by first | omega | kernel_rfl) ?_) | (refine AW.skip ?_; (try simp (implicitDefEqProofs := false) [↓callI, vopsN, vopsG, ↓step_slice, ↓A.step, ↓binInt, ↓binStr, vopsE0, vopsE1, -vops])) | (refine AW.ret ?_; (try simp (implicitDefEqProofs := false) [↓callI, vopsN, vopsG, ↓step_slice, ↓A.step, ↓binInt, ↓binStr, vopsE0, vopsE1, -vops])) | (refine AW.exit ?_; (try simp (implicitDefEqProofs := false) [↓callI, vopsN, vopsG, ↓step_slice, ↓A.step, ↓binInt, ↓binStr, vopsE0, vopsE1, -vops])))
            exact ⟨q', r', n2, by omega, by simp, by simp⟩
          · have n4 : (4294967296 : Int) ≤ ((r + Y1 : Nat) : Int) := by omega
            generalize hr' : r + Y1 = r' at *
            generalize hq' : q - 1 = q' at *
            repeat (first | refine AW.seq ?_ | refine AW.block ?_ | (refine AW.reg mix ?_; (simp (implicitDefEqProofs := false) [↓callI, vopsN, vopsG, ↓step_slice, ↓A.step, ↓binInt, ↓binStr, vopsE0, vopsE1, -vops, e4, b1, n4]; try simp (disch := omega) only [w64, wu64])) | (refine need.of (by first | omega | kernel_rfl) ?_) | (refine AW.skip ?_; (try simp (implicitDefEqProofs := false) [↓callI, vopsN, vopsG, ↓step_slice, ↓A.step, ↓binInt, ↓binStr, vopsE0, vopsE1, -vops, e4, b1, n4])) | (refine AW.ret ?_; (try simp (implicitDefEqProofs := false) [↓callI, vopsN, vopsG, ↓step_slice, ↓A.step, ↓binInt, ↓binStr, vopsE0, vopsE1, -vops, e4, b1, n4])) | (refine AW.exit ?_; (try simp (implicitDefEqProofs := false) [↓callI, vopsN, vopsG, ↓step_slice, ↓A.step, ↓binInt, ↓binStr, vopsE0, vopsE1, -vops, e4, b1, n4])))
            refine AW.cond rfl (fun h => ?_) (fun h => ?_)
            · refine AW.exit ?_
              (try simp (implicitDefEqProofs := false) [↓callI, vopsN, vopsG, ↓step_slice, ↓A.step, ↓binInt, ↓binStr, vopsE0, vopsE1, -vops]; try simp (disch := omega) only [w64, wu64])
              rw [n3]
              exact Sub1.refl _
            · first | (simp at h; done) | (simp at h; omega)
        · first | (simp at h; done) | (simp at h; omega)
      · have c2' : ¬ ((4294967296 * r + v1 : Nat) : Int) < ((q * Y0 : Nat) : Int) := by omega
        have e4 := hend (by omega)
        clear hend hnext hstep body
        generalize q * Y0 = m at *
        generalize 4294967296 * r = m2 at *
        generalize m2 + v1 = m3 at *
        repeat (first | refine AW.seq ?_ | refine AW.block ?_ | (refine AW.reg mix ?_; (simp (implicitDefEqProofs := false) [↓callI, vopsN, vopsG, ↓step_slice, ↓A.step, ↓binInt, ↓binStr, vopsE0, vopsE1, -vops, c1', e1, e2, e3, c2']; try simp (disch := omega) only [w64, wu64])) | (refine need.of (by first | omega | kernel_rfl) ?_) | (refine AW.skip ?_; (try simp (implicitDefEqProofs := false) [↓callI, vopsN, vopsG, ↓step_slice, ↓A.step, ↓binInt, ↓binStr, vopsE0, vopsE1, -vops, c1', e1, e2, e3, c2'])) | (refine AW.ret ?_; (try simp (implicitDefEqProofs := false) [↓callI, vopsN, vopsG, ↓step_slice, ↓A.step, ↓binInt, ↓binStr, vopsE0, vopsE1, -vops, c1', e1, e2, e3, c2'])) | (refine AW.exit ?_; (try simp (implicitDefEqProofs := false) [↓callI, vopsN, vopsG, ↓step_slice, ↓A.step, ↓binInt, ↓binStr, vopsE0, vopsE1, -vops, c1', e1, e2, e3, c2'])))
        refine AW.cond rfl (fun h => ?_) (fun h => ?_)
        · first | (simp at h; done) | (simp at h; omega)
        · refine AW.exit ?_
          (try simp (implicitDefEqProofs := false) [↓callI, vopsN, vopsG, ↓step_slice, ↓A.step, ↓binInt, ↓binStr, vopsE0, vopsE1, -vops]; try simp (disch := omega) only [w64, wu64])
          rw [e4]
          exact Sub1.refl _
  obtain ⟨r1, hr1⟩ : ∃ r1, r1 = u * 4294967296 + v1 - q1 * Y := ⟨_, rfl⟩
  have hd := Nat.div_add_mod (u * 4294967296 + v1) Y
  have hm := Nat.mod_lt (u * 4294967296 + v1) (show Y > 0 by omega)
  rw [← hq1, Nat.mul_comm] at hd
  have hr1l : r1 < Y := by omega
  have hq1l : q1 < 4294967296 := by
    rw [hq1, Nat.div_lt_iff_lt_mul (by omega)]
    omega
  have p1 : IntKind.u64.wrap ((u : Int) * 4294967296) = (u * 4294967296 % 18446744073709551616 : Nat) := by rw [IntKind.wrap_u64]; rfl
  have p2 : IntKind.u64.wrap (((u * 4294967296 % 18446744073709551616 : Nat) : Int) + v1) = ((u * 4294967296 + v1) % 18446744073709551616 : Nat) := by rw [IntKind.wrap_u64]; omega
  have p3 : IntKind.u64.wrap ((q1 : Int) * Y) = (q1 * Y % 18446744073709551616 : Nat) := by rw [IntKind.wrap_u64, ← Int.natCast_mul]; rfl
  have p4 : IntKind.u64.wrap (((((u * 4294967296 + v1) % 18446744073709551616 : Nat)) : Int) - (q1 * Y % 18446744073709551616 : Nat)) = (r1 : Int) := by
    rw [IntKind.wrap_u64]
    generalize q1 * Y = m at *
    omega
  have hrq := Nat.div_add_mod r1 Y1
  have hrle : r1 / Y1 ≤ r1 := Nat.div_le_self _ _
  have g1' : IntKind.u64.wrap ((r1 : Int) / Y1) = (r1 / Y1 : Nat) := by rw [← Int.natCast_ediv]; generalize r1 / Y1 = q at *; exact wu64 (by omega) (by omega)
  have g2' : IntKind.u64.wrap (((r1 / Y1 : Nat) : Int) * Y1) = (r1 / Y1 * Y1 : Nat) := by
    rw [Nat.mul_comm] at hrq
    rw [← Int.natCast_mul]; generalize r1 / Y1 * Y1 = q at *; exact wu64 (by omega) (by omega)
  have g3' : IntKind.u64.wrap ((r1 : Int) - (r1 / Y1 * Y1 : Nat)) = (r1 % Y1 : Nat) := by
    rw [Nat.mul_comm] at hrq
    generalize r1 / Y1 * Y1 = q at *
    generalize r1 % Y1 = r at *
    rw [wu64 (by omega) (by omega)]; omega
  have gA' : IntKind.u64.wrap ((r1 : Int) - IntKind.u64.wrap ((r1 : Int) / Y1 * Y1)) = (r1 : Int) % Y1 := by
    have h1 : ((r1 : Int) / Y1 * Y1) = ((r1 / Y1 : Nat) : Int) * Y1 := by rw [Int.natCast_ediv]
    rw [h1, g2', g3', Int.natCast_emod]
  have hp := halves' (y := Y) (a := u * 4294967296 + v1) (b := 4294967296) (v0 := v0) (q1 := q1) (q0 := (r1 * 4294967296 + v0) / Y) (by omega) hq1.symm (by rw [← hr1])
  rw [← hr1] at hp
  obtain ⟨q0, hq0⟩ : ∃ q0, q0 = (r1 * 4294967296 + v0) / Y := ⟨_, rfl⟩
  rw [← hq0] at hp
  rw [show u * 18446744073709551616 + v = (u * 4294967296 + v1) * 4294967296 + v0 by omega] at hQf hRf
  rw [hp.1] at hQf
  rw [hp.2] at hRf
  have hd0 := Nat.div_add_mod (r1 * 4294967296 + v0) Y
  have hm0 := Nat.mod_lt (r1 * 4294967296 + v0) (show Y > 0 by omega)
  rw [← hq0, Nat.mul_comm] at hd0
  obtain ⟨r0, hr0⟩ : ∃ r0, r0 = r1 * 4294967296 + v0 - q0 * Y := ⟨_, rfl⟩
  rw [← hr0] at hRf
  have hq0l : q0 < 4294967296 := by
    rw [hq0, Nat.div_lt_iff_lt_mul (by omega)]
    omega
  have s1 : IntKind.u64.wrap ((r1 : Int) * 4294967296) = (r1 * 4294967296 % 18446744073709551616 : Nat) := by rw [IntKind.wrap_u64]; rfl
  have s2 : IntKind.u64.wrap (((r1 * 4294967296 % 18446744073709551616 : Nat) : Int) + v0) = ((r1 * 4294967296 + v0) % 18446744073709551616 : Nat) := by rw [IntKind.wrap_u64]; omega
  have s3 : IntKind.u64.wrap ((q0 : Int) * Y) = (q0 * Y % 18446744073709551616 : Nat) := by rw [IntKind.wrap_u64, ← Int.natCast_mul]; rfl
  have s4 : IntKind.u64.wrap (((((r1 * 4294967296 + v0) % 18446744073709551616 : Nat)) : Int) - (q0 * Y % 18446744073709551616 : Nat)) = (r0 : Int) := by
    rw [IntKind.wrap_u64]
    generalize q0 * Y = m at *
    omega
  have s5 : IntKind.u64.wrap ((q1 : Int) * 4294967296) = (q1 * 4294967296 : Nat) := wu64 (by omega) (by omega)
  have s6 : IntKind.u64.wrap (((q1 * 4294967296 : Nat) : Int) + q0) = (q1 * 4294967296 + q0 : Nat) := wu64 (by omega) (by omega)
  have s7 : (r0 : Int) / 2 ^ s = (r0 / 2 ^ s : Nat) := by rw [Int.natCast_ediv, Int.natCast_pow]; rfl
  rw [← hRf] at s7
  rw [← hQf] at s6
  clear hp hd hm hr1 hq1 hr0 hd0 hm0 hRf hQf
  obtain ⟨t3, ht3⟩ : ∃ t, t = q1 * Y % 18446744073709551616 := ⟨_, rfl⟩
  rw [← ht3] at p3 p4
  obtain ⟨t2, ht2⟩ : ∃ t, t = (u * 4294967296 + v1) % 18446744073709551616 := ⟨_, rfl⟩
  rw [← ht2] at p2 p4
  obtain ⟨t1, ht1⟩ : ∃ t, t = u * 4294967296 % 18446744073709551616 := ⟨_, rfl⟩
  rw [← ht1] at p1 p2
  clear ht1 ht2 ht3
  simp
  repeat (first | refine AW.seq ?_ | refine AW.block ?_ | (refine AW.reg mix ?_; (simp (implicitDefEqProofs := false) [↓callI, vopsN, vopsG, ↓step_slice, ↓A.step, ↓binInt, ↓binStr, vopsE0, vopsE1, -vops, p1, p2, p3, p4, hYn, hYn', g1']; try simp (disch := omega) only [w64, wu64])) | (refine need.of (by first | omega | kernel_rfl) ?_) | (refine AW.skip ?_; (try simp (implicitDefEqProofs := false) [↓callI, vopsN, vopsG, ↓step_slice, ↓A.step, ↓binInt, ↓binStr, vopsE0, vopsE1, -vops, p1, p2, p3, p4, hYn, hYn', g1'])) | (refine AW.ret ?_; (try simp (implicitDefEqProofs := false) [↓callI, vopsN, vopsG, ↓step_slice, ↓A.step, ↓binInt, ↓binStr, vopsE0, vopsE1, -vops, p1, p2, p3, p4, hYn, hYn', g1'])) | (refine AW.exit ?_; (try simp (implicitDefEqProofs := false) [↓callI, vopsN, vopsG, ↓step_slice, ↓A.step, ↓binInt, ↓binStr, vopsE0, vopsE1, -vops, p1, p2, p3, p4, hYn, hYn', g1'])))
  refine AW.blockCut 0 [(18, .d (.int .u64 q0))] [] (by simp) (by simp) ?_ ?_
  · -- the other half digit
    refine AW.loopT (α := Nat × Nat) 0 (fun a => [(18, .d (.int .u64 (a.1 : Int))), (16, .d (.int .u64 (a.2 : Int)))]) (fun _ => []) (fun a => hInv Y1 Y0 r1 v0 a.1 a.2) (fun a => a.1) (r1 / Y1, r1 % Y1) (by simp) (by simp) (hInv_first (by omega) (by omega) (by omega)) (by simp [gA']) (by simp) ?_
    rintro ⟨q, r⟩ ⟨i1, i2, i3⟩
    simp only at i1 i2 i3
    have hqY : q * 2147483648 ≤ q * Y1 := Nat.mul_le_mul_left _ hY1
    have hend : q * Y0 ≤ r * 4294967296 + v0 → q0 = q := fun h => by rw [hq0, hYY]; exact half_end i1 h i2
    have hnext : (4294967296 ≤ q ∨ r * 4294967296 + v0 < q * Y0) → 0 < q ∧ (q - 1) * Y1 + (r + Y1) = r1 ∧ r1 * 4294967296 + v0 < (q - 1 + 1) * (Y1 * 4294967296 + Y0) := fun h => half_next i1 (by omega) (by omega) h
    have hstep : ∀ (T : List V) , (4294967296 ≤ q ∨ r * 4294967296 + v0 < q * Y0) → 0 < q ∧ hInv Y1 Y0 r1 v0 (q - 1) (r + Y1) ∨ (0 < q ∧ 4294967296 ≤ r + Y1 ∧ q0 = q - 1) := fun _ h => by
      obtain ⟨n1, n2, n3⟩ := hnext h
      rcases Nat.lt_or_ge (r + Y1) 4294967296 with h1 | h1
      · exact .inl ⟨n1, n2, n3, h1⟩
      · refine .inr ⟨n1, h1, ?_⟩
        rw [hq0, hYY]
        exact half_end n2 (half_break n2 (by omega) hY0 h1 _) n3
    have b1 : IntKind.u64.wrap ((r : Int) + Y1) = ((r + Y1 : Nat) : Int) := wu64 (by omega) (by omega)
    have body : (4294967296 ≤ q ∨ r * 4294967296 + v0 < q * Y0) → IntKind.u64.wrap ((q : Int) - 1) = ((q - 1 : Nat) : Int) := fun h => by
      have := (hnext h).1
      rw [wu64 (by omega) (by omega)]; omega
    by_cases c1 : 4294967296 ≤ q
    · have c1' : (4294967296 : Int) ≤ q := by omega
      repeat (first | refine AW.seq ?_ | refine AW.block ?_ | (refine AW.reg mix ?_; (simp (implicitDefEqProofs := false) [↓callI, vopsN, vopsG, ↓step_slice, ↓A.step, ↓binInt, ↓binStr, vopsE0, vopsE1, -vops, c1']; try simp (disch := omega) only [w64, wu64])) | (refine need.of (by first | omega | kernel_rfl) ?_) | (refine AW.skip ?_; (try simp (implicitDefEqProofs := false) [↓callI, vopsN, vopsG, ↓step_slice, ↓A.step, ↓binInt, ↓binStr, vopsE0, vopsE1, -vops, c1'])) | (refine AW.ret ?_; (try simp (implicitDefEqProofs := false) [↓callI, vopsN, vopsG, ↓step_slice, ↓A.step, ↓binInt, ↓binStr, vopsE0, vopsE1, -vops, c1'])) | (refine AW.exit ?_; (try simp (implicitDefEqProofs := false) [↓callI, vopsN, vopsG, ↓step_slice, ↓A.step, ↓binInt, ↓binStr, vopsE0, vopsE1, -vops, c1'])))
      refine AW.cond rfl (fun h => ?_) (fun h => ?_)
      · have e1 := body (.inl c1)
        rcases hstep [] (.inl c1) with ⟨n1, n2⟩ | ⟨n1, n2, n3⟩
        · have n4 : ¬ (4294967296 : Int) ≤ ((r + Y1 : Nat) : Int) := by have := n2.2.2; omega
          generalize hr' : r + Y1 = r' at *
          generalize hq' : q - 1 = q' at *
          repeat (first | refine AW.seq ?_ | refine AW.block ?_ | (refine AW.reg mix ?_; (simp (implicitDefEqProofs := false) [↓callI, vopsN, vopsG, ↓step_slice, ↓A.step, ↓binInt, ↓binStr, vopsE0, vopsE1, -vops, e1, b1, n4]; try simp (disch := omega) only [w64, wu64])) | (refine need.of (by first | omega | kernel_rfl) ?_) | (refine AW.skip ?_; (try simp (implicitDefEqProofs := false) [↓callI, vopsN, vopsG, ↓step_slice, ↓A.step, ↓binInt, ↓binStr, vopsE0, vopsE1, -vops, e1, b1, n4])) | (refine AW.ret ?_; (try simp (implicitDefEqProofs := false) [↓callI, vopsN, vopsG, ↓step_slice, ↓A.step, ↓binInt, ↓binStr, vopsE0, vopsE1, -vops, e1, b1, n4])) | (refine AW.exit ?_; (try simp (implicitDefEqProofs := false) [↓callI, vopsN, vopsG, ↓step_slice, ↓A.step, ↓binInt, ↓binStr, vopsE0, vopsE1, -vops, e1, b1, n4])))
          refine AW.cond rfl (fun h => ?_) (fun h => ?_)
          · first | (simp [n4] at h; done) | (simp [n4] at h; omega)
          repeat (first | refine AW.seq ?_ | refine AW.block ?_ | (refine AW.reg mix ?_; (simp (implicitDefEqProofs := false) [↓callI, vopsN, vopsG, ↓step_slice, ↓A.step, ↓binInt, ↓binStr, vopsE0, vopsE1, -vops]; try simp (disch := omega) only [w64, wu64])) | (refine need.of (by first | omega | kernel_rfl) ?_) | (refine AW.skip ?_; (try simp (implicitDefEqProofs := false) [↓callI, vopsN, vopsG, ↓step_slice, ↓A.step, ↓binInt, ↓binStr, vopsE0, vopsE1, -vops])) | (refine AW.ret ?_; (try simp (implicitDefEqProofs := false) [↓callI, vopsN, vopsG, ↓step_slice, ↓A.step, ↓binInt, ↓binStr, vopsE0, vopsE1, -vops])) | (refine AW.exit ?_; (try simp (implicitDefEqProofs := false) [↓callI, vopsN, vopsG, ↓step_slice, ↓A.step, ↓binInt, ↓binStr, vopsE0, vopsE1, -vops])))
          exact ⟨q', r', n2, by omega, by simp, by simp⟩
        · have n4 : (4294967296 : Int) ≤ ((r + Y1 : Nat) : Int) := by omega
          generalize hr' : r + Y1 = r' at *
          generalize hq' : q - 1 = q' at *
          repeat (first | refine AW.seq ?_ | refine AW.block ?_ | (refine AW.reg mix ?_; (simp (implicitDefEqProofs := false) [↓callI, vopsN, vopsG, ↓step_slice, ↓A.step, ↓binInt, ↓binStr, vopsE0, vopsE1, -vops, e1, b1, n4]; try simp (disch := omega) only [w64, wu64])) | (refine need.of (by first | omega | kernel_rfl) ?_) | (refine AW.skip ?_; (try simp (implicitDefEqProofs := false) [↓callI, vopsN, vopsG, ↓step_slice, ↓A.step, ↓binInt, ↓binStr, vopsE0, vopsE1, -vops, e1, b1, n4])) | (refine AW.ret ?_; (try simp (implicitDefEqProofs := false) [↓callI, vopsN, vopsG, ↓step_slice, ↓A.step, ↓binInt, ↓binStr, vopsE0, vopsE1, -vops, e1, b1, n4])) | (refine AW.exit ?_; (try simp (implicitDefEqProofs := false) [↓callI, vopsN, vopsG, ↓step_slice, ↓A.step, ↓binInt, ↓binStr, vopsE0, vopsE1, -vops, e1, b1, n4])))
          refine AW.cond rfl (fun h => ?_) (fun h => ?_)
          · refine AW.exit ?_
            (try simp (implicitDefEqProofs := false) [↓callI, vopsN, vopsG, ↓step_slice, ↓A.step, ↓binInt, ↓binStr, vopsE0, vopsE1, -vops]; try simp (disch := omega) only [w64, wu64])
            rw [n3]
            exact Sub1.refl _
          · first | (simp at h; done) | (simp at h; omega)
      · simp [c1'] at h
    · have c1' : ¬ (4294967296 : Int) ≤ q := by omega
      have hqy : q * Y0 ≤ 4294967295 * 4294967295 := Nat.mul_le_mul (by omega) (by omega)
      have e1 : IntKind.u64.wrap ((q : Int) * Y0) = ((q * Y0 : Nat) : Int) := by rw [← Int.natCast_mul]; exact wu64 (by omega) (by omega)
      have e2 : IntKind.u64.wrap (4294967296 * (r : Int)) = ((4294967296 * r : Nat) : Int) := wu64 (by omega) (by omega)
      have e3 : IntKind.u64.wrap (((4294967296 * r : Nat) : Int) + v0) = ((4294967296 * r + v0 : Nat) : Int) := wu64 (by omega) (by omega)
      by_cases c2 : r * 4294967296 + v0 < q * Y0
      · have c2' : ((4294967296 * r + v0 : Nat) : Int) < ((q * Y0 : Nat) : Int) := by omega
        have e4 := body (.inr c2)
        have hs := hstep [] (.inr c2)
        clear hend hnext hstep body
        generalize q * Y0 = m at *
        generalize 4294967296 * r = m2 at *
        generalize m2 + v0 = m3 at *
        repeat (first | refine AW.seq ?_ | refine AW.block ?_ | (refine AW.reg mix ?_; (simp (implicitDefEqProofs := false) [↓callI, vopsN, vopsG, ↓step_slice, ↓A.step, ↓binInt, ↓binStr, vopsE0, vopsE1, -vops, c1', e1, e2, e3, c2']; try simp (disch := omega) only [w64, wu64])) | (refine need.of (by first | omega | kernel_rfl) ?_) | (refine AW.skip ?_; (try simp (implicitDefEqProofs := false) [↓callI, vopsN, vopsG, ↓step_slice, ↓A.step, ↓binInt, ↓binStr, vopsE0, vopsE1, -vops, c1', e1, e2, e3, c2'])) | (refine AW.ret ?_; (try simp (implicitDefEqProofs := false) [↓callI, vopsN, vopsG, ↓step_slice, ↓A.step, ↓binInt, ↓binStr, vopsE0, vopsE1, -vops, c1', e1, e2, e3, c2'])) | (refine AW.exit ?_; (try simp (implicitDefEqProofs := false) [↓callI, vopsN, vopsG, ↓step_slice, ↓A.step, ↓binInt, ↓binStr, vopsE0, vopsE1, -vops, c1', e1, e2, e3, c2'])))
        refine AW.cond rfl (fun h => ?_) (fun h => ?_)
        · rcases hs with ⟨n1, n2⟩ | ⟨n1, n2, n3⟩
          · have n4 : ¬ (4294967296 : Int) ≤ ((r + Y1 : Nat) : Int) := by have := n2.2.2; omega
            generalize hr' : r + Y1 = r' at *
            generalize hq' : q - 1 = q' at *
            repeat (first | refine AW.seq ?_ | refine AW.block ?_ | (refine AW.reg mix ?_; (simp (implicitDefEqProofs := false) [↓callI, vopsN, vopsG, ↓step_slice, ↓A.step, ↓binInt, ↓binStr, vopsE0, vopsE1, -vops, e4, b1, n4]; try simp (disch := omega) only [w64, wu64])) | (refine need.of (by first | omega | kernel_rfl) ?_) | (refine AW.skip ?_; (try simp (implicitDefEqProofs := false) [↓callI, vopsN, vopsG, ↓step_slice, ↓A.step, ↓binInt, ↓binStr, vopsE0, vopsE1, -vops, e4, b1, n4])) | (refine AW.ret ?_; (try simp (implicitDefEqProofs := false) [↓callI, vopsN, vopsG, ↓step_slice, ↓A.step, ↓binInt, ↓binStr, vopsE0, vopsE1, -vops, e4, b1, n4])) | (refine AW.exit ?_; (try simp (implicitDefEqProofs := false) [↓callI, vopsN, vopsG, ↓step_slice, ↓A.step, ↓binInt, ↓binStr, vopsE0, vopsE1, -vops, e4, b1, n4])))
            refine AW.cond rfl (fun h => ?_) (fun h => ?_)
            · first | (simp at h; done) | (simp at h; omega)
            repeat (first | refine AW.seq ?_ | refine AW.block ?_ | (refine AW.reg mix ?_; (simp (implicitDefEqProofs := false) [↓callI, vopsN, vopsG, ↓step_slice, ↓A.step, ↓binInt, ↓binStr, vopsE0, vopsE1, -vops]; try simp (disch := omega) only [w64, wu64])) | (refine need.of (by first | omega | kernel_rfl) ?_) | (refine AW.skip ?_; (try simp (implicitDefEqProofs := false) [↓callI, vopsN, vopsG, ↓step_slice, ↓A.step, ↓binInt, ↓binStr, vopsE0, vopsE1, -vops])) | (refine AW.ret ?_; (try simp (implicitDefEqProofs := false) [↓callI, vopsN, vopsG, ↓step_slice, ↓A.step, ↓binInt, ↓binStr, vopsE0, vopsE1, -vops])) | (refine AW.exit ?_; (try simp (implicitDefEqProofs := false) [↓callI, vopsN, vopsG, ↓step_slice, ↓A.step, ↓binInt, ↓binStr, vopsE0, vopsE1, -vops])))
            exact ⟨q', r', n2, by omega, by simp, by simp⟩
          · have n4 : (4294967296 : Int) ≤ ((r + Y1 : Nat) : Int) := by omega
            generalize hr' : r + Y1 = r' at *
            generalize hq' : q - 1 = q' at *
            repeat (first | refine AW.seq ?_ | refine AW.block ?_ | (refine AW.reg mix ?_; (simp (implicitDefEqProofs := false) [↓callI, vopsN, vopsG, ↓step_slice, ↓A.step, ↓binInt, ↓binStr, vopsE0, vopsE1, -vops, e4, b1, n4]; try simp (disch := omega) only [w64, wu64])) | (refine need.of (by first | omega | kernel_rfl) ?_) | (refine AW.skip ?_; (try simp (implicitDefEqProofs := false) [↓callI, vopsN, vopsG, ↓step_slice, ↓A.step, ↓binInt, ↓binStr, vopsE0, vopsE1, -vops, e4, b1, n4])) | (refine AW.ret ?_; (try simp (implicitDefEqProofs := false) [↓callI, vopsN, vopsG, ↓step_slice, ↓A.step, ↓binInt, ↓binStr, vopsE0, vopsE1, -vops, e4, b1, n4])) | (refine AW.exit ?_; (try simp (implicitDefEqProofs := false) [↓callI, vopsN, vopsG, ↓step_slice, ↓A.step, ↓binInt, ↓binStr, vopsE0, vopsE1, -vops, e4, b1, n4])))
            refine AW.cond rfl (fun h => ?_) (fun h => ?_)
            · refine AW.exit ?_
              (try simp (implicitDefEqProofs := false) [↓callI, vopsN, vopsG, ↓step_slice, ↓A.step, ↓binInt, ↓binStr, vopsE0, vopsE1, -vops]; try simp (disch := omega) only [w64, wu64])
              rw [n3]
              exact Sub1.refl _
            · first | (simp at h; done) | (simp at h; omega)
        · first | (simp at h; done) | (simp at h; omega)
      · have c2' : ¬ ((4294967296 * r + v0 : Nat) : Int) < ((q * Y0 : Nat) : Int) := by omega
        have e4 := hend (by omega)
        clear hend hnext hstep body
        generalize q * Y0 = m at *
        generalize 4294967296 * r = m2 at *
        generalize m2 + v0 = m3 at *
        repeat (first | refine AW.seq ?_ | refine AW.block ?_ | (refine AW.reg mix ?_; (simp (implicitDefEqProofs := false) [↓callI, vopsN, vopsG, ↓step_slice, ↓A.step, ↓binInt, ↓binStr, vopsE0, vopsE1, -vops, c1', e1, e2, e3, c2']; try simp (disch := omega) only [w64, wu64])) | (refine need.of (by first | omega | kernel_rfl) ?_) | (refine AW.skip ?_; (try simp (implicitDefEqProofs := false) [↓callI, vopsN, vopsG, ↓step_slice, ↓A.step, ↓binInt, ↓binStr, vopsE0, vopsE1, -vops, c1', e1, e2, e3, c2'])) | (refine AW.ret ?_; (try simp (implicitDefEqProofs := false) [↓callI, vopsN, vopsG, ↓step_slice, ↓A.step, ↓binInt, ↓binStr, vopsE0, vopsE1, -vops, c1', e1, e2, e3, c2'])) | (refine AW.exit ?_; (try simp (implicitDefEqProofs := false) [↓callI, vopsN, vopsG, ↓step_slice, ↓A.step, ↓binInt, ↓binStr, vopsE0, vopsE1, -vops, c1', e1, e2, e3, c2'])))
        refine AW.cond rfl (fun h => ?_) (fun h => ?_)
        · first | (simp at h; done) | (simp at h; omega)
        · refine AW.exit ?_
          (try simp (implicitDefEqProofs := false) [↓callI, vopsN, vopsG, ↓step_slice, ↓A.step, ↓binInt, ↓binStr, vopsE0, vopsE1, -vops]; try simp (disch := omega) only [w64, wu64])
          rw [e4]
          exact Sub1.refl _
  clear hq0
  obtain ⟨t6, ht6⟩ : ∃ t, t = q0 * Y % 18446744073709551616 := ⟨_, rfl⟩
  rw [← ht6] at s3 s4
  obtain ⟨t5, ht5⟩ : ∃ t, t = (r1 * 4294967296 + v0) % 18446744073709551616 := ⟨_, rfl⟩
  rw [← ht5] at s2 s4
  obtain ⟨t4, ht4⟩ : ∃ t, t = r1 * 4294967296 % 18446744073709551616 := ⟨_, rfl⟩
  rw [← ht4] at s1 s2
  obtain ⟨t7, ht7⟩ : ∃ t, t = q1 * 4294967296 := ⟨_, rfl⟩
  rw [← ht7] at s5 s6
  clear ht4 ht5 ht6 ht7
  simp
  repeat (first | refine AW.seq ?_ | refine AW.block ?_ | (refine AW.reg mix ?_; (simp (implicitDefEqProofs := false) [↓callI, vopsN, vopsG, ↓step_slice, ↓A.step, ↓binInt, ↓binStr, vopsE0, vopsE1, -vops, s1, s2, s3, s4, s5, s6, s7, f13]; try simp (disch := omega) only [w64, wu64])) | (refine need.of (by first | omega | kernel_rfl) ?_) | (refine AW.skip ?_; (try simp (implicitDefEqProofs := false) [↓callI, vopsN, vopsG, ↓step_slice, ↓A.step, ↓binInt, ↓binStr, vopsE0, vopsE1, -vops, s1, s2, s3, s4, s5, s6, s7, f13])) | (refine AW.ret ?_; (try simp (implicitDefEqProofs := false) [↓callI, vopsN, vopsG, ↓step_slice, ↓A.step, ↓binInt, ↓binStr, vopsE0, vopsE1, -vops, s1, s2, s3, s4, s5, s6, s7, f13])) | (refine AW.exit ?_; (try simp (implicitDefEqProofs := false) [↓callI, vopsN, vopsG, ↓step_slice, ↓A.step, ↓binInt, ↓binStr, vopsE0, vopsE1, -vops, s1, s2, s3, s4, s5, s6, s7, f13])))
  trace_state
end Go.Proofs.YtakjegcjeffmgaaDoor.Am
