import Derived.Test.YtakjegcjeffmgaaDoorYuAt2
import Derived.Test.YtakjegcjeffmgaaDoorAmTri
import Derived.Test.YtakjegcjeffmgaaDoorText1
namespace Go.Proofs.YtakjegcjeffmgaaDoor.Am
open Go.RowKit
set_option maxRecDepth 100000
set_option linter.unusedSimpArgs false
set_option linter.unusedVariables false

set_option maxHeartbeats 2000000 in
theorem awakeY_ok : Eqn Tryd.prog n_Tlaw14_awake [] [] (.d (.bool true)) [] := by
  refine Eqn.pure r_Tlaw14_awake (plain_d _) ?_
  simp only [c_Tlaw14_awake]
  have h1 := at_good 1 9 (by omega) (by omega) (by omega)
  have hp : placeY 1 9 = ⟨3, 1, 12, 14⟩ := by kernel_rfl
  rw [hp] at h1
  simp only [plD] at h1
  have t1 := text_ok 12 (by omega)
  have t2 := text_ok 14 (by omega)
  rw [show smallS 12 = ⟨#[49, 50]⟩ by kernel_rfl] at t1
  rw [show smallS 14 = ⟨#[49, 52]⟩ by kernel_rfl] at t2
  repeat (first | refine AW.seq ?_ | refine AW.block ?_ | (refine AW.reg mix ?_; (simp (implicitDefEqProofs := false) [↓callI, vopsN, vopsG, ↓step_slice, ↓A.step, ↓binInt, ↓binStr, vopsE0, vopsE1, -vops]; try simp (disch := omega) only [w64, wu64])) | (refine need.of (by first | omega | kernel_rfl) ?_) | (refine AW.skip ?_; (try simp (implicitDefEqProofs := false) [↓callI, vopsN, vopsG, ↓step_slice, ↓A.step, ↓binInt, ↓binStr, vopsE0, vopsE1, -vops])) | (refine AW.ret ?_; (try simp (implicitDefEqProofs := false) [↓callI, vopsN, vopsG, ↓step_slice, ↓A.step, ↓binInt, ↓binStr, vopsE0, vopsE1, -vops])) | (refine AW.exit ?_; (try simp (implicitDefEqProofs := false) [↓callI, vopsN, vopsG, ↓step_slice, ↓A.step, ↓binInt, ↓binStr, vopsE0, vopsE1, -vops])))
  refine CallS.pure (h1) (by first | exact plain_d _ | exact plain_tup2 _ _ | exact plain_tup3 _ _ _) rfl (fun _ => rfl) (Subs.refl _) ?_
  (try simp (implicitDefEqProofs := false) [↓callI, vopsN, vopsG, ↓step_slice, ↓A.step, ↓binInt, ↓binStr, vopsE0, vopsE1, -vops]; try simp (disch := omega) only [w64, wu64])
  repeat (first | refine AW.seq ?_ | refine AW.block ?_ | (refine AW.reg mix ?_; (simp (implicitDefEqProofs := false) [↓callI, vopsN, vopsG, ↓step_slice, ↓A.step, ↓binInt, ↓binStr, vopsE0, vopsE1, -vops]; try simp (disch := omega) only [w64, wu64])) | (refine need.of (by first | omega | kernel_rfl) ?_) | (refine AW.skip ?_; (try simp (implicitDefEqProofs := false) [↓callI, vopsN, vopsG, ↓step_slice, ↓A.step, ↓binInt, ↓binStr, vopsE0, vopsE1, -vops])) | (refine AW.ret ?_; (try simp (implicitDefEqProofs := false) [↓callI, vopsN, vopsG, ↓step_slice, ↓A.step, ↓binInt, ↓binStr, vopsE0, vopsE1, -vops])) | (refine AW.exit ?_; (try simp (implicitDefEqProofs := false) [↓callI, vopsN, vopsG, ↓step_slice, ↓A.step, ↓binInt, ↓binStr, vopsE0, vopsE1, -vops])))
  refine CallS.pure (ygood_ok 5) (by first | exact plain_d _ | exact plain_tup2 _ _ | exact plain_tup3 _ _ _) rfl (fun _ => rfl) (Subs.refl _) ?_
  (try simp (implicitDefEqProofs := false) [↓callI, vopsN, vopsG, ↓step_slice, ↓A.step, ↓binInt, ↓binStr, vopsE0, vopsE1, -vops]; try simp (disch := omega) only [w64, wu64])
  repeat (first | refine AW.seq ?_ | refine AW.block ?_ | (refine AW.reg mix ?_; (simp (implicitDefEqProofs := false) [↓callI, vopsN, vopsG, ↓step_slice, ↓A.step, ↓binInt, ↓binStr, vopsE0, vopsE1, -vops]; try simp (disch := omega) only [w64, wu64])) | (refine need.of (by first | omega | kernel_rfl) ?_) | (refine AW.skip ?_; (try simp (implicitDefEqProofs := false) [↓callI, vopsN, vopsG, ↓step_slice, ↓A.step, ↓binInt, ↓binStr, vopsE0, vopsE1, -vops])) | (refine AW.ret ?_; (try simp (implicitDefEqProofs := false) [↓callI, vopsN, vopsG, ↓step_slice, ↓A.step, ↓binInt, ↓binStr, vopsE0, vopsE1, -vops])) | (refine AW.exit ?_; (try simp (implicitDefEqProofs := false) [↓callI, vopsN, vopsG, ↓step_slice, ↓A.step, ↓binInt, ↓binStr, vopsE0, vopsE1, -vops])))
  refine CallS.pure (t1) (by first | exact plain_d _ | exact plain_tup2 _ _ | exact plain_tup3 _ _ _) rfl (fun _ => rfl) (Subs.refl _) ?_
  (try simp (implicitDefEqProofs := false) [↓callI, vopsN, vopsG, ↓step_slice, ↓A.step, ↓binInt, ↓binStr, vopsE0, vopsE1, -vops]; try simp (disch := omega) only [w64, wu64])
  repeat (first | refine AW.seq ?_ | refine AW.block ?_ | (refine AW.reg mix ?_; (simp (implicitDefEqProofs := false) [↓callI, vopsN, vopsG, ↓step_slice, ↓A.step, ↓binInt, ↓binStr, vopsE0, vopsE1, -vops]; try simp (disch := omega) only [w64, wu64])) | (refine need.of (by first | omega | kernel_rfl) ?_) | (refine AW.skip ?_; (try simp (implicitDefEqProofs := false) [↓callI, vopsN, vopsG, ↓step_slice, ↓A.step, ↓binInt, ↓binStr, vopsE0, vopsE1, -vops])) | (refine AW.ret ?_; (try simp (implicitDefEqProofs := false) [↓callI, vopsN, vopsG, ↓step_slice, ↓A.step, ↓binInt, ↓binStr, vopsE0, vopsE1, -vops])) | (refine AW.exit ?_; (try simp (implicitDefEqProofs := false) [↓callI, vopsN, vopsG, ↓step_slice, ↓A.step, ↓binInt, ↓binStr, vopsE0, vopsE1, -vops])))
  refine CallS.pure (t2) (by first | exact plain_d _ | exact plain_tup2 _ _ | exact plain_tup3 _ _ _) rfl (fun _ => rfl) (Subs.refl _) ?_
  (try simp (implicitDefEqProofs := false) [↓callI, vopsN, vopsG, ↓step_slice, ↓A.step, ↓binInt, ↓binStr, vopsE0, vopsE1, -vops]; try simp (disch := omega) only [w64, wu64])
  repeat (first | refine AW.seq ?_ | refine AW.block ?_ | (refine AW.reg mix ?_; (simp (implicitDefEqProofs := false) [↓callI, vopsN, vopsG, ↓step_slice, ↓A.step, ↓binInt, ↓binStr, vopsE0, vopsE1, -vops]; try simp (disch := omega) only [w64, wu64])) | (refine need.of (by first | omega | kernel_rfl) ?_) | (refine AW.skip ?_; (try simp (implicitDefEqProofs := false) [↓callI, vopsN, vopsG, ↓step_slice, ↓A.step, ↓binInt, ↓binStr, vopsE0, vopsE1, -vops])) | (refine AW.ret ?_; (try simp (implicitDefEqProofs := false) [↓callI, vopsN, vopsG, ↓step_slice, ↓A.step, ↓binInt, ↓binStr, vopsE0, vopsE1, -vops])) | (refine AW.exit ?_; (try simp (implicitDefEqProofs := false) [↓callI, vopsN, vopsG, ↓step_slice, ↓A.step, ↓binInt, ↓binStr, vopsE0, vopsE1, -vops])))

/-! ### Places rise -/
theorem moreY_eq (s t : Nat) (ht : 0 < t) : ∃ c, moreY s t = t + c ∧ 0 < c ∧ t / 2 ^ s ≤ c := by
  unfold moreY
  have hz : t / 2 ^ s * 2 ^ s < t ∨ 0 < t / 2 ^ s := by
    rcases Nat.eq_zero_or_pos (t / 2 ^ s) with h | h
    · left; rw [h]; omega
    · exact .inr h
  generalize t / 2 ^ s = q at *
  generalize q * 2 ^ s = b at *
  split
  · exact ⟨q + 1, rfl, by omega, by omega⟩
  · exact ⟨q, rfl, by omega, by omega⟩
theorem placeY_inv {s : Nat} (hs : 1 ≤ s) (k : Nat) : (placeY s k).shift = shiftY s (placeY s k).reply ∧ (placeY s k).value < (placeY s k).reply ∧ 0 < (placeY s k).reply := by
  induction k with
  | zero =>
    simp only [placeY]
    refine ⟨?_, Nat.two_pow_pos _, Nat.two_pow_pos _⟩
    have h1 : bitsN (2 ^ (2 * s)) = 2 * s + 1 := by
      rw [bitsN_div (k := 2 * s) (Nat.le_refl _), Nat.div_self (Nat.two_pow_pos _)]; rfl
    rw [shiftY, h1]; omega
  | succ k ih =>
    obtain ⟨h1, h2, h3⟩ := ih
    have hm : (placeY s k).reply < moreY s (placeY s k).reply ∧ (placeY s k).value + 2 ^ (placeY s k).shift < moreY s (placeY s k).reply := by
      generalize placeY s k = p at *
      obtain ⟨c, hc1, hc2, hc3⟩ := moreY_eq s p.reply h3
      have hc : 2 ^ p.shift ≤ c := by
        obtain ⟨hb1, hb2⟩ := bitsN_pos h3
        rcases Nat.eq_zero_or_pos p.shift with h0 | h0
        · rw [h0]; exact hc2
        · rw [h1, shiftY] at h0
          refine Nat.le_trans ?_ hc3
          rw [Nat.le_div_iff_mul_le (Nat.two_pow_pos _), ← Nat.pow_add]
          refine Nat.le_trans (Nat.pow_le_pow_right (by omega) ?_) hb1
          rw [h1, shiftY]; omega
      omega
    simp only [placeY, nextY]
    split
    · exact ⟨rfl, hm.2, by simp only; omega⟩
    · exact ⟨h1, by simp only; omega, h3⟩
theorem bitsN_mono {a b : Nat} (h : a ≤ b) : bitsN a ≤ bitsN b := bitsN_le (Nat.lt_of_le_of_lt h (lt_bitsN b))
theorem bitsN_two {a b : Nat} (h : b ≤ 2 * a) : bitsN b ≤ bitsN a + 1 := bitsN_le (by have := lt_bitsN a; rw [Nat.pow_succ]; omega)

theorem place_rises {s k : Nat} (hs : 1 ≤ s) : (placeY s k).value < (placeY s (k + 1)).value ∧ (placeY s k).shift ≤ (placeY s (k + 1)).shift ∧ (placeY s (k + 1)).shift ≤ (placeY s k).shift + 1 ∧ (placeY s k).value < (placeY s k).reply ∧
    (((placeY s (k + 1)).x = (placeY s k).x ∧ (placeY s (k + 1)).reply = (placeY s k).reply) ∨ ((placeY s (k + 1)).x = (placeY s k).x + 1 ∧ (placeY s k).reply < (placeY s (k + 1)).reply)) := by
  obtain ⟨h1, h2, h3⟩ := placeY_inv hs k
  obtain ⟨g1, g2, g3⟩ := placeY_inv hs (k + 1)
  have h4 := (placeY_le hs k).1
  have hm := moreY_le hs (show 2 ≤ (placeY s k).reply by omega)
  have hm2 : (placeY s k).reply ≤ moreY s (placeY s k).reply := by
    obtain ⟨c, hc1, hc2, hc3⟩ := moreY_eq s _ h3
    omega
  have b1 := bitsN_mono hm2
  have b2 := bitsN_two hm
  have hp := Nat.two_pow_pos (placeY s k).shift
  have hm3 : (placeY s k).reply < moreY s (placeY s k).reply := by
    obtain ⟨c, hc1, hc2, hc3⟩ := moreY_eq s _ h3
    omega
  simp only [placeY, nextY] at g1 g2 g3 ⊢
  split
  · refine ⟨by simp only; omega, ?_, ?_, h2, .inr ⟨rfl, hm3⟩⟩
    · simp only [h1, shiftY]; omega
    · simp only [h1, shiftY]; omega
  · exact ⟨by simp only; omega, Nat.le_refl _, Nat.le_succ _, h2, .inl ⟨rfl, rfl⟩⟩

theorem and_mask (k : Int) (m : Nat) (hm : m ≤ 4611686018427387904) : ∃ n : Nat, bits BinOp.and IntKind.i64 k (m : Int) = n ∧ n ≤ m := by
  refine ⟨(BitVec.ofInt 64 k).toNat &&& m, ?_, Nat.and_le_right⟩
  have hm' : m % 2 ^ 64 = m := Nat.mod_eq_of_lt (by omega)
  have hle : (BitVec.ofInt 64 k).toNat &&& m ≤ m := Nat.and_le_right
  show IntKind.i64.wrap (((BitVec.ofInt 64 k) &&& (BitVec.ofInt 64 (m : Int))).toNat : Int) = _
  rw [BitVec.toNat_and, BitVec.ofInt_natCast, BitVec.toNat_ofNat, hm']
  generalize (BitVec.ofInt 64 k).toNat &&& m = n at *
  exact w64 (by omega) (by omega)

set_option maxHeartbeats 4000000 in
theorem yuRises_ok (s k : Int) : Eqn Tryd.prog n_Tlaw14_YuRises [.d (.int .i64 s), .d (.int .i64 k)] [] (.d (.bool true)) [] := by
  refine Eqn.pure r_Tlaw14_YuRises (plain_d _) ?_
  simp only [c_Tlaw14_YuRises]
  repeat (first | refine AW.seq ?_ | refine AW.block ?_ | (refine AW.reg mix ?_; (simp (implicitDefEqProofs := false) [↓callI, vopsN, vopsG, ↓step_slice, ↓A.step, ↓binInt, ↓binStr, vopsE0, vopsE1, -vops]; try simp (disch := omega) only [w64, wu64])) | (refine need.of (by first | omega | kernel_rfl) ?_) | (refine AW.skip ?_; (try simp (implicitDefEqProofs := false) [↓callI, vopsN, vopsG, ↓step_slice, ↓A.step, ↓binInt, ↓binStr, vopsE0, vopsE1, -vops])) | (refine AW.ret ?_; (try simp (implicitDefEqProofs := false) [↓callI, vopsN, vopsG, ↓step_slice, ↓A.step, ↓binInt, ↓binStr, vopsE0, vopsE1, -vops])) | (refine AW.exit ?_; (try simp (implicitDefEqProofs := false) [↓callI, vopsN, vopsG, ↓step_slice, ↓A.step, ↓binInt, ↓binStr, vopsE0, vopsE1, -vops])))
  refine CallS.pure (awakeY_ok) (by first | exact plain_d _ | exact plain_tup2 _ _ | exact plain_tup3 _ _ _) rfl (fun _ => rfl) (Subs.refl _) ?_
  (try simp (implicitDefEqProofs := false) [↓callI, vopsN, vopsG, ↓step_slice, ↓A.step, ↓binInt, ↓binStr, vopsE0, vopsE1, -vops]; try simp (disch := omega) only [w64, wu64])
  repeat (first | refine AW.seq ?_ | refine AW.block ?_ | (refine AW.reg mix ?_; (simp (implicitDefEqProofs := false) [↓callI, vopsN, vopsG, ↓step_slice, ↓A.step, ↓binInt, ↓binStr, vopsE0, vopsE1, -vops]; try simp (disch := omega) only [w64, wu64])) | (refine need.of (by first | omega | kernel_rfl) ?_) | (refine AW.skip ?_; (try simp (implicitDefEqProofs := false) [↓callI, vopsN, vopsG, ↓step_slice, ↓A.step, ↓binInt, ↓binStr, vopsE0, vopsE1, -vops])) | (refine AW.ret ?_; (try simp (implicitDefEqProofs := false) [↓callI, vopsN, vopsG, ↓step_slice, ↓A.step, ↓binInt, ↓binStr, vopsE0, vopsE1, -vops])) | (refine AW.exit ?_; (try simp (implicitDefEqProofs := false) [↓callI, vopsN, vopsG, ↓step_slice, ↓A.step, ↓binInt, ↓binStr, vopsE0, vopsE1, -vops])))
  refine AW.cond rfl (fun h => ?_) (fun h => ?_)
  · simp at h
  obtain ⟨a, ha, hal⟩ := and_mask s 15 (by omega)
  obtain ⟨j, hj, hjl⟩ := and_mask k 511 (by omega)
  have ha' : bits BinOp.and IntKind.i64 s 15 = a := ha
  have hj' : bits BinOp.and IntKind.i64 k 511 = j := hj
  have e1 : (a : Int).tmod 5 = (a % 5 : Nat) := by rw [Int.tmod_eq_emod_of_nonneg (by omega)]; rfl
  have e2 : IntKind.i64.wrap (1 + ((a % 5 : Nat) : Int)) = ((1 + a % 5 : Nat) : Int) := w64 (by omega) (by omega)
  have e3 : IntKind.i64.wrap ((j : Int) + 1) = ((j + 1 : Nat) : Int) := w64 (by omega) (by omega)
  have hS : 1 ≤ 1 + a % 5 ∧ 1 + a % 5 ≤ 5 := by omega
  generalize 1 + a % 5 = S at *
  have h1 := at_good S j hS.1 hS.2 (by omega)
  have h2 := at_good S (j + 1) hS.1 hS.2 (by omega)
  obtain ⟨r1, r2, r3, r4, r5⟩ := place_rises (s := S) (k := j) hS.1
  obtain ⟨z1, z2, z3, z4⟩ := placeY_size hS.1 hS.2 (k := j) (by omega)
  obtain ⟨y1, y2, y3, y4⟩ := placeY_size hS.1 hS.2 (k := j + 1) (by omega)
  generalize a % 5 = a5 at *
  generalize placeY S j = p at *
  generalize placeY S (j + 1) = q at *
  generalize hj1 : j + 1 = j1 at *
  obtain ⟨px, ps, pv, pr⟩ := p
  obtain ⟨qx, qs, qv, qr⟩ := q
  simp only [plD] at *
  have c1 := cmp_ok pv qv (by omega) (by omega)
  have c2 := cmp_ok pr qr (by omega) (by omega)
  have c3 := cmp_ok pv pr (by omega) (by omega)
  rw [show cmpZ pv qv = -1 by unfold cmpZ; rw [if_pos r1]] at c1
  rw [show cmpZ pv pr = -1 by unfold cmpZ; rw [if_pos r4]] at c3
  have e4 : IntKind.i64.wrap ((ps : Int) + 1) = (ps : Int) + 1 := w64 (by omega) (by omega)
  have g1 : (ps : Int) ≤ qs := by omega
  have g2 : (qs : Int) ≤ ps + 1 := by omega
  repeat (first | refine AW.seq ?_ | refine AW.block ?_ | (refine AW.reg mix ?_; (simp (implicitDefEqProofs := false) [↓callI, vopsN, vopsG, ↓step_slice, ↓A.step, ↓binInt, ↓binStr, vopsE0, vopsE1, -vops, ha', hj', e1, e2]; try simp (disch := omega) only [w64, wu64])) | (refine need.of (by first | omega | kernel_rfl) ?_) | (refine AW.skip ?_; (try simp (implicitDefEqProofs := false) [↓callI, vopsN, vopsG, ↓step_slice, ↓A.step, ↓binInt, ↓binStr, vopsE0, vopsE1, -vops, ha', hj', e1, e2])) | (refine AW.ret ?_; (try simp (implicitDefEqProofs := false) [↓callI, vopsN, vopsG, ↓step_slice, ↓A.step, ↓binInt, ↓binStr, vopsE0, vopsE1, -vops, ha', hj', e1, e2])) | (refine AW.exit ?_; (try simp (implicitDefEqProofs := false) [↓callI, vopsN, vopsG, ↓step_slice, ↓A.step, ↓binInt, ↓binStr, vopsE0, vopsE1, -vops, ha', hj', e1, e2])))
  refine CallS.pure (h1) (by first | exact plain_d _ | exact plain_tup2 _ _ | exact plain_tup3 _ _ _) rfl (fun _ => rfl) (Subs.refl _) ?_
  (try simp (implicitDefEqProofs := false) [↓callI, vopsN, vopsG, ↓step_slice, ↓A.step, ↓binInt, ↓binStr, vopsE0, vopsE1, -vops, e3]; try simp (disch := omega) only [w64, wu64])
  repeat (first | refine AW.seq ?_ | refine AW.block ?_ | (refine AW.reg mix ?_; (simp (implicitDefEqProofs := false) [↓callI, vopsN, vopsG, ↓step_slice, ↓A.step, ↓binInt, ↓binStr, vopsE0, vopsE1, -vops, e3]; try simp (disch := omega) only [w64, wu64])) | (refine need.of (by first | omega | kernel_rfl) ?_) | (refine AW.skip ?_; (try simp (implicitDefEqProofs := false) [↓callI, vopsN, vopsG, ↓step_slice, ↓A.step, ↓binInt, ↓binStr, vopsE0, vopsE1, -vops, e3])) | (refine AW.ret ?_; (try simp (implicitDefEqProofs := false) [↓callI, vopsN, vopsG, ↓step_slice, ↓A.step, ↓binInt, ↓binStr, vopsE0, vopsE1, -vops, e3])) | (refine AW.exit ?_; (try simp (implicitDefEqProofs := false) [↓callI, vopsN, vopsG, ↓step_slice, ↓A.step, ↓binInt, ↓binStr, vopsE0, vopsE1, -vops, e3])))
  refine CallS.pure (h2) (by first | exact plain_d _ | exact plain_tup2 _ _ | exact plain_tup3 _ _ _) rfl (fun _ => rfl) (Subs.refl _) ?_
  (try simp (implicitDefEqProofs := false) [↓callI, vopsN, vopsG, ↓step_slice, ↓A.step, ↓binInt, ↓binStr, vopsE0, vopsE1, -vops]; try simp (disch := omega) only [w64, wu64])
  repeat (first | refine AW.seq ?_ | refine AW.block ?_ | (refine AW.reg mix ?_; (simp (implicitDefEqProofs := false) [↓callI, vopsN, vopsG, ↓step_slice, ↓A.step, ↓binInt, ↓binStr, vopsE0, vopsE1, -vops]; try simp (disch := omega) only [w64, wu64])) | (refine need.of (by first | omega | kernel_rfl) ?_) | (refine AW.skip ?_; (try simp (implicitDefEqProofs := false) [↓callI, vopsN, vopsG, ↓step_slice, ↓A.step, ↓binInt, ↓binStr, vopsE0, vopsE1, -vops])) | (refine AW.ret ?_; (try simp (implicitDefEqProofs := false) [↓callI, vopsN, vopsG, ↓step_slice, ↓A.step, ↓binInt, ↓binStr, vopsE0, vopsE1, -vops])) | (refine AW.exit ?_; (try simp (implicitDefEqProofs := false) [↓callI, vopsN, vopsG, ↓step_slice, ↓A.step, ↓binInt, ↓binStr, vopsE0, vopsE1, -vops])))
  rcases r5 with ⟨r5, r6⟩ | ⟨r5, r6⟩
  · subst r5 r6
    rw [show cmpZ qr qr = 0 by unfold cmpZ; rw [if_neg (by omega), if_neg (by omega)]] at c2
    refine CallS.pure (c1) (by first | exact plain_d _ | exact plain_tup2 _ _ | exact plain_tup3 _ _ _) rfl (fun _ => rfl) (Subs.refl _) ?_
    (try simp (implicitDefEqProofs := false) [↓callI, vopsN, vopsG, ↓step_slice, ↓A.step, ↓binInt, ↓binStr, vopsE0, vopsE1, -vops]; try simp (disch := omega) only [w64, wu64])
    repeat (first | refine AW.seq ?_ | refine AW.block ?_ | (refine AW.reg mix ?_; (simp (implicitDefEqProofs := false) [↓callI, vopsN, vopsG, ↓step_slice, ↓A.step, ↓binInt, ↓binStr, vopsE0, vopsE1, -vops]; try simp (disch := omega) only [w64, wu64])) | (refine need.of (by first | omega | kernel_rfl) ?_) | (refine AW.skip ?_; (try simp (implicitDefEqProofs := false) [↓callI, vopsN, vopsG, ↓step_slice, ↓A.step, ↓binInt, ↓binStr, vopsE0, vopsE1, -vops])) | (refine AW.ret ?_; (try simp (implicitDefEqProofs := false) [↓callI, vopsN, vopsG, ↓step_slice, ↓A.step, ↓binInt, ↓binStr, vopsE0, vopsE1, -vops])) | (refine AW.exit ?_; (try simp (implicitDefEqProofs := false) [↓callI, vopsN, vopsG, ↓step_slice, ↓A.step, ↓binInt, ↓binStr, vopsE0, vopsE1, -vops])))
    refine CallS.pure (c2) (by first | exact plain_d _ | exact plain_tup2 _ _ | exact plain_tup3 _ _ _) rfl (fun _ => rfl) (Subs.refl _) ?_
    (try simp (implicitDefEqProofs := false) [↓callI, vopsN, vopsG, ↓step_slice, ↓A.step, ↓binInt, ↓binStr, vopsE0, vopsE1, -vops]; try simp (disch := omega) only [w64, wu64])
    repeat (first | refine AW.seq ?_ | refine AW.block ?_ | (refine AW.reg mix ?_; (simp (implicitDefEqProofs := false) [↓callI, vopsN, vopsG, ↓step_slice, ↓A.step, ↓binInt, ↓binStr, vopsE0, vopsE1, -vops]; try simp (disch := omega) only [w64, wu64])) | (refine need.of (by first | omega | kernel_rfl) ?_) | (refine AW.skip ?_; (try simp (implicitDefEqProofs := false) [↓callI, vopsN, vopsG, ↓step_slice, ↓A.step, ↓binInt, ↓binStr, vopsE0, vopsE1, -vops])) | (refine AW.ret ?_; (try simp (implicitDefEqProofs := false) [↓callI, vopsN, vopsG, ↓step_slice, ↓A.step, ↓binInt, ↓binStr, vopsE0, vopsE1, -vops])) | (refine AW.exit ?_; (try simp (implicitDefEqProofs := false) [↓callI, vopsN, vopsG, ↓step_slice, ↓A.step, ↓binInt, ↓binStr, vopsE0, vopsE1, -vops])))
    refine CallS.pure (c2) (by first | exact plain_d _ | exact plain_tup2 _ _ | exact plain_tup3 _ _ _) rfl (fun _ => rfl) (Subs.refl _) ?_
    (try simp (implicitDefEqProofs := false) [↓callI, vopsN, vopsG, ↓step_slice, ↓A.step, ↓binInt, ↓binStr, vopsE0, vopsE1, -vops, g1, g2, e4]; try simp (disch := omega) only [w64, wu64])
    repeat (first | refine AW.seq ?_ | refine AW.block ?_ | (refine AW.reg mix ?_; (simp (implicitDefEqProofs := false) [↓callI, vopsN, vopsG, ↓step_slice, ↓A.step, ↓binInt, ↓binStr, vopsE0, vopsE1, -vops, g1, g2, e4]; try simp (disch := omega) only [w64, wu64])) | (refine need.of (by first | omega | kernel_rfl) ?_) | (refine AW.skip ?_; (try simp (implicitDefEqProofs := false) [↓callI, vopsN, vopsG, ↓step_slice, ↓A.step, ↓binInt, ↓binStr, vopsE0, vopsE1, -vops, g1, g2, e4])) | (refine AW.ret ?_; (try simp (implicitDefEqProofs := false) [↓callI, vopsN, vopsG, ↓step_slice, ↓A.step, ↓binInt, ↓binStr, vopsE0, vopsE1, -vops, g1, g2, e4])) | (refine AW.exit ?_; (try simp (implicitDefEqProofs := false) [↓callI, vopsN, vopsG, ↓step_slice, ↓A.step, ↓binInt, ↓binStr, vopsE0, vopsE1, -vops, g1, g2, e4])))
    refine CallS.pure (c3) (by first | exact plain_d _ | exact plain_tup2 _ _ | exact plain_tup3 _ _ _) rfl (fun _ => rfl) (Subs.refl _) ?_
    (try simp (implicitDefEqProofs := false) [↓callI, vopsN, vopsG, ↓step_slice, ↓A.step, ↓binInt, ↓binStr, vopsE0, vopsE1, -vops]; try simp (disch := omega) only [w64, wu64])
    repeat (first | refine AW.seq ?_ | refine AW.block ?_ | (refine AW.reg mix ?_; (simp (implicitDefEqProofs := false) [↓callI, vopsN, vopsG, ↓step_slice, ↓A.step, ↓binInt, ↓binStr, vopsE0, vopsE1, -vops]; try simp (disch := omega) only [w64, wu64])) | (refine need.of (by first | omega | kernel_rfl) ?_) | (refine AW.skip ?_; (try simp (implicitDefEqProofs := false) [↓callI, vopsN, vopsG, ↓step_slice, ↓A.step, ↓binInt, ↓binStr, vopsE0, vopsE1, -vops])) | (refine AW.ret ?_; (try simp (implicitDefEqProofs := false) [↓callI, vopsN, vopsG, ↓step_slice, ↓A.step, ↓binInt, ↓binStr, vopsE0, vopsE1, -vops])) | (refine AW.exit ?_; (try simp (implicitDefEqProofs := false) [↓callI, vopsN, vopsG, ↓step_slice, ↓A.step, ↓binInt, ↓binStr, vopsE0, vopsE1, -vops])))
  · rw [show cmpZ pr qr = -1 by unfold cmpZ; rw [if_pos r6]] at c2
    have g3 : ¬ (px : Int) = qx := by omega
    refine CallS.pure (c1) (by first | exact plain_d _ | exact plain_tup2 _ _ | exact plain_tup3 _ _ _) rfl (fun _ => rfl) (Subs.refl _) ?_
    (try simp (implicitDefEqProofs := false) [↓callI, vopsN, vopsG, ↓step_slice, ↓A.step, ↓binInt, ↓binStr, vopsE0, vopsE1, -vops]; try simp (disch := omega) only [w64, wu64])
    repeat (first | refine AW.seq ?_ | refine AW.block ?_ | (refine AW.reg mix ?_; (simp (implicitDefEqProofs := false) [↓callI, vopsN, vopsG, ↓step_slice, ↓A.step, ↓binInt, ↓binStr, vopsE0, vopsE1, -vops]; try simp (disch := omega) only [w64, wu64])) | (refine need.of (by first | omega | kernel_rfl) ?_) | (refine AW.skip ?_; (try simp (implicitDefEqProofs := false) [↓callI, vopsN, vopsG, ↓step_slice, ↓A.step, ↓binInt, ↓binStr, vopsE0, vopsE1, -vops])) | (refine AW.ret ?_; (try simp (implicitDefEqProofs := false) [↓callI, vopsN, vopsG, ↓step_slice, ↓A.step, ↓binInt, ↓binStr, vopsE0, vopsE1, -vops])) | (refine AW.exit ?_; (try simp (implicitDefEqProofs := false) [↓callI, vopsN, vopsG, ↓step_slice, ↓A.step, ↓binInt, ↓binStr, vopsE0, vopsE1, -vops])))
    refine CallS.pure (c2) (by first | exact plain_d _ | exact plain_tup2 _ _ | exact plain_tup3 _ _ _) rfl (fun _ => rfl) (Subs.refl _) ?_
    (try simp (implicitDefEqProofs := false) [↓callI, vopsN, vopsG, ↓step_slice, ↓A.step, ↓binInt, ↓binStr, vopsE0, vopsE1, -vops]; try simp (disch := omega) only [w64, wu64])
    repeat (first | refine AW.seq ?_ | refine AW.block ?_ | (refine AW.reg mix ?_; (simp (implicitDefEqProofs := false) [↓callI, vopsN, vopsG, ↓step_slice, ↓A.step, ↓binInt, ↓binStr, vopsE0, vopsE1, -vops]; try simp (disch := omega) only [w64, wu64])) | (refine need.of (by first | omega | kernel_rfl) ?_) | (refine AW.skip ?_; (try simp (implicitDefEqProofs := false) [↓callI, vopsN, vopsG, ↓step_slice, ↓A.step, ↓binInt, ↓binStr, vopsE0, vopsE1, -vops])) | (refine AW.ret ?_; (try simp (implicitDefEqProofs := false) [↓callI, vopsN, vopsG, ↓step_slice, ↓A.step, ↓binInt, ↓binStr, vopsE0, vopsE1, -vops])) | (refine AW.exit ?_; (try simp (implicitDefEqProofs := false) [↓callI, vopsN, vopsG, ↓step_slice, ↓A.step, ↓binInt, ↓binStr, vopsE0, vopsE1, -vops])))
    refine CallS.pure (c2) (by first | exact plain_d _ | exact plain_tup2 _ _ | exact plain_tup3 _ _ _) rfl (fun _ => rfl) (Subs.refl _) ?_
    (try simp (implicitDefEqProofs := false) [↓callI, vopsN, vopsG, ↓step_slice, ↓A.step, ↓binInt, ↓binStr, vopsE0, vopsE1, -vops, g1, g2, g3, e4]; try simp (disch := omega) only [w64, wu64])
    repeat (first | refine AW.seq ?_ | refine AW.block ?_ | (refine AW.reg mix ?_; (simp (implicitDefEqProofs := false) [↓callI, vopsN, vopsG, ↓step_slice, ↓A.step, ↓binInt, ↓binStr, vopsE0, vopsE1, -vops, g1, g2, g3, e4]; try simp (disch := omega) only [w64, wu64])) | (refine need.of (by first | omega | kernel_rfl) ?_) | (refine AW.skip ?_; (try simp (implicitDefEqProofs := false) [↓callI, vopsN, vopsG, ↓step_slice, ↓A.step, ↓binInt, ↓binStr, vopsE0, vopsE1, -vops, g1, g2, g3, e4])) | (refine AW.ret ?_; (try simp (implicitDefEqProofs := false) [↓callI, vopsN, vopsG, ↓step_slice, ↓A.step, ↓binInt, ↓binStr, vopsE0, vopsE1, -vops, g1, g2, g3, e4])) | (refine AW.exit ?_; (try simp (implicitDefEqProofs := false) [↓callI, vopsN, vopsG, ↓step_slice, ↓A.step, ↓binInt, ↓binStr, vopsE0, vopsE1, -vops, g1, g2, g3, e4])))
    refine CallS.pure (c3) (by first | exact plain_d _ | exact plain_tup2 _ _ | exact plain_tup3 _ _ _) rfl (fun _ => rfl) (Subs.refl _) ?_
    (try simp (implicitDefEqProofs := false) [↓callI, vopsN, vopsG, ↓step_slice, ↓A.step, ↓binInt, ↓binStr, vopsE0, vopsE1, -vops]; try simp (disch := omega) only [w64, wu64])
    repeat (first | refine AW.seq ?_ | refine AW.block ?_ | (refine AW.reg mix ?_; (simp (implicitDefEqProofs := false) [↓callI, vopsN, vopsG, ↓step_slice, ↓A.step, ↓binInt, ↓binStr, vopsE0, vopsE1, -vops]; try simp (disch := omega) only [w64, wu64])) | (refine need.of (by first | omega | kernel_rfl) ?_) | (refine AW.skip ?_; (try simp (implicitDefEqProofs := false) [↓callI, vopsN, vopsG, ↓step_slice, ↓A.step, ↓binInt, ↓binStr, vopsE0, vopsE1, -vops])) | (refine AW.ret ?_; (try simp (implicitDefEqProofs := false) [↓callI, vopsN, vopsG, ↓step_slice, ↓A.step, ↓binInt, ↓binStr, vopsE0, vopsE1, -vops])) | (refine AW.exit ?_; (try simp (implicitDefEqProofs := false) [↓callI, vopsN, vopsG, ↓step_slice, ↓A.step, ↓binInt, ↓binStr, vopsE0, vopsE1, -vops])))
end Go.Proofs.YtakjegcjeffmgaaDoor.Am
