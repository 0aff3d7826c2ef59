import Derived.Test.YtakjegcjeffmgaaFlip1
namespace Go.Proofs.Ytakjegcjeffmgaa.Am
open Go.RowKit
set_option maxRecDepth 100000
set_option linter.unusedSimpArgs false
set_option linter.unusedVariables false

theorem ratioR_le {cs : List Bool} {q : Nat} : ∀ (f r p : Nat) (dd : Bool), p ≤ cs.length → (ratioR cs q f r p dd).2.2.1 ≤ cs.length
  | 0, _, _, _, h => h
  | f + 1, r, p, dd, h => by
    rw [ratioR]
    generalize (if q ≤ r + r then r + r - q else r + r) = r3
    split
    · split
      · split
        · exact flipP_le h
        · exact ratioR_le f _ _ _ (flipP_le h)
      · exact flipP_le h
    · exact h
theorem ratioA_le {cs : List Bool} {a q p : Nat} {dd : Bool} (h : p ≤ cs.length) : (ratioA cs a q p dd).2.2.1 ≤ cs.length := by
  rw [ratioA]
  split
  · exact h
  · exact ratioR_le _ _ _ _ h

/-- so many of these -/
def powerR (cs : List Bool) (a q : Nat) : Nat → Nat → Bool → Bool × Int × Nat × Bool
  | 0, p, dd => (true, 0, p, dd)
  | k + 1, p, dd => if (ratioA cs a q p dd).1 then powerR cs a q k (ratioA cs a q p dd).2.2.1 (ratioA cs a q p dd).2.2.2 else ratioA cs a q p dd

theorem power_ok (cs : List Bool) (a q p : Nat) (dd : Bool) (k : Int) (ha : a ≤ q) (h0 : 0 < q) (hq : q < 9223372036854775808) (hk : k ≤ 4000000) (hp : p ≤ cs.length) (hn : cs.length ≤ 4000000) :
    Eqn Try.prog n_flip_Power [.p 0 0, .d (.agg [natW a]), .d (.agg [natW q]), .d (.int .i64 k)] [tapeO cs p dd] (.tup [.d (.bool (powerR cs a q k.toNat p dd).1), .d (.int .i64 (powerR cs a q k.toNat p dd).2.1)]) [tapeO cs (powerR cs a q k.toNat p dd).2.2.1 (powerR cs a q k.toNat p dd).2.2.2] := by
  refine Eqn.obj1 r_flip_Power (plain_tup2 _ _) ⟨rfl, fun _ => rfl⟩ ?_
  simp only [c_flip_Power]
  have sz : ∀ {x : Nat}, x < 18446744073709551616 → size x ≤ 1000000 := fun hx => Nat.le_trans (size_one hx) (by omega)
  have hg := fgood_ok a q (sz (by omega)) (sz (by omega))
  rw [show decide (0 < q ∧ a ≤ q) = true by simp; omega] at hg
  obtain ⟨K, hK, hK2⟩ : ∃ K : Nat, K = k.toNat ∧ max 0 k = (K : Int) := ⟨k.toNat, rfl, by omega⟩
  rw [← hK]
  obtain ⟨R, hR⟩ : ∃ R, R = powerR cs a q K p dd := ⟨_, rfl⟩
  rw [← hR]
  repeat (first | refine AW.seq ?_ | refine AW.block ?_ | (refine AW.reg mix ?_; (simp (implicitDefEqProofs := false) [↓callI, vopsN, vopsG, ↓step_slice, ↓Am.A.step, ↓binInt, ↓binStr, vopsE0, vopsE1, -vops, -Bool.exists_bool]; try simp (disch := omega) only [w64, wu64])) | (refine need.of (by first | omega | kernel_rfl) ?_) | (refine AW.skip ?_; (try simp (implicitDefEqProofs := false) [↓callI, vopsN, vopsG, ↓step_slice, ↓Am.A.step, ↓binInt, ↓binStr, vopsE0, vopsE1, -vops, -Bool.exists_bool])) | (refine AW.ret ?_; (try simp (implicitDefEqProofs := false) [↓callI, vopsN, vopsG, ↓step_slice, ↓Am.A.step, ↓binInt, ↓binStr, vopsE0, vopsE1, -vops, -Bool.exists_bool])) | (refine AW.exit ?_; (try simp (implicitDefEqProofs := false) [↓callI, vopsN, vopsG, ↓step_slice, ↓Am.A.step, ↓binInt, ↓binStr, vopsE0, vopsE1, -vops, -Bool.exists_bool])))
  refine CallS.pure (hg) (by first | exact plain_d _ | exact plain_tup2 _ _ | exact plain_tup3 _ _ _) rfl (fun _ => rfl) (Subs.refl _) ?_
  (try simp (implicitDefEqProofs := false) [↓callI, vopsN, vopsG, ↓step_slice, ↓Am.A.step, ↓binInt, ↓binStr, vopsE0, vopsE1, -vops, -Bool.exists_bool]; try simp (disch := omega) only [w64, wu64])
  repeat (first | refine AW.seq ?_ | refine AW.block ?_ | (refine AW.reg mix ?_; (simp (implicitDefEqProofs := false) [↓callI, vopsN, vopsG, ↓step_slice, ↓Am.A.step, ↓binInt, ↓binStr, vopsE0, vopsE1, -vops, -Bool.exists_bool]; try simp (disch := omega) only [w64, wu64])) | (refine need.of (by first | omega | kernel_rfl) ?_) | (refine AW.skip ?_; (try simp (implicitDefEqProofs := false) [↓callI, vopsN, vopsG, ↓step_slice, ↓Am.A.step, ↓binInt, ↓binStr, vopsE0, vopsE1, -vops, -Bool.exists_bool])) | (refine AW.ret ?_; (try simp (implicitDefEqProofs := false) [↓callI, vopsN, vopsG, ↓step_slice, ↓Am.A.step, ↓binInt, ↓binStr, vopsE0, vopsE1, -vops, -Bool.exists_bool])) | (refine AW.exit ?_; (try simp (implicitDefEqProofs := false) [↓callI, vopsN, vopsG, ↓step_slice, ↓Am.A.step, ↓binInt, ↓binStr, vopsE0, vopsE1, -vops, -Bool.exists_bool])))
  refine AW.cond rfl (fun h => ?_) (fun h => ?_)
  · simp at h
  clear h
  repeat (first | refine AW.seq ?_ | refine AW.block ?_ | (refine AW.reg mix ?_; (simp (implicitDefEqProofs := false) [↓callI, vopsN, vopsG, ↓step_slice, ↓Am.A.step, ↓binInt, ↓binStr, vopsE0, vopsE1, -vops, hK2, -Bool.exists_bool]; try simp (disch := omega) only [w64, wu64])) | (refine need.of (by first | omega | kernel_rfl) ?_) | (refine AW.skip ?_; (try simp (implicitDefEqProofs := false) [↓callI, vopsN, vopsG, ↓step_slice, ↓Am.A.step, ↓binInt, ↓binStr, vopsE0, vopsE1, -vops, hK2, -Bool.exists_bool])) | (refine AW.ret ?_; (try simp (implicitDefEqProofs := false) [↓callI, vopsN, vopsG, ↓step_slice, ↓Am.A.step, ↓binInt, ↓binStr, vopsE0, vopsE1, -vops, hK2, -Bool.exists_bool])) | (refine AW.exit ?_; (try simp (implicitDefEqProofs := false) [↓callI, vopsN, vopsG, ↓step_slice, ↓Am.A.step, ↓binInt, ↓binStr, vopsE0, vopsE1, -vops, hK2, -Bool.exists_bool])))
  refine AW.loopT (α := Nat × Nat × Bool) 3 (fun s => [(18, .d (.int .i64 (s.1 : Int)))]) (fun s => [(0, tapeO cs s.2.1 s.2.2)]) (fun s => s.1 ≤ K ∧ s.2.1 ≤ cs.length ∧ R = powerR cs a q (K - s.1) s.2.1 s.2.2) (fun s => K - s.1) (0, p, dd) ?_ ?_ ⟨Nat.zero_le _, hp, hR⟩ ?_ ?_ ?_
  · simp
  · simp
  · simp
  · simp
  rintro ⟨i, z, d⟩ ⟨hi, hz, hR⟩
  simp only at hi hz hR
  simp [-Bool.exists_bool]
  by_cases h : i = K
  · subst h
    rw [Nat.sub_self, powerR] at hR
    repeat (first | refine AW.seq ?_ | refine AW.block ?_ | (refine AW.reg mix ?_; (simp (implicitDefEqProofs := false) [↓callI, vopsN, vopsG, ↓step_slice, ↓Am.A.step, ↓binInt, ↓binStr, vopsE0, vopsE1, -vops, -Bool.exists_bool]; try simp (disch := omega) only [w64, wu64])) | (refine need.of (by first | omega | kernel_rfl) ?_) | (refine AW.skip ?_; (try simp (implicitDefEqProofs := false) [↓callI, vopsN, vopsG, ↓step_slice, ↓Am.A.step, ↓binInt, ↓binStr, vopsE0, vopsE1, -vops, -Bool.exists_bool])) | (refine AW.ret ?_; (try simp (implicitDefEqProofs := false) [↓callI, vopsN, vopsG, ↓step_slice, ↓Am.A.step, ↓binInt, ↓binStr, vopsE0, vopsE1, -vops, -Bool.exists_bool])) | (refine AW.exit ?_; (try simp (implicitDefEqProofs := false) [↓callI, vopsN, vopsG, ↓step_slice, ↓Am.A.step, ↓binInt, ↓binStr, vopsE0, vopsE1, -vops, -Bool.exists_bool])))
    refine AW.cond rfl (fun h => ?_) (fun h => ?_)
    · simp at h
    refine AW.exit ?_
    (try simp (implicitDefEqProofs := false) [↓callI, vopsN, vopsG, ↓step_slice, ↓Am.A.step, ↓binInt, ↓binStr, vopsE0, vopsE1, -vops, -Bool.exists_bool]; try simp (disch := omega) only [w64, wu64])
    repeat (first | refine AW.seq ?_ | refine AW.block ?_ | (refine AW.reg mix ?_; (simp (implicitDefEqProofs := false) [↓callI, vopsN, vopsG, ↓step_slice, ↓Am.A.step, ↓binInt, ↓binStr, vopsE0, vopsE1, -vops, -Bool.exists_bool]; try simp (disch := omega) only [w64, wu64])) | (refine need.of (by first | omega | kernel_rfl) ?_) | (refine AW.skip ?_; (try simp (implicitDefEqProofs := false) [↓callI, vopsN, vopsG, ↓step_slice, ↓Am.A.step, ↓binInt, ↓binStr, vopsE0, vopsE1, -vops, -Bool.exists_bool])) | (refine AW.ret ?_; (try simp (implicitDefEqProofs := false) [↓callI, vopsN, vopsG, ↓step_slice, ↓Am.A.step, ↓binInt, ↓binStr, vopsE0, vopsE1, -vops, -Bool.exists_bool])) | (refine AW.exit ?_; (try simp (implicitDefEqProofs := false) [↓callI, vopsN, vopsG, ↓step_slice, ↓Am.A.step, ↓binInt, ↓binStr, vopsE0, vopsE1, -vops, -Bool.exists_bool])))
    simp [hR]
  · have hlt : (i : Int) < K := by omega
    have hlt' : i < K := by omega
    obtain ⟨r, hr⟩ : ∃ r, K - i = r + 1 := ⟨K - i - 1, by omega⟩
    rw [hr, powerR] at hR
    have hra := ratio_ok cs a q z d ha h0 hq hz hn
    have hle := ratioA_le (cs := cs) (a := a) (q := q) (dd := d) hz
    generalize ratioA cs a q z d = S at *
    obtain ⟨S1, S2, S3, S4⟩ := S
    simp only at hra hR hle
    repeat (first | refine AW.seq ?_ | refine AW.block ?_ | (refine AW.reg mix ?_; (simp (implicitDefEqProofs := false) [↓callI, vopsN, vopsG, ↓step_slice, ↓Am.A.step, ↓binInt, ↓binStr, vopsE0, vopsE1, -vops, hlt, hlt', -Bool.exists_bool]; try simp (disch := omega) only [w64, wu64])) | (refine need.of (by first | omega | kernel_rfl) ?_) | (refine AW.skip ?_; (try simp (implicitDefEqProofs := false) [↓callI, vopsN, vopsG, ↓step_slice, ↓Am.A.step, ↓binInt, ↓binStr, vopsE0, vopsE1, -vops, hlt, hlt', -Bool.exists_bool])) | (refine AW.ret ?_; (try simp (implicitDefEqProofs := false) [↓callI, vopsN, vopsG, ↓step_slice, ↓Am.A.step, ↓binInt, ↓binStr, vopsE0, vopsE1, -vops, hlt, hlt', -Bool.exists_bool])) | (refine AW.exit ?_; (try simp (implicitDefEqProofs := false) [↓callI, vopsN, vopsG, ↓step_slice, ↓Am.A.step, ↓binInt, ↓binStr, vopsE0, vopsE1, -vops, hlt, hlt', -Bool.exists_bool])))
    refine AW.cond rfl (fun h => ?_) (fun h => ?_)
    · clear h
      repeat (first | refine AW.seq ?_ | refine AW.block ?_ | (refine AW.reg mix ?_; (simp (implicitDefEqProofs := false) [↓callI, vopsN, vopsG, ↓step_slice, ↓Am.A.step, ↓binInt, ↓binStr, vopsE0, vopsE1, -vops, -Bool.exists_bool]; try simp (disch := omega) only [w64, wu64])) | (refine need.of (by first | omega | kernel_rfl) ?_) | (refine AW.skip ?_; (try simp (implicitDefEqProofs := false) [↓callI, vopsN, vopsG, ↓step_slice, ↓Am.A.step, ↓binInt, ↓binStr, vopsE0, vopsE1, -vops, -Bool.exists_bool])) | (refine AW.ret ?_; (try simp (implicitDefEqProofs := false) [↓callI, vopsN, vopsG, ↓step_slice, ↓Am.A.step, ↓binInt, ↓binStr, vopsE0, vopsE1, -vops, -Bool.exists_bool])) | (refine AW.exit ?_; (try simp (implicitDefEqProofs := false) [↓callI, vopsN, vopsG, ↓step_slice, ↓Am.A.step, ↓binInt, ↓binStr, vopsE0, vopsE1, -vops, -Bool.exists_bool])))
      refine CallS.obj1 0 (hra) (by first | exact plain_d _ | exact plain_tup2 _ _ | exact plain_tup3 _ _ _) ⟨rfl, fun _ => rfl⟩ ⟨rfl, fun _ => rfl⟩ rfl (by rfl) (Subs.of (by simp)) ?_
      (try simp (implicitDefEqProofs := false) [↓callI, vopsN, vopsG, ↓step_slice, ↓Am.A.step, ↓binInt, ↓binStr, vopsE0, vopsE1, -vops, -Bool.exists_bool]; try simp (disch := omega) only [w64, wu64])
      repeat (first | refine AW.seq ?_ | refine AW.block ?_ | (refine AW.reg mix ?_; (simp (implicitDefEqProofs := false) [↓callI, vopsN, vopsG, ↓step_slice, ↓Am.A.step, ↓binInt, ↓binStr, vopsE0, vopsE1, -vops, -Bool.exists_bool]; try simp (disch := omega) only [w64, wu64])) | (refine need.of (by first | omega | kernel_rfl) ?_) | (refine AW.skip ?_; (try simp (implicitDefEqProofs := false) [↓callI, vopsN, vopsG, ↓step_slice, ↓Am.A.step, ↓binInt, ↓binStr, vopsE0, vopsE1, -vops, -Bool.exists_bool])) | (refine AW.ret ?_; (try simp (implicitDefEqProofs := false) [↓callI, vopsN, vopsG, ↓step_slice, ↓Am.A.step, ↓binInt, ↓binStr, vopsE0, vopsE1, -vops, -Bool.exists_bool])) | (refine AW.exit ?_; (try simp (implicitDefEqProofs := false) [↓callI, vopsN, vopsG, ↓step_slice, ↓Am.A.step, ↓binInt, ↓binStr, vopsE0, vopsE1, -vops, -Bool.exists_bool])))
      refine AW.cond rfl (fun h => ?_) (fun h => ?_)
      · have hb : S1 = false := by simpa using h
        subst hb
        repeat (first | refine AW.seq ?_ | refine AW.block ?_ | (refine AW.reg mix ?_; (simp (implicitDefEqProofs := false) [↓callI, vopsN, vopsG, ↓step_slice, ↓Am.A.step, ↓binInt, ↓binStr, vopsE0, vopsE1, -vops, -Bool.exists_bool]; try simp (disch := omega) only [w64, wu64])) | (refine need.of (by first | omega | kernel_rfl) ?_) | (refine AW.skip ?_; (try simp (implicitDefEqProofs := false) [↓callI, vopsN, vopsG, ↓step_slice, ↓Am.A.step, ↓binInt, ↓binStr, vopsE0, vopsE1, -vops, -Bool.exists_bool])) | (refine AW.ret ?_; (try simp (implicitDefEqProofs := false) [↓callI, vopsN, vopsG, ↓step_slice, ↓Am.A.step, ↓binInt, ↓binStr, vopsE0, vopsE1, -vops, -Bool.exists_bool])) | (refine AW.exit ?_; (try simp (implicitDefEqProofs := false) [↓callI, vopsN, vopsG, ↓step_slice, ↓Am.A.step, ↓binInt, ↓binStr, vopsE0, vopsE1, -vops, -Bool.exists_bool])))
        simp [hR]
      · have hb : S1 = true := by simpa using h
        subst hb
        rw [if_pos rfl] at hR
        have ew : IntKind.i64.wrap ((i : Int) + 1) = (i : Int) + 1 := w64 (by omega) (by omega)
        repeat (first | refine AW.seq ?_ | refine AW.block ?_ | (refine AW.reg mix ?_; (simp (implicitDefEqProofs := false) [↓callI, vopsN, vopsG, ↓step_slice, ↓Am.A.step, ↓binInt, ↓binStr, vopsE0, vopsE1, -vops, ew, -Bool.exists_bool]; try simp (disch := omega) only [w64, wu64])) | (refine need.of (by first | omega | kernel_rfl) ?_) | (refine AW.skip ?_; (try simp (implicitDefEqProofs := false) [↓callI, vopsN, vopsG, ↓step_slice, ↓Am.A.step, ↓binInt, ↓binStr, vopsE0, vopsE1, -vops, ew, -Bool.exists_bool])) | (refine AW.ret ?_; (try simp (implicitDefEqProofs := false) [↓callI, vopsN, vopsG, ↓step_slice, ↓Am.A.step, ↓binInt, ↓binStr, vopsE0, vopsE1, -vops, ew, -Bool.exists_bool])) | (refine AW.exit ?_; (try simp (implicitDefEqProofs := false) [↓callI, vopsN, vopsG, ↓step_slice, ↓Am.A.step, ↓binInt, ↓binStr, vopsE0, vopsE1, -vops, ew, -Bool.exists_bool])))
        refine ⟨i + 1, S3, S4, ⟨hlt', hle, by rw [show K - (i + 1) = r by omega]; exact hR⟩, by omega, by simp, by simp⟩
    · simp [hlt'] at h
end Go.Proofs.Ytakjegcjeffmgaa.Am
