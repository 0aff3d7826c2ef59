import Derived.Test.YtakjegcjeffmgaaYu2
import Derived.Test.YtakjegcjeffmgaaFloat2
namespace Go.Proofs.Ytakjegcjeffmgaa.Am
open Go.RowKit
set_option maxRecDepth 100000
set_option linter.unusedSimpArgs false
set_option linter.unusedVariables false

theorem atE_zero {s k : Int} (h : atE s k = 0) : 1 ≤ s ∧ s ≤ 5 ∧ 0 ≤ k ∧ k ≤ 1023 := by
  unfold atE at h
  split at h
  · split at h <;> omega
  · omega
theorem atP_shift {s k : Int} (h : atE s k = 0) : (atP s k).shift ≤ 8192 := by
  have h1 := atE_zero h
  rw [atP, if_pos h]
  exact (placeY_size (s := s.toNat) (k := k.toNat) (by omega) (by omega) (by omega)).2.1

/-- a step at a place -/
def stepY (cs : List Bool) (s k : Int) : Bool × Int × Nat × Bool := if atE s k = 0 then halfR cs (atP s k).shift 0 false else (false, atE s k, 0, false)
def againE (s k j : Int) : Int := if atE s k = 0 then atE s j else atE s k
/-- what a step at another place is here -/
def againY (cs : List Bool) (s k j : Int) : Bool × Int × Nat × Bool := if againE s k j = 0 then halfR cs ((atP s k).shift - (atP s j).shift) 0 false else (false, againE s k j, 0, false)

theorem ystep_ok (cs : List Bool) (s k : Int) (hn : cs.length ≤ 4000000) :
    Eqn Try.prog n_yu_Step [.p 0 0, .d (.int .i64 s), .d (.int .i64 k)] [tapeO cs 0 false] (.tup [.d (.bool (stepY cs s k).1), .d (.int .i64 (stepY cs s k).2.1)]) [tapeO cs (stepY cs s k).2.2.1 (stepY cs s k).2.2.2] := by
  refine Eqn.obj1 r_yu_Step (plain_tup2 _ _) ⟨rfl, fun _ => rfl⟩ ?_
  simp only [c_yu_Step]
  have ha := at_ok s k
  have hsh := atP_shift (s := s) (k := k)
  have hst : stepY cs s k = if atE s k = 0 then halfR cs (atP s k).shift 0 false else (false, atE s k, 0, false) := rfl
  rw [hst]
  clear hst
  generalize atP s k = p at *
  obtain ⟨px, ps, pv, pr⟩ := p
  simp only [plD] at ha hsh ⊢
  generalize atE s k = e at *
  repeat (first | refine AW.seq ?_ | refine AW.block ?_ | (refine AW.reg mix ?_; (simp (implicitDefEqProofs := false) [↓callI, vopsN, vopsG, ↓step_slice, ↓Am.A.step, ↓binInt, ↓binStr, vopsE0, vopsE1, -vops]; try simp (disch := omega) only [w64, wu64])) | (refine need.of (by first | omega | kernel_rfl) ?_) | (refine AW.skip ?_; (try simp (implicitDefEqProofs := false) [↓callI, vopsN, vopsG, ↓step_slice, ↓Am.A.step, ↓binInt, ↓binStr, vopsE0, vopsE1, -vops])) | (refine AW.ret ?_; (try simp (implicitDefEqProofs := false) [↓callI, vopsN, vopsG, ↓step_slice, ↓Am.A.step, ↓binInt, ↓binStr, vopsE0, vopsE1, -vops])) | (refine AW.exit ?_; (try simp (implicitDefEqProofs := false) [↓callI, vopsN, vopsG, ↓step_slice, ↓Am.A.step, ↓binInt, ↓binStr, vopsE0, vopsE1, -vops])))
  refine CallS.pure (ha) (by first | exact plain_d _ | exact plain_tup2 _ _ | exact plain_tup3 _ _ _) rfl (fun _ => rfl) (Subs.refl _) ?_
  (try simp (implicitDefEqProofs := false) [↓callI, vopsN, vopsG, ↓step_slice, ↓Am.A.step, ↓binInt, ↓binStr, vopsE0, vopsE1, -vops]; try simp (disch := omega) only [w64, wu64])
  repeat (first | refine AW.seq ?_ | refine AW.block ?_ | (refine AW.reg mix ?_; (simp (implicitDefEqProofs := false) [↓callI, vopsN, vopsG, ↓step_slice, ↓Am.A.step, ↓binInt, ↓binStr, vopsE0, vopsE1, -vops]; try simp (disch := omega) only [w64, wu64])) | (refine need.of (by first | omega | kernel_rfl) ?_) | (refine AW.skip ?_; (try simp (implicitDefEqProofs := false) [↓callI, vopsN, vopsG, ↓step_slice, ↓Am.A.step, ↓binInt, ↓binStr, vopsE0, vopsE1, -vops])) | (refine AW.ret ?_; (try simp (implicitDefEqProofs := false) [↓callI, vopsN, vopsG, ↓step_slice, ↓Am.A.step, ↓binInt, ↓binStr, vopsE0, vopsE1, -vops])) | (refine AW.exit ?_; (try simp (implicitDefEqProofs := false) [↓callI, vopsN, vopsG, ↓step_slice, ↓Am.A.step, ↓binInt, ↓binStr, vopsE0, vopsE1, -vops])))
  by_cases h : e = 0
  · subst h
    refine AW.cond rfl (fun h => ?_) (fun h => ?_)
    · simp at h
    have hh := half_ok cs 0 false ps (by have := hsh rfl; omega) (Nat.zero_le _) hn
    rw [Int.toNat_natCast] at hh
    simp only [if_true]
    generalize halfR cs ps 0 false = r at hh ⊢
    obtain ⟨r1, r2, r3, r4⟩ := r
    simp only at hh ⊢
    repeat (first | refine AW.seq ?_ | refine AW.block ?_ | (refine AW.reg mix ?_; (simp (implicitDefEqProofs := false) [↓callI, vopsN, vopsG, ↓step_slice, ↓Am.A.step, ↓binInt, ↓binStr, vopsE0, vopsE1, -vops, -Bool.exists_bool]; try simp (disch := omega) only [w64, wu64])) | (refine need.of (by first | omega | kernel_rfl) ?_) | (refine AW.skip ?_; (try simp (implicitDefEqProofs := false) [↓callI, vopsN, vopsG, ↓step_slice, ↓Am.A.step, ↓binInt, ↓binStr, vopsE0, vopsE1, -vops, -Bool.exists_bool])) | (refine AW.ret ?_; (try simp (implicitDefEqProofs := false) [↓callI, vopsN, vopsG, ↓step_slice, ↓Am.A.step, ↓binInt, ↓binStr, vopsE0, vopsE1, -vops, -Bool.exists_bool])) | (refine AW.exit ?_; (try simp (implicitDefEqProofs := false) [↓callI, vopsN, vopsG, ↓step_slice, ↓Am.A.step, ↓binInt, ↓binStr, vopsE0, vopsE1, -vops, -Bool.exists_bool])))
    refine CallS.obj1 0 (hh) (by first | exact plain_d _ | exact plain_tup2 _ _ | exact plain_tup3 _ _ _) ⟨rfl, fun _ => rfl⟩ ⟨rfl, fun _ => rfl⟩ rfl (by rfl) (Subs.of (by simp)) ?_
    (try simp (implicitDefEqProofs := false) [↓callI, vopsN, vopsG, ↓step_slice, ↓Am.A.step, ↓binInt, ↓binStr, vopsE0, vopsE1, -vops, -Bool.exists_bool]; try simp (disch := omega) only [w64, wu64])
    repeat (first | refine AW.seq ?_ | refine AW.block ?_ | (refine AW.reg mix ?_; (simp (implicitDefEqProofs := false) [↓callI, vopsN, vopsG, ↓step_slice, ↓Am.A.step, ↓binInt, ↓binStr, vopsE0, vopsE1, -vops, -Bool.exists_bool]; try simp (disch := omega) only [w64, wu64])) | (refine need.of (by first | omega | kernel_rfl) ?_) | (refine AW.skip ?_; (try simp (implicitDefEqProofs := false) [↓callI, vopsN, vopsG, ↓step_slice, ↓Am.A.step, ↓binInt, ↓binStr, vopsE0, vopsE1, -vops, -Bool.exists_bool])) | (refine AW.ret ?_; (try simp (implicitDefEqProofs := false) [↓callI, vopsN, vopsG, ↓step_slice, ↓Am.A.step, ↓binInt, ↓binStr, vopsE0, vopsE1, -vops, -Bool.exists_bool])) | (refine AW.exit ?_; (try simp (implicitDefEqProofs := false) [↓callI, vopsN, vopsG, ↓step_slice, ↓Am.A.step, ↓binInt, ↓binStr, vopsE0, vopsE1, -vops, -Bool.exists_bool])))
  · simp only [if_neg h]
    refine AW.cond rfl (fun h => ?_) (fun h => ?_)
    · repeat (first | refine AW.seq ?_ | refine AW.block ?_ | (refine AW.reg mix ?_; (simp (implicitDefEqProofs := false) [↓callI, vopsN, vopsG, ↓step_slice, ↓Am.A.step, ↓binInt, ↓binStr, vopsE0, vopsE1, -vops]; try simp (disch := omega) only [w64, wu64])) | (refine need.of (by first | omega | kernel_rfl) ?_) | (refine AW.skip ?_; (try simp (implicitDefEqProofs := false) [↓callI, vopsN, vopsG, ↓step_slice, ↓Am.A.step, ↓binInt, ↓binStr, vopsE0, vopsE1, -vops])) | (refine AW.ret ?_; (try simp (implicitDefEqProofs := false) [↓callI, vopsN, vopsG, ↓step_slice, ↓Am.A.step, ↓binInt, ↓binStr, vopsE0, vopsE1, -vops])) | (refine AW.exit ?_; (try simp (implicitDefEqProofs := false) [↓callI, vopsN, vopsG, ↓step_slice, ↓Am.A.step, ↓binInt, ↓binStr, vopsE0, vopsE1, -vops])))
    · simp [*] at h

end Go.Proofs.Ytakjegcjeffmgaa.Am
