import Derived.Test.YtakjegcjeffmgaaTape1
namespace Go.Proofs.Ytakjegcjeffmgaa.Am
open Go.RowKit
set_option maxRecDepth 100000
set_option linter.unusedSimpArgs false
set_option linter.unusedVariables false

theorem good_ok (d : Int) : Eqn Try.prog n_float_Good [.d (.int .i64 d)] [] (.d (.bool (decide (0 ≤ d ∧ d ≤ 8)))) [] := by
  refine Eqn.pure r_float_Good (plain_d _) ?_
  simp only [c_float_Good]
  by_cases h : 0 ≤ d
  · repeat (first | refine AW.seq ?_ | refine AW.block ?_ | (refine AW.reg mix ?_; (simp [h]; try simp (disch := omega) only [w64, wu64])) | (refine need.of (by first | omega | kernel_rfl) ?_) | (refine AW.skip ?_; (try simp [h])) | (refine AW.ret ?_; (try simp [h])) | (refine AW.exit ?_; (try simp [h])))
  · repeat (first | refine AW.seq ?_ | refine AW.block ?_ | (refine AW.reg mix ?_; (simp [h]; try simp (disch := omega) only [w64, wu64])) | (refine need.of (by first | omega | kernel_rfl) ?_) | (refine AW.skip ?_; (try simp [h])) | (refine AW.ret ?_; (try simp [h])) | (refine AW.exit ?_; (try simp [h])))

def okK (k : Int) : Bool := decide (0 ≤ k ∧ k ≤ 1023)
/-- what is wrong -/
def wrongZ (d : Int) (ks : List Int) : Int := if 0 ≤ d ∧ d ≤ 8 then (if ks.all okK then 0 else 2) else 10

theorem wrong_ok (d : Int) (ks : List Int) (hn : ks.length ≤ 1000000) : Eqn Try.prog n_float_wrong [.d (.int .i64 d), .d (.sl ks.length (ks.map fun k : Int => .int .i64 k))] [] (.d (.int .i64 (wrongZ d ks))) [] := by
  refine Eqn.pure r_float_wrong (plain_d _) ?_
  simp only [c_float_wrong]
  repeat (first | refine AW.seq ?_ | refine AW.block ?_ | (refine AW.reg mix ?_; (simp; try simp (disch := omega) only [w64, wu64])) | (refine need.of (by first | omega | kernel_rfl) ?_) | (refine AW.skip ?_; (try simp)) | (refine AW.ret ?_; (try simp)) | (refine AW.exit ?_; (try simp)))
  refine CallS.pure (good_ok d) (by first | exact plain_d _ | exact plain_tup2 _ _ | exact plain_tup3 _ _ _) rfl (fun _ => rfl) (Subs.refl _) ?_
  (try simp; try simp (disch := omega) only [w64, wu64])
  repeat (first | refine AW.seq ?_ | refine AW.block ?_ | (refine AW.reg mix ?_; (simp; try simp (disch := omega) only [w64, wu64])) | (refine need.of (by first | omega | kernel_rfl) ?_) | (refine AW.skip ?_; (try simp)) | (refine AW.ret ?_; (try simp)) | (refine AW.exit ?_; (try simp)))
  by_cases hd : 0 ≤ d ∧ d ≤ 8
  · refine AW.cond rfl (fun h => ?_) (fun h => ?_)
    · simp [hd] at h
    repeat (first | refine AW.seq ?_ | refine AW.block ?_ | (refine AW.reg mix ?_; (simp; try simp (disch := omega) only [w64, wu64])) | (refine need.of (by first | omega | kernel_rfl) ?_) | (refine AW.skip ?_; (try simp)) | (refine AW.ret ?_; (try simp)) | (refine AW.exit ?_; (try simp)))
    refine AW.loopT (α := Nat) 0 (fun i => [(12, .d (.int .i64 (i : Int)))]) (fun i => []) (fun i => i ≤ ks.length ∧ (ks.take i).all okK = true) (fun i => ks.length - i) 0 ?_ ?_ ⟨Nat.zero_le _, by simp⟩ ?_ ?_ ?_
    · simp
    · simp
    · simp
    · simp
    rintro i ⟨hi, hall⟩
    simp
    by_cases h : i = ks.length
    · subst h
      rw [List.take_length] at hall
      repeat (first | refine AW.seq ?_ | refine AW.block ?_ | (refine AW.reg mix ?_; (simp; try simp (disch := omega) only [w64, wu64])) | (refine need.of (by first | omega | kernel_rfl) ?_) | (refine AW.skip ?_; (try simp)) | (refine AW.ret ?_; (try simp)) | (refine AW.exit ?_; (try simp)))
      refine AW.cond rfl (fun h => ?_) (fun h => ?_)
      · simp at h
      repeat (first | refine AW.seq ?_ | refine AW.block ?_ | (refine AW.reg mix ?_; (simp; try simp (disch := omega) only [w64, wu64])) | (refine need.of (by first | omega | kernel_rfl) ?_) | (refine AW.skip ?_; (try simp)) | (refine AW.ret ?_; (try simp)) | (refine AW.exit ?_; (try simp)))
      refine Sub1.int ?_
      rw [wrongZ, if_pos hd, if_pos hall]
    · have hi' : i < ks.length := by omega
      have hp : (i : Int) < ks.length := by omega
      repeat (first | refine AW.seq ?_ | refine AW.block ?_ | (refine AW.reg mix ?_; (simp [hi', hp]; try simp (disch := omega) only [w64, wu64])) | (refine need.of (by first | omega | kernel_rfl) ?_) | (refine AW.skip ?_; (try simp [hi', hp])) | (refine AW.ret ?_; (try simp [hi', hp])) | (refine AW.exit ?_; (try simp [hi', hp])))
      refine AW.cond rfl (fun h => ?_) (fun h => ?_)
      · have hbad : okK ks[i] = false → wrongZ d ks = 2 := by
          intro hb
          rw [wrongZ, if_pos hd, if_neg]
          intro ha
          rw [List.all_eq_true] at ha
          have := ha ks[i] (List.getElem_mem _)
          rw [hb] at this; cases this
        by_cases h0 : ks[i] < 0
        · repeat (first | refine AW.seq ?_ | refine AW.block ?_ | (refine AW.reg mix ?_; (simp [hi', hp, h0]; try simp (disch := omega) only [w64, wu64])) | (refine need.of (by first | omega | kernel_rfl) ?_) | (refine AW.skip ?_; (try simp [hi', hp, h0])) | (refine AW.ret ?_; (try simp [hi', hp, h0])) | (refine AW.exit ?_; (try simp [hi', hp, h0])))
          refine AW.cond rfl (fun h => ?_) (fun h => ?_)
          · repeat (first | refine AW.seq ?_ | refine AW.block ?_ | (refine AW.reg mix ?_; (simp; try simp (disch := omega) only [w64, wu64])) | (refine need.of (by first | omega | kernel_rfl) ?_) | (refine AW.skip ?_; (try simp)) | (refine AW.ret ?_; (try simp)) | (refine AW.exit ?_; (try simp)))
            refine Sub1.int ?_
            rw [hbad (by simp [okK]; omega)]
          · simp [h0] at h
        · by_cases h1 : 1023 < ks[i]
          · repeat (first | refine AW.seq ?_ | refine AW.block ?_ | (refine AW.reg mix ?_; (simp [hi', hp, h0, h1]; try simp (disch := omega) only [w64, wu64])) | (refine need.of (by first | omega | kernel_rfl) ?_) | (refine AW.skip ?_; (try simp [hi', hp, h0, h1])) | (refine AW.ret ?_; (try simp [hi', hp, h0, h1])) | (refine AW.exit ?_; (try simp [hi', hp, h0, h1])))
            refine AW.cond rfl (fun h => ?_) (fun h => ?_)
            · repeat (first | refine AW.seq ?_ | refine AW.block ?_ | (refine AW.reg mix ?_; (simp; try simp (disch := omega) only [w64, wu64])) | (refine need.of (by first | omega | kernel_rfl) ?_) | (refine AW.skip ?_; (try simp)) | (refine AW.ret ?_; (try simp)) | (refine AW.exit ?_; (try simp)))
              refine Sub1.int ?_
              rw [hbad (by simp [okK]; omega)]
            · simp [h0, h1] at h
          · repeat (first | refine AW.seq ?_ | refine AW.block ?_ | (refine AW.reg mix ?_; (simp [hi', hp, h0, h1]; try simp (disch := omega) only [w64, wu64])) | (refine need.of (by first | omega | kernel_rfl) ?_) | (refine AW.skip ?_; (try simp [hi', hp, h0, h1])) | (refine AW.ret ?_; (try simp [hi', hp, h0, h1])) | (refine AW.exit ?_; (try simp [hi', hp, h0, h1])))
            refine AW.cond rfl (fun h => ?_) (fun h => ?_)
            · simp [h0, h1] at h
            have ew : IntKind.i64.wrap ((i : Int) + 1) = (i : Int) + 1 := w64 (by omega) (by omega)
            repeat (first | refine AW.seq ?_ | refine AW.block ?_ | (refine AW.reg mix ?_; (simp [ew]; try simp (disch := omega) only [w64, wu64])) | (refine need.of (by first | omega | kernel_rfl) ?_) | (refine AW.skip ?_; (try simp [ew])) | (refine AW.ret ?_; (try simp [ew])) | (refine AW.exit ?_; (try simp [ew])))
            refine ⟨i + 1, ⟨by omega, ?_⟩, by omega, by simp⟩
            rw [List.take_add_one, List.getElem?_eq_getElem hi']
            intro x hx
            rcases List.mem_append.1 hx with hx | hx
            · exact List.all_eq_true.1 hall x hx
            · simp at hx
              subst hx
              simp [okK]; omega
      · simp [hi'] at h
  · refine AW.cond rfl (fun h => ?_) (fun h => ?_)
    · repeat (first | refine AW.seq ?_ | refine AW.block ?_ | (refine AW.reg mix ?_; (simp; try simp (disch := omega) only [w64, wu64])) | (refine need.of (by first | omega | kernel_rfl) ?_) | (refine AW.skip ?_; (try simp)) | (refine AW.ret ?_; (try simp)) | (refine AW.exit ?_; (try simp)))
      refine Sub1.int ?_
      rw [wrongZ, if_neg hd]
    · simp at h
      exact absurd h hd

/-- the second part of a place -/
def partV (d k : Nat) : Int := bits .and .i64 k (IntKind.i64.wrap (IntKind.i64.wrap (2 ^ d) - 1))
theorem parts_ok (d k : Nat) (hd : d ≤ 8) (hk : k ≤ 1023) : Eqn Try.prog n_float_parts [.d (.int .i64 d), .d (.int .i64 k)] [] (.tup [.d (.int .i64 (k / 2 ^ d : Nat)), .d (.int .i64 (partV d k))]) [] := by
  refine Eqn.pure r_float_parts (plain_tup2 _ _) ?_
  simp only [c_float_parts]
  repeat (first | refine AW.seq ?_ | refine AW.block ?_ | (refine AW.reg mix ?_; (simp; try simp (disch := omega) only [w64, wu64])) | (refine need.of (by first | omega | kernel_rfl) ?_) | (refine AW.skip ?_; (try simp)) | (refine AW.ret ?_; (try simp)) | (refine AW.exit ?_; (try simp)))
  exact Sub1.of rfl

theorem wrong1_ok (d k : Int) : Eqn Try.prog n_float_wrong [.d (.int .i64 d), .d (.sl 1 [.int .i64 k])] [] (.d (.int .i64 (wrongZ d [k]))) [] := wrong_ok d [k] (by simp)
theorem wrong2_ok (d k j : Int) : Eqn Try.prog n_float_wrong [.d (.int .i64 d), .d (.sl 2 [.int .i64 k, .int .i64 j])] [] (.d (.int .i64 (wrongZ d [k, j]))) [] := wrong_ok d [k, j] (by simp)

theorem wrong_zero {d k : Int} {ks : List Int} (h : wrongZ d (k :: ks) = 0) : 0 ≤ d ∧ d ≤ 8 ∧ 0 ≤ k ∧ k ≤ 1023 := by
  unfold wrongZ at h
  split at h
  · split at h
    · rename_i h1 h2
      simp [okK] at h2
      omega
    · omega
  · omega

/-- what a step at another place is here -/
def againR (cs : List Bool) (d k j : Int) : Bool × Int × Nat × Bool := if wrongZ d [k, j] = 0 then halfR cs (k.toNat / 2 ^ d.toNat - j.toNat / 2 ^ d.toNat) 0 false else (false, wrongZ d [k, j], 0, false)

/-- a step at a place -/
def stepR (cs : List Bool) (d k : Int) : Bool × Int × Nat × Bool := if wrongZ d [k] = 0 then halfR cs (k.toNat / 2 ^ d.toNat) 0 false else (false, wrongZ d [k], 0, false)

theorem step_ok' (cs : List Bool) (d k : Int) (hn : cs.length ≤ 4000000) :
    Eqn Try.prog n_float_Step [.p 0 0, .d (.int .i64 d), .d (.int .i64 k)] [tapeO cs 0 false] (.tup [.d (.bool (stepR cs d k).1), .d (.int .i64 (stepR cs d k).2.1)]) [tapeO cs (stepR cs d k).2.2.1 (stepR cs d k).2.2.2] := by
  refine Eqn.obj1 r_float_Step (plain_tup2 _ _) ⟨rfl, fun _ => rfl⟩ ?_
  simp only [c_float_Step]
  repeat (first | refine AW.seq ?_ | refine AW.block ?_ | (refine AW.reg mix ?_; (simp [-Bool.exists_bool]; try simp (disch := omega) only [w64, wu64])) | (refine need.of (by first | omega | kernel_rfl) ?_) | (refine AW.skip ?_; (try simp [-Bool.exists_bool])) | (refine AW.ret ?_; (try simp [-Bool.exists_bool])) | (refine AW.exit ?_; (try simp [-Bool.exists_bool])))
  refine CallS.pureF 1 1 ⟨3, _⟩ [.int .i64 k] (wrong1_ok d k) (by first | exact plain_d _ | exact plain_tup2 _ _ | exact plain_tup3 _ _ _) rfl (fun _ => rfl) (by rfl) (by simp) (Subs.of ?_) ?_
  focus first | rfl | (simp; done) | skip
  rotate_left
  (try simp; try simp (disch := omega) only [w64, wu64])
  repeat (first | refine AW.seq ?_ | refine AW.block ?_ | (refine AW.reg mix ?_; (simp; try simp (disch := omega) only [w64, wu64])) | (refine need.of (by first | omega | kernel_rfl) ?_) | (refine AW.skip ?_; (try simp)) | (refine AW.ret ?_; (try simp)) | (refine AW.exit ?_; (try simp)))
  by_cases h : wrongZ d [k] = 0
  · obtain ⟨h1, h2, h3, h4⟩ := wrong_zero h
    obtain ⟨d, rfl⟩ : ∃ n : Nat, d = n := ⟨d.toNat, by omega⟩
    obtain ⟨k, rfl⟩ : ∃ n : Nat, k = n := ⟨k.toNat, by omega⟩
    simp only [stepR, h, if_true]
    have hp := parts_ok d k (by omega) (by omega)
    have hu : k / 2 ^ d ≤ k := Nat.div_le_self _ _
    simp only [Int.toNat_natCast]
    generalize k / 2 ^ d = u at hp hu ⊢
    generalize partV d k = v at hp
    refine AW.cond rfl (fun h => ?_) (fun h => ?_)
    · simp [*] at h
    repeat (first | refine AW.seq ?_ | refine AW.block ?_ | (refine AW.reg mix ?_; (simp; try simp (disch := omega) only [w64, wu64])) | (refine need.of (by first | omega | kernel_rfl) ?_) | (refine AW.skip ?_; (try simp)) | (refine AW.ret ?_; (try simp)) | (refine AW.exit ?_; (try simp)))
    refine CallS.pure (hp) (by first | exact plain_d _ | exact plain_tup2 _ _ | exact plain_tup3 _ _ _) rfl (fun _ => rfl) (Subs.refl _) ?_
    (try simp; try simp (disch := omega) only [w64, wu64])
    repeat (first | refine AW.seq ?_ | refine AW.block ?_ | (refine AW.reg mix ?_; (simp; try simp (disch := omega) only [w64, wu64])) | (refine need.of (by first | omega | kernel_rfl) ?_) | (refine AW.skip ?_; (try simp)) | (refine AW.ret ?_; (try simp)) | (refine AW.exit ?_; (try simp)))
    have hh := half_ok cs 0 false u (by omega) (Nat.zero_le _) hn
    rw [Int.toNat_natCast] at hh
    generalize halfR cs u 0 false = r at hh ⊢
    obtain ⟨r1, r2, r3, r4⟩ := r
    simp only at hh ⊢
    refine CallS.obj1 0 (hh) (by first | exact plain_d _ | exact plain_tup2 _ _ | exact plain_tup3 _ _ _) ⟨rfl, fun _ => rfl⟩ ⟨rfl, fun _ => rfl⟩ rfl (by rfl) (Subs.of (by simp)) ?_
    (try simp; try simp (disch := omega) only [w64, wu64])
    repeat (first | refine AW.seq ?_ | refine AW.block ?_ | (refine AW.reg mix ?_; (simp; try simp (disch := omega) only [w64, wu64])) | (refine need.of (by first | omega | kernel_rfl) ?_) | (refine AW.skip ?_; (try simp)) | (refine AW.ret ?_; (try simp)) | (refine AW.exit ?_; (try simp)))
  · simp only [stepR, h, if_false]
    refine AW.cond rfl (fun h => ?_) (fun h => ?_)
    · repeat (first | refine AW.seq ?_ | refine AW.block ?_ | (refine AW.reg mix ?_; (simp; try simp (disch := omega) only [w64, wu64])) | (refine need.of (by first | omega | kernel_rfl) ?_) | (refine AW.skip ?_; (try simp)) | (refine AW.ret ?_; (try simp)) | (refine AW.exit ?_; (try simp)))
    · simp [*] at h

end Go.Proofs.Ytakjegcjeffmgaa.Am
