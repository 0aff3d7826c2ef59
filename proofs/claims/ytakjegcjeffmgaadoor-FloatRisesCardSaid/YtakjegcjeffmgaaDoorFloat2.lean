import Derived.Test.YtakjegcjeffmgaaDoorFloat1
namespace Go.Proofs.YtakjegcjeffmgaaDoor.Am
open Go.RowKit
set_option maxRecDepth 100000
set_option linter.unusedSimpArgs false
set_option linter.unusedVariables false

theorem size_lt_pow {x m : Nat} (h : x < 18446744073709551616 ^ m) : size x ≤ m := words_le (words_top x) (by rwa [words_val])

theorem size_shl {a n u m : Nat} (h : a < 2 ^ n) (hm : n + u ≤ 64 * m) : size (a * 2 ^ u) ≤ m := by
  apply size_lt_pow
  refine Nat.lt_of_lt_of_le (Nat.mul_lt_mul_of_pos_right h (Nat.two_pow_pos u)) ?_
  rw [← Nat.pow_add, show (18446744073709551616 : Nat) = 2 ^ 64 by rfl, ← Nat.pow_mul]
  exact Nat.pow_le_pow_right (by omega) hm

theorem wrong_good {d k : Nat} (hd : d ≤ 8) (hk : k ≤ 1023) : wrongZ d [(k : Int)] = 0 := by
  rw [wrongZ, if_pos (by omega), if_pos]
  simp [okK]; omega

theorem value_ok (d k v : Nat) (hd : d ≤ 8) (hk : k ≤ 1023) (hv : partV d k = (v : Int)) (hv2 : v ≤ 255) :
    Eqn Tryd.prog n_float_Value [.d (.int .i64 d), .d (.int .i64 k)] [] (.tup [.d (.agg [natW ((2 ^ d + v) * 2 ^ (k / 2 ^ d) - 2 ^ d)]), .d (.int .i64 0)]) [] := by
  refine Eqn.pure r_float_Value (plain_tup2 _ _) ?_
  simp only [c_float_Value]
  repeat (first | refine AW.seq ?_ | refine AW.block ?_ | (refine AW.reg mix ?_; (simp; try simp (disch := omega) only [w64, wu64])) | (refine need.of (by first | omega | kernel_rfl) ?_) | (refine AW.skip ?_; (try simp)) | (refine AW.ret ?_; (try simp)) | (refine AW.exit ?_; (try simp)))
  refine CallS.pureF 1 1 ⟨3, _⟩ [.int .i64 k] (wrong1_ok d k) (by first | exact plain_d _ | exact plain_tup2 _ _ | exact plain_tup3 _ _ _) rfl (fun _ => rfl) (by rfl) (by simp) (Subs.of ?_) ?_
  focus first | rfl | (simp; done) | skip
  rotate_left
  (try simp; try simp (disch := omega) only [w64, wu64])
  repeat (first | refine AW.seq ?_ | refine AW.block ?_ | (refine AW.reg mix ?_; (simp; try simp (disch := omega) only [w64, wu64])) | (refine need.of (by first | omega | kernel_rfl) ?_) | (refine AW.skip ?_; (try simp)) | (refine AW.ret ?_; (try simp)) | (refine AW.exit ?_; (try simp)))
  have hw := wrong_good hd hk
  refine AW.cond rfl (fun h => ?_) (fun h => ?_)
  · simp [hw] at h
  have hp := parts_ok d k (by omega) (by omega)
  rw [hv] at hp
  have hu : k / 2 ^ d ≤ k := Nat.div_le_self _ _
  generalize k / 2 ^ d = u at hp hu ⊢
  have h2 : 2 ^ d ≤ 256 := Nat.pow_le_pow_right (n := 2) (by omega) hd
  have h2' : 0 < 2 ^ d := Nat.two_pow_pos d
  have e0 : (2 : Int) ^ d = (2 ^ d : Nat) := by rw [Int.natCast_pow]; rfl
  have hx : (2 : Nat) ^ d ≤ (2 ^ d + v) * 2 ^ u := Nat.le_trans (Nat.le_add_right _ v) (Nat.le_mul_of_pos_right _ (Nat.two_pow_pos u))
  have hsz : size ((2 ^ d + v) * 2 ^ u) ≤ 17 := size_shl (n := 10) (show 2 ^ d + v < 2 ^ 10 by omega) (by omega)
  generalize 2 ^ d = s at *
  have e1 : IntKind.i64.wrap (s : Int) = s := w64 (by omega) (by omega)
  have e2 : IntKind.i64.wrap ((s : Int) + v) = ((s + v : Nat) : Int) := w64 (by omega) (by omega)
  have e3 : IntKind.u64.wrap ((s + v : Nat) : Int) = ((s + v : Nat) : Int) := wu64 (by omega) (by omega)
  have e4 : IntKind.u64.wrap (s : Int) = s := wu64 (by omega) (by omega)
  have ht : s + v ≤ 511 := by omega
  generalize s + v = t at *
  repeat (first | refine AW.seq ?_ | refine AW.block ?_ | (refine AW.reg mix ?_; (simp [e0]; try simp (disch := omega) only [w64, wu64])) | (refine need.of (by first | omega | kernel_rfl) ?_) | (refine AW.skip ?_; (try simp [e0])) | (refine AW.ret ?_; (try simp [e0])) | (refine AW.exit ?_; (try simp [e0])))
  refine CallS.pure (hp) (by first | exact plain_d _ | exact plain_tup2 _ _ | exact plain_tup3 _ _ _) rfl (fun _ => rfl) (Subs.refl _) ?_
  (try simp [e0, e1, e2, e3]; try simp (disch := omega) only [w64, wu64])
  repeat (first | refine AW.seq ?_ | refine AW.block ?_ | (refine AW.reg mix ?_; (simp [e0, e1, e2, e3]; try simp (disch := omega) only [w64, wu64])) | (refine need.of (by first | omega | kernel_rfl) ?_) | (refine AW.skip ?_; (try simp [e0, e1, e2, e3])) | (refine AW.ret ?_; (try simp [e0, e1, e2, e3])) | (refine AW.exit ?_; (try simp [e0, e1, e2, e3])))
  refine CallS.pureF 2 1 ⟨34, _⟩ [.int .u64 (t : Nat)] (of_ok [t] (small_one (by omega)) (by simp)) (by first | exact plain_d _ | exact plain_tup2 _ _ | exact plain_tup3 _ _ _) rfl (fun _ => rfl) (by rfl) (by simp) (Subs.of ?_) ?_
  focus first | rfl | (simp; done) | skip
  rotate_left
  (try simp; try simp (disch := omega) only [w64, wu64])
  repeat (first | refine AW.seq ?_ | refine AW.block ?_ | (refine AW.reg mix ?_; (simp; try simp (disch := omega) only [w64, wu64])) | (refine need.of (by first | omega | kernel_rfl) ?_) | (refine AW.skip ?_; (try simp)) | (refine AW.ret ?_; (try simp)) | (refine AW.exit ?_; (try simp)))
  refine CallS.pure (shl_ok t u (by have := size_one (x := t) (by omega); omega) (by omega)) (by first | exact plain_d _ | exact plain_tup2 _ _ | exact plain_tup3 _ _ _) rfl (fun _ => rfl) (Subs.refl _) ?_
  (try simp [e0, e4]; try simp (disch := omega) only [w64, wu64])
  repeat (first | refine AW.seq ?_ | refine AW.block ?_ | (refine AW.reg mix ?_; (simp [e0, e4]; try simp (disch := omega) only [w64, wu64])) | (refine need.of (by first | omega | kernel_rfl) ?_) | (refine AW.skip ?_; (try simp [e0, e4])) | (refine AW.ret ?_; (try simp [e0, e4])) | (refine AW.exit ?_; (try simp [e0, e4])))
  refine CallS.pureF 4 1 ⟨34, _⟩ [.int .u64 (s : Nat)] (of_ok [s] (small_one (by omega)) (by simp)) (by first | exact plain_d _ | exact plain_tup2 _ _ | exact plain_tup3 _ _ _) rfl (fun _ => rfl) (by rfl) (by simp) (Subs.of ?_) ?_
  focus first | rfl | (simp; done) | skip
  rotate_left
  (try simp; try simp (disch := omega) only [w64, wu64])
  repeat (first | refine AW.seq ?_ | refine AW.block ?_ | (refine AW.reg mix ?_; (simp; try simp (disch := omega) only [w64, wu64])) | (refine need.of (by first | omega | kernel_rfl) ?_) | (refine AW.skip ?_; (try simp)) | (refine AW.ret ?_; (try simp)) | (refine AW.exit ?_; (try simp)))
  refine CallS.pure (sub_ok (t * 2 ^ u) s (by omega) hx) (by first | exact plain_d _ | exact plain_tup2 _ _ | exact plain_tup3 _ _ _) rfl (fun _ => rfl) (Subs.refl _) ?_
  (try simp; try simp (disch := omega) only [w64, wu64])
  repeat (first | refine AW.seq ?_ | refine AW.block ?_ | (refine AW.reg mix ?_; (simp; try simp (disch := omega) only [w64, wu64])) | (refine need.of (by first | omega | kernel_rfl) ?_) | (refine AW.skip ?_; (try simp)) | (refine AW.ret ?_; (try simp)) | (refine AW.exit ?_; (try simp)))

theorem chance_small (d k : Nat) (hd : d ≤ 8) (hk : k ≤ 1023) (hu : k / 2 ^ d < 64) :
    Eqn Tryd.prog n_float_Chance [.d (.int .i64 d), .d (.int .i64 k)] [] (.tup [.d (.agg [natW 1, .bool false, natW (2 ^ (k / 2 ^ d) - 1)]), .d (.int .i64 0)]) [] := by
  refine Eqn.pure r_float_Chance (plain_tup2 _ _) ?_
  simp only [c_float_Chance]
  repeat (first | refine AW.seq ?_ | refine AW.block ?_ | (refine AW.reg mix ?_; (simp; try simp (disch := omega) only [w64, wu64])) | (refine need.of (by first | omega | kernel_rfl) ?_) | (refine AW.skip ?_; (try simp)) | (refine AW.ret ?_; (try simp)) | (refine AW.exit ?_; (try simp)))
  refine CallS.pureF 1 1 ⟨3, _⟩ [.int .i64 k] (wrong1_ok d k) (by first | exact plain_d _ | exact plain_tup2 _ _ | exact plain_tup3 _ _ _) rfl (fun _ => rfl) (by rfl) (by simp) (Subs.of ?_) ?_
  focus first | rfl | (simp; done) | skip
  rotate_left
  (try simp; try simp (disch := omega) only [w64, wu64])
  repeat (first | refine AW.seq ?_ | refine AW.block ?_ | (refine AW.reg mix ?_; (simp; try simp (disch := omega) only [w64, wu64])) | (refine need.of (by first | omega | kernel_rfl) ?_) | (refine AW.skip ?_; (try simp)) | (refine AW.ret ?_; (try simp)) | (refine AW.exit ?_; (try simp)))
  have hw := wrong_good hd hk
  refine AW.cond rfl (fun h => ?_) (fun h => ?_)
  · simp [hw] at h
  have hp := parts_ok d k (by omega) (by omega)
  generalize k / 2 ^ d = u at hp hu ⊢
  repeat (first | refine AW.seq ?_ | refine AW.block ?_ | (refine AW.reg mix ?_; (simp; try simp (disch := omega) only [w64, wu64])) | (refine need.of (by first | omega | kernel_rfl) ?_) | (refine AW.skip ?_; (try simp)) | (refine AW.ret ?_; (try simp)) | (refine AW.exit ?_; (try simp)))
  refine CallS.pure (hp) (by first | exact plain_d _ | exact plain_tup2 _ _ | exact plain_tup3 _ _ _) rfl (fun _ => rfl) (Subs.refl _) ?_
  (try simp; try simp (disch := omega) only [w64, wu64])
  repeat (first | refine AW.seq ?_ | refine AW.block ?_ | (refine AW.reg mix ?_; (simp; try simp (disch := omega) only [w64, wu64])) | (refine need.of (by first | omega | kernel_rfl) ?_) | (refine AW.skip ?_; (try simp)) | (refine AW.ret ?_; (try simp)) | (refine AW.exit ?_; (try simp)))
  refine CallS.pure (rhalf_ok u hu) (by first | exact plain_d _ | exact plain_tup2 _ _ | exact plain_tup3 _ _ _) rfl (fun _ => rfl) (Subs.refl _) ?_
  (try simp; try simp (disch := omega) only [w64, wu64])
  repeat (first | refine AW.seq ?_ | refine AW.block ?_ | (refine AW.reg mix ?_; (simp; try simp (disch := omega) only [w64, wu64])) | (refine need.of (by first | omega | kernel_rfl) ?_) | (refine AW.skip ?_; (try simp)) | (refine AW.ret ?_; (try simp)) | (refine AW.exit ?_; (try simp)))

theorem new_ok (cs : List Bool) (h : cs.length ≤ 1048576) : Eqn Tryd.prog n_tape_New [.d (BL cs)] [] (.p 0 0) [tapeO cs 0 false] := by
  refine Eqn.new1 r_tape_New ⟨rfl, fun _ => rfl⟩ ?_
  simp only [c_tape_New, BL]
  have e : min (cs.length : Int) 1048576 = cs.length := by omega
  have e2 : List.take cs.length (cs.map D.bool) = cs.map D.bool := List.take_of_length_le (by simp)
  repeat (first | refine AW.seq ?_ | refine AW.block ?_ | (refine AW.reg mix ?_; (simp [e, e2]; try simp (disch := omega) only [w64, wu64])) | (refine need.of (by first | omega | kernel_rfl) ?_) | (refine AW.skip ?_; (try simp [e, e2])) | (refine AW.ret ?_; (try simp [e, e2])) | (refine AW.exit ?_; (try simp [e, e2])))
  refine CallS.pure (cloneB_ok cs.length (cs.map .bool) (by simp) (by omega)) (by first | exact plain_d _ | exact plain_tup2 _ _ | exact plain_tup3 _ _ _) rfl (fun _ => rfl) (Subs.refl _) ?_
  (try simp; try simp (disch := omega) only [w64, wu64])
  repeat (first | refine AW.seq ?_ | refine AW.block ?_ | (refine AW.reg mix ?_; (simp; try simp (disch := omega) only [w64, wu64])) | (refine need.of (by first | omega | kernel_rfl) ?_) | (refine AW.skip ?_; (try simp)) | (refine AW.ret ?_; (try simp)) | (refine AW.exit ?_; (try simp)))
  exact Subs.refl _

theorem read_ok (cs : List Bool) (p : Nat) (dd : Bool) : Eqn Tryd.prog n_tape_Tape_Read [.p 0 0] [tapeO cs p dd] (.d (.int .i64 p)) [tapeO cs p dd] := by
  refine Eqn.obj1 r_tape_Tape_Read (plain_d _) ⟨rfl, fun _ => rfl⟩ ?_
  simp only [c_tape_Tape_Read, tapeO, BL]
  repeat (first | refine AW.seq ?_ | refine AW.block ?_ | (refine AW.reg mix ?_; (simp [-Bool.exists_bool]; try simp (disch := omega) only [w64, wu64])) | (refine need.of (by first | omega | kernel_rfl) ?_) | (refine AW.skip ?_; (try simp [-Bool.exists_bool])) | (refine AW.ret ?_; (try simp [-Bool.exists_bool])) | (refine AW.exit ?_; (try simp [-Bool.exists_bool])))

theorem few_ok (cs : List Bool) (n : Nat) (h : cs.length ≤ 9223372036854775807) (hn : n ≤ 1000000) : Eqn Tryd.prog n_Tlaw09_Few [.d (BL cs), .d (.int .i64 n)] [] (.d (BL (cs.take n))) [] := by
  refine Eqn.pure r_Tlaw09_Few (plain_d _) ?_
  simp only [c_Tlaw09_Few, BL]
  repeat (first | refine AW.seq ?_ | refine AW.block ?_ | (refine AW.reg mix ?_; (simp; try simp (disch := omega) only [w64, wu64])) | (refine need.of (by first | omega | kernel_rfl) ?_) | (refine AW.skip ?_; (try simp)) | (refine AW.ret ?_; (try simp)) | (refine AW.exit ?_; (try simp)))
  refine AW.cond rfl (fun h => ?_) (fun h => ?_)
  · have h' : (n : Int) ≤ cs.length := by simp at h; omega
    have h2 : n ≤ cs.length := by omega
    repeat (first | refine AW.seq ?_ | refine AW.block ?_ | (refine AW.reg mix ?_; (simp [h', h2]; try simp (disch := omega) only [w64, wu64])) | (refine need.of (by first | omega | kernel_rfl) ?_) | (refine AW.skip ?_; (try simp [h', h2])) | (refine AW.ret ?_; (try simp [h', h2])) | (refine AW.exit ?_; (try simp [h', h2])))
  · have h2 : cs.length ≤ n := by simp at h; omega
    repeat (first | refine AW.seq ?_ | refine AW.block ?_ | (refine AW.reg mix ?_; (simp; try simp (disch := omega) only [w64, wu64])) | (refine need.of (by first | omega | kernel_rfl) ?_) | (refine AW.skip ?_; (try simp)) | (refine AW.ret ?_; (try simp)) | (refine AW.exit ?_; (try simp)))
    refine Sub1.of ?_
    rw [Nat.min_eq_right h2, List.take_of_length_le (by simp; omega)]

theorem rwrong_ok (d k : Int) : Eqn Tryd.prog n_Tref13_Wrong [.d (.int .i64 d), .d (.int .i64 k)] [] (.d (.int .i64 (wrongZ d [k]))) [] := by
  refine Eqn.pure r_Tref13_Wrong (plain_d _) ?_
  simp only [c_Tref13_Wrong]
  by_cases h0 : d < 0
  · repeat (first | refine AW.seq ?_ | refine AW.block ?_ | (refine AW.reg mix ?_; (simp [h0]; try simp (disch := omega) only [w64, wu64])) | (refine need.of (by first | omega | kernel_rfl) ?_) | (refine AW.skip ?_; (try simp [h0])) | (refine AW.ret ?_; (try simp [h0])) | (refine AW.exit ?_; (try simp [h0])))
    refine AW.cond rfl (fun h => ?_) (fun h => ?_)
    · repeat (first | refine AW.seq ?_ | refine AW.block ?_ | (refine AW.reg mix ?_; (simp; try simp (disch := omega) only [w64, wu64])) | (refine need.of (by first | omega | kernel_rfl) ?_) | (refine AW.skip ?_; (try simp)) | (refine AW.ret ?_; (try simp)) | (refine AW.exit ?_; (try simp)))
      refine Sub1.int ?_
      rw [wrongZ, if_neg (by omega)]
    · simp [h0] at h
  by_cases h1 : 8 < d
  · repeat (first | refine AW.seq ?_ | refine AW.block ?_ | (refine AW.reg mix ?_; (simp [h0, h1]; try simp (disch := omega) only [w64, wu64])) | (refine need.of (by first | omega | kernel_rfl) ?_) | (refine AW.skip ?_; (try simp [h0, h1])) | (refine AW.ret ?_; (try simp [h0, h1])) | (refine AW.exit ?_; (try simp [h0, h1])))
    refine AW.cond rfl (fun h => ?_) (fun h => ?_)
    · repeat (first | refine AW.seq ?_ | refine AW.block ?_ | (refine AW.reg mix ?_; (simp; try simp (disch := omega) only [w64, wu64])) | (refine need.of (by first | omega | kernel_rfl) ?_) | (refine AW.skip ?_; (try simp)) | (refine AW.ret ?_; (try simp)) | (refine AW.exit ?_; (try simp)))
      refine Sub1.int ?_
      rw [wrongZ, if_neg (by omega)]
    · simp [h0, h1] at h
  by_cases h2 : k < 0
  · repeat (first | refine AW.seq ?_ | refine AW.block ?_ | (refine AW.reg mix ?_; (simp [h0, h1, h2]; try simp (disch := omega) only [w64, wu64])) | (refine need.of (by first | omega | kernel_rfl) ?_) | (refine AW.skip ?_; (try simp [h0, h1, h2])) | (refine AW.ret ?_; (try simp [h0, h1, h2])) | (refine AW.exit ?_; (try simp [h0, h1, h2])))
    refine AW.cond rfl (fun h => ?_) (fun h => ?_)
    · simp [h0, h1] at h
    repeat (first | refine AW.seq ?_ | refine AW.block ?_ | (refine AW.reg mix ?_; (simp [h0, h1, h2]; try simp (disch := omega) only [w64, wu64])) | (refine need.of (by first | omega | kernel_rfl) ?_) | (refine AW.skip ?_; (try simp [h0, h1, h2])) | (refine AW.ret ?_; (try simp [h0, h1, h2])) | (refine AW.exit ?_; (try simp [h0, h1, h2])))
    refine AW.cond rfl (fun h => ?_) (fun h => ?_)
    · repeat (first | refine AW.seq ?_ | refine AW.block ?_ | (refine AW.reg mix ?_; (simp; try simp (disch := omega) only [w64, wu64])) | (refine need.of (by first | omega | kernel_rfl) ?_) | (refine AW.skip ?_; (try simp)) | (refine AW.ret ?_; (try simp)) | (refine AW.exit ?_; (try simp)))
      refine Sub1.int ?_
      rw [wrongZ, if_pos (by omega), if_neg]
      simp [okK]; omega
    · simp [h2] at h
  by_cases h3 : 1023 < k
  · repeat (first | refine AW.seq ?_ | refine AW.block ?_ | (refine AW.reg mix ?_; (simp [h0, h1, h2, h3]; try simp (disch := omega) only [w64, wu64])) | (refine need.of (by first | omega | kernel_rfl) ?_) | (refine AW.skip ?_; (try simp [h0, h1, h2, h3])) | (refine AW.ret ?_; (try simp [h0, h1, h2, h3])) | (refine AW.exit ?_; (try simp [h0, h1, h2, h3])))
    refine AW.cond rfl (fun h => ?_) (fun h => ?_)
    · simp [h0, h1] at h
    repeat (first | refine AW.seq ?_ | refine AW.block ?_ | (refine AW.reg mix ?_; (simp [h0, h1, h2, h3]; try simp (disch := omega) only [w64, wu64])) | (refine need.of (by first | omega | kernel_rfl) ?_) | (refine AW.skip ?_; (try simp [h0, h1, h2, h3])) | (refine AW.ret ?_; (try simp [h0, h1, h2, h3])) | (refine AW.exit ?_; (try simp [h0, h1, h2, h3])))
    refine AW.cond rfl (fun h => ?_) (fun h => ?_)
    · repeat (first | refine AW.seq ?_ | refine AW.block ?_ | (refine AW.reg mix ?_; (simp; try simp (disch := omega) only [w64, wu64])) | (refine need.of (by first | omega | kernel_rfl) ?_) | (refine AW.skip ?_; (try simp)) | (refine AW.ret ?_; (try simp)) | (refine AW.exit ?_; (try simp)))
      refine Sub1.int ?_
      rw [wrongZ, if_pos (by omega), if_neg]
      simp [okK]; omega
    · simp [h2, h3] at h
  repeat (first | refine AW.seq ?_ | refine AW.block ?_ | (refine AW.reg mix ?_; (simp [h0, h1, h2, h3]; try simp (disch := omega) only [w64, wu64])) | (refine need.of (by first | omega | kernel_rfl) ?_) | (refine AW.skip ?_; (try simp [h0, h1, h2, h3])) | (refine AW.ret ?_; (try simp [h0, h1, h2, h3])) | (refine AW.exit ?_; (try simp [h0, h1, h2, h3])))
  refine AW.cond rfl (fun h => ?_) (fun h => ?_)
  · simp [h0, h1] at h
  repeat (first | refine AW.seq ?_ | refine AW.block ?_ | (refine AW.reg mix ?_; (simp [h0, h1, h2, h3]; try simp (disch := omega) only [w64, wu64])) | (refine need.of (by first | omega | kernel_rfl) ?_) | (refine AW.skip ?_; (try simp [h0, h1, h2, h3])) | (refine AW.ret ?_; (try simp [h0, h1, h2, h3])) | (refine AW.exit ?_; (try simp [h0, h1, h2, h3])))
  refine AW.cond rfl (fun h => ?_) (fun h => ?_)
  · simp [h2, h3] at h
  repeat (first | refine AW.seq ?_ | refine AW.block ?_ | (refine AW.reg mix ?_; (simp; try simp (disch := omega) only [w64, wu64])) | (refine need.of (by first | omega | kernel_rfl) ?_) | (refine AW.skip ?_; (try simp)) | (refine AW.ret ?_; (try simp)) | (refine AW.exit ?_; (try simp)))
  refine Sub1.int ?_
  rw [wrongZ, if_pos (by omega), if_pos]
  simp [okK]; omega

def p2 (n : Nat) : Nat := 2 ^ n
theorem p2_zero : p2 0 = 1 := rfl
theorem p2_succ (n : Nat) : p2 (n + 1) = 2 * p2 n := by rw [p2, p2, Nat.pow_succ, Nat.mul_comm]
theorem p2_pos (n : Nat) : 0 < p2 n := Nat.two_pow_pos n
theorem p2_le {n m : Nat} (h : n ≤ m) : p2 n ≤ p2 m := Nat.pow_le_pow_right (by omega) h

theorem rsize_ok (d : Nat) (hd : d ≤ 60) : Eqn Tryd.prog n_Tref13_Size [.d (.int .i64 d)] [] (.d (.int .i64 (p2 d))) [] := by
  refine Eqn.pure r_Tref13_Size (plain_d _) ?_
  simp only [c_Tref13_Size]
  repeat (first | refine AW.seq ?_ | refine AW.block ?_ | (refine AW.reg mix ?_; (simp; try simp (disch := omega) only [w64, wu64])) | (refine need.of (by first | omega | kernel_rfl) ?_) | (refine AW.skip ?_; (try simp)) | (refine AW.ret ?_; (try simp)) | (refine AW.exit ?_; (try simp)))
  refine AW.loopT (α := Nat) 0 (fun i => [(4, .d (.int .i64 (i : Int))), (3, .d (.int .i64 (p2 i)))]) (fun i => []) (fun i => i ≤ d) (fun i => d - i) 0 ?_ ?_ (Nat.zero_le _) ?_ ?_ ?_
  · simp
  · simp
  · simp [p2_zero]
  · simp
  rintro i hi
  have hle : p2 i ≤ 2 ^ 60 := p2_le (m := 60) (by omega)
  simp
  by_cases h : i = d
  · subst h
    repeat (first | refine AW.seq ?_ | refine AW.block ?_ | (refine AW.reg mix ?_; (simp; try simp (disch := omega) only [w64, wu64])) | (refine need.of (by first | omega | kernel_rfl) ?_) | (refine AW.skip ?_; (try simp)) | (refine AW.ret ?_; (try simp)) | (refine AW.exit ?_; (try simp)))
    refine AW.cond rfl (fun h => ?_) (fun h => ?_)
    · simp at h
    repeat (first | refine AW.seq ?_ | refine AW.block ?_ | (refine AW.reg mix ?_; (simp; try simp (disch := omega) only [w64, wu64])) | (refine need.of (by first | omega | kernel_rfl) ?_) | (refine AW.skip ?_; (try simp)) | (refine AW.ret ?_; (try simp)) | (refine AW.exit ?_; (try simp)))
  · have hlt : (i : Int) < d := by omega
    have hlt' : i < d := by omega
    have e1 : IntKind.i64.wrap (2 * (p2 i : Int)) = (p2 (i + 1) : Int) := by rw [p2_succ]; exact w64 (by omega) (by omega)
    have e2 : IntKind.i64.wrap ((i : Int) + 1) = (i : Int) + 1 := w64 (by omega) (by omega)
    repeat (first | refine AW.seq ?_ | refine AW.block ?_ | (refine AW.reg mix ?_; (simp [hlt, hlt']; try simp (disch := omega) only [w64, wu64])) | (refine need.of (by first | omega | kernel_rfl) ?_) | (refine AW.skip ?_; (try simp [hlt, hlt'])) | (refine AW.ret ?_; (try simp [hlt, hlt'])) | (refine AW.exit ?_; (try simp [hlt, hlt'])))
    refine AW.cond rfl (fun h => ?_) (fun h => ?_)
    · repeat (first | refine AW.seq ?_ | refine AW.block ?_ | (refine AW.reg mix ?_; (simp [e1, e2]; try simp (disch := omega) only [w64, wu64])) | (refine need.of (by first | omega | kernel_rfl) ?_) | (refine AW.skip ?_; (try simp [e1, e2])) | (refine AW.ret ?_; (try simp [e1, e2])) | (refine AW.exit ?_; (try simp [e1, e2])))
      exact ⟨i + 1, by omega, by omega, by simp, by simp⟩
    · simp [hlt'] at h

theorem rexp_ok (d k : Nat) (hd : d ≤ 60) (hk : k ≤ 9223372036854775807) : Eqn Tryd.prog n_Tref13_Exp [.d (.int .i64 d), .d (.int .i64 k)] [] (.d (.int .i64 (k / p2 d : Nat))) [] := by
  refine Eqn.pure r_Tref13_Exp (plain_d _) ?_
  simp only [c_Tref13_Exp]
  have hp := p2_pos d
  repeat (first | refine AW.seq ?_ | refine AW.block ?_ | (refine AW.reg mix ?_; (simp; try simp (disch := omega) only [w64, wu64])) | (refine need.of (by first | omega | kernel_rfl) ?_) | (refine AW.skip ?_; (try simp)) | (refine AW.ret ?_; (try simp)) | (refine AW.exit ?_; (try simp)))
  refine CallS.pure (rsize_ok d hd) (by first | exact plain_d _ | exact plain_tup2 _ _ | exact plain_tup3 _ _ _) rfl (fun _ => rfl) (Subs.refl _) ?_
  (try simp; try simp (disch := omega) only [w64, wu64])
  repeat (first | refine AW.seq ?_ | refine AW.block ?_ | (refine AW.reg mix ?_; (simp; try simp (disch := omega) only [w64, wu64])) | (refine need.of (by first | omega | kernel_rfl) ?_) | (refine AW.skip ?_; (try simp)) | (refine AW.ret ?_; (try simp)) | (refine AW.exit ?_; (try simp)))
  have h0 : ¬ p2 d = 0 := by omega
  have hle := Nat.div_le_self k (p2 d)
  have e : IntKind.i64.wrap ((k : Int) / p2 d) = (k : Int) / p2 d := by
    rw [← Int.natCast_ediv]
    generalize k / p2 d = q at *
    exact w64 (by omega) (by omega)
  simp [h0, e]
  repeat (first | refine AW.seq ?_ | refine AW.block ?_ | (refine AW.reg mix ?_; (simp; try simp (disch := omega) only [w64, wu64])) | (refine need.of (by first | omega | kernel_rfl) ?_) | (refine AW.skip ?_; (try simp)) | (refine AW.ret ?_; (try simp)) | (refine AW.exit ?_; (try simp)))

/-- so many coins that are true, as the document tells it: is it, how many were taken, what is wrong -/
def halfO (cs : List Bool) : Nat → Nat → Bool × Nat × Int
  | 0, i => (true, i, 0)
  | r + 1, i => if i < cs.length then (if cs.getD i false then halfO cs r (i + 1) else (false, i + 1, 0)) else (false, i, 8)

theorem halfO_eq (cs : List Bool) : ∀ (r i : Nat), i ≤ cs.length → (halfR cs r i false).1 = (halfO cs r i).1 ∧ (halfR cs r i false).2.1 = (halfO cs r i).2.2 ∧ (halfR cs r i false).2.2.1 = (halfO cs r i).2.1
  | 0, i, _ => ⟨rfl, rfl, rfl⟩
  | r + 1, i, h => by
    rw [halfR, halfO]
    by_cases hl : i < cs.length
    · have hn : ¬ i = cs.length := by omega
      simp only [flipB, flipE, flipP, flipD, hn, hl, if_true]
      simp
      cases cs[i]?.getD false with
      | true => simpa using halfO_eq cs r (i + 1) hl
      | false => simp
    · have hn : i = cs.length := by omega
      simp [flipB, flipE, flipP, flipD, hn]

theorem orHalf_ok (cs : List Bool) (k : Int) (hk : k ≤ 4000000) (hn : cs.length ≤ 4000000) : Eqn Tryd.prog n_Tref10_Half [.d (BL cs), .d (.int .i64 0), .d (.int .i64 k)] [] (.d (.agg [.bool (halfO cs k.toNat 0).1, .int .i64 (halfO cs k.toNat 0).2.1, .int .i64 (halfO cs k.toNat 0).2.2])) [] := by
  refine Eqn.pure r_Tref10_Half (plain_d _) ?_
  simp only [c_Tref10_Half, BL]
  obtain ⟨K, hK⟩ : ∃ K : Nat, K = k.toNat := ⟨_, rfl⟩
  rw [← hK]
  repeat (first | refine AW.seq ?_ | refine AW.block ?_ | (refine AW.reg mix ?_; (simp; try simp (disch := omega) only [w64, wu64])) | (refine need.of (by first | omega | kernel_rfl) ?_) | (refine AW.skip ?_; (try simp)) | (refine AW.ret ?_; (try simp)) | (refine AW.exit ?_; (try simp)))
  refine AW.loopT (α := Nat) 1 (fun i => [(7, .d (.int .i64 (i : Int)))]) (fun i => []) (fun i => i ≤ K ∧ halfO cs (K - i) i = halfO cs K 0) (fun i => K - i) 0 ?_ ?_ ⟨Nat.zero_le _, rfl⟩ ?_ ?_ ?_
  · simp
  · simp
  · simp
  · simp
  rintro i ⟨hi, hR⟩
  rw [← hR]
  simp
  by_cases h : i = K
  · have h1 : ¬ (i : Int) < k := by omega
    repeat (first | refine AW.seq ?_ | refine AW.block ?_ | (refine AW.reg mix ?_; (simp [h1]; try simp (disch := omega) only [w64, wu64])) | (refine need.of (by first | omega | kernel_rfl) ?_) | (refine AW.skip ?_; (try simp [h1])) | (refine AW.ret ?_; (try simp [h1])) | (refine AW.exit ?_; (try simp [h1])))
    refine AW.cond rfl (fun h => ?_) (fun h => ?_)
    · simp [h1] at h
    repeat (first | refine AW.seq ?_ | refine AW.block ?_ | (refine AW.reg mix ?_; (simp; try simp (disch := omega) only [w64, wu64])) | (refine need.of (by first | omega | kernel_rfl) ?_) | (refine AW.skip ?_; (try simp)) | (refine AW.ret ?_; (try simp)) | (refine AW.exit ?_; (try simp)))
    refine AW.cond rfl (fun h => ?_) (fun h => ?_)
    · have hk0 : k < 0 := by simpa using h
      repeat (first | refine AW.seq ?_ | refine AW.block ?_ | (refine AW.reg mix ?_; (simp; try simp (disch := omega) only [w64, wu64])) | (refine need.of (by first | omega | kernel_rfl) ?_) | (refine AW.skip ?_; (try simp)) | (refine AW.ret ?_; (try simp)) | (refine AW.exit ?_; (try simp)))
      refine Sub1.of ?_
      rw [show i = 0 by omega, show K = 0 by omega]
      rfl
    · have hk0 : 0 ≤ k := by simpa using h
      repeat (first | refine AW.seq ?_ | refine AW.block ?_ | (refine AW.reg mix ?_; (simp; try simp (disch := omega) only [w64, wu64])) | (refine need.of (by first | omega | kernel_rfl) ?_) | (refine AW.skip ?_; (try simp)) | (refine AW.ret ?_; (try simp)) | (refine AW.exit ?_; (try simp)))
      refine Sub1.of ?_
      rw [show k = (i : Int) by omega, show K - i = 0 by omega]
      rfl
  · have h1 : (i : Int) < k := by omega
    have e1 : IntKind.i64.wrap (i : Int) = (i : Int) := w64 (by omega) (by omega)
    have e2 : IntKind.i64.wrap ((i : Int) + 1) = (i : Int) + 1 := w64 (by omega) (by omega)
    obtain ⟨r, hr⟩ : ∃ r, K - i = r + 1 := ⟨K - i - 1, by omega⟩
    repeat (first | refine AW.seq ?_ | refine AW.block ?_ | (refine AW.reg mix ?_; (simp [h1]; try simp (disch := omega) only [w64, wu64])) | (refine need.of (by first | omega | kernel_rfl) ?_) | (refine AW.skip ?_; (try simp [h1])) | (refine AW.ret ?_; (try simp [h1])) | (refine AW.exit ?_; (try simp [h1])))
    refine AW.cond rfl (fun h => ?_) (fun h => ?_)
    · by_cases hl : i < cs.length
      · repeat (first | refine AW.seq ?_ | refine AW.block ?_ | (refine AW.reg mix ?_; (simp [e1, hl]; try simp (disch := omega) only [w64, wu64])) | (refine need.of (by first | omega | kernel_rfl) ?_) | (refine AW.skip ?_; (try simp [e1, hl])) | (refine AW.ret ?_; (try simp [e1, hl])) | (refine AW.exit ?_; (try simp [e1, hl])))
        refine AW.cond rfl (fun h => ?_) (fun h => ?_)
        · simp at h
          omega
        have hg : cs.getD i false = cs[i] := by simp [List.getD, hl]
        repeat (first | refine AW.seq ?_ | refine AW.block ?_ | (refine AW.reg mix ?_; (simp [e1, hl]; try simp (disch := omega) only [w64, wu64])) | (refine need.of (by first | omega | kernel_rfl) ?_) | (refine AW.skip ?_; (try simp [e1, hl])) | (refine AW.ret ?_; (try simp [e1, hl])) | (refine AW.exit ?_; (try simp [e1, hl])))
        refine AW.cond rfl (fun h => ?_) (fun h => ?_)
        · have hb : cs[i] = false := by simpa using h
          repeat (first | refine AW.seq ?_ | refine AW.block ?_ | (refine AW.reg mix ?_; (simp [e2]; try simp (disch := omega) only [w64, wu64])) | (refine need.of (by first | omega | kernel_rfl) ?_) | (refine AW.skip ?_; (try simp [e2])) | (refine AW.ret ?_; (try simp [e2])) | (refine AW.exit ?_; (try simp [e2])))
          refine Sub1.of ?_
          rw [hr, halfO, if_pos hl, hg, hb]
          rfl
        · have hb : cs[i] = true := by simpa using h
          repeat (first | refine AW.seq ?_ | refine AW.block ?_ | (refine AW.reg mix ?_; (simp [e2]; try simp (disch := omega) only [w64, wu64])) | (refine need.of (by first | omega | kernel_rfl) ?_) | (refine AW.skip ?_; (try simp [e2])) | (refine AW.ret ?_; (try simp [e2])) | (refine AW.exit ?_; (try simp [e2])))
          refine ⟨i + 1, ⟨by omega, ?_⟩, by omega, by simp⟩
          rw [hr, halfO, if_pos hl, hg, hb, show K - (i + 1) = r by omega]
          rfl
      · repeat (first | refine AW.seq ?_ | refine AW.block ?_ | (refine AW.reg mix ?_; (simp [e1, hl]; try simp (disch := omega) only [w64, wu64])) | (refine need.of (by first | omega | kernel_rfl) ?_) | (refine AW.skip ?_; (try simp [e1, hl])) | (refine AW.ret ?_; (try simp [e1, hl])) | (refine AW.exit ?_; (try simp [e1, hl])))
        refine AW.cond rfl (fun h => ?_) (fun h => ?_)
        · repeat (first | refine AW.seq ?_ | refine AW.block ?_ | (refine AW.reg mix ?_; (simp; try simp (disch := omega) only [w64, wu64])) | (refine need.of (by first | omega | kernel_rfl) ?_) | (refine AW.skip ?_; (try simp)) | (refine AW.ret ?_; (try simp)) | (refine AW.exit ?_; (try simp)))
          refine Sub1.of ?_
          rw [hr, halfO, if_neg hl]
        · simp at h
          omega
    · simp [h1] at h
end Go.Proofs.YtakjegcjeffmgaaDoor.Am
