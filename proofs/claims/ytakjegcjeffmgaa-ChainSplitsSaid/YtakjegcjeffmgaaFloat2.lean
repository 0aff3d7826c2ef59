import Derived.Test.YtakjegcjeffmgaaFloat1
namespace Go.Proofs.Ytakjegcjeffmgaa.Am
open Go.RowKit
set_option maxRecDepth 100000
set_option linter.unusedSimpArgs false
set_option linter.unusedVariables false

theorem size_lt_pow {x m : Nat} (h : x < 18446744073709551616 ^ m) : size x ≤ m := words_le (words_top x) (by rwa [words_val])

theorem size_shl {a n u m : Nat} (h : a < 2 ^ n) (hm : n + u ≤ 64 * m) : size (a * 2 ^ u) ≤ m := by
  apply size_lt_pow
  refine Nat.lt_of_lt_of_le (Nat.mul_lt_mul_of_pos_right h (Nat.two_pow_pos u)) ?_
  rw [← Nat.pow_add, show (18446744073709551616 : Nat) = 2 ^ 64 by rfl, ← Nat.pow_mul]
  exact Nat.pow_le_pow_right (by omega) hm

theorem wrong_good {d k : Nat} (hd : d ≤ 8) (hk : k ≤ 1023) : wrongZ d [(k : Int)] = 0 := by
  rw [wrongZ, if_pos (by omega), if_pos]
  simp [okK]; omega

theorem new_ok (cs : List Bool) (h : cs.length ≤ 1048576) : Eqn Try.prog n_tape_New [.d (BL cs)] [] (.p 0 0) [tapeO cs 0 false] := by
  refine Eqn.new1 r_tape_New ⟨rfl, fun _ => rfl⟩ ?_
  simp only [c_tape_New, BL]
  have e : min (cs.length : Int) 1048576 = cs.length := by omega
  have e2 : List.take cs.length (cs.map D.bool) = cs.map D.bool := List.take_of_length_le (by simp)
  repeat (first | refine AW.seq ?_ | refine AW.block ?_ | (refine AW.reg mix ?_; (simp [e, e2]; try simp (disch := omega) only [w64, wu64])) | (refine need.of (by first | omega | kernel_rfl) ?_) | (refine AW.skip ?_; (try simp [e, e2])) | (refine AW.ret ?_; (try simp [e, e2])) | (refine AW.exit ?_; (try simp [e, e2])))
  refine CallS.pure (cloneB_ok cs.length (cs.map .bool) (by simp) (by omega)) (by first | exact plain_d _ | exact plain_tup2 _ _ | exact plain_tup3 _ _ _) rfl (fun _ => rfl) (Subs.refl _) ?_
  (try simp; try simp (disch := omega) only [w64, wu64])
  repeat (first | refine AW.seq ?_ | refine AW.block ?_ | (refine AW.reg mix ?_; (simp; try simp (disch := omega) only [w64, wu64])) | (refine need.of (by first | omega | kernel_rfl) ?_) | (refine AW.skip ?_; (try simp)) | (refine AW.ret ?_; (try simp)) | (refine AW.exit ?_; (try simp)))
  exact Subs.refl _

theorem read_ok (cs : List Bool) (p : Nat) (dd : Bool) : Eqn Try.prog n_tape_Tape_Read [.p 0 0] [tapeO cs p dd] (.d (.int .i64 p)) [tapeO cs p dd] := by
  refine Eqn.obj1 r_tape_Tape_Read (plain_d _) ⟨rfl, fun _ => rfl⟩ ?_
  simp only [c_tape_Tape_Read, tapeO, BL]
  repeat (first | refine AW.seq ?_ | refine AW.block ?_ | (refine AW.reg mix ?_; (simp [-Bool.exists_bool]; try simp (disch := omega) only [w64, wu64])) | (refine need.of (by first | omega | kernel_rfl) ?_) | (refine AW.skip ?_; (try simp [-Bool.exists_bool])) | (refine AW.ret ?_; (try simp [-Bool.exists_bool])) | (refine AW.exit ?_; (try simp [-Bool.exists_bool])))

theorem few_ok (cs : List Bool) (n : Nat) (h : cs.length ≤ 9223372036854775807) (hn : n ≤ 1000000) : Eqn Try.prog n_Tlaw09_Few [.d (BL cs), .d (.int .i64 n)] [] (.d (BL (cs.take n))) [] := by
  refine Eqn.pure r_Tlaw09_Few (plain_d _) ?_
  simp only [c_Tlaw09_Few, BL]
  repeat (first | refine AW.seq ?_ | refine AW.block ?_ | (refine AW.reg mix ?_; (simp; try simp (disch := omega) only [w64, wu64])) | (refine need.of (by first | omega | kernel_rfl) ?_) | (refine AW.skip ?_; (try simp)) | (refine AW.ret ?_; (try simp)) | (refine AW.exit ?_; (try simp)))
  refine AW.cond rfl (fun h => ?_) (fun h => ?_)
  · have h' : (n : Int) ≤ cs.length := by simp at h; omega
    have h2 : n ≤ cs.length := by omega
    repeat (first | refine AW.seq ?_ | refine AW.block ?_ | (refine AW.reg mix ?_; (simp [h', h2]; try simp (disch := omega) only [w64, wu64])) | (refine need.of (by first | omega | kernel_rfl) ?_) | (refine AW.skip ?_; (try simp [h', h2])) | (refine AW.ret ?_; (try simp [h', h2])) | (refine AW.exit ?_; (try simp [h', h2])))
  · have h2 : cs.length ≤ n := by simp at h; omega
    repeat (first | refine AW.seq ?_ | refine AW.block ?_ | (refine AW.reg mix ?_; (simp; try simp (disch := omega) only [w64, wu64])) | (refine need.of (by first | omega | kernel_rfl) ?_) | (refine AW.skip ?_; (try simp)) | (refine AW.ret ?_; (try simp)) | (refine AW.exit ?_; (try simp)))
    refine Sub1.of ?_
    rw [Nat.min_eq_right h2, List.take_of_length_le (by simp; omega)]

def p2 (n : Nat) : Nat := 2 ^ n
theorem p2_zero : p2 0 = 1 := rfl
theorem p2_succ (n : Nat) : p2 (n + 1) = 2 * p2 n := by rw [p2, p2, Nat.pow_succ, Nat.mul_comm]
theorem p2_pos (n : Nat) : 0 < p2 n := Nat.two_pow_pos n
theorem p2_le {n m : Nat} (h : n ≤ m) : p2 n ≤ p2 m := Nat.pow_le_pow_right (by omega) h

theorem rsize_ok (d : Nat) (hd : d ≤ 60) : Eqn Try.prog n_Tref13_Size [.d (.int .i64 d)] [] (.d (.int .i64 (p2 d))) [] := by
  refine Eqn.pure r_Tref13_Size (plain_d _) ?_
  simp only [c_Tref13_Size]
  repeat (first | refine AW.seq ?_ | refine AW.block ?_ | (refine AW.reg mix ?_; (simp; try simp (disch := omega) only [w64, wu64])) | (refine need.of (by first | omega | kernel_rfl) ?_) | (refine AW.skip ?_; (try simp)) | (refine AW.ret ?_; (try simp)) | (refine AW.exit ?_; (try simp)))
  refine AW.loopT (α := Nat) 0 (fun i => [(4, .d (.int .i64 (i : Int))), (3, .d (.int .i64 (p2 i)))]) (fun i => []) (fun i => i ≤ d) (fun i => d - i) 0 ?_ ?_ (Nat.zero_le _) ?_ ?_ ?_
  · simp
  · simp
  · simp [p2_zero]
  · simp
  rintro i hi
  have hle : p2 i ≤ 2 ^ 60 := p2_le (m := 60) (by omega)
  simp
  by_cases h : i = d
  · subst h
    repeat (first | refine AW.seq ?_ | refine AW.block ?_ | (refine AW.reg mix ?_; (simp; try simp (disch := omega) only [w64, wu64])) | (refine need.of (by first | omega | kernel_rfl) ?_) | (refine AW.skip ?_; (try simp)) | (refine AW.ret ?_; (try simp)) | (refine AW.exit ?_; (try simp)))
    refine AW.cond rfl (fun h => ?_) (fun h => ?_)
    · simp at h
    repeat (first | refine AW.seq ?_ | refine AW.block ?_ | (refine AW.reg mix ?_; (simp; try simp (disch := omega) only [w64, wu64])) | (refine need.of (by first | omega | kernel_rfl) ?_) | (refine AW.skip ?_; (try simp)) | (refine AW.ret ?_; (try simp)) | (refine AW.exit ?_; (try simp)))
  · have hlt : (i : Int) < d := by omega
    have hlt' : i < d := by omega
    have e1 : IntKind.i64.wrap (2 * (p2 i : Int)) = (p2 (i + 1) : Int) := by rw [p2_succ]; exact w64 (by omega) (by omega)
    have e2 : IntKind.i64.wrap ((i : Int) + 1) = (i : Int) + 1 := w64 (by omega) (by omega)
    repeat (first | refine AW.seq ?_ | refine AW.block ?_ | (refine AW.reg mix ?_; (simp [hlt, hlt']; try simp (disch := omega) only [w64, wu64])) | (refine need.of (by first | omega | kernel_rfl) ?_) | (refine AW.skip ?_; (try simp [hlt, hlt'])) | (refine AW.ret ?_; (try simp [hlt, hlt'])) | (refine AW.exit ?_; (try simp [hlt, hlt'])))
    refine AW.cond rfl (fun h => ?_) (fun h => ?_)
    · repeat (first | refine AW.seq ?_ | refine AW.block ?_ | (refine AW.reg mix ?_; (simp [e1, e2]; try simp (disch := omega) only [w64, wu64])) | (refine need.of (by first | omega | kernel_rfl) ?_) | (refine AW.skip ?_; (try simp [e1, e2])) | (refine AW.ret ?_; (try simp [e1, e2])) | (refine AW.exit ?_; (try simp [e1, e2])))
      exact ⟨i + 1, by omega, by omega, by simp, by simp⟩
    · simp [hlt'] at h

/-- so many coins that are true, as the document tells it: is it, how many were taken, what is wrong -/
def halfO (cs : List Bool) : Nat → Nat → Bool × Nat × Int
  | 0, i => (true, i, 0)
  | r + 1, i => if i < cs.length then (if cs.getD i false then halfO cs r (i + 1) else (false, i + 1, 0)) else (false, i, 8)

theorem halfO_eq (cs : List Bool) : ∀ (r i : Nat), i ≤ cs.length → (halfR cs r i false).1 = (halfO cs r i).1 ∧ (halfR cs r i false).2.1 = (halfO cs r i).2.2 ∧ (halfR cs r i false).2.2.1 = (halfO cs r i).2.1
  | 0, i, _ => ⟨rfl, rfl, rfl⟩
  | r + 1, i, h => by
    rw [halfR, halfO]
    by_cases hl : i < cs.length
    · have hn : ¬ i = cs.length := by omega
      simp only [flipB, flipE, flipP, flipD, hn, hl, if_true]
      simp
      cases cs[i]?.getD false with
      | true => simpa using halfO_eq cs r (i + 1) hl
      | false => simp
    · have hn : i = cs.length := by omega
      simp [flipB, flipE, flipP, flipD, hn]

end Go.Proofs.Ytakjegcjeffmgaa.Am
