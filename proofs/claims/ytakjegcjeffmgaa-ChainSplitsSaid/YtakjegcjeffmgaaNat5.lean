import Derived.Test.YtakjegcjeffmgaaNat4
namespace Go.Proofs.Ytakjegcjeffmgaa.Am
open Go.RowKit
set_option maxRecDepth 100000
set_option linter.unusedSimpArgs false
set_option linter.unusedVariables false

theorem size_words (n : Nat) : (words n).length = size n := rfl

set_option maxHeartbeats 1000000 in
theorem shl_ok (a n : Nat) (ha : size a ≤ 1000000) (hn : n ≤ 8192) : Eqn Try.prog n_nat_Shl [.d (.agg [natW a]), .d (.int .i64 n)] [] (.tup [.d (.agg [natW (a * 2 ^ n)]), .d (.int .i64 0)]) [] := by
  refine Eqn.pure r_nat_Shl (plain_tup2 _ _) ?_
  simp only [c_nat_Shl, natW, W]
  have h1 : ¬ (n : Int) < 0 := by omega
  have h2 : ¬ (8192 : Int) < n := by omega
  repeat (first | refine AW.seq ?_ | refine AW.block ?_ | (refine AW.reg mix ?_; (simp [h1, h2]; try simp (disch := omega) only [w64, wu64])) | (refine need.of (by first | omega | kernel_rfl) ?_) | (refine AW.skip ?_; (try simp [h1, h2])) | (refine AW.ret ?_; (try simp [h1, h2])) | (refine AW.exit ?_; (try simp [h1, h2])))
  refine AW.cond rfl (fun h => ?_) (fun h => ?_)
  · simp [h1, h2] at h
  have hq : (n : Int) / 64 = (n / 64 : Nat) := rfl
  have hr : (n : Int).tmod 64 = (n % 64 : Nat) := by rw [Int.tmod_eq_emod_of_nonneg (by omega)]; rfl
  have hd : n / 64 ≤ 128 := by omega
  have hm : n % 64 < 64 := by omega
  have hv : ∀ l : List Nat, wval l = a → wval (List.replicate (n / 64) 0 ++ movedL (n % 64) 0 l) = a * 2 ^ n := by
    intro l hl
    rw [wval_append, wval_zeros, movedL_val, List.length_replicate, hl, Nat.zero_add, Nat.add_zero]
    rw [show (18446744073709551616 : Nat) = 2 ^ 64 by rfl, ← Nat.pow_mul, Nat.mul_left_comm, ← Nat.pow_add, Nat.div_add_mod]
  replace hv := hv (words a) (words_val a)
  have hsm : small (List.replicate (n / 64) 0 ++ movedL (n % 64) 0 (words a)) := by
    intro x hx
    rcases List.mem_append.1 hx with hx | hx
    · rw [List.eq_of_mem_replicate hx]; omega
    · exact movedL_small hm (words_small a) (Nat.two_pow_pos _) x hx
  have hl := movedL_len (n % 64) (words a) 0
  generalize n / 64 = q at *
  generalize n % 64 = r at *
  unfold size at ha
  repeat (first | refine AW.seq ?_ | refine AW.block ?_ | (refine AW.reg mix ?_; (simp [hq, hr]; try simp (disch := omega) only [w64, wu64])) | (refine need.of (by first | omega | kernel_rfl) ?_) | (refine AW.skip ?_; (try simp [hq, hr])) | (refine AW.ret ?_; (try simp [hq, hr])) | (refine AW.exit ?_; (try simp [hq, hr])))
  refine CallS.pure (moved_ok (words a) r hm (words_small a) (by omega)) (by first | exact plain_d _ | exact plain_tup2 _ _ | exact plain_tup3 _ _ _) rfl (fun _ => rfl) (Subs.refl _) ?_
  (try simp [W, hl]; try simp (disch := omega) only [w64, wu64])
  repeat (first | refine AW.seq ?_ | refine AW.block ?_ | (refine AW.reg mix ?_; (simp [W, hl]; try simp (disch := omega) only [w64, wu64])) | (refine need.of (by first | omega | kernel_rfl) ?_) | (refine AW.skip ?_; (try simp [W, hl])) | (refine AW.ret ?_; (try simp [W, hl])) | (refine AW.exit ?_; (try simp [W, hl])))
  have hlen : (List.replicate q 0 ++ movedL r 0 (words a)).length = q + ((words a).length + 1) := by simp [hl]
  have hcell : List.replicate q (V.d (.int .u64 0)) ++ List.map (V.d ∘ fun x : Nat => D.int .u64 x) (movedL r 0 (words a)) = ((List.replicate q 0 ++ movedL r 0 (words a)).map fun x : Nat => D.int .u64 x).map V.d := by simp
  rw [hcell]
  generalize List.replicate q 0 ++ movedL r 0 (words a) = ws at *
  refine CallS.pureF 3 1 ⟨86, _⟩ (ws.map fun x : Nat => .int .u64 x) (trimmed_ok ws hsm (by omega)) (by first | exact plain_d _ | exact plain_tup2 _ _ | exact plain_tup3 _ _ _) rfl (fun _ => rfl) (by rfl) (by simp) (Subs.of ?_) ?_
  focus first | rfl | (simp [natW, W]; done) | skip
  rotate_left
  (try simp [natW, W]; try simp (disch := omega) only [w64, wu64])
  repeat (first | refine AW.seq ?_ | refine AW.block ?_ | (refine AW.reg mix ?_; (simp [natW, W]; try simp (disch := omega) only [w64, wu64])) | (refine need.of (by first | omega | kernel_rfl) ?_) | (refine AW.skip ?_; (try simp [natW, W])) | (refine AW.ret ?_; (try simp [natW, W])) | (refine AW.exit ?_; (try simp [natW, W])))
  · refine Sub1.of ?_
    rw [hv]
  · rw [W, ← hlen, V.frzs, V.frzs, V.frz, if_pos rfl, if_pos rfl, Nat.mul_one, List.take_of_length_le (by simp)]
end Go.Proofs.Ytakjegcjeffmgaa.Am
