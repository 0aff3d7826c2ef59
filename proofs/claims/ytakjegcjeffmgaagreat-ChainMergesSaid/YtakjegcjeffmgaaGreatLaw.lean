/- Parts of the proof: ChainG, ChainH, ChainI, AmLaw, ChainJ. -/
import Derived.Test.YtakjegcjeffmgaaGreatPf
namespace Go.Proofs.YtakjegcjeffmgaaGreat.Am
section
open Go.RowKit
set_option maxRecDepth 100000
set_option linter.unusedSimpArgs false
set_option linter.unusedVariables false

theorem bit_b (k : Int) : ∃ b : Bool, (bits BinOp.and IntKind.i64 k 1 == 1) = b := ⟨_, rfl⟩

theorem mergeL_step {ag : AgT} {top n r x : Nat} {f : Bool} {p : Nat} {d : Bool} (hx : x ≠ top) : mergeL ag top (n + 1) r x f p d = if (ag x r p d).2.1 = 0 then mergeL ag top n (r + 1) (if (ag x r p d).1 then x + 1 else x) f (ag x r p d).2.2.1 (ag x r p d).2.2.2 else ((ag x r p d).2.1, x, f, (ag x r p d).2.2.1, (ag x r p d).2.2.2) := by
  rw [mergeL, if_neg hx]

set_option maxHeartbeats 4000000 in
theorem chainMerges_ok (cs : List Bool) (k a w n0 n1 n2 n3 : Int) (hn : cs.length ≤ 9223372036854775807) : Eqn Tryz.prog n_Tlaw15_ChainMerges [.d (parD k a w), .d (BL cs), .d (.agg [.int .i64 n0, .int .i64 n1, .int .i64 n2, .int .i64 n3])] [] (.d (.bool true)) [] := by
  refine Eqn.pure r_Tlaw15_ChainMerges (plain_d _) ?_
  obtain ⟨K, A, W, hg, hsm⟩ := csmall_ok k a w
  obtain ⟨N0, b0, c0, -⟩ := and_b n0 15 (by omega)
  obtain ⟨N1, b1, c1, -⟩ := and_b n1 15 (by omega)
  replace b0 : bits BinOp.and IntKind.i64 n0 15 = N0 := b0
  replace b1 : bits BinOp.and IntKind.i64 n1 15 = N1 := b1
  obtain ⟨F0, hF0⟩ := bit_b n2
  obtain ⟨F1, hF1⟩ := bit_b n3
  have hfew := few_ok cs 200 hn (by omega)
  have hl : (cs.take 200).length ≤ 200 := by rw [List.length_take]; omega
  generalize cs.take 200 = xs at hfew hl
  have hown := own_ok K A W
  have htop := rtop_ok K A W (by have := hg.2; omega)
  have hmerge := merge_good hg xs (by omega)
  have hbad := fun p dd x f y h0 h1 h2 => merge_bad hg xs p dd x y f false h0 h1 h2
  have hcoin := coin_ok hg xs (by omega)
  have hW : 2 ^ W - 1 ≤ 15 := by have := Nat.pow_le_pow_right (n := 2) (by omega) hg.2.2; omega
  have hag : ∀ x r p, Live p (agOf xs K A x r p false) := fun x r p => agOf_live xs K A x r p
  have has : ∀ x p, (agOf xs K A x x p false).1 = true := fun x p => agOf_same xs K A x p false
  have hae : ∀ x r p, p ≤ xs.length → (agOf xs K A x r p false).2.2.1 ≤ xs.length := fun x r p h => agOf_le h
  simp only [c_Tlaw15_ChainMerges, parD, outD] at hsm hown htop hmerge hbad hcoin ⊢
  generalize hT : 2 ^ W - 1 = T at *
  generalize agOf xs K A = ag at *
  have ew1 : IntKind.i64.wrap ((T : Int) + 1) = (T : Int) + 1 := w64 (by omega) (by omega)
  have et0 : ((N0 : Int)).tmod ((T : Int) + 1) = ((N0 % (T + 1) : Nat) : Int) := by
    rw [Int.tmod_eq_emod_of_nonneg (by omega)]; norm_cast
  have hx0 : N0 % (T + 1) ≤ T := by have := Nat.mod_lt N0 (show 0 < T + 1 by omega); omega
  have et1 : ((N1 : Int)).tmod ((T : Int) + 1) = ((N1 % (T + 1) : Nat) : Int) := by
    rw [Int.tmod_eq_emod_of_nonneg (by omega)]; norm_cast
  have hx1 : N1 % (T + 1) ≤ T := by have := Nat.mod_lt N1 (show 0 < T + 1 by omega); omega
  generalize N0 % (T + 1) = X at *
  generalize N1 % (T + 1) = Y at *
  repeat (first | refine AW.seq ?_ | refine AW.block ?_ | (refine AW.reg mix ?_; (simp (implicitDefEqProofs := false) [↓callI, vopsN, vopsG, ↓step_slice, ↓Am.A.step, ↓binInt, ↓binStr, vopsE0, vopsE1, -vops, -Bool.exists_bool]; try simp (disch := omega) only [w64, wu64])) | (refine need.of (by first | omega | kernel_rfl) ?_) | (refine AW.skip ?_; (try simp (implicitDefEqProofs := false) [↓callI, vopsN, vopsG, ↓step_slice, ↓Am.A.step, ↓binInt, ↓binStr, vopsE0, vopsE1, -vops, -Bool.exists_bool])) | (refine AW.ret ?_; (try simp (implicitDefEqProofs := false) [↓callI, vopsN, vopsG, ↓step_slice, ↓Am.A.step, ↓binInt, ↓binStr, vopsE0, vopsE1, -vops, -Bool.exists_bool])) | (refine AW.exit ?_; (try simp (implicitDefEqProofs := false) [↓callI, vopsN, vopsG, ↓step_slice, ↓Am.A.step, ↓binInt, ↓binStr, vopsE0, vopsE1, -vops, -Bool.exists_bool])))
  refine CallS.pure (awakeC_ok) (by first | exact plain_d _ | exact plain_tup2 _ _ | exact plain_tup3 _ _ _) rfl (fun _ => rfl) (Subs.refl _) ?_
  (try simp (implicitDefEqProofs := false) [↓callI, vopsN, vopsG, ↓step_slice, ↓Am.A.step, ↓binInt, ↓binStr, vopsE0, vopsE1, -vops, -Bool.exists_bool]; try simp (disch := omega) only [w64, wu64])
  repeat (first | refine AW.seq ?_ | refine AW.block ?_ | (refine AW.reg mix ?_; (simp (implicitDefEqProofs := false) [↓callI, vopsN, vopsG, ↓step_slice, ↓Am.A.step, ↓binInt, ↓binStr, vopsE0, vopsE1, -vops, -Bool.exists_bool]; try simp (disch := omega) only [w64, wu64])) | (refine need.of (by first | omega | kernel_rfl) ?_) | (refine AW.skip ?_; (try simp (implicitDefEqProofs := false) [↓callI, vopsN, vopsG, ↓step_slice, ↓Am.A.step, ↓binInt, ↓binStr, vopsE0, vopsE1, -vops, -Bool.exists_bool])) | (refine AW.ret ?_; (try simp (implicitDefEqProofs := false) [↓callI, vopsN, vopsG, ↓step_slice, ↓Am.A.step, ↓binInt, ↓binStr, vopsE0, vopsE1, -vops, -Bool.exists_bool])) | (refine AW.exit ?_; (try simp (implicitDefEqProofs := false) [↓callI, vopsN, vopsG, ↓step_slice, ↓Am.A.step, ↓binInt, ↓binStr, vopsE0, vopsE1, -vops, -Bool.exists_bool])))
  refine AW.cond rfl (fun h => ?_) (fun h => ?_)
  · simp at h
  clear h
  repeat (first | refine AW.seq ?_ | refine AW.block ?_ | (refine AW.reg mix ?_; (simp (implicitDefEqProofs := false) [↓callI, vopsN, vopsG, ↓step_slice, ↓Am.A.step, ↓binInt, ↓binStr, vopsE0, vopsE1, -vops, -Bool.exists_bool]; try simp (disch := omega) only [w64, wu64])) | (refine need.of (by first | omega | kernel_rfl) ?_) | (refine AW.skip ?_; (try simp (implicitDefEqProofs := false) [↓callI, vopsN, vopsG, ↓step_slice, ↓Am.A.step, ↓binInt, ↓binStr, vopsE0, vopsE1, -vops, -Bool.exists_bool])) | (refine AW.ret ?_; (try simp (implicitDefEqProofs := false) [↓callI, vopsN, vopsG, ↓step_slice, ↓Am.A.step, ↓binInt, ↓binStr, vopsE0, vopsE1, -vops, -Bool.exists_bool])) | (refine AW.exit ?_; (try simp (implicitDefEqProofs := false) [↓callI, vopsN, vopsG, ↓step_slice, ↓Am.A.step, ↓binInt, ↓binStr, vopsE0, vopsE1, -vops, -Bool.exists_bool])))
  refine CallS.pure (hsm) (by first | exact plain_d _ | exact plain_tup2 _ _ | exact plain_tup3 _ _ _) rfl (fun _ => rfl) (Subs.refl _) ?_
  (try simp (implicitDefEqProofs := false) [↓callI, vopsN, vopsG, ↓step_slice, ↓Am.A.step, ↓binInt, ↓binStr, vopsE0, vopsE1, -vops, -Bool.exists_bool]; try simp (disch := omega) only [w64, wu64])
  repeat (first | refine AW.seq ?_ | refine AW.block ?_ | (refine AW.reg mix ?_; (simp (implicitDefEqProofs := false) [↓callI, vopsN, vopsG, ↓step_slice, ↓Am.A.step, ↓binInt, ↓binStr, vopsE0, vopsE1, -vops, -Bool.exists_bool]; try simp (disch := omega) only [w64, wu64])) | (refine need.of (by first | omega | kernel_rfl) ?_) | (refine AW.skip ?_; (try simp (implicitDefEqProofs := false) [↓callI, vopsN, vopsG, ↓step_slice, ↓Am.A.step, ↓binInt, ↓binStr, vopsE0, vopsE1, -vops, -Bool.exists_bool])) | (refine AW.ret ?_; (try simp (implicitDefEqProofs := false) [↓callI, vopsN, vopsG, ↓step_slice, ↓Am.A.step, ↓binInt, ↓binStr, vopsE0, vopsE1, -vops, -Bool.exists_bool])) | (refine AW.exit ?_; (try simp (implicitDefEqProofs := false) [↓callI, vopsN, vopsG, ↓step_slice, ↓Am.A.step, ↓binInt, ↓binStr, vopsE0, vopsE1, -vops, -Bool.exists_bool])))
  refine CallS.pure (hfew) (by first | exact plain_d _ | exact plain_tup2 _ _ | exact plain_tup3 _ _ _) rfl (fun _ => rfl) (Subs.refl _) ?_
  (try simp (implicitDefEqProofs := false) [↓callI, vopsN, vopsG, ↓step_slice, ↓Am.A.step, ↓binInt, ↓binStr, vopsE0, vopsE1, -vops, -Bool.exists_bool]; try simp (disch := omega) only [w64, wu64])
  repeat (first | refine AW.seq ?_ | refine AW.block ?_ | (refine AW.reg mix ?_; (simp (implicitDefEqProofs := false) [↓callI, vopsN, vopsG, ↓step_slice, ↓Am.A.step, ↓binInt, ↓binStr, vopsE0, vopsE1, -vops, -Bool.exists_bool]; try simp (disch := omega) only [w64, wu64])) | (refine need.of (by first | omega | kernel_rfl) ?_) | (refine AW.skip ?_; (try simp (implicitDefEqProofs := false) [↓callI, vopsN, vopsG, ↓step_slice, ↓Am.A.step, ↓binInt, ↓binStr, vopsE0, vopsE1, -vops, -Bool.exists_bool])) | (refine AW.ret ?_; (try simp (implicitDefEqProofs := false) [↓callI, vopsN, vopsG, ↓step_slice, ↓Am.A.step, ↓binInt, ↓binStr, vopsE0, vopsE1, -vops, -Bool.exists_bool])) | (refine AW.exit ?_; (try simp (implicitDefEqProofs := false) [↓callI, vopsN, vopsG, ↓step_slice, ↓Am.A.step, ↓binInt, ↓binStr, vopsE0, vopsE1, -vops, -Bool.exists_bool])))
  refine CallS.pure (htop) (by first | exact plain_d _ | exact plain_tup2 _ _ | exact plain_tup3 _ _ _) rfl (fun _ => rfl) (Subs.refl _) ?_
  (try simp (implicitDefEqProofs := false) [↓callI, vopsN, vopsG, ↓step_slice, ↓Am.A.step, ↓binInt, ↓binStr, vopsE0, vopsE1, -vops, -Bool.exists_bool]; try simp (disch := omega) only [w64, wu64])
  repeat (first | refine AW.seq ?_ | refine AW.block ?_ | (refine AW.reg mix ?_; (simp (implicitDefEqProofs := false) [↓callI, vopsN, vopsG, ↓step_slice, ↓Am.A.step, ↓binInt, ↓binStr, vopsE0, vopsE1, -vops, -Bool.exists_bool]; try simp (disch := omega) only [w64, wu64])) | (refine need.of (by first | omega | kernel_rfl) ?_) | (refine AW.skip ?_; (try simp (implicitDefEqProofs := false) [↓callI, vopsN, vopsG, ↓step_slice, ↓Am.A.step, ↓binInt, ↓binStr, vopsE0, vopsE1, -vops, -Bool.exists_bool])) | (refine AW.ret ?_; (try simp (implicitDefEqProofs := false) [↓callI, vopsN, vopsG, ↓step_slice, ↓Am.A.step, ↓binInt, ↓binStr, vopsE0, vopsE1, -vops, -Bool.exists_bool])) | (refine AW.exit ?_; (try simp (implicitDefEqProofs := false) [↓callI, vopsN, vopsG, ↓step_slice, ↓Am.A.step, ↓binInt, ↓binStr, vopsE0, vopsE1, -vops, -Bool.exists_bool])))
  refine CallS.pure (hown) (by first | exact plain_d _ | exact plain_tup2 _ _ | exact plain_tup3 _ _ _) rfl (fun _ => rfl) (Subs.refl _) ?_
  (try simp (implicitDefEqProofs := false) [↓callI, vopsN, vopsG, ↓step_slice, ↓Am.A.step, ↓binInt, ↓binStr, vopsE0, vopsE1, -vops, b0, b1, et0, et1, hF0, hF1, ew1, -Bool.exists_bool]; try simp (disch := omega) only [w64, wu64])
  repeat (first | refine AW.seq ?_ | refine AW.block ?_ | (refine AW.reg mix ?_; (simp (implicitDefEqProofs := false) [↓callI, vopsN, vopsG, ↓step_slice, ↓Am.A.step, ↓binInt, ↓binStr, vopsE0, vopsE1, -vops, b0, b1, et0, et1, hF0, hF1, ew1, -Bool.exists_bool]; try simp (disch := omega) only [w64, wu64])) | (refine need.of (by first | omega | kernel_rfl) ?_) | (refine AW.skip ?_; (try simp (implicitDefEqProofs := false) [↓callI, vopsN, vopsG, ↓step_slice, ↓Am.A.step, ↓binInt, ↓binStr, vopsE0, vopsE1, -vops, b0, b1, et0, et1, hF0, hF1, ew1, -Bool.exists_bool])) | (refine AW.ret ?_; (try simp (implicitDefEqProofs := false) [↓callI, vopsN, vopsG, ↓step_slice, ↓Am.A.step, ↓binInt, ↓binStr, vopsE0, vopsE1, -vops, b0, b1, et0, et1, hF0, hF1, ew1, -Bool.exists_bool])) | (refine AW.exit ?_; (try simp (implicitDefEqProofs := false) [↓callI, vopsN, vopsG, ↓step_slice, ↓Am.A.step, ↓binInt, ↓binStr, vopsE0, vopsE1, -vops, b0, b1, et0, et1, hF0, hF1, ew1, -Bool.exists_bool])))
  refine CallS.new1 (new_ok xs (by omega)) ⟨rfl, fun _ => rfl⟩ rfl (fun _ => rfl) (Subs.refl _) ?_
  (try simp (implicitDefEqProofs := false) [↓callI, vopsN, vopsG, ↓step_slice, ↓Am.A.step, ↓binInt, ↓binStr, vopsE0, vopsE1, -vops, b0, b1, et0, et1, hF0, hF1, ew1, -Bool.exists_bool]; try simp (disch := omega) only [w64, wu64])
  repeat (first | refine AW.seq ?_ | refine AW.block ?_ | (refine AW.reg mix ?_; (simp (implicitDefEqProofs := false) [↓callI, vopsN, vopsG, ↓step_slice, ↓Am.A.step, ↓binInt, ↓binStr, vopsE0, vopsE1, -vops, b0, b1, et0, et1, hF0, hF1, ew1, -Bool.exists_bool]; try simp (disch := omega) only [w64, wu64])) | (refine need.of (by first | omega | kernel_rfl) ?_) | (refine AW.skip ?_; (try simp (implicitDefEqProofs := false) [↓callI, vopsN, vopsG, ↓step_slice, ↓Am.A.step, ↓binInt, ↓binStr, vopsE0, vopsE1, -vops, b0, b1, et0, et1, hF0, hF1, ew1, -Bool.exists_bool])) | (refine AW.ret ?_; (try simp (implicitDefEqProofs := false) [↓callI, vopsN, vopsG, ↓step_slice, ↓Am.A.step, ↓binInt, ↓binStr, vopsE0, vopsE1, -vops, b0, b1, et0, et1, hF0, hF1, ew1, -Bool.exists_bool])) | (refine AW.exit ?_; (try simp (implicitDefEqProofs := false) [↓callI, vopsN, vopsG, ↓step_slice, ↓Am.A.step, ↓binInt, ↓binStr, vopsE0, vopsE1, -vops, b0, b1, et0, et1, hF0, hF1, ew1, -Bool.exists_bool])))
  obtain ⟨S, hS⟩ : ∃ S, S = mergeL ag T Y 0 X F0 0 false := ⟨_, rfl⟩
  have h1 := hmerge X hx0 F0 Y hx1 F1 0 false (Nat.zero_le _) S hS
  clear hmerge
  obtain ⟨gK, hgK⟩ : ∃ g : Nat, g = if S.1 = 0 then S.2.1 else X := ⟨_, rfl⟩
  obtain ⟨gF, hgF⟩ : ∃ g : Bool, g = if S.1 = 0 then S.2.2.1 || F1 else F0 := ⟨_, rfl⟩
  rw [← hgK, ← hgF] at h1
  obtain ⟨E, hE⟩ : ∃ E, E = S.1 := ⟨_, rfl⟩
  obtain ⟨q, hq⟩ : ∃ q, q = S.2.2.2.1 := ⟨_, rfl⟩
  obtain ⟨dd, hdd⟩ : ∃ q, q = S.2.2.2.2 := ⟨_, rfl⟩
  rw [← hE, ← hq, ← hdd] at h1
  rw [← hE] at hgK hgF
  refine CallS.obj1 2 (h1) (by first | exact plain_d _ | exact plain_tup2 _ _ | exact plain_tup3 _ _ _) ⟨rfl, fun _ => rfl⟩ ⟨rfl, fun _ => rfl⟩ rfl (by rfl) (Subs.of (by simp)) ?_
  (try simp (implicitDefEqProofs := false) [↓callI, vopsN, vopsG, ↓step_slice, ↓Am.A.step, ↓binInt, ↓binStr, vopsE0, vopsE1, -vops, -Bool.exists_bool]; try simp (disch := omega) only [w64, wu64])
  repeat (first | refine AW.seq ?_ | refine AW.block ?_ | (refine AW.reg mix ?_; (simp (implicitDefEqProofs := false) [↓callI, vopsN, vopsG, ↓step_slice, ↓Am.A.step, ↓binInt, ↓binStr, vopsE0, vopsE1, -vops, -Bool.exists_bool]; try simp (disch := omega) only [w64, wu64])) | (refine need.of (by first | omega | kernel_rfl) ?_) | (refine AW.skip ?_; (try simp (implicitDefEqProofs := false) [↓callI, vopsN, vopsG, ↓step_slice, ↓Am.A.step, ↓binInt, ↓binStr, vopsE0, vopsE1, -vops, -Bool.exists_bool])) | (refine AW.ret ?_; (try simp (implicitDefEqProofs := false) [↓callI, vopsN, vopsG, ↓step_slice, ↓Am.A.step, ↓binInt, ↓binStr, vopsE0, vopsE1, -vops, -Bool.exists_bool])) | (refine AW.exit ?_; (try simp (implicitDefEqProofs := false) [↓callI, vopsN, vopsG, ↓step_slice, ↓Am.A.step, ↓binInt, ↓binStr, vopsE0, vopsE1, -vops, -Bool.exists_bool])))
  have hok : E = 0 → gK = S.2.1 ∧ gF = (S.2.2.1 || F1) := fun h => by rw [if_pos h] at hgK hgF; exact ⟨hgK, hgF⟩
  have hno : E ≠ 0 → gK = X ∧ gF = F0 := fun h => by rw [if_neg h] at hgK hgF; exact ⟨hgK, hgF⟩
  clear hgK hgF
  refine AW.loopT (α := Nat × Nat × Bool × Nat) 8 (fun s => [(15, .d (.int .i64 (s.2.2.2 : Nat))), (16, .d (.int .i64 (s.1 : Nat)))]) (fun s => [(7, ⟨35, [.d (.int .i64 (s.2.1 : Nat)), .d (.bool s.2.2.1)]⟩)]) (fun s => s.1 ≤ Y ∧ s.2.1 ≤ T ∧ s.1 ≤ s.2.1 ∧ s.2.2.2 ≤ xs.length ∧ S = mergeL ag T (Y - s.1) s.1 s.2.1 s.2.2.1 s.2.2.2 false) (fun s => Y - s.1) (0, X, F0, 0) ?_ ?_ ⟨Nat.zero_le _, hx0, Nat.zero_le _, Nat.zero_le _, hS⟩ ?_ ?_ ?_
  · simp
  · simp
  · simp
  · simp
  clear hS
  rintro ⟨r, x, f, p⟩ ⟨hr, hx, hrx, hp, hS⟩
  simp only at hr hx hrx hp hS
  simp [-Bool.exists_bool]
  by_cases h : r = Y
  · subst h
    rw [Nat.sub_self, mergeL] at hS
    subst hS
    simp only at hE hq hdd hok
    obtain ⟨rfl, rfl⟩ := hok hE
    subst hE hq hdd
    repeat (first | refine AW.seq ?_ | refine AW.block ?_ | (refine AW.reg mix ?_; (simp (implicitDefEqProofs := false) [↓callI, vopsN, vopsG, ↓step_slice, ↓Am.A.step, ↓binInt, ↓binStr, vopsE0, vopsE1, -vops, -Bool.exists_bool]; try simp (disch := omega) only [w64, wu64])) | (refine need.of (by first | omega | kernel_rfl) ?_) | (refine AW.skip ?_; (try simp (implicitDefEqProofs := false) [↓callI, vopsN, vopsG, ↓step_slice, ↓Am.A.step, ↓binInt, ↓binStr, vopsE0, vopsE1, -vops, -Bool.exists_bool])) | (refine AW.ret ?_; (try simp (implicitDefEqProofs := false) [↓callI, vopsN, vopsG, ↓step_slice, ↓Am.A.step, ↓binInt, ↓binStr, vopsE0, vopsE1, -vops, -Bool.exists_bool])) | (refine AW.exit ?_; (try simp (implicitDefEqProofs := false) [↓callI, vopsN, vopsG, ↓step_slice, ↓Am.A.step, ↓binInt, ↓binStr, vopsE0, vopsE1, -vops, -Bool.exists_bool])))
    refine AW.cond rfl (fun h => ?_) (fun h => ?_)
    · simp at h
    refine AW.exit ?_
    (try simp (implicitDefEqProofs := false) [↓callI, vopsN, vopsG, ↓step_slice, ↓Am.A.step, ↓binInt, ↓binStr, vopsE0, vopsE1, -vops, -Bool.exists_bool]; try simp (disch := omega) only [w64, wu64])
    have hbad := hbad q false X F0 ((T : Int) + 1) (by omega) (by omega) (by omega)
    cases f with
    | true =>
      repeat (first | refine AW.seq ?_ | refine AW.block ?_ | (refine AW.reg mix ?_; (simp (implicitDefEqProofs := false) [↓callI, vopsN, vopsG, ↓step_slice, ↓Am.A.step, ↓binInt, ↓binStr, vopsE0, vopsE1, -vops, ew1, -Bool.exists_bool]; try simp (disch := omega) only [w64, wu64])) | (refine need.of (by first | omega | kernel_rfl) ?_) | (refine AW.skip ?_; (try simp (implicitDefEqProofs := false) [↓callI, vopsN, vopsG, ↓step_slice, ↓Am.A.step, ↓binInt, ↓binStr, vopsE0, vopsE1, -vops, ew1, -Bool.exists_bool])) | (refine AW.ret ?_; (try simp (implicitDefEqProofs := false) [↓callI, vopsN, vopsG, ↓step_slice, ↓Am.A.step, ↓binInt, ↓binStr, vopsE0, vopsE1, -vops, ew1, -Bool.exists_bool])) | (refine AW.exit ?_; (try simp (implicitDefEqProofs := false) [↓callI, vopsN, vopsG, ↓step_slice, ↓Am.A.step, ↓binInt, ↓binStr, vopsE0, vopsE1, -vops, ew1, -Bool.exists_bool])))
      refine CallS.obj1 2 (hbad) (by first | exact plain_d _ | exact plain_tup2 _ _ | exact plain_tup3 _ _ _) ⟨rfl, fun _ => rfl⟩ ⟨rfl, fun _ => rfl⟩ rfl (by rfl) (Subs.of (by simp)) ?_
      (try simp (implicitDefEqProofs := false) [↓callI, vopsN, vopsG, ↓step_slice, ↓Am.A.step, ↓binInt, ↓binStr, vopsE0, vopsE1, -vops, -Bool.exists_bool]; try simp (disch := omega) only [w64, wu64])
      repeat (first | refine AW.seq ?_ | refine AW.block ?_ | (refine AW.reg mix ?_; (simp (implicitDefEqProofs := false) [↓callI, vopsN, vopsG, ↓step_slice, ↓Am.A.step, ↓binInt, ↓binStr, vopsE0, vopsE1, -vops, -Bool.exists_bool]; try simp (disch := omega) only [w64, wu64])) | (refine need.of (by first | omega | kernel_rfl) ?_) | (refine AW.skip ?_; (try simp (implicitDefEqProofs := false) [↓callI, vopsN, vopsG, ↓step_slice, ↓Am.A.step, ↓binInt, ↓binStr, vopsE0, vopsE1, -vops, -Bool.exists_bool])) | (refine AW.ret ?_; (try simp (implicitDefEqProofs := false) [↓callI, vopsN, vopsG, ↓step_slice, ↓Am.A.step, ↓binInt, ↓binStr, vopsE0, vopsE1, -vops, -Bool.exists_bool])) | (refine AW.exit ?_; (try simp (implicitDefEqProofs := false) [↓callI, vopsN, vopsG, ↓step_slice, ↓Am.A.step, ↓binInt, ↓binStr, vopsE0, vopsE1, -vops, -Bool.exists_bool])))
      refine CallS.obj1 2 (read_ok xs q false) (by first | exact plain_d _ | exact plain_tup2 _ _ | exact plain_tup3 _ _ _) ⟨rfl, fun _ => rfl⟩ ⟨rfl, fun _ => rfl⟩ rfl (by rfl) (Subs.of (by simp)) ?_
      (try simp (implicitDefEqProofs := false) [↓callI, vopsN, vopsG, ↓step_slice, ↓Am.A.step, ↓binInt, ↓binStr, vopsE0, vopsE1, -vops, -Bool.exists_bool]; try simp (disch := omega) only [w64, wu64])
      repeat (first | refine AW.seq ?_ | refine AW.block ?_ | (refine AW.reg mix ?_; (simp (implicitDefEqProofs := false) [↓callI, vopsN, vopsG, ↓step_slice, ↓Am.A.step, ↓binInt, ↓binStr, vopsE0, vopsE1, -vops, -Bool.exists_bool]; try simp (disch := omega) only [w64, wu64])) | (refine need.of (by first | omega | kernel_rfl) ?_) | (refine AW.skip ?_; (try simp (implicitDefEqProofs := false) [↓callI, vopsN, vopsG, ↓step_slice, ↓Am.A.step, ↓binInt, ↓binStr, vopsE0, vopsE1, -vops, -Bool.exists_bool])) | (refine AW.ret ?_; (try simp (implicitDefEqProofs := false) [↓callI, vopsN, vopsG, ↓step_slice, ↓Am.A.step, ↓binInt, ↓binStr, vopsE0, vopsE1, -vops, -Bool.exists_bool])) | (refine AW.exit ?_; (try simp (implicitDefEqProofs := false) [↓callI, vopsN, vopsG, ↓step_slice, ↓Am.A.step, ↓binInt, ↓binStr, vopsE0, vopsE1, -vops, -Bool.exists_bool])))
    | false =>
      repeat (first | refine AW.seq ?_ | refine AW.block ?_ | (refine AW.reg mix ?_; (simp (implicitDefEqProofs := false) [↓callI, vopsN, vopsG, ↓step_slice, ↓Am.A.step, ↓binInt, ↓binStr, vopsE0, vopsE1, -vops, ew1, -Bool.exists_bool]; try simp (disch := omega) only [w64, wu64])) | (refine need.of (by first | omega | kernel_rfl) ?_) | (refine AW.skip ?_; (try simp (implicitDefEqProofs := false) [↓callI, vopsN, vopsG, ↓step_slice, ↓Am.A.step, ↓binInt, ↓binStr, vopsE0, vopsE1, -vops, ew1, -Bool.exists_bool])) | (refine AW.ret ?_; (try simp (implicitDefEqProofs := false) [↓callI, vopsN, vopsG, ↓step_slice, ↓Am.A.step, ↓binInt, ↓binStr, vopsE0, vopsE1, -vops, ew1, -Bool.exists_bool])) | (refine AW.exit ?_; (try simp (implicitDefEqProofs := false) [↓callI, vopsN, vopsG, ↓step_slice, ↓Am.A.step, ↓binInt, ↓binStr, vopsE0, vopsE1, -vops, ew1, -Bool.exists_bool])))
      refine CallS.obj1 2 (hbad) (by first | exact plain_d _ | exact plain_tup2 _ _ | exact plain_tup3 _ _ _) ⟨rfl, fun _ => rfl⟩ ⟨rfl, fun _ => rfl⟩ rfl (by rfl) (Subs.of (by simp)) ?_
      (try simp (implicitDefEqProofs := false) [↓callI, vopsN, vopsG, ↓step_slice, ↓Am.A.step, ↓binInt, ↓binStr, vopsE0, vopsE1, -vops, -Bool.exists_bool]; try simp (disch := omega) only [w64, wu64])
      repeat (first | refine AW.seq ?_ | refine AW.block ?_ | (refine AW.reg mix ?_; (simp (implicitDefEqProofs := false) [↓callI, vopsN, vopsG, ↓step_slice, ↓Am.A.step, ↓binInt, ↓binStr, vopsE0, vopsE1, -vops, -Bool.exists_bool]; try simp (disch := omega) only [w64, wu64])) | (refine need.of (by first | omega | kernel_rfl) ?_) | (refine AW.skip ?_; (try simp (implicitDefEqProofs := false) [↓callI, vopsN, vopsG, ↓step_slice, ↓Am.A.step, ↓binInt, ↓binStr, vopsE0, vopsE1, -vops, -Bool.exists_bool])) | (refine AW.ret ?_; (try simp (implicitDefEqProofs := false) [↓callI, vopsN, vopsG, ↓step_slice, ↓Am.A.step, ↓binInt, ↓binStr, vopsE0, vopsE1, -vops, -Bool.exists_bool])) | (refine AW.exit ?_; (try simp (implicitDefEqProofs := false) [↓callI, vopsN, vopsG, ↓step_slice, ↓Am.A.step, ↓binInt, ↓binStr, vopsE0, vopsE1, -vops, -Bool.exists_bool])))
      refine CallS.obj1 2 (read_ok xs q false) (by first | exact plain_d _ | exact plain_tup2 _ _ | exact plain_tup3 _ _ _) ⟨rfl, fun _ => rfl⟩ ⟨rfl, fun _ => rfl⟩ rfl (by rfl) (Subs.of (by simp)) ?_
      (try simp (implicitDefEqProofs := false) [↓callI, vopsN, vopsG, ↓step_slice, ↓Am.A.step, ↓binInt, ↓binStr, vopsE0, vopsE1, -vops, -Bool.exists_bool]; try simp (disch := omega) only [w64, wu64])
      repeat (first | refine AW.seq ?_ | refine AW.block ?_ | (refine AW.reg mix ?_; (simp (implicitDefEqProofs := false) [↓callI, vopsN, vopsG, ↓step_slice, ↓Am.A.step, ↓binInt, ↓binStr, vopsE0, vopsE1, -vops, -Bool.exists_bool]; try simp (disch := omega) only [w64, wu64])) | (refine need.of (by first | omega | kernel_rfl) ?_) | (refine AW.skip ?_; (try simp (implicitDefEqProofs := false) [↓callI, vopsN, vopsG, ↓step_slice, ↓Am.A.step, ↓binInt, ↓binStr, vopsE0, vopsE1, -vops, -Bool.exists_bool])) | (refine AW.ret ?_; (try simp (implicitDefEqProofs := false) [↓callI, vopsN, vopsG, ↓step_slice, ↓Am.A.step, ↓binInt, ↓binStr, vopsE0, vopsE1, -vops, -Bool.exists_bool])) | (refine AW.exit ?_; (try simp (implicitDefEqProofs := false) [↓callI, vopsN, vopsG, ↓step_slice, ↓Am.A.step, ↓binInt, ↓binStr, vopsE0, vopsE1, -vops, -Bool.exists_bool])))
  · have hlt : (r : Int) < Y := by omega
    have hlt' : r < Y := by omega
    have g1 : ¬ (x : Int) < r := by omega
    have g1' : ¬ x < r := by omega
    obtain ⟨m, hm⟩ : ∃ m, Y - r = m + 1 := ⟨Y - r - 1, by omega⟩
    have ew : IntKind.i64.wrap ((r : Int) + 1) = ((r + 1 : Nat) : Int) := by rw [w64 (by omega) (by omega)]; omega
    rw [hm] at hS
    repeat (first | refine AW.seq ?_ | refine AW.block ?_ | (refine AW.reg mix ?_; (simp (implicitDefEqProofs := false) [↓callI, vopsN, vopsG, ↓step_slice, ↓Am.A.step, ↓binInt, ↓binStr, vopsE0, vopsE1, -vops, hlt, hlt', -Bool.exists_bool]; try simp (disch := omega) only [w64, wu64])) | (refine need.of (by first | omega | kernel_rfl) ?_) | (refine AW.skip ?_; (try simp (implicitDefEqProofs := false) [↓callI, vopsN, vopsG, ↓step_slice, ↓Am.A.step, ↓binInt, ↓binStr, vopsE0, vopsE1, -vops, hlt, hlt', -Bool.exists_bool])) | (refine AW.ret ?_; (try simp (implicitDefEqProofs := false) [↓callI, vopsN, vopsG, ↓step_slice, ↓Am.A.step, ↓binInt, ↓binStr, vopsE0, vopsE1, -vops, hlt, hlt', -Bool.exists_bool])) | (refine AW.exit ?_; (try simp (implicitDefEqProofs := false) [↓callI, vopsN, vopsG, ↓step_slice, ↓Am.A.step, ↓binInt, ↓binStr, vopsE0, vopsE1, -vops, hlt, hlt', -Bool.exists_bool])))
    refine AW.cond rfl (fun h => ?_) (fun h => ?_)
    · clear h
      repeat (first | refine AW.seq ?_ | refine AW.block ?_ | (refine AW.reg mix ?_; (simp (implicitDefEqProofs := false) [↓callI, vopsN, vopsG, ↓step_slice, ↓Am.A.step, ↓binInt, ↓binStr, vopsE0, vopsE1, -vops, g1, g1', -Bool.exists_bool]; try simp (disch := omega) only [w64, wu64])) | (refine need.of (by first | omega | kernel_rfl) ?_) | (refine AW.skip ?_; (try simp (implicitDefEqProofs := false) [↓callI, vopsN, vopsG, ↓step_slice, ↓Am.A.step, ↓binInt, ↓binStr, vopsE0, vopsE1, -vops, g1, g1', -Bool.exists_bool])) | (refine AW.ret ?_; (try simp (implicitDefEqProofs := false) [↓callI, vopsN, vopsG, ↓step_slice, ↓Am.A.step, ↓binInt, ↓binStr, vopsE0, vopsE1, -vops, g1, g1', -Bool.exists_bool])) | (refine AW.exit ?_; (try simp (implicitDefEqProofs := false) [↓callI, vopsN, vopsG, ↓step_slice, ↓Am.A.step, ↓binInt, ↓binStr, vopsE0, vopsE1, -vops, g1, g1', -Bool.exists_bool])))
      refine AW.cond rfl (fun h => ?_) (fun h => ?_)
      · simp [g1, g1'] at h
      clear h
      by_cases hzt : x = T
      · subst hzt
        rw [mergeL, if_pos rfl] at hS
        repeat (first | refine AW.seq ?_ | refine AW.block ?_ | (refine AW.reg mix ?_; (simp (implicitDefEqProofs := false) [↓callI, vopsN, vopsG, ↓step_slice, ↓Am.A.step, ↓binInt, ↓binStr, vopsE0, vopsE1, -vops, -Bool.exists_bool]; try simp (disch := omega) only [w64, wu64])) | (refine need.of (by first | omega | kernel_rfl) ?_) | (refine AW.skip ?_; (try simp (implicitDefEqProofs := false) [↓callI, vopsN, vopsG, ↓step_slice, ↓Am.A.step, ↓binInt, ↓binStr, vopsE0, vopsE1, -vops, -Bool.exists_bool])) | (refine AW.ret ?_; (try simp (implicitDefEqProofs := false) [↓callI, vopsN, vopsG, ↓step_slice, ↓Am.A.step, ↓binInt, ↓binStr, vopsE0, vopsE1, -vops, -Bool.exists_bool])) | (refine AW.exit ?_; (try simp (implicitDefEqProofs := false) [↓callI, vopsN, vopsG, ↓step_slice, ↓Am.A.step, ↓binInt, ↓binStr, vopsE0, vopsE1, -vops, -Bool.exists_bool])))
        refine AW.cond rfl (fun h => ?_) (fun h => ?_)
        · repeat (first | refine AW.seq ?_ | refine AW.block ?_ | (refine AW.reg mix ?_; (simp (implicitDefEqProofs := false) [↓callI, vopsN, vopsG, ↓step_slice, ↓Am.A.step, ↓binInt, ↓binStr, vopsE0, vopsE1, -vops, ew, -Bool.exists_bool]; try simp (disch := omega) only [w64, wu64])) | (refine need.of (by first | omega | kernel_rfl) ?_) | (refine AW.skip ?_; (try simp (implicitDefEqProofs := false) [↓callI, vopsN, vopsG, ↓step_slice, ↓Am.A.step, ↓binInt, ↓binStr, vopsE0, vopsE1, -vops, ew, -Bool.exists_bool])) | (refine AW.ret ?_; (try simp (implicitDefEqProofs := false) [↓callI, vopsN, vopsG, ↓step_slice, ↓Am.A.step, ↓binInt, ↓binStr, vopsE0, vopsE1, -vops, ew, -Bool.exists_bool])) | (refine AW.exit ?_; (try simp (implicitDefEqProofs := false) [↓callI, vopsN, vopsG, ↓step_slice, ↓Am.A.step, ↓binInt, ↓binStr, vopsE0, vopsE1, -vops, ew, -Bool.exists_bool])))
          exact ⟨r + 1, x, true, p, ⟨by omega, by omega, by omega, hp, by rw [hS]; congr 1; omega⟩, by omega, by simp⟩
        · simp at h
      · rw [mergeL_step hzt] at hS
        have hzi : ¬ (x : Int) = T := by omega
        have hc := hcoin p x r hp (by omega) (by omega)
        have hv := hag x r p
        have hsm := has x p
        have hle := hae x r p hp
        have hsr : x = r → (ag x r p false).1 = true := by rintro rfl; exact hsm
        clear hsm
        generalize ag x r p false = R at *
        obtain ⟨R1, R2, R3, R4⟩ := R
        simp only at hc hv hle hsr hS
        have hv2 := hv.le
        simp only at hv2
        obtain ⟨Z, hZ⟩ : ∃ Z, Z = R3 - p := ⟨_, rfl⟩
        rw [← hZ] at hc
        have e3 : IntKind.i64.wrap ((p : Int) + (Z : Int)) = (R3 : Int) := by rw [w64 (by omega) (by omega)]; omega
        repeat (first | refine AW.seq ?_ | refine AW.block ?_ | (refine AW.reg mix ?_; (simp (implicitDefEqProofs := false) [↓callI, vopsN, vopsG, ↓step_slice, ↓Am.A.step, ↓binInt, ↓binStr, vopsE0, vopsE1, -vops, hzi, hzt, -Bool.exists_bool]; try simp (disch := omega) only [w64, wu64])) | (refine need.of (by first | omega | kernel_rfl) ?_) | (refine AW.skip ?_; (try simp (implicitDefEqProofs := false) [↓callI, vopsN, vopsG, ↓step_slice, ↓Am.A.step, ↓binInt, ↓binStr, vopsE0, vopsE1, -vops, hzi, hzt, -Bool.exists_bool])) | (refine AW.ret ?_; (try simp (implicitDefEqProofs := false) [↓callI, vopsN, vopsG, ↓step_slice, ↓Am.A.step, ↓binInt, ↓binStr, vopsE0, vopsE1, -vops, hzi, hzt, -Bool.exists_bool])) | (refine AW.exit ?_; (try simp (implicitDefEqProofs := false) [↓callI, vopsN, vopsG, ↓step_slice, ↓Am.A.step, ↓binInt, ↓binStr, vopsE0, vopsE1, -vops, hzi, hzt, -Bool.exists_bool])))
        refine AW.cond rfl (fun h => ?_) (fun h => ?_)
        · simp [hzi, hzt] at h
        repeat (first | refine AW.seq ?_ | refine AW.block ?_ | (refine AW.reg mix ?_; (simp (implicitDefEqProofs := false) [↓callI, vopsN, vopsG, ↓step_slice, ↓Am.A.step, ↓binInt, ↓binStr, vopsE0, vopsE1, -vops, -Bool.exists_bool]; try simp (disch := omega) only [w64, wu64])) | (refine need.of (by first | omega | kernel_rfl) ?_) | (refine AW.skip ?_; (try simp (implicitDefEqProofs := false) [↓callI, vopsN, vopsG, ↓step_slice, ↓Am.A.step, ↓binInt, ↓binStr, vopsE0, vopsE1, -vops, -Bool.exists_bool])) | (refine AW.ret ?_; (try simp (implicitDefEqProofs := false) [↓callI, vopsN, vopsG, ↓step_slice, ↓Am.A.step, ↓binInt, ↓binStr, vopsE0, vopsE1, -vops, -Bool.exists_bool])) | (refine AW.exit ?_; (try simp (implicitDefEqProofs := false) [↓callI, vopsN, vopsG, ↓step_slice, ↓Am.A.step, ↓binInt, ↓binStr, vopsE0, vopsE1, -vops, -Bool.exists_bool])))
        refine CallS.pure (hc) (by first | exact plain_d _ | exact plain_tup2 _ _ | exact plain_tup3 _ _ _) rfl (fun _ => rfl) (Subs.refl _) ?_
        (try simp (implicitDefEqProofs := false) [↓callI, vopsN, vopsG, ↓step_slice, ↓Am.A.step, ↓binInt, ↓binStr, vopsE0, vopsE1, -vops, e3, -Bool.exists_bool]; try simp (disch := omega) only [w64, wu64])
        repeat (first | refine AW.seq ?_ | refine AW.block ?_ | (refine AW.reg mix ?_; (simp (implicitDefEqProofs := false) [↓callI, vopsN, vopsG, ↓step_slice, ↓Am.A.step, ↓binInt, ↓binStr, vopsE0, vopsE1, -vops, e3, -Bool.exists_bool]; try simp (disch := omega) only [w64, wu64])) | (refine need.of (by first | omega | kernel_rfl) ?_) | (refine AW.skip ?_; (try simp (implicitDefEqProofs := false) [↓callI, vopsN, vopsG, ↓step_slice, ↓Am.A.step, ↓binInt, ↓binStr, vopsE0, vopsE1, -vops, e3, -Bool.exists_bool])) | (refine AW.ret ?_; (try simp (implicitDefEqProofs := false) [↓callI, vopsN, vopsG, ↓step_slice, ↓Am.A.step, ↓binInt, ↓binStr, vopsE0, vopsE1, -vops, e3, -Bool.exists_bool])) | (refine AW.exit ?_; (try simp (implicitDefEqProofs := false) [↓callI, vopsN, vopsG, ↓step_slice, ↓Am.A.step, ↓binInt, ↓binStr, vopsE0, vopsE1, -vops, e3, -Bool.exists_bool])))
        by_cases hR2 : R2 = 0
        · subst hR2
          rw [if_pos rfl] at hS
          have hd := hv.ok rfl
          simp only at hd
          subst hd
          refine AW.cond rfl (fun h => ?_) (fun h => ?_)
          · simp at h
          repeat (first | refine AW.seq ?_ | refine AW.block ?_ | (refine AW.reg mix ?_; (simp (implicitDefEqProofs := false) [↓callI, vopsN, vopsG, ↓step_slice, ↓Am.A.step, ↓binInt, ↓binStr, vopsE0, vopsE1, -vops, -Bool.exists_bool]; try simp (disch := omega) only [w64, wu64])) | (refine need.of (by first | omega | kernel_rfl) ?_) | (refine AW.skip ?_; (try simp (implicitDefEqProofs := false) [↓callI, vopsN, vopsG, ↓step_slice, ↓Am.A.step, ↓binInt, ↓binStr, vopsE0, vopsE1, -vops, -Bool.exists_bool])) | (refine AW.ret ?_; (try simp (implicitDefEqProofs := false) [↓callI, vopsN, vopsG, ↓step_slice, ↓Am.A.step, ↓binInt, ↓binStr, vopsE0, vopsE1, -vops, -Bool.exists_bool])) | (refine AW.exit ?_; (try simp (implicitDefEqProofs := false) [↓callI, vopsN, vopsG, ↓step_slice, ↓Am.A.step, ↓binInt, ↓binStr, vopsE0, vopsE1, -vops, -Bool.exists_bool])))
          cases R1 with
          | true =>
            have ex : IntKind.i64.wrap ((x : Int) + 1) = ((x + 1 : Nat) : Int) := by rw [w64 (by omega) (by omega)]; omega
            refine AW.cond rfl (fun h => ?_) (fun h => ?_)
            · repeat (first | refine AW.seq ?_ | refine AW.block ?_ | (refine AW.reg mix ?_; (simp (implicitDefEqProofs := false) [↓callI, vopsN, vopsG, ↓step_slice, ↓Am.A.step, ↓binInt, ↓binStr, vopsE0, vopsE1, -vops, ew, ex, -Bool.exists_bool]; try simp (disch := omega) only [w64, wu64])) | (refine need.of (by first | omega | kernel_rfl) ?_) | (refine AW.skip ?_; (try simp (implicitDefEqProofs := false) [↓callI, vopsN, vopsG, ↓step_slice, ↓Am.A.step, ↓binInt, ↓binStr, vopsE0, vopsE1, -vops, ew, ex, -Bool.exists_bool])) | (refine AW.ret ?_; (try simp (implicitDefEqProofs := false) [↓callI, vopsN, vopsG, ↓step_slice, ↓Am.A.step, ↓binInt, ↓binStr, vopsE0, vopsE1, -vops, ew, ex, -Bool.exists_bool])) | (refine AW.exit ?_; (try simp (implicitDefEqProofs := false) [↓callI, vopsN, vopsG, ↓step_slice, ↓Am.A.step, ↓binInt, ↓binStr, vopsE0, vopsE1, -vops, ew, ex, -Bool.exists_bool])))
              rw [if_pos rfl] at hS
              exact ⟨r + 1, x + 1, f, R3, ⟨by omega, by omega, by omega, hle, by rw [hS]; congr 1; omega⟩, by omega, by simp, by simp⟩
            · simp at h
          | false =>
            have hxr : x ≠ r := fun h => by have := hsr h; cases this
            refine AW.cond rfl (fun h => ?_) (fun h => ?_)
            · simp at h
            · repeat (first | refine AW.seq ?_ | refine AW.block ?_ | (refine AW.reg mix ?_; (simp (implicitDefEqProofs := false) [↓callI, vopsN, vopsG, ↓step_slice, ↓Am.A.step, ↓binInt, ↓binStr, vopsE0, vopsE1, -vops, ew, -Bool.exists_bool]; try simp (disch := omega) only [w64, wu64])) | (refine need.of (by first | omega | kernel_rfl) ?_) | (refine AW.skip ?_; (try simp (implicitDefEqProofs := false) [↓callI, vopsN, vopsG, ↓step_slice, ↓Am.A.step, ↓binInt, ↓binStr, vopsE0, vopsE1, -vops, ew, -Bool.exists_bool])) | (refine AW.ret ?_; (try simp (implicitDefEqProofs := false) [↓callI, vopsN, vopsG, ↓step_slice, ↓Am.A.step, ↓binInt, ↓binStr, vopsE0, vopsE1, -vops, ew, -Bool.exists_bool])) | (refine AW.exit ?_; (try simp (implicitDefEqProofs := false) [↓callI, vopsN, vopsG, ↓step_slice, ↓Am.A.step, ↓binInt, ↓binStr, vopsE0, vopsE1, -vops, ew, -Bool.exists_bool])))
              rw [if_neg (by simp)] at hS
              exact ⟨r + 1, x, f, R3, ⟨by omega, by omega, by omega, hle, by rw [hS]; congr 1; omega⟩, by omega, by simp, by simp⟩
        · rw [if_neg hR2] at hS
          subst hS
          simp only at hE
          obtain ⟨rfl, rfl⟩ := hno (by rw [hE]; exact hR2)
          subst hE
          refine AW.cond rfl (fun h => ?_) (fun h => ?_)
          · repeat (first | refine AW.seq ?_ | refine AW.block ?_ | (refine AW.reg mix ?_; (simp (implicitDefEqProofs := false) [↓callI, vopsN, vopsG, ↓step_slice, ↓Am.A.step, ↓binInt, ↓binStr, vopsE0, vopsE1, -vops, -Bool.exists_bool]; try simp (disch := omega) only [w64, wu64])) | (refine need.of (by first | omega | kernel_rfl) ?_) | (refine AW.skip ?_; (try simp (implicitDefEqProofs := false) [↓callI, vopsN, vopsG, ↓step_slice, ↓Am.A.step, ↓binInt, ↓binStr, vopsE0, vopsE1, -vops, -Bool.exists_bool])) | (refine AW.ret ?_; (try simp (implicitDefEqProofs := false) [↓callI, vopsN, vopsG, ↓step_slice, ↓Am.A.step, ↓binInt, ↓binStr, vopsE0, vopsE1, -vops, -Bool.exists_bool])) | (refine AW.exit ?_; (try simp (implicitDefEqProofs := false) [↓callI, vopsN, vopsG, ↓step_slice, ↓Am.A.step, ↓binInt, ↓binStr, vopsE0, vopsE1, -vops, -Bool.exists_bool])))
          · simp [hR2] at h
    · simp [hlt'] at h
end
end Go.Proofs.YtakjegcjeffmgaaGreat.Am
namespace Go.Proofs.YtakjegcjeffmgaaGreat.Am
section
open Go.RowKit
set_option maxRecDepth 100000
set_option linter.unusedSimpArgs false
set_option linter.unusedVariables false

theorem yshift0 : ∀ a, a < 3 → (placeY a 0).shift = 0 := by decide

theorem stAg {k a w : Nat} (h : GoodS k a w) (cs : List Bool) (x p : Nat) (dd : Bool) (hx : x ≤ 15) : stOf cs k a x p dd = agOf cs k a x 0 p dd := by
  obtain ⟨h, -⟩ := h
  rcases h with ⟨rfl, h1, h2⟩ | ⟨rfl, h1⟩ | ⟨rfl, h1, h2⟩
  · simp only [stOf, agOf, stepM]
    have : wrongM (a : Int) [(x : Int)] = 0 := by
      unfold wrongM; rw [if_pos (by omega)]; simp [okK]; omega
    simp [this]
  · simp only [stOf, agOf, stepG]
    have : wrongZ (a : Int) [(x : Int)] = 0 := wrong_good (by omega) (by omega)
    simp [this]
  · simp only [stOf, agOf, stepYG]
    have hy := yshift0 a (by omega)
    have he : atE (a : Int) (x : Int) = 0 := by unfold atE; rw [if_pos (by omega), if_pos (by omega)]
    simp [hy, he, atP]

theorem dead_ok (cs : List Bool) (p : Nat) (dd : Bool) : Eqn Tryz.prog n_tape_Tape_Dead [.p 0 0] [tapeO cs p dd] (.d (.bool dd)) [tapeO cs p dd] := by
  refine Eqn.obj1 r_tape_Tape_Dead (plain_d _) ⟨rfl, fun _ => rfl⟩ ?_
  simp only [c_tape_Tape_Dead, tapeO]
  repeat (first | refine AW.seq ?_ | refine AW.block ?_ | (refine AW.reg mix ?_; (simp (implicitDefEqProofs := false) [↓callI, vopsN, vopsG, ↓step_slice, ↓Am.A.step, ↓binInt, ↓binStr, vopsE0, vopsE1, -vops]; try simp (disch := omega) only [w64, wu64])) | (refine need.of (by first | omega | kernel_rfl) ?_) | (refine AW.skip ?_; (try simp (implicitDefEqProofs := false) [↓callI, vopsN, vopsG, ↓step_slice, ↓Am.A.step, ↓binInt, ↓binStr, vopsE0, vopsE1, -vops])) | (refine AW.ret ?_; (try simp (implicitDefEqProofs := false) [↓callI, vopsN, vopsG, ↓step_slice, ↓Am.A.step, ↓binInt, ↓binStr, vopsE0, vopsE1, -vops])) | (refine AW.exit ?_; (try simp (implicitDefEqProofs := false) [↓callI, vopsN, vopsG, ↓step_slice, ↓Am.A.step, ↓binInt, ↓binStr, vopsE0, vopsE1, -vops])))


theorem dstep_top (cs : List Bool) (k a w : Int) (T : Nat) (htop : Eqn Tryz.prog n_Tref15_Top [.d (parD k a w)] [] (.d (.int .i64 T)) []) (f : Bool) (p : Nat) : Eqn Tryz.prog n_Tlaw15_step [.d (parD k a w), .d (.agg [.int .i64 T, .bool f]), .d (BL cs), .d (.int .i64 p)] [] (.tup [.d (.agg [.int .i64 T, .bool true]), .d (.int .i64 p), .d (.int .i64 0)]) [] := by
  refine Eqn.pure r_Tlaw15_step (plain_tup3 _ _ _) ?_
  simp only [c_Tlaw15_step, parD] at htop ⊢
  repeat (first | refine AW.seq ?_ | refine AW.block ?_ | (refine AW.reg mix ?_; (simp (implicitDefEqProofs := false) [↓callI, vopsN, vopsG, ↓step_slice, ↓Am.A.step, ↓binInt, ↓binStr, vopsE0, vopsE1, -vops, -Bool.exists_bool]; try simp (disch := omega) only [w64, wu64])) | (refine need.of (by first | omega | kernel_rfl) ?_) | (refine AW.skip ?_; (try simp (implicitDefEqProofs := false) [↓callI, vopsN, vopsG, ↓step_slice, ↓Am.A.step, ↓binInt, ↓binStr, vopsE0, vopsE1, -vops, -Bool.exists_bool])) | (refine AW.ret ?_; (try simp (implicitDefEqProofs := false) [↓callI, vopsN, vopsG, ↓step_slice, ↓Am.A.step, ↓binInt, ↓binStr, vopsE0, vopsE1, -vops, -Bool.exists_bool])) | (refine AW.exit ?_; (try simp (implicitDefEqProofs := false) [↓callI, vopsN, vopsG, ↓step_slice, ↓Am.A.step, ↓binInt, ↓binStr, vopsE0, vopsE1, -vops, -Bool.exists_bool])))
  refine CallS.pure (htop) (by first | exact plain_d _ | exact plain_tup2 _ _ | exact plain_tup3 _ _ _) rfl (fun _ => rfl) (Subs.refl _) ?_
  (try simp (implicitDefEqProofs := false) [↓callI, vopsN, vopsG, ↓step_slice, ↓Am.A.step, ↓binInt, ↓binStr, vopsE0, vopsE1, -vops, -Bool.exists_bool]; try simp (disch := omega) only [w64, wu64])
  repeat (first | refine AW.seq ?_ | refine AW.block ?_ | (refine AW.reg mix ?_; (simp (implicitDefEqProofs := false) [↓callI, vopsN, vopsG, ↓step_slice, ↓Am.A.step, ↓binInt, ↓binStr, vopsE0, vopsE1, -vops, -Bool.exists_bool]; try simp (disch := omega) only [w64, wu64])) | (refine need.of (by first | omega | kernel_rfl) ?_) | (refine AW.skip ?_; (try simp (implicitDefEqProofs := false) [↓callI, vopsN, vopsG, ↓step_slice, ↓Am.A.step, ↓binInt, ↓binStr, vopsE0, vopsE1, -vops, -Bool.exists_bool])) | (refine AW.ret ?_; (try simp (implicitDefEqProofs := false) [↓callI, vopsN, vopsG, ↓step_slice, ↓Am.A.step, ↓binInt, ↓binStr, vopsE0, vopsE1, -vops, -Bool.exists_bool])) | (refine AW.exit ?_; (try simp (implicitDefEqProofs := false) [↓callI, vopsN, vopsG, ↓step_slice, ↓Am.A.step, ↓binInt, ↓binStr, vopsE0, vopsE1, -vops, -Bool.exists_bool])))
  refine AW.cond rfl (fun h => ?_) (fun h => ?_)
  · repeat (first | refine AW.seq ?_ | refine AW.block ?_ | (refine AW.reg mix ?_; (simp (implicitDefEqProofs := false) [↓callI, vopsN, vopsG, ↓step_slice, ↓Am.A.step, ↓binInt, ↓binStr, vopsE0, vopsE1, -vops, -Bool.exists_bool]; try simp (disch := omega) only [w64, wu64])) | (refine need.of (by first | omega | kernel_rfl) ?_) | (refine AW.skip ?_; (try simp (implicitDefEqProofs := false) [↓callI, vopsN, vopsG, ↓step_slice, ↓Am.A.step, ↓binInt, ↓binStr, vopsE0, vopsE1, -vops, -Bool.exists_bool])) | (refine AW.ret ?_; (try simp (implicitDefEqProofs := false) [↓callI, vopsN, vopsG, ↓step_slice, ↓Am.A.step, ↓binInt, ↓binStr, vopsE0, vopsE1, -vops, -Bool.exists_bool])) | (refine AW.exit ?_; (try simp (implicitDefEqProofs := false) [↓callI, vopsN, vopsG, ↓step_slice, ↓Am.A.step, ↓binInt, ↓binStr, vopsE0, vopsE1, -vops, -Bool.exists_bool])))
  · simp at h

theorem dstep_on (cs : List Bool) (k a w : Int) (T : Nat) (htop : Eqn Tryz.prog n_Tref15_Top [.d (parD k a w)] [] (.d (.int .i64 T)) []) (x : Nat) (hx : x < T) (hT : T ≤ 15) (f : Bool) (p : Nat) (hp : p ≤ cs.length) (hn : cs.length ≤ 4000000) (R : Bool × Int × Nat × Bool) (hR : R.2.2.1 ≤ cs.length) (hl : p ≤ R.2.2.1)
    (hc : Eqn Tryz.prog n_Tlaw15_coin [.d (parD k a w), .d (BL cs), .d (.int .i64 p), .d (.int .i64 x), .d (.int .i64 0)] [] (.d (outD p R)) []) : Eqn Tryz.prog n_Tlaw15_step [.d (parD k a w), .d (.agg [.int .i64 x, .bool f]), .d (BL cs), .d (.int .i64 p)] [] (.tup [.d (.agg [.int .i64 (if R.1 then x + 1 else x : Nat), .bool f]), .d (.int .i64 (R.2.2.1 : Nat)), .d (.int .i64 R.2.1)]) [] := by
  refine Eqn.pure r_Tlaw15_step (plain_tup3 _ _ _) ?_
  obtain ⟨R1, R2, R3, R4⟩ := R
  simp only [c_Tlaw15_step, parD, outD] at htop hc hl hR ⊢
  obtain ⟨Z, hZ⟩ : ∃ Z, Z = R3 - p := ⟨_, rfl⟩
  rw [← hZ] at hc
  have e3 : IntKind.i64.wrap ((p : Int) + (Z : Int)) = (R3 : Int) := by rw [w64 (by omega) (by omega)]; omega
  have ex : IntKind.i64.wrap ((x : Int) + 1) = ((x + 1 : Nat) : Int) := by rw [w64 (by omega) (by omega)]; omega
  have g : ¬ (x : Int) = T := by omega
  have g' : ¬ x = T := by omega
  repeat (first | refine AW.seq ?_ | refine AW.block ?_ | (refine AW.reg mix ?_; (simp (implicitDefEqProofs := false) [↓callI, vopsN, vopsG, ↓step_slice, ↓Am.A.step, ↓binInt, ↓binStr, vopsE0, vopsE1, -vops, g, g', -Bool.exists_bool]; try simp (disch := omega) only [w64, wu64])) | (refine need.of (by first | omega | kernel_rfl) ?_) | (refine AW.skip ?_; (try simp (implicitDefEqProofs := false) [↓callI, vopsN, vopsG, ↓step_slice, ↓Am.A.step, ↓binInt, ↓binStr, vopsE0, vopsE1, -vops, g, g', -Bool.exists_bool])) | (refine AW.ret ?_; (try simp (implicitDefEqProofs := false) [↓callI, vopsN, vopsG, ↓step_slice, ↓Am.A.step, ↓binInt, ↓binStr, vopsE0, vopsE1, -vops, g, g', -Bool.exists_bool])) | (refine AW.exit ?_; (try simp (implicitDefEqProofs := false) [↓callI, vopsN, vopsG, ↓step_slice, ↓Am.A.step, ↓binInt, ↓binStr, vopsE0, vopsE1, -vops, g, g', -Bool.exists_bool])))
  refine CallS.pure (htop) (by first | exact plain_d _ | exact plain_tup2 _ _ | exact plain_tup3 _ _ _) rfl (fun _ => rfl) (Subs.refl _) ?_
  (try simp (implicitDefEqProofs := false) [↓callI, vopsN, vopsG, ↓step_slice, ↓Am.A.step, ↓binInt, ↓binStr, vopsE0, vopsE1, -vops, g, g', -Bool.exists_bool]; try simp (disch := omega) only [w64, wu64])
  repeat (first | refine AW.seq ?_ | refine AW.block ?_ | (refine AW.reg mix ?_; (simp (implicitDefEqProofs := false) [↓callI, vopsN, vopsG, ↓step_slice, ↓Am.A.step, ↓binInt, ↓binStr, vopsE0, vopsE1, -vops, g, g', -Bool.exists_bool]; try simp (disch := omega) only [w64, wu64])) | (refine need.of (by first | omega | kernel_rfl) ?_) | (refine AW.skip ?_; (try simp (implicitDefEqProofs := false) [↓callI, vopsN, vopsG, ↓step_slice, ↓Am.A.step, ↓binInt, ↓binStr, vopsE0, vopsE1, -vops, g, g', -Bool.exists_bool])) | (refine AW.ret ?_; (try simp (implicitDefEqProofs := false) [↓callI, vopsN, vopsG, ↓step_slice, ↓Am.A.step, ↓binInt, ↓binStr, vopsE0, vopsE1, -vops, g, g', -Bool.exists_bool])) | (refine AW.exit ?_; (try simp (implicitDefEqProofs := false) [↓callI, vopsN, vopsG, ↓step_slice, ↓Am.A.step, ↓binInt, ↓binStr, vopsE0, vopsE1, -vops, g, g', -Bool.exists_bool])))
  refine AW.cond rfl (fun h => ?_) (fun h => ?_)
  · simp [g, g'] at h
  repeat (first | refine AW.seq ?_ | refine AW.block ?_ | (refine AW.reg mix ?_; (simp (implicitDefEqProofs := false) [↓callI, vopsN, vopsG, ↓step_slice, ↓Am.A.step, ↓binInt, ↓binStr, vopsE0, vopsE1, -vops, -Bool.exists_bool]; try simp (disch := omega) only [w64, wu64])) | (refine need.of (by first | omega | kernel_rfl) ?_) | (refine AW.skip ?_; (try simp (implicitDefEqProofs := false) [↓callI, vopsN, vopsG, ↓step_slice, ↓Am.A.step, ↓binInt, ↓binStr, vopsE0, vopsE1, -vops, -Bool.exists_bool])) | (refine AW.ret ?_; (try simp (implicitDefEqProofs := false) [↓callI, vopsN, vopsG, ↓step_slice, ↓Am.A.step, ↓binInt, ↓binStr, vopsE0, vopsE1, -vops, -Bool.exists_bool])) | (refine AW.exit ?_; (try simp (implicitDefEqProofs := false) [↓callI, vopsN, vopsG, ↓step_slice, ↓Am.A.step, ↓binInt, ↓binStr, vopsE0, vopsE1, -vops, -Bool.exists_bool])))
  refine CallS.pure (hc) (by first | exact plain_d _ | exact plain_tup2 _ _ | exact plain_tup3 _ _ _) rfl (fun _ => rfl) (Subs.refl _) ?_
  (try simp (implicitDefEqProofs := false) [↓callI, vopsN, vopsG, ↓step_slice, ↓Am.A.step, ↓binInt, ↓binStr, vopsE0, vopsE1, -vops, -Bool.exists_bool]; try simp (disch := omega) only [w64, wu64])
  repeat (first | refine AW.seq ?_ | refine AW.block ?_ | (refine AW.reg mix ?_; (simp (implicitDefEqProofs := false) [↓callI, vopsN, vopsG, ↓step_slice, ↓Am.A.step, ↓binInt, ↓binStr, vopsE0, vopsE1, -vops, -Bool.exists_bool]; try simp (disch := omega) only [w64, wu64])) | (refine need.of (by first | omega | kernel_rfl) ?_) | (refine AW.skip ?_; (try simp (implicitDefEqProofs := false) [↓callI, vopsN, vopsG, ↓step_slice, ↓Am.A.step, ↓binInt, ↓binStr, vopsE0, vopsE1, -vops, -Bool.exists_bool])) | (refine AW.ret ?_; (try simp (implicitDefEqProofs := false) [↓callI, vopsN, vopsG, ↓step_slice, ↓Am.A.step, ↓binInt, ↓binStr, vopsE0, vopsE1, -vops, -Bool.exists_bool])) | (refine AW.exit ?_; (try simp (implicitDefEqProofs := false) [↓callI, vopsN, vopsG, ↓step_slice, ↓Am.A.step, ↓binInt, ↓binStr, vopsE0, vopsE1, -vops, -Bool.exists_bool])))
  cases R1 with
  | true =>
    refine AW.cond rfl (fun h => ?_) (fun h => ?_)
    · repeat (first | refine AW.seq ?_ | refine AW.block ?_ | (refine AW.reg mix ?_; (simp (implicitDefEqProofs := false) [↓callI, vopsN, vopsG, ↓step_slice, ↓Am.A.step, ↓binInt, ↓binStr, vopsE0, vopsE1, -vops, e3, ex, -Bool.exists_bool]; try simp (disch := omega) only [w64, wu64])) | (refine need.of (by first | omega | kernel_rfl) ?_) | (refine AW.skip ?_; (try simp (implicitDefEqProofs := false) [↓callI, vopsN, vopsG, ↓step_slice, ↓Am.A.step, ↓binInt, ↓binStr, vopsE0, vopsE1, -vops, e3, ex, -Bool.exists_bool])) | (refine AW.ret ?_; (try simp (implicitDefEqProofs := false) [↓callI, vopsN, vopsG, ↓step_slice, ↓Am.A.step, ↓binInt, ↓binStr, vopsE0, vopsE1, -vops, e3, ex, -Bool.exists_bool])) | (refine AW.exit ?_; (try simp (implicitDefEqProofs := false) [↓callI, vopsN, vopsG, ↓step_slice, ↓Am.A.step, ↓binInt, ↓binStr, vopsE0, vopsE1, -vops, e3, ex, -Bool.exists_bool])))
    · simp at h
  | false =>
    refine AW.cond rfl (fun h => ?_) (fun h => ?_)
    · simp at h
    · repeat (first | refine AW.seq ?_ | refine AW.block ?_ | (refine AW.reg mix ?_; (simp (implicitDefEqProofs := false) [↓callI, vopsN, vopsG, ↓step_slice, ↓Am.A.step, ↓binInt, ↓binStr, vopsE0, vopsE1, -vops, e3, -Bool.exists_bool]; try simp (disch := omega) only [w64, wu64])) | (refine need.of (by first | omega | kernel_rfl) ?_) | (refine AW.skip ?_; (try simp (implicitDefEqProofs := false) [↓callI, vopsN, vopsG, ↓step_slice, ↓Am.A.step, ↓binInt, ↓binStr, vopsE0, vopsE1, -vops, e3, -Bool.exists_bool])) | (refine AW.ret ?_; (try simp (implicitDefEqProofs := false) [↓callI, vopsN, vopsG, ↓step_slice, ↓Am.A.step, ↓binInt, ↓binStr, vopsE0, vopsE1, -vops, e3, -Bool.exists_bool])) | (refine AW.exit ?_; (try simp (implicitDefEqProofs := false) [↓callI, vopsN, vopsG, ↓step_slice, ↓Am.A.step, ↓binInt, ↓binStr, vopsE0, vopsE1, -vops, e3, -Bool.exists_bool])))
end
end Go.Proofs.YtakjegcjeffmgaaGreat.Am
namespace Go.Proofs.YtakjegcjeffmgaaGreat.Am
section
open Go.RowKit
set_option maxRecDepth 100000
set_option linter.unusedSimpArgs false
set_option linter.unusedVariables false

theorem addL_step {st : StepT} {top n x : Nat} {f : Bool} {p : Nat} (hx : x ≠ top) : ∃ z, z = (if (st x p false).1 then x + 1 else x) ∧ addL st top (n + 1) x f p false = if (st x p false).2.1 = 0 then addL st top n z f (st x p false).2.2.1 (st x p false).2.2.2 else ((st x p false).2.1, x, f, (st x p false).2.2.1, (st x p false).2.2.2) := by
  refine ⟨_, rfl, ?_⟩
  rw [addL, if_neg hx]
  by_cases he : (st x p false).2.1 = 0
  · simp only [if_pos he]
    by_cases hb : f = true ∧ (if (st x p false).1 then x + 1 else x) = top
    · rw [if_pos hb, hb.2, hb.1, addL_top]
    · rw [if_neg hb]
  · simp only [if_neg he]

set_option maxHeartbeats 4000000 in
theorem chainAdds_ok (cs : List Bool) (k a w n0 n1 n2 : Int) (hn : cs.length ≤ 9223372036854775807) : Eqn Tryz.prog n_Tlaw15_ChainAdds [.d (parD k a w), .d (BL cs), .d (.agg [.int .i64 n0, .int .i64 n1, .int .i64 n2])] [] (.d (.bool true)) [] := by
  refine Eqn.pure r_Tlaw15_ChainAdds (plain_d _) ?_
  obtain ⟨K, A, W, hg, hsm⟩ := csmall_ok k a w
  obtain ⟨N0, b0, c0, -⟩ := and_b n0 15 (by omega)
  obtain ⟨N1, b1, c1, -⟩ := and_b n1 4095 (by omega)
  replace b0 : bits BinOp.and IntKind.i64 n0 15 = N0 := b0
  replace b1 : bits BinOp.and IntKind.i64 n1 4095 = N1 := b1
  obtain ⟨F0, hF0⟩ := bit_b n2
  have hfew := few_ok cs 200 hn (by omega)
  have hl : (cs.take 200).length ≤ 200 := by rw [List.length_take]; omega
  generalize cs.take 200 = xs at hfew hl
  have hown := own_ok K A W
  have htop := rtop_ok K A W (by have := hg.2; omega)
  have hadd := add_good hg xs (by omega)
  have hbad := fun p dd x n f h => add_bad hg xs p dd x n f h
  have hmany := fun p dd x n f h0 h1 h2 => add_many hg xs p dd x n f h0 h1 h2
  have hW : 2 ^ W - 1 ≤ 15 := by have := Nat.pow_le_pow_right (n := 2) (by omega) hg.2.2; omega
  have hW1 : 1 ≤ 2 ^ W - 1 := by have := Nat.pow_le_pow_right (n := 2) (by omega) hg.2.1; omega
  have hstep1 := fun f p => dstep_top xs K A W (2 ^ W - 1) htop f p
  have hstep2 := fun x hx f p hp => dstep_on xs K A W (2 ^ W - 1) htop x hx hW f p hp (by omega) _ (agOf_le hp) (agOf_live xs K A x 0 p).le (coin_ok hg xs (by omega) p x 0 hp hx (by omega))
  have hag : ∀ x p, Live p (agOf xs K A x 0 p false) := fun x p => agOf_live xs K A x 0 p
  have hae : ∀ x p, p ≤ xs.length → (agOf xs K A x 0 p false).2.2.1 ≤ xs.length := fun x p h => agOf_le h
  have hst : ∀ x p, x ≤ 15 → stOf xs K A x p false = agOf xs K A x 0 p false := fun x p h => stAg hg xs x p false h
  simp only [c_Tlaw15_ChainAdds, parD] at hsm hown htop hadd hbad hmany hstep1 hstep2 ⊢
  generalize hT : 2 ^ W - 1 = T at *
  generalize stOf xs K A = st at *
  have ew1 : IntKind.i64.wrap ((T : Int) + 1) = (T : Int) + 1 := w64 (by omega) (by omega)
  have et0 : ((N0 : Int)).tmod ((T : Int) + 1) = ((N0 % (T + 1) : Nat) : Int) := by
    rw [Int.tmod_eq_emod_of_nonneg (by omega)]; norm_cast
  have hx0 : N0 % (T + 1) ≤ T := by have := Nat.mod_lt N0 (show 0 < T + 1 by omega); omega
  obtain ⟨Y, hY⟩ : ∃ Y, Y = N1 % 41 := ⟨_, rfl⟩
  have et1 : ((N1 : Int)).tmod 41 = (Y : Int) := by
    rw [Int.tmod_eq_emod_of_nonneg (by omega)]; omega
  have hx1 : Y ≤ 40 := by omega
  have et2 : (N1 : Int) % 41 = (Y : Int) := by omega
  clear hY
  generalize N0 % (T + 1) = X at *
  obtain ⟨S, hS⟩ : ∃ S, S = addL st T Y X F0 0 false := ⟨_, rfl⟩
  have h1 := hadd X hx0 F0 Y (by omega) 0 false (Nat.zero_le _) S hS
  clear hadd
  obtain ⟨gK, hgK⟩ : ∃ g : Nat, g = if S.1 = 0 then S.2.1 else X := ⟨_, rfl⟩
  obtain ⟨gF, hgF⟩ : ∃ g : Bool, g = if S.1 = 0 then S.2.2.1 else F0 := ⟨_, rfl⟩
  rw [← hgK, ← hgF] at h1
  obtain ⟨E, hE⟩ : ∃ E, E = S.1 := ⟨_, rfl⟩
  obtain ⟨q, hq⟩ : ∃ q, q = S.2.2.2.1 := ⟨_, rfl⟩
  obtain ⟨dd, hdd⟩ : ∃ q, q = S.2.2.2.2 := ⟨_, rfl⟩
  rw [← hE, ← hq, ← hdd] at h1
  rw [← hE] at hgK hgF
  have hok : E = 0 → gK = S.2.1 ∧ gF = S.2.2.1 := fun h => by rw [if_pos h] at hgK hgF; exact ⟨hgK, hgF⟩
  have hno : E ≠ 0 → gK = X ∧ gF = F0 := fun h => by rw [if_neg h] at hgK hgF; exact ⟨hgK, hgF⟩
  clear hgK hgF
  repeat (first | refine AW.seq ?_ | refine AW.block ?_ | (refine AW.reg mix ?_; (simp (implicitDefEqProofs := false) [↓callI, vopsN, vopsG, ↓step_slice, ↓Am.A.step, ↓binInt, ↓binStr, vopsE0, vopsE1, -vops, -Bool.exists_bool]; try simp (disch := omega) only [w64, wu64])) | (refine need.of (by first | omega | kernel_rfl) ?_) | (refine AW.skip ?_; (try simp (implicitDefEqProofs := false) [↓callI, vopsN, vopsG, ↓step_slice, ↓Am.A.step, ↓binInt, ↓binStr, vopsE0, vopsE1, -vops, -Bool.exists_bool])) | (refine AW.ret ?_; (try simp (implicitDefEqProofs := false) [↓callI, vopsN, vopsG, ↓step_slice, ↓Am.A.step, ↓binInt, ↓binStr, vopsE0, vopsE1, -vops, -Bool.exists_bool])) | (refine AW.exit ?_; (try simp (implicitDefEqProofs := false) [↓callI, vopsN, vopsG, ↓step_slice, ↓Am.A.step, ↓binInt, ↓binStr, vopsE0, vopsE1, -vops, -Bool.exists_bool])))
  refine CallS.pure (awakeC_ok) (by first | exact plain_d _ | exact plain_tup2 _ _ | exact plain_tup3 _ _ _) rfl (fun _ => rfl) (Subs.refl _) ?_
  (try simp (implicitDefEqProofs := false) [↓callI, vopsN, vopsG, ↓step_slice, ↓Am.A.step, ↓binInt, ↓binStr, vopsE0, vopsE1, -vops, -Bool.exists_bool]; try simp (disch := omega) only [w64, wu64])
  repeat (first | refine AW.seq ?_ | refine AW.block ?_ | (refine AW.reg mix ?_; (simp (implicitDefEqProofs := false) [↓callI, vopsN, vopsG, ↓step_slice, ↓Am.A.step, ↓binInt, ↓binStr, vopsE0, vopsE1, -vops, -Bool.exists_bool]; try simp (disch := omega) only [w64, wu64])) | (refine need.of (by first | omega | kernel_rfl) ?_) | (refine AW.skip ?_; (try simp (implicitDefEqProofs := false) [↓callI, vopsN, vopsG, ↓step_slice, ↓Am.A.step, ↓binInt, ↓binStr, vopsE0, vopsE1, -vops, -Bool.exists_bool])) | (refine AW.ret ?_; (try simp (implicitDefEqProofs := false) [↓callI, vopsN, vopsG, ↓step_slice, ↓Am.A.step, ↓binInt, ↓binStr, vopsE0, vopsE1, -vops, -Bool.exists_bool])) | (refine AW.exit ?_; (try simp (implicitDefEqProofs := false) [↓callI, vopsN, vopsG, ↓step_slice, ↓Am.A.step, ↓binInt, ↓binStr, vopsE0, vopsE1, -vops, -Bool.exists_bool])))
  refine AW.cond rfl (fun h => ?_) (fun h => ?_)
  · simp at h
  clear h
  repeat (first | refine AW.seq ?_ | refine AW.block ?_ | (refine AW.reg mix ?_; (simp (implicitDefEqProofs := false) [↓callI, vopsN, vopsG, ↓step_slice, ↓Am.A.step, ↓binInt, ↓binStr, vopsE0, vopsE1, -vops, -Bool.exists_bool]; try simp (disch := omega) only [w64, wu64])) | (refine need.of (by first | omega | kernel_rfl) ?_) | (refine AW.skip ?_; (try simp (implicitDefEqProofs := false) [↓callI, vopsN, vopsG, ↓step_slice, ↓Am.A.step, ↓binInt, ↓binStr, vopsE0, vopsE1, -vops, -Bool.exists_bool])) | (refine AW.ret ?_; (try simp (implicitDefEqProofs := false) [↓callI, vopsN, vopsG, ↓step_slice, ↓Am.A.step, ↓binInt, ↓binStr, vopsE0, vopsE1, -vops, -Bool.exists_bool])) | (refine AW.exit ?_; (try simp (implicitDefEqProofs := false) [↓callI, vopsN, vopsG, ↓step_slice, ↓Am.A.step, ↓binInt, ↓binStr, vopsE0, vopsE1, -vops, -Bool.exists_bool])))
  refine CallS.pure (hsm) (by first | exact plain_d _ | exact plain_tup2 _ _ | exact plain_tup3 _ _ _) rfl (fun _ => rfl) (Subs.refl _) ?_
  (try simp (implicitDefEqProofs := false) [↓callI, vopsN, vopsG, ↓step_slice, ↓Am.A.step, ↓binInt, ↓binStr, vopsE0, vopsE1, -vops, b1, et1, et2, -Bool.exists_bool]; try simp (disch := omega) only [w64, wu64])
  repeat (first | refine AW.seq ?_ | refine AW.block ?_ | (refine AW.reg mix ?_; (simp (implicitDefEqProofs := false) [↓callI, vopsN, vopsG, ↓step_slice, ↓Am.A.step, ↓binInt, ↓binStr, vopsE0, vopsE1, -vops, b1, et1, et2, -Bool.exists_bool]; try simp (disch := omega) only [w64, wu64])) | (refine need.of (by first | omega | kernel_rfl) ?_) | (refine AW.skip ?_; (try simp (implicitDefEqProofs := false) [↓callI, vopsN, vopsG, ↓step_slice, ↓Am.A.step, ↓binInt, ↓binStr, vopsE0, vopsE1, -vops, b1, et1, et2, -Bool.exists_bool])) | (refine AW.ret ?_; (try simp (implicitDefEqProofs := false) [↓callI, vopsN, vopsG, ↓step_slice, ↓Am.A.step, ↓binInt, ↓binStr, vopsE0, vopsE1, -vops, b1, et1, et2, -Bool.exists_bool])) | (refine AW.exit ?_; (try simp (implicitDefEqProofs := false) [↓callI, vopsN, vopsG, ↓step_slice, ↓Am.A.step, ↓binInt, ↓binStr, vopsE0, vopsE1, -vops, b1, et1, et2, -Bool.exists_bool])))
  refine CallS.pure (hfew) (by first | exact plain_d _ | exact plain_tup2 _ _ | exact plain_tup3 _ _ _) rfl (fun _ => rfl) (Subs.refl _) ?_
  (try simp (implicitDefEqProofs := false) [↓callI, vopsN, vopsG, ↓step_slice, ↓Am.A.step, ↓binInt, ↓binStr, vopsE0, vopsE1, -vops, b1, et1, et2, -Bool.exists_bool]; try simp (disch := omega) only [w64, wu64])
  repeat (first | refine AW.seq ?_ | refine AW.block ?_ | (refine AW.reg mix ?_; (simp (implicitDefEqProofs := false) [↓callI, vopsN, vopsG, ↓step_slice, ↓Am.A.step, ↓binInt, ↓binStr, vopsE0, vopsE1, -vops, b1, et1, et2, -Bool.exists_bool]; try simp (disch := omega) only [w64, wu64])) | (refine need.of (by first | omega | kernel_rfl) ?_) | (refine AW.skip ?_; (try simp (implicitDefEqProofs := false) [↓callI, vopsN, vopsG, ↓step_slice, ↓Am.A.step, ↓binInt, ↓binStr, vopsE0, vopsE1, -vops, b1, et1, et2, -Bool.exists_bool])) | (refine AW.ret ?_; (try simp (implicitDefEqProofs := false) [↓callI, vopsN, vopsG, ↓step_slice, ↓Am.A.step, ↓binInt, ↓binStr, vopsE0, vopsE1, -vops, b1, et1, et2, -Bool.exists_bool])) | (refine AW.exit ?_; (try simp (implicitDefEqProofs := false) [↓callI, vopsN, vopsG, ↓step_slice, ↓Am.A.step, ↓binInt, ↓binStr, vopsE0, vopsE1, -vops, b1, et1, et2, -Bool.exists_bool])))
  refine CallS.pure (htop) (by first | exact plain_d _ | exact plain_tup2 _ _ | exact plain_tup3 _ _ _) rfl (fun _ => rfl) (Subs.refl _) ?_
  (try simp (implicitDefEqProofs := false) [↓callI, vopsN, vopsG, ↓step_slice, ↓Am.A.step, ↓binInt, ↓binStr, vopsE0, vopsE1, -vops, b0, b1, et0, et1, et2, hF0, ew1, -Bool.exists_bool]; try simp (disch := omega) only [w64, wu64])
  repeat (first | refine AW.seq ?_ | refine AW.block ?_ | (refine AW.reg mix ?_; (simp (implicitDefEqProofs := false) [↓callI, vopsN, vopsG, ↓step_slice, ↓Am.A.step, ↓binInt, ↓binStr, vopsE0, vopsE1, -vops, b0, b1, et0, et1, et2, hF0, ew1, -Bool.exists_bool]; try simp (disch := omega) only [w64, wu64])) | (refine need.of (by first | omega | kernel_rfl) ?_) | (refine AW.skip ?_; (try simp (implicitDefEqProofs := false) [↓callI, vopsN, vopsG, ↓step_slice, ↓Am.A.step, ↓binInt, ↓binStr, vopsE0, vopsE1, -vops, b0, b1, et0, et1, et2, hF0, ew1, -Bool.exists_bool])) | (refine AW.ret ?_; (try simp (implicitDefEqProofs := false) [↓callI, vopsN, vopsG, ↓step_slice, ↓Am.A.step, ↓binInt, ↓binStr, vopsE0, vopsE1, -vops, b0, b1, et0, et1, et2, hF0, ew1, -Bool.exists_bool])) | (refine AW.exit ?_; (try simp (implicitDefEqProofs := false) [↓callI, vopsN, vopsG, ↓step_slice, ↓Am.A.step, ↓binInt, ↓binStr, vopsE0, vopsE1, -vops, b0, b1, et0, et1, et2, hF0, ew1, -Bool.exists_bool])))
  refine CallS.pure (hown) (by first | exact plain_d _ | exact plain_tup2 _ _ | exact plain_tup3 _ _ _) rfl (fun _ => rfl) (Subs.refl _) ?_
  (try simp (implicitDefEqProofs := false) [↓callI, vopsN, vopsG, ↓step_slice, ↓Am.A.step, ↓binInt, ↓binStr, vopsE0, vopsE1, -vops, -Bool.exists_bool]; try simp (disch := omega) only [w64, wu64])
  repeat (first | refine AW.seq ?_ | refine AW.block ?_ | (refine AW.reg mix ?_; (simp (implicitDefEqProofs := false) [↓callI, vopsN, vopsG, ↓step_slice, ↓Am.A.step, ↓binInt, ↓binStr, vopsE0, vopsE1, -vops, -Bool.exists_bool]; try simp (disch := omega) only [w64, wu64])) | (refine need.of (by first | omega | kernel_rfl) ?_) | (refine AW.skip ?_; (try simp (implicitDefEqProofs := false) [↓callI, vopsN, vopsG, ↓step_slice, ↓Am.A.step, ↓binInt, ↓binStr, vopsE0, vopsE1, -vops, -Bool.exists_bool])) | (refine AW.ret ?_; (try simp (implicitDefEqProofs := false) [↓callI, vopsN, vopsG, ↓step_slice, ↓Am.A.step, ↓binInt, ↓binStr, vopsE0, vopsE1, -vops, -Bool.exists_bool])) | (refine AW.exit ?_; (try simp (implicitDefEqProofs := false) [↓callI, vopsN, vopsG, ↓step_slice, ↓Am.A.step, ↓binInt, ↓binStr, vopsE0, vopsE1, -vops, -Bool.exists_bool])))
  refine CallS.new1 (new_ok xs (by omega)) ⟨rfl, fun _ => rfl⟩ rfl (fun _ => rfl) (Subs.refl _) ?_
  (try simp (implicitDefEqProofs := false) [↓callI, vopsN, vopsG, ↓step_slice, ↓Am.A.step, ↓binInt, ↓binStr, vopsE0, vopsE1, -vops, b0, et0, hF0, -Bool.exists_bool]; try simp (disch := omega) only [w64, wu64])
  repeat (first | refine AW.seq ?_ | refine AW.block ?_ | (refine AW.reg mix ?_; (simp (implicitDefEqProofs := false) [↓callI, vopsN, vopsG, ↓step_slice, ↓Am.A.step, ↓binInt, ↓binStr, vopsE0, vopsE1, -vops, b0, et0, hF0, -Bool.exists_bool]; try simp (disch := omega) only [w64, wu64])) | (refine need.of (by first | omega | kernel_rfl) ?_) | (refine AW.skip ?_; (try simp (implicitDefEqProofs := false) [↓callI, vopsN, vopsG, ↓step_slice, ↓Am.A.step, ↓binInt, ↓binStr, vopsE0, vopsE1, -vops, b0, et0, hF0, -Bool.exists_bool])) | (refine AW.ret ?_; (try simp (implicitDefEqProofs := false) [↓callI, vopsN, vopsG, ↓step_slice, ↓Am.A.step, ↓binInt, ↓binStr, vopsE0, vopsE1, -vops, b0, et0, hF0, -Bool.exists_bool])) | (refine AW.exit ?_; (try simp (implicitDefEqProofs := false) [↓callI, vopsN, vopsG, ↓step_slice, ↓Am.A.step, ↓binInt, ↓binStr, vopsE0, vopsE1, -vops, b0, et0, hF0, -Bool.exists_bool])))
  refine CallS.obj1 2 (h1) (by first | exact plain_d _ | exact plain_tup2 _ _ | exact plain_tup3 _ _ _) ⟨rfl, fun _ => rfl⟩ ⟨rfl, fun _ => rfl⟩ rfl (by rfl) (Subs.of (by simp)) ?_
  (try simp (implicitDefEqProofs := false) [↓callI, vopsN, vopsG, ↓step_slice, ↓Am.A.step, ↓binInt, ↓binStr, vopsE0, vopsE1, -vops, -Bool.exists_bool]; try simp (disch := omega) only [w64, wu64])
  repeat (first | refine AW.seq ?_ | refine AW.block ?_ | (refine AW.reg mix ?_; (simp (implicitDefEqProofs := false) [↓callI, vopsN, vopsG, ↓step_slice, ↓Am.A.step, ↓binInt, ↓binStr, vopsE0, vopsE1, -vops, -Bool.exists_bool]; try simp (disch := omega) only [w64, wu64])) | (refine need.of (by first | omega | kernel_rfl) ?_) | (refine AW.skip ?_; (try simp (implicitDefEqProofs := false) [↓callI, vopsN, vopsG, ↓step_slice, ↓Am.A.step, ↓binInt, ↓binStr, vopsE0, vopsE1, -vops, -Bool.exists_bool])) | (refine AW.ret ?_; (try simp (implicitDefEqProofs := false) [↓callI, vopsN, vopsG, ↓step_slice, ↓Am.A.step, ↓binInt, ↓binStr, vopsE0, vopsE1, -vops, -Bool.exists_bool])) | (refine AW.exit ?_; (try simp (implicitDefEqProofs := false) [↓callI, vopsN, vopsG, ↓step_slice, ↓Am.A.step, ↓binInt, ↓binStr, vopsE0, vopsE1, -vops, -Bool.exists_bool])))
  refine AW.loopT (α := Nat × Nat × Bool × Nat × Int) 7 (fun s => [(15, .d (.int .i64 (s.2.2.2.1 : Nat))), (16, .d (.int .i64 s.2.2.2.2)), (17, .d (.int .i64 (s.1 : Nat)))]) (fun s => [(6, ⟨35, [.d (.int .i64 (s.2.1 : Nat)), .d (.bool s.2.2.1)]⟩)]) (fun s => s.1 ≤ Y ∧ s.2.1 ≤ T ∧ s.2.2.2.1 ≤ xs.length ∧ (s.2.2.2.2 = 0 ∧ S = addL st T (Y - s.1) s.2.1 s.2.2.1 s.2.2.2.1 false ∨ s.2.2.2.2 ≠ 0 ∧ E = s.2.2.2.2 ∧ dd = true)) (fun s => Y - s.1) (0, X, F0, 0, 0) ?_ ?_ ⟨Nat.zero_le _, hx0, Nat.zero_le _, .inl ⟨rfl, hS⟩⟩ ?_ ?_ ?_
  · simp
  · simp
  · simp
  · simp
  clear hS
  rintro ⟨i, x, f, p, e⟩ ⟨hi, hx, hp, hS⟩
  simp only at hi hx hp hS
  simp [-Bool.exists_bool]
  rcases hS with ⟨rfl, hS⟩ | ⟨he, rfl, rfl⟩
  · by_cases h : i = Y
    · subst h
      rw [Nat.sub_self, addL] at hS
      subst hS
      simp only at hE hq hdd hok
      obtain ⟨rfl, rfl⟩ := hok hE
      subst hE hq hdd
      have hb1 := hbad q false ((T : Int) + 1) 1 false (.inr (by omega))
      have hb2 := hmany q false X 1048577 F0 (by omega) (by omega) (by omega)
      have hb3 := hbad q false (-1) 0 false (.inl (by omega))
      repeat (first | refine AW.seq ?_ | refine AW.block ?_ | (refine AW.reg mix ?_; (simp (implicitDefEqProofs := false) [↓callI, vopsN, vopsG, ↓step_slice, ↓Am.A.step, ↓binInt, ↓binStr, vopsE0, vopsE1, -vops, -Bool.exists_bool]; try simp (disch := omega) only [w64, wu64])) | (refine need.of (by first | omega | kernel_rfl) ?_) | (refine AW.skip ?_; (try simp (implicitDefEqProofs := false) [↓callI, vopsN, vopsG, ↓step_slice, ↓Am.A.step, ↓binInt, ↓binStr, vopsE0, vopsE1, -vops, -Bool.exists_bool])) | (refine AW.ret ?_; (try simp (implicitDefEqProofs := false) [↓callI, vopsN, vopsG, ↓step_slice, ↓Am.A.step, ↓binInt, ↓binStr, vopsE0, vopsE1, -vops, -Bool.exists_bool])) | (refine AW.exit ?_; (try simp (implicitDefEqProofs := false) [↓callI, vopsN, vopsG, ↓step_slice, ↓Am.A.step, ↓binInt, ↓binStr, vopsE0, vopsE1, -vops, -Bool.exists_bool])))
      refine AW.cond rfl (fun h => ?_) (fun h => ?_)
      · simp at h
      refine AW.exit ?_
      (try simp (implicitDefEqProofs := false) [↓callI, vopsN, vopsG, ↓step_slice, ↓Am.A.step, ↓binInt, ↓binStr, vopsE0, vopsE1, -vops, -Bool.exists_bool]; try simp (disch := omega) only [w64, wu64])
      repeat (first | refine AW.seq ?_ | refine AW.block ?_ | (refine AW.reg mix ?_; (simp (implicitDefEqProofs := false) [↓callI, vopsN, vopsG, ↓step_slice, ↓Am.A.step, ↓binInt, ↓binStr, vopsE0, vopsE1, -vops, -Bool.exists_bool]; try simp (disch := omega) only [w64, wu64])) | (refine need.of (by first | omega | kernel_rfl) ?_) | (refine AW.skip ?_; (try simp (implicitDefEqProofs := false) [↓callI, vopsN, vopsG, ↓step_slice, ↓Am.A.step, ↓binInt, ↓binStr, vopsE0, vopsE1, -vops, -Bool.exists_bool])) | (refine AW.ret ?_; (try simp (implicitDefEqProofs := false) [↓callI, vopsN, vopsG, ↓step_slice, ↓Am.A.step, ↓binInt, ↓binStr, vopsE0, vopsE1, -vops, -Bool.exists_bool])) | (refine AW.exit ?_; (try simp (implicitDefEqProofs := false) [↓callI, vopsN, vopsG, ↓step_slice, ↓Am.A.step, ↓binInt, ↓binStr, vopsE0, vopsE1, -vops, -Bool.exists_bool])))
      refine AW.cond rfl (fun h => ?_) (fun h => ?_)
      · simp at h
      repeat (first | refine AW.seq ?_ | refine AW.block ?_ | (refine AW.reg mix ?_; (simp (implicitDefEqProofs := false) [↓callI, vopsN, vopsG, ↓step_slice, ↓Am.A.step, ↓binInt, ↓binStr, vopsE0, vopsE1, -vops, -Bool.exists_bool]; try simp (disch := omega) only [w64, wu64])) | (refine need.of (by first | omega | kernel_rfl) ?_) | (refine AW.skip ?_; (try simp (implicitDefEqProofs := false) [↓callI, vopsN, vopsG, ↓step_slice, ↓Am.A.step, ↓binInt, ↓binStr, vopsE0, vopsE1, -vops, -Bool.exists_bool])) | (refine AW.ret ?_; (try simp (implicitDefEqProofs := false) [↓callI, vopsN, vopsG, ↓step_slice, ↓Am.A.step, ↓binInt, ↓binStr, vopsE0, vopsE1, -vops, -Bool.exists_bool])) | (refine AW.exit ?_; (try simp (implicitDefEqProofs := false) [↓callI, vopsN, vopsG, ↓step_slice, ↓Am.A.step, ↓binInt, ↓binStr, vopsE0, vopsE1, -vops, -Bool.exists_bool])))
      refine CallS.pure (htop) (by first | exact plain_d _ | exact plain_tup2 _ _ | exact plain_tup3 _ _ _) rfl (fun _ => rfl) (Subs.refl _) ?_
      (try simp (implicitDefEqProofs := false) [↓callI, vopsN, vopsG, ↓step_slice, ↓Am.A.step, ↓binInt, ↓binStr, vopsE0, vopsE1, -vops, ew1, -Bool.exists_bool]; try simp (disch := omega) only [w64, wu64])
      repeat (first | refine AW.seq ?_ | refine AW.block ?_ | (refine AW.reg mix ?_; (simp (implicitDefEqProofs := false) [↓callI, vopsN, vopsG, ↓step_slice, ↓Am.A.step, ↓binInt, ↓binStr, vopsE0, vopsE1, -vops, ew1, -Bool.exists_bool]; try simp (disch := omega) only [w64, wu64])) | (refine need.of (by first | omega | kernel_rfl) ?_) | (refine AW.skip ?_; (try simp (implicitDefEqProofs := false) [↓callI, vopsN, vopsG, ↓step_slice, ↓Am.A.step, ↓binInt, ↓binStr, vopsE0, vopsE1, -vops, ew1, -Bool.exists_bool])) | (refine AW.ret ?_; (try simp (implicitDefEqProofs := false) [↓callI, vopsN, vopsG, ↓step_slice, ↓Am.A.step, ↓binInt, ↓binStr, vopsE0, vopsE1, -vops, ew1, -Bool.exists_bool])) | (refine AW.exit ?_; (try simp (implicitDefEqProofs := false) [↓callI, vopsN, vopsG, ↓step_slice, ↓Am.A.step, ↓binInt, ↓binStr, vopsE0, vopsE1, -vops, ew1, -Bool.exists_bool])))
      refine CallS.obj1 2 (hb1) (by first | exact plain_d _ | exact plain_tup2 _ _ | exact plain_tup3 _ _ _) ⟨rfl, fun _ => rfl⟩ ⟨rfl, fun _ => rfl⟩ rfl (by rfl) (Subs.of (by simp)) ?_
      (try simp (implicitDefEqProofs := false) [↓callI, vopsN, vopsG, ↓step_slice, ↓Am.A.step, ↓binInt, ↓binStr, vopsE0, vopsE1, -vops, -Bool.exists_bool]; try simp (disch := omega) only [w64, wu64])
      repeat (first | refine AW.seq ?_ | refine AW.block ?_ | (refine AW.reg mix ?_; (simp (implicitDefEqProofs := false) [↓callI, vopsN, vopsG, ↓step_slice, ↓Am.A.step, ↓binInt, ↓binStr, vopsE0, vopsE1, -vops, -Bool.exists_bool]; try simp (disch := omega) only [w64, wu64])) | (refine need.of (by first | omega | kernel_rfl) ?_) | (refine AW.skip ?_; (try simp (implicitDefEqProofs := false) [↓callI, vopsN, vopsG, ↓step_slice, ↓Am.A.step, ↓binInt, ↓binStr, vopsE0, vopsE1, -vops, -Bool.exists_bool])) | (refine AW.ret ?_; (try simp (implicitDefEqProofs := false) [↓callI, vopsN, vopsG, ↓step_slice, ↓Am.A.step, ↓binInt, ↓binStr, vopsE0, vopsE1, -vops, -Bool.exists_bool])) | (refine AW.exit ?_; (try simp (implicitDefEqProofs := false) [↓callI, vopsN, vopsG, ↓step_slice, ↓Am.A.step, ↓binInt, ↓binStr, vopsE0, vopsE1, -vops, -Bool.exists_bool])))
      refine CallS.obj1 2 (hb2) (by first | exact plain_d _ | exact plain_tup2 _ _ | exact plain_tup3 _ _ _) ⟨rfl, fun _ => rfl⟩ ⟨rfl, fun _ => rfl⟩ rfl (by rfl) (Subs.of (by simp)) ?_
      (try simp (implicitDefEqProofs := false) [↓callI, vopsN, vopsG, ↓step_slice, ↓Am.A.step, ↓binInt, ↓binStr, vopsE0, vopsE1, -vops, -Bool.exists_bool]; try simp (disch := omega) only [w64, wu64])
      repeat (first | refine AW.seq ?_ | refine AW.block ?_ | (refine AW.reg mix ?_; (simp (implicitDefEqProofs := false) [↓callI, vopsN, vopsG, ↓step_slice, ↓Am.A.step, ↓binInt, ↓binStr, vopsE0, vopsE1, -vops, -Bool.exists_bool]; try simp (disch := omega) only [w64, wu64])) | (refine need.of (by first | omega | kernel_rfl) ?_) | (refine AW.skip ?_; (try simp (implicitDefEqProofs := false) [↓callI, vopsN, vopsG, ↓step_slice, ↓Am.A.step, ↓binInt, ↓binStr, vopsE0, vopsE1, -vops, -Bool.exists_bool])) | (refine AW.ret ?_; (try simp (implicitDefEqProofs := false) [↓callI, vopsN, vopsG, ↓step_slice, ↓Am.A.step, ↓binInt, ↓binStr, vopsE0, vopsE1, -vops, -Bool.exists_bool])) | (refine AW.exit ?_; (try simp (implicitDefEqProofs := false) [↓callI, vopsN, vopsG, ↓step_slice, ↓Am.A.step, ↓binInt, ↓binStr, vopsE0, vopsE1, -vops, -Bool.exists_bool])))
      refine CallS.obj1 2 (hb3) (by first | exact plain_d _ | exact plain_tup2 _ _ | exact plain_tup3 _ _ _) ⟨rfl, fun _ => rfl⟩ ⟨rfl, fun _ => rfl⟩ rfl (by rfl) (Subs.of (by simp)) ?_
      (try simp (implicitDefEqProofs := false) [↓callI, vopsN, vopsG, ↓step_slice, ↓Am.A.step, ↓binInt, ↓binStr, vopsE0, vopsE1, -vops, -Bool.exists_bool]; try simp (disch := omega) only [w64, wu64])
      repeat (first | refine AW.seq ?_ | refine AW.block ?_ | (refine AW.reg mix ?_; (simp (implicitDefEqProofs := false) [↓callI, vopsN, vopsG, ↓step_slice, ↓Am.A.step, ↓binInt, ↓binStr, vopsE0, vopsE1, -vops, -Bool.exists_bool]; try simp (disch := omega) only [w64, wu64])) | (refine need.of (by first | omega | kernel_rfl) ?_) | (refine AW.skip ?_; (try simp (implicitDefEqProofs := false) [↓callI, vopsN, vopsG, ↓step_slice, ↓Am.A.step, ↓binInt, ↓binStr, vopsE0, vopsE1, -vops, -Bool.exists_bool])) | (refine AW.ret ?_; (try simp (implicitDefEqProofs := false) [↓callI, vopsN, vopsG, ↓step_slice, ↓Am.A.step, ↓binInt, ↓binStr, vopsE0, vopsE1, -vops, -Bool.exists_bool])) | (refine AW.exit ?_; (try simp (implicitDefEqProofs := false) [↓callI, vopsN, vopsG, ↓step_slice, ↓Am.A.step, ↓binInt, ↓binStr, vopsE0, vopsE1, -vops, -Bool.exists_bool])))
      refine CallS.obj1 2 (read_ok xs q false) (by first | exact plain_d _ | exact plain_tup2 _ _ | exact plain_tup3 _ _ _) ⟨rfl, fun _ => rfl⟩ ⟨rfl, fun _ => rfl⟩ rfl (by rfl) (Subs.of (by simp)) ?_
      (try simp (implicitDefEqProofs := false) [↓callI, vopsN, vopsG, ↓step_slice, ↓Am.A.step, ↓binInt, ↓binStr, vopsE0, vopsE1, -vops, -Bool.exists_bool]; try simp (disch := omega) only [w64, wu64])
      repeat (first | refine AW.seq ?_ | refine AW.block ?_ | (refine AW.reg mix ?_; (simp (implicitDefEqProofs := false) [↓callI, vopsN, vopsG, ↓step_slice, ↓Am.A.step, ↓binInt, ↓binStr, vopsE0, vopsE1, -vops, -Bool.exists_bool]; try simp (disch := omega) only [w64, wu64])) | (refine need.of (by first | omega | kernel_rfl) ?_) | (refine AW.skip ?_; (try simp (implicitDefEqProofs := false) [↓callI, vopsN, vopsG, ↓step_slice, ↓Am.A.step, ↓binInt, ↓binStr, vopsE0, vopsE1, -vops, -Bool.exists_bool])) | (refine AW.ret ?_; (try simp (implicitDefEqProofs := false) [↓callI, vopsN, vopsG, ↓step_slice, ↓Am.A.step, ↓binInt, ↓binStr, vopsE0, vopsE1, -vops, -Bool.exists_bool])) | (refine AW.exit ?_; (try simp (implicitDefEqProofs := false) [↓callI, vopsN, vopsG, ↓step_slice, ↓Am.A.step, ↓binInt, ↓binStr, vopsE0, vopsE1, -vops, -Bool.exists_bool])))
    · have hlt : (i : Int) < Y := by omega
      have hlt' : i < Y := by omega
      obtain ⟨m, hm⟩ : ∃ m, Y - i = m + 1 := ⟨Y - i - 1, by omega⟩
      have ew : IntKind.i64.wrap ((i : Int) + 1) = ((i + 1 : Nat) : Int) := by rw [w64 (by omega) (by omega)]; omega
      rw [hm] at hS
      repeat (first | refine AW.seq ?_ | refine AW.block ?_ | (refine AW.reg mix ?_; (simp (implicitDefEqProofs := false) [↓callI, vopsN, vopsG, ↓step_slice, ↓Am.A.step, ↓binInt, ↓binStr, vopsE0, vopsE1, -vops, hlt, hlt', -Bool.exists_bool]; try simp (disch := omega) only [w64, wu64])) | (refine need.of (by first | omega | kernel_rfl) ?_) | (refine AW.skip ?_; (try simp (implicitDefEqProofs := false) [↓callI, vopsN, vopsG, ↓step_slice, ↓Am.A.step, ↓binInt, ↓binStr, vopsE0, vopsE1, -vops, hlt, hlt', -Bool.exists_bool])) | (refine AW.ret ?_; (try simp (implicitDefEqProofs := false) [↓callI, vopsN, vopsG, ↓step_slice, ↓Am.A.step, ↓binInt, ↓binStr, vopsE0, vopsE1, -vops, hlt, hlt', -Bool.exists_bool])) | (refine AW.exit ?_; (try simp (implicitDefEqProofs := false) [↓callI, vopsN, vopsG, ↓step_slice, ↓Am.A.step, ↓binInt, ↓binStr, vopsE0, vopsE1, -vops, hlt, hlt', -Bool.exists_bool])))
      refine AW.cond rfl (fun h => ?_) (fun h => ?_)
      · clear h
        repeat (first | refine AW.seq ?_ | refine AW.block ?_ | (refine AW.reg mix ?_; (simp (implicitDefEqProofs := false) [↓callI, vopsN, vopsG, ↓step_slice, ↓Am.A.step, ↓binInt, ↓binStr, vopsE0, vopsE1, -vops, -Bool.exists_bool]; try simp (disch := omega) only [w64, wu64])) | (refine need.of (by first | omega | kernel_rfl) ?_) | (refine AW.skip ?_; (try simp (implicitDefEqProofs := false) [↓callI, vopsN, vopsG, ↓step_slice, ↓Am.A.step, ↓binInt, ↓binStr, vopsE0, vopsE1, -vops, -Bool.exists_bool])) | (refine AW.ret ?_; (try simp (implicitDefEqProofs := false) [↓callI, vopsN, vopsG, ↓step_slice, ↓Am.A.step, ↓binInt, ↓binStr, vopsE0, vopsE1, -vops, -Bool.exists_bool])) | (refine AW.exit ?_; (try simp (implicitDefEqProofs := false) [↓callI, vopsN, vopsG, ↓step_slice, ↓Am.A.step, ↓binInt, ↓binStr, vopsE0, vopsE1, -vops, -Bool.exists_bool])))
        by_cases hzt : x = T
        · subst hzt
          rw [addL, if_pos rfl] at hS
          refine CallS.pure (hstep1 f p) (by first | exact plain_d _ | exact plain_tup2 _ _ | exact plain_tup3 _ _ _) rfl (fun _ => rfl) (Subs.refl _) ?_
          (try simp (implicitDefEqProofs := false) [↓callI, vopsN, vopsG, ↓step_slice, ↓Am.A.step, ↓binInt, ↓binStr, vopsE0, vopsE1, -vops, -Bool.exists_bool]; try simp (disch := omega) only [w64, wu64])
          repeat (first | refine AW.seq ?_ | refine AW.block ?_ | (refine AW.reg mix ?_; (simp (implicitDefEqProofs := false) [↓callI, vopsN, vopsG, ↓step_slice, ↓Am.A.step, ↓binInt, ↓binStr, vopsE0, vopsE1, -vops, -Bool.exists_bool]; try simp (disch := omega) only [w64, wu64])) | (refine need.of (by first | omega | kernel_rfl) ?_) | (refine AW.skip ?_; (try simp (implicitDefEqProofs := false) [↓callI, vopsN, vopsG, ↓step_slice, ↓Am.A.step, ↓binInt, ↓binStr, vopsE0, vopsE1, -vops, -Bool.exists_bool])) | (refine AW.ret ?_; (try simp (implicitDefEqProofs := false) [↓callI, vopsN, vopsG, ↓step_slice, ↓Am.A.step, ↓binInt, ↓binStr, vopsE0, vopsE1, -vops, -Bool.exists_bool])) | (refine AW.exit ?_; (try simp (implicitDefEqProofs := false) [↓callI, vopsN, vopsG, ↓step_slice, ↓Am.A.step, ↓binInt, ↓binStr, vopsE0, vopsE1, -vops, -Bool.exists_bool])))
          repeat (first | refine AW.seq ?_ | refine AW.block ?_ | (refine AW.reg mix ?_; (simp (implicitDefEqProofs := false) [↓callI, vopsN, vopsG, ↓step_slice, ↓Am.A.step, ↓binInt, ↓binStr, vopsE0, vopsE1, -vops, ew, -Bool.exists_bool]; try simp (disch := omega) only [w64, wu64])) | (refine need.of (by first | omega | kernel_rfl) ?_) | (refine AW.skip ?_; (try simp (implicitDefEqProofs := false) [↓callI, vopsN, vopsG, ↓step_slice, ↓Am.A.step, ↓binInt, ↓binStr, vopsE0, vopsE1, -vops, ew, -Bool.exists_bool])) | (refine AW.ret ?_; (try simp (implicitDefEqProofs := false) [↓callI, vopsN, vopsG, ↓step_slice, ↓Am.A.step, ↓binInt, ↓binStr, vopsE0, vopsE1, -vops, ew, -Bool.exists_bool])) | (refine AW.exit ?_; (try simp (implicitDefEqProofs := false) [↓callI, vopsN, vopsG, ↓step_slice, ↓Am.A.step, ↓binInt, ↓binStr, vopsE0, vopsE1, -vops, ew, -Bool.exists_bool])))
          exact ⟨i + 1, x, true, p, 0, ⟨by omega, by omega, hp, .inl ⟨rfl, by rw [hS, addL_top]⟩⟩, by omega, by simp, by simp⟩
        · obtain ⟨z, hz, hS2⟩ := addL_step (st := st) (top := T) (n := m) (f := f) (p := p) hzt
          rw [← hS] at hS2
          have hc := hstep2 x (by omega) f p hp
          rw [hst x p (by omega)] at hS2 hz
          have hv := hag x p
          have hle := hae x p hp
          generalize agOf xs K A x 0 p false = R at *
          obtain ⟨R1, R2, R3, R4⟩ := R
          simp only at hc hv hle hS2 hz
          rw [← hz] at hc
          have hzT : z ≤ T := by rw [hz]; split <;> omega
          clear hz
          refine CallS.pure (hc) (by first | exact plain_d _ | exact plain_tup2 _ _ | exact plain_tup3 _ _ _) rfl (fun _ => rfl) (Subs.refl _) ?_
          (try simp (implicitDefEqProofs := false) [↓callI, vopsN, vopsG, ↓step_slice, ↓Am.A.step, ↓binInt, ↓binStr, vopsE0, vopsE1, -vops, -Bool.exists_bool]; try simp (disch := omega) only [w64, wu64])
          repeat (first | refine AW.seq ?_ | refine AW.block ?_ | (refine AW.reg mix ?_; (simp (implicitDefEqProofs := false) [↓callI, vopsN, vopsG, ↓step_slice, ↓Am.A.step, ↓binInt, ↓binStr, vopsE0, vopsE1, -vops, -Bool.exists_bool]; try simp (disch := omega) only [w64, wu64])) | (refine need.of (by first | omega | kernel_rfl) ?_) | (refine AW.skip ?_; (try simp (implicitDefEqProofs := false) [↓callI, vopsN, vopsG, ↓step_slice, ↓Am.A.step, ↓binInt, ↓binStr, vopsE0, vopsE1, -vops, -Bool.exists_bool])) | (refine AW.ret ?_; (try simp (implicitDefEqProofs := false) [↓callI, vopsN, vopsG, ↓step_slice, ↓Am.A.step, ↓binInt, ↓binStr, vopsE0, vopsE1, -vops, -Bool.exists_bool])) | (refine AW.exit ?_; (try simp (implicitDefEqProofs := false) [↓callI, vopsN, vopsG, ↓step_slice, ↓Am.A.step, ↓binInt, ↓binStr, vopsE0, vopsE1, -vops, -Bool.exists_bool])))
          by_cases hR2 : R2 = 0
          · subst hR2
            rw [if_pos rfl] at hS2
            have hd := hv.ok rfl
            simp only at hd
            subst hd
            repeat (first | refine AW.seq ?_ | refine AW.block ?_ | (refine AW.reg mix ?_; (simp (implicitDefEqProofs := false) [↓callI, vopsN, vopsG, ↓step_slice, ↓Am.A.step, ↓binInt, ↓binStr, vopsE0, vopsE1, -vops, ew, -Bool.exists_bool]; try simp (disch := omega) only [w64, wu64])) | (refine need.of (by first | omega | kernel_rfl) ?_) | (refine AW.skip ?_; (try simp (implicitDefEqProofs := false) [↓callI, vopsN, vopsG, ↓step_slice, ↓Am.A.step, ↓binInt, ↓binStr, vopsE0, vopsE1, -vops, ew, -Bool.exists_bool])) | (refine AW.ret ?_; (try simp (implicitDefEqProofs := false) [↓callI, vopsN, vopsG, ↓step_slice, ↓Am.A.step, ↓binInt, ↓binStr, vopsE0, vopsE1, -vops, ew, -Bool.exists_bool])) | (refine AW.exit ?_; (try simp (implicitDefEqProofs := false) [↓callI, vopsN, vopsG, ↓step_slice, ↓Am.A.step, ↓binInt, ↓binStr, vopsE0, vopsE1, -vops, ew, -Bool.exists_bool])))
            exact ⟨i + 1, z, f, R3, 0, ⟨by omega, by omega, by omega, .inl ⟨rfl, by rw [hS2]; congr 1; omega⟩⟩, by omega, by simp, by simp⟩
          · rw [if_neg hR2] at hS2
            rw [hS2] at hE hdd
            simp only at hE hdd
            have hd := hv.dead.2 hR2
            simp only at hd
            repeat (first | refine AW.seq ?_ | refine AW.block ?_ | (refine AW.reg mix ?_; (simp (implicitDefEqProofs := false) [↓callI, vopsN, vopsG, ↓step_slice, ↓Am.A.step, ↓binInt, ↓binStr, vopsE0, vopsE1, -vops, ew, -Bool.exists_bool]; try simp (disch := omega) only [w64, wu64])) | (refine need.of (by first | omega | kernel_rfl) ?_) | (refine AW.skip ?_; (try simp (implicitDefEqProofs := false) [↓callI, vopsN, vopsG, ↓step_slice, ↓Am.A.step, ↓binInt, ↓binStr, vopsE0, vopsE1, -vops, ew, -Bool.exists_bool])) | (refine AW.ret ?_; (try simp (implicitDefEqProofs := false) [↓callI, vopsN, vopsG, ↓step_slice, ↓Am.A.step, ↓binInt, ↓binStr, vopsE0, vopsE1, -vops, ew, -Bool.exists_bool])) | (refine AW.exit ?_; (try simp (implicitDefEqProofs := false) [↓callI, vopsN, vopsG, ↓step_slice, ↓Am.A.step, ↓binInt, ↓binStr, vopsE0, vopsE1, -vops, ew, -Bool.exists_bool])))
            exact ⟨i + 1, z, f, R3, R2, ⟨by omega, by omega, by omega, .inr ⟨hR2, hE, by rw [hdd, hd]⟩⟩, by omega, by simp, by simp⟩
      · simp [hlt'] at h
  · have hie : (E == 0) = false := by simp [he]
    obtain ⟨rfl, rfl⟩ := hno he
    have hx : ∀ b : Bool, (if (i : Int) < Y then false else b && false) = false := by intro b; split <;> simp
    by_cases hlt : (i : Int) < Y
    · have hlt' : i < Y := by omega
      repeat (first | refine AW.seq ?_ | refine AW.block ?_ | (refine AW.reg mix ?_; (simp (implicitDefEqProofs := false) [↓callI, vopsN, vopsG, ↓step_slice, ↓Am.A.step, ↓binInt, ↓binStr, vopsE0, vopsE1, -vops, hlt, hlt', he, hie, -Bool.exists_bool]; try simp (disch := omega) only [w64, wu64])) | (refine need.of (by first | omega | kernel_rfl) ?_) | (refine AW.skip ?_; (try simp (implicitDefEqProofs := false) [↓callI, vopsN, vopsG, ↓step_slice, ↓Am.A.step, ↓binInt, ↓binStr, vopsE0, vopsE1, -vops, hlt, hlt', he, hie, -Bool.exists_bool])) | (refine AW.ret ?_; (try simp (implicitDefEqProofs := false) [↓callI, vopsN, vopsG, ↓step_slice, ↓Am.A.step, ↓binInt, ↓binStr, vopsE0, vopsE1, -vops, hlt, hlt', he, hie, -Bool.exists_bool])) | (refine AW.exit ?_; (try simp (implicitDefEqProofs := false) [↓callI, vopsN, vopsG, ↓step_slice, ↓Am.A.step, ↓binInt, ↓binStr, vopsE0, vopsE1, -vops, hlt, hlt', he, hie, -Bool.exists_bool])))
      refine AW.cond rfl (fun h => ?_) (fun h => ?_)
      · simp at h
      refine AW.exit ?_
      (try simp (implicitDefEqProofs := false) [↓callI, vopsN, vopsG, ↓step_slice, ↓Am.A.step, ↓binInt, ↓binStr, vopsE0, vopsE1, -vops, -Bool.exists_bool]; try simp (disch := omega) only [w64, wu64])
      repeat (first | refine AW.seq ?_ | refine AW.block ?_ | (refine AW.reg mix ?_; (simp (implicitDefEqProofs := false) [↓callI, vopsN, vopsG, ↓step_slice, ↓Am.A.step, ↓binInt, ↓binStr, vopsE0, vopsE1, -vops, he, hie, -Bool.exists_bool]; try simp (disch := omega) only [w64, wu64])) | (refine need.of (by first | omega | kernel_rfl) ?_) | (refine AW.skip ?_; (try simp (implicitDefEqProofs := false) [↓callI, vopsN, vopsG, ↓step_slice, ↓Am.A.step, ↓binInt, ↓binStr, vopsE0, vopsE1, -vops, he, hie, -Bool.exists_bool])) | (refine AW.ret ?_; (try simp (implicitDefEqProofs := false) [↓callI, vopsN, vopsG, ↓step_slice, ↓Am.A.step, ↓binInt, ↓binStr, vopsE0, vopsE1, -vops, he, hie, -Bool.exists_bool])) | (refine AW.exit ?_; (try simp (implicitDefEqProofs := false) [↓callI, vopsN, vopsG, ↓step_slice, ↓Am.A.step, ↓binInt, ↓binStr, vopsE0, vopsE1, -vops, he, hie, -Bool.exists_bool])))
      refine AW.cond rfl (fun h => ?_) (fun h => ?_)
      · repeat (first | refine AW.seq ?_ | refine AW.block ?_ | (refine AW.reg mix ?_; (simp (implicitDefEqProofs := false) [↓callI, vopsN, vopsG, ↓step_slice, ↓Am.A.step, ↓binInt, ↓binStr, vopsE0, vopsE1, -vops, -Bool.exists_bool]; try simp (disch := omega) only [w64, wu64])) | (refine need.of (by first | omega | kernel_rfl) ?_) | (refine AW.skip ?_; (try simp (implicitDefEqProofs := false) [↓callI, vopsN, vopsG, ↓step_slice, ↓Am.A.step, ↓binInt, ↓binStr, vopsE0, vopsE1, -vops, -Bool.exists_bool])) | (refine AW.ret ?_; (try simp (implicitDefEqProofs := false) [↓callI, vopsN, vopsG, ↓step_slice, ↓Am.A.step, ↓binInt, ↓binStr, vopsE0, vopsE1, -vops, -Bool.exists_bool])) | (refine AW.exit ?_; (try simp (implicitDefEqProofs := false) [↓callI, vopsN, vopsG, ↓step_slice, ↓Am.A.step, ↓binInt, ↓binStr, vopsE0, vopsE1, -vops, -Bool.exists_bool])))
        refine CallS.obj1 2 (dead_ok xs q true) (by first | exact plain_d _ | exact plain_tup2 _ _ | exact plain_tup3 _ _ _) ⟨rfl, fun _ => rfl⟩ ⟨rfl, fun _ => rfl⟩ rfl (by rfl) (Subs.of (by simp)) ?_
        (try simp (implicitDefEqProofs := false) [↓callI, vopsN, vopsG, ↓step_slice, ↓Am.A.step, ↓binInt, ↓binStr, vopsE0, vopsE1, -vops, -Bool.exists_bool]; try simp (disch := omega) only [w64, wu64])
        repeat (first | refine AW.seq ?_ | refine AW.block ?_ | (refine AW.reg mix ?_; (simp (implicitDefEqProofs := false) [↓callI, vopsN, vopsG, ↓step_slice, ↓Am.A.step, ↓binInt, ↓binStr, vopsE0, vopsE1, -vops, -Bool.exists_bool]; try simp (disch := omega) only [w64, wu64])) | (refine need.of (by first | omega | kernel_rfl) ?_) | (refine AW.skip ?_; (try simp (implicitDefEqProofs := false) [↓callI, vopsN, vopsG, ↓step_slice, ↓Am.A.step, ↓binInt, ↓binStr, vopsE0, vopsE1, -vops, -Bool.exists_bool])) | (refine AW.ret ?_; (try simp (implicitDefEqProofs := false) [↓callI, vopsN, vopsG, ↓step_slice, ↓Am.A.step, ↓binInt, ↓binStr, vopsE0, vopsE1, -vops, -Bool.exists_bool])) | (refine AW.exit ?_; (try simp (implicitDefEqProofs := false) [↓callI, vopsN, vopsG, ↓step_slice, ↓Am.A.step, ↓binInt, ↓binStr, vopsE0, vopsE1, -vops, -Bool.exists_bool])))
      · simp [he] at h
    · have hlt' : ¬ i < Y := by omega
      repeat (first | refine AW.seq ?_ | refine AW.block ?_ | (refine AW.reg mix ?_; (simp (implicitDefEqProofs := false) [↓callI, vopsN, vopsG, ↓step_slice, ↓Am.A.step, ↓binInt, ↓binStr, vopsE0, vopsE1, -vops, hlt, hlt', he, hie, -Bool.exists_bool]; try simp (disch := omega) only [w64, wu64])) | (refine need.of (by first | omega | kernel_rfl) ?_) | (refine AW.skip ?_; (try simp (implicitDefEqProofs := false) [↓callI, vopsN, vopsG, ↓step_slice, ↓Am.A.step, ↓binInt, ↓binStr, vopsE0, vopsE1, -vops, hlt, hlt', he, hie, -Bool.exists_bool])) | (refine AW.ret ?_; (try simp (implicitDefEqProofs := false) [↓callI, vopsN, vopsG, ↓step_slice, ↓Am.A.step, ↓binInt, ↓binStr, vopsE0, vopsE1, -vops, hlt, hlt', he, hie, -Bool.exists_bool])) | (refine AW.exit ?_; (try simp (implicitDefEqProofs := false) [↓callI, vopsN, vopsG, ↓step_slice, ↓Am.A.step, ↓binInt, ↓binStr, vopsE0, vopsE1, -vops, hlt, hlt', he, hie, -Bool.exists_bool])))
      refine AW.cond rfl (fun h => ?_) (fun h => ?_)
      · simp at h
      refine AW.exit ?_
      (try simp (implicitDefEqProofs := false) [↓callI, vopsN, vopsG, ↓step_slice, ↓Am.A.step, ↓binInt, ↓binStr, vopsE0, vopsE1, -vops, -Bool.exists_bool]; try simp (disch := omega) only [w64, wu64])
      repeat (first | refine AW.seq ?_ | refine AW.block ?_ | (refine AW.reg mix ?_; (simp (implicitDefEqProofs := false) [↓callI, vopsN, vopsG, ↓step_slice, ↓Am.A.step, ↓binInt, ↓binStr, vopsE0, vopsE1, -vops, he, hie, -Bool.exists_bool]; try simp (disch := omega) only [w64, wu64])) | (refine need.of (by first | omega | kernel_rfl) ?_) | (refine AW.skip ?_; (try simp (implicitDefEqProofs := false) [↓callI, vopsN, vopsG, ↓step_slice, ↓Am.A.step, ↓binInt, ↓binStr, vopsE0, vopsE1, -vops, he, hie, -Bool.exists_bool])) | (refine AW.ret ?_; (try simp (implicitDefEqProofs := false) [↓callI, vopsN, vopsG, ↓step_slice, ↓Am.A.step, ↓binInt, ↓binStr, vopsE0, vopsE1, -vops, he, hie, -Bool.exists_bool])) | (refine AW.exit ?_; (try simp (implicitDefEqProofs := false) [↓callI, vopsN, vopsG, ↓step_slice, ↓Am.A.step, ↓binInt, ↓binStr, vopsE0, vopsE1, -vops, he, hie, -Bool.exists_bool])))
      refine AW.cond rfl (fun h => ?_) (fun h => ?_)
      · repeat (first | refine AW.seq ?_ | refine AW.block ?_ | (refine AW.reg mix ?_; (simp (implicitDefEqProofs := false) [↓callI, vopsN, vopsG, ↓step_slice, ↓Am.A.step, ↓binInt, ↓binStr, vopsE0, vopsE1, -vops, -Bool.exists_bool]; try simp (disch := omega) only [w64, wu64])) | (refine need.of (by first | omega | kernel_rfl) ?_) | (refine AW.skip ?_; (try simp (implicitDefEqProofs := false) [↓callI, vopsN, vopsG, ↓step_slice, ↓Am.A.step, ↓binInt, ↓binStr, vopsE0, vopsE1, -vops, -Bool.exists_bool])) | (refine AW.ret ?_; (try simp (implicitDefEqProofs := false) [↓callI, vopsN, vopsG, ↓step_slice, ↓Am.A.step, ↓binInt, ↓binStr, vopsE0, vopsE1, -vops, -Bool.exists_bool])) | (refine AW.exit ?_; (try simp (implicitDefEqProofs := false) [↓callI, vopsN, vopsG, ↓step_slice, ↓Am.A.step, ↓binInt, ↓binStr, vopsE0, vopsE1, -vops, -Bool.exists_bool])))
        refine CallS.obj1 2 (dead_ok xs q true) (by first | exact plain_d _ | exact plain_tup2 _ _ | exact plain_tup3 _ _ _) ⟨rfl, fun _ => rfl⟩ ⟨rfl, fun _ => rfl⟩ rfl (by rfl) (Subs.of (by simp)) ?_
        (try simp (implicitDefEqProofs := false) [↓callI, vopsN, vopsG, ↓step_slice, ↓Am.A.step, ↓binInt, ↓binStr, vopsE0, vopsE1, -vops, -Bool.exists_bool]; try simp (disch := omega) only [w64, wu64])
        repeat (first | refine AW.seq ?_ | refine AW.block ?_ | (refine AW.reg mix ?_; (simp (implicitDefEqProofs := false) [↓callI, vopsN, vopsG, ↓step_slice, ↓Am.A.step, ↓binInt, ↓binStr, vopsE0, vopsE1, -vops, -Bool.exists_bool]; try simp (disch := omega) only [w64, wu64])) | (refine need.of (by first | omega | kernel_rfl) ?_) | (refine AW.skip ?_; (try simp (implicitDefEqProofs := false) [↓callI, vopsN, vopsG, ↓step_slice, ↓Am.A.step, ↓binInt, ↓binStr, vopsE0, vopsE1, -vops, -Bool.exists_bool])) | (refine AW.ret ?_; (try simp (implicitDefEqProofs := false) [↓callI, vopsN, vopsG, ↓step_slice, ↓Am.A.step, ↓binInt, ↓binStr, vopsE0, vopsE1, -vops, -Bool.exists_bool])) | (refine AW.exit ?_; (try simp (implicitDefEqProofs := false) [↓callI, vopsN, vopsG, ↓step_slice, ↓Am.A.step, ↓binInt, ↓binStr, vopsE0, vopsE1, -vops, -Bool.exists_bool])))
      · simp [he] at h
end
end Go.Proofs.YtakjegcjeffmgaaGreat.Am
namespace Go.Proofs.YtakjegcjeffmgaaGreat.Am
section
open Go.RowKit

theorem fnOf_enter {P : Program} {f : FuncId} {c : C} {rs : List RV} {nt : Nat} (hf : fnOf P f = some (c, rs, nt, false)) (vs : Array Value) (w : World) : (callFunc f vs).run P w = .ok (.enter f vs) w := by
  unfold fnOf at hf
  split at hf
  · rename_i fn hfn
    split at hf
    · rename_i b hb
      simp only [Option.some.injEq, Prod.mk.injEq] at hf
      obtain ⟨h1, h2, h3, h4⟩ := hf
      have h1 : ¬ fn.name = "runtime.NumGoroutine" := by simpa using h4
      simp [callFunc, hfn, h1, hb]
    · cases hf
  · cases hf

/-- the world that a law finds: nothing has a name, what is there stays -/
abbrev memW (W : World) : Mem := ⟨fun _ => none, fun b => b < W.heap.size, W⟩

theorem law_walk {P : Program} {f : FuncId} {args : List V} {c : C} {rs : List RV} {nt : Nat} (hf : fnOf P f = some (c, rs, nt, false)) (E : Eqn P f args [] (.d (.bool true)) []) {W : World} {vs : List Value} (h : V.reps (memW W) args vs) :
    Calls P f vs.toArray W (fun e W' => e = .returned (.bool true) ∧ Same W W') := by
  rcases E.run (memW W) vs ⟨fun b h => h, fun n b h => by cases h⟩ h (by simp) (fun n i b h => by simp at h) (fun _ _ => rfl) with ⟨v, h1, _⟩ | ⟨_, h2⟩
  · rw [fnOf_enter hf] at h1; cases h1
  · refine h2.mono ?_
    rintro e w' ⟨v, m', rfl, rfl, hE⟩
    have hv := hE.rep
    rw [V.rep_d] at hv
    unfold D.rep at hv
    subst hv
    exact ⟨rfl, hE.le.os, hE.le.tape, hE.le.output, hE.le.size, fun k hk _ => hE.le.imm k hk⟩

theorem reps_of {I : Nat → Prop} {w : World} {α : Type} (f : α → D) (g : α → Value) (h : ∀ a, D.rep I w (f a) (g a)) : ∀ l : List α, D.reps I w (l.map f) (l.map g)
  | [] => by simp
  | a :: l => by
    rw [List.map_cons, List.map_cons, D.reps_cons]
    exact ⟨h a, reps_of f g h l⟩

/-- a slice that came in, of cells that are data -/
theorem rep_cells {W : World} {v : Value} {α : Type} {l : List α} (f : α → D) (g : α → Value) (hg : ∀ a, (g a).oneCell' = true) (hr : ∀ a, D.rep (fun b => b < W.heap.size) W (f a) (g a)) (h : Cells W v 1 l.length (l.map g)) : V.rep (memW W) (.d (.sl l.length (l.map f))) v := by
  rw [V.rep_d]
  unfold D.rep
  obtain ⟨h1, p, cap, rfl, h2, h3, h4⟩ := h
  refine ⟨p, cap, rfl, h2, h3, l.map g, fun u hu => ?_, reps_of f g hr l, ?_⟩
  · obtain ⟨a, -, rfl⟩ := List.mem_map.1 hu
    exact hg a
  · rcases h4 with ⟨rfl, h5, h6⟩ | ⟨b, o, rfl, hb, hc⟩
    · left
      exact ⟨rfl, h6, by rw [List.eq_nil_of_length_eq_zero h5]; rfl⟩
    · exact .inr ⟨b, o, rfl, .inr hb, hc⟩

/-- bools that came in -/
theorem rep_bools {W : World} {v : Value} {cs : List Bool} (h : Bools W v cs) : V.rep (memW W) (.d (.sl cs.length (cs.map .bool))) v :=
  rep_cells D.bool Value.bool (fun _ => rfl) (fun _ => by unfold D.rep; rfl) h
theorem bools_len {W : World} {v : Value} {cs : List Bool} (h : Bools W v cs) : cs.length ≤ maxLen := h.len

/-- numbers and bools that came in -/
theorem rep_agg {W : World} {l : List D} {vs : List Value} (h1 : ∀ u ∈ vs, u.oneCell' = true) (h : D.reps (fun b => b < W.heap.size) W l vs) : V.rep (memW W) (.d (.agg l)) (.agg vs.toArray) := by
  rw [V.rep_d]
  unfold D.rep
  exact ⟨vs, rfl, h1, h⟩
end
end Go.Proofs.YtakjegcjeffmgaaGreat.Am
namespace Go.Proofs.YtakjegcjeffmgaaGreat.Am
section
open Go.RowKit

theorem reps_ints {I : Nat → Prop} {w : World} : ∀ l : List Int, D.reps I w (l.map (D.int .i64)) (l.map (Value.int .i64))
  | [] => D.reps_nil.2 rfl
  | _ :: l => D.reps_cons.2 ⟨D.rep_int.2 rfl, reps_ints l⟩
theorem rep_ints {W : World} (l : List Int) : V.rep (memW W) (.d (.agg (l.map (D.int .i64)))) (.agg (l.map (Value.int .i64)).toArray) :=
  rep_agg (fun u hu => by obtain ⟨n, -, rfl⟩ := List.mem_map.1 hu; rfl) (reps_ints l)

theorem ca_walk {W : World} {v : Value} {cs : List Bool} (w1 : Bools W v cs) {k a w n0 n1 n2 : Int} : Calls Tryz.prog n_Tlaw15_ChainAdds #[.agg #[.int .i64 k, .int .i64 a, .int .i64 w], v, .agg #[.int .i64 n0, .int .i64 n1, .int .i64 n2]] W (fun e W' => e = .returned (.bool true) ∧ Same W W') :=
  law_walk r_Tlaw15_ChainAdds (chainAdds_ok cs k a w n0 n1 n2 (by have := bools_len w1; unfold maxLen at this; omega))
    (V.reps_cons.2 ⟨rep_ints [k, a, w], V.reps_cons.2 ⟨rep_bools w1, V.reps_cons.2 ⟨rep_ints [n0, n1, n2], V.reps_nil.2 rfl⟩⟩⟩)
theorem cm_walk {W : World} {v : Value} {cs : List Bool} (w1 : Bools W v cs) {k a w n0 n1 n2 n3 : Int} : Calls Tryz.prog n_Tlaw15_ChainMerges #[.agg #[.int .i64 k, .int .i64 a, .int .i64 w], v, .agg #[.int .i64 n0, .int .i64 n1, .int .i64 n2, .int .i64 n3]] W (fun e W' => e = .returned (.bool true) ∧ Same W W') :=
  law_walk r_Tlaw15_ChainMerges (chainMerges_ok cs k a w n0 n1 n2 n3 (by have := bools_len w1; unfold maxLen at this; omega))
    (V.reps_cons.2 ⟨rep_ints [k, a, w], V.reps_cons.2 ⟨rep_bools w1, V.reps_cons.2 ⟨rep_ints [n0, n1, n2, n3], V.reps_nil.2 rfl⟩⟩⟩)
end
end Go.Proofs.YtakjegcjeffmgaaGreat.Am
