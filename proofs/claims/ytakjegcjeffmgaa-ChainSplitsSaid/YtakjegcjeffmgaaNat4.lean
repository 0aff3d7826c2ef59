import Derived.Test.YtakjegcjeffmgaaNat3
namespace Go.Proofs.Ytakjegcjeffmgaa.Am
open Go.RowKit
set_option maxRecDepth 100000
set_option linter.unusedSimpArgs false
set_option linter.unusedVariables false

/-- words moved so far -/
def rowM (k : Nat) (A : List Nat) (i : Nat) : List Nat := movedL k 0 (A.take i) ++ List.replicate (A.length - i) 0
theorem rowM_length (k : Nat) (A : List Nat) (i : Nat) (h : i ≤ A.length) : (rowM k A i).length = A.length + 1 := by
  rw [rowM, List.length_append, movedL_len, List.length_take, List.length_replicate]; omega
theorem rowM_zero (k : Nat) (A : List Nat) : rowM k A 0 = List.replicate (A.length + 1) 0 := by simp [rowM, movedL, List.replicate_succ]
theorem rowM_end (k : Nat) (A : List Nat) : rowM k A A.length = movedL k 0 A := by simp [rowM]
theorem rowM_get (k : Nat) (A : List Nat) (i : Nat) (h : i < A.length) : (rowM k A i).getD i 0 = movedC k 0 (A.take i) := by
  have e : i = (movedB k 0 (A.take i)).length := by rw [movedB_len, List.length_take]; omega
  rw [rowM, movedL_eq, List.append_assoc, List.getD, List.getElem?_append_right (by omega), show i - (movedB k 0 (A.take i)).length = 0 by omega]
  rfl
theorem rowM_set (k : Nat) (A : List Nat) (i : Nat) (h : i < A.length) : ((rowM k A i).set i (A.getD i 0 * 2 ^ k % 18446744073709551616 + movedC k 0 (A.take i))).set (i + 1) (A.getD i 0 * 2 ^ k / 18446744073709551616) = rowM k A (i + 1) := by
  have e : (movedB k 0 (A.take i)).length = i := by rw [movedB_len, List.length_take]; omega
  obtain ⟨r, hr⟩ : ∃ r, A.length = i + r + 1 := ⟨A.length - i - 1, by omega⟩
  rw [rowM, rowM, movedL_eq, movedL_eq, take_succ_getD _ _ h, movedB_snoc, movedC_snoc, hr, show i + r + 1 - i = r + 1 by omega, show i + r + 1 - (i + 1) = r by omega, List.replicate_succ]
  simp only [List.append_assoc, List.cons_append, List.nil_append]
  rw [List.set_append_right _ _ (by omega), List.set_append_right _ _ (by omega), e]
  simp

@[simp] theorem bits_u64 : IntKind.u64.bits = 64 := rfl
@[simp] theorem bits_i64 : IntKind.i64.bits = 64 := rfl
@[simp] theorem bits_u32 : IntKind.u32.bits = 32 := rfl
@[simp] theorem bits_u8 : IntKind.u8.bits = 8 := rfl
def cellM (k : Nat) (A : List Nat) (i : Nat) : List V := U (rowM k A i)
@[simp] theorem lowl_U (n : Nat) (l : List Nat) : V.lowl n (U l) = true := by induction l <;> simp_all [U, V.lowl, V.low]

set_option maxHeartbeats 1000000 in
theorem moved_ok (A : List Nat) (k : Nat) (hk : k < 64) (hs : small A) (hn : A.length ≤ 1000000) : Eqn Try.prog n_nat_moved [.d (W A), .d (.int .i64 k)] [] (.d (W (movedL k 0 A))) [] := by
  refine Eqn.pure r_nat_moved (plain_d _) ?_
  simp only [c_nat_moved, W]
  repeat (first | refine AW.seq ?_ | refine AW.block ?_ | (refine AW.reg mix ?_; (simp; try simp (disch := omega) only [w64, wu64])) | (refine need.of (by first | omega | kernel_rfl) ?_) | (refine AW.skip ?_; (try simp)) | (refine AW.ret ?_; (try simp)) | (refine AW.exit ?_; (try simp)))
  rw [show List.replicate (A.length + 1) (V.d (.int .u64 0)) = cellM k A 0 by rw [cellM, rowM_zero]; simp [U]]
  have hlow : ∀ i, V.lowl 1 (cellM k A i) = true := fun i => lowl_U 1 _
  refine AW.loopT (α := Nat) 1 (fun i => [(14, .d (.int .i64 (i : Int)))]) (fun i => [(0, ⟨86, cellM k A i⟩)]) (fun i => i ≤ A.length) (fun i => A.length - i) 0 ?_ ?_ (Nat.zero_le _) ?_ ?_ ?_
  · simp
  · simp
  · simp
  · simp [hlow]
  rintro i hi
  simp
  by_cases h : i = A.length
  · subst h
    repeat (first | refine AW.seq ?_ | refine AW.block ?_ | (refine AW.reg mix ?_; (simp; try simp (disch := omega) only [w64, wu64])) | (refine need.of (by first | omega | kernel_rfl) ?_) | (refine AW.skip ?_; (try simp)) | (refine AW.ret ?_; (try simp)) | (refine AW.exit ?_; (try simp)))
    refine AW.cond rfl (fun h => ?_) (fun h => ?_)
    · simp at h
    refine AW.exit ?_
    (try simp; try simp (disch := omega) only [w64, wu64])
    have hl : (movedL k 0 A).length = A.length + 1 := movedL_len _ _ _
    rw [cellM, rowM_end]
    generalize movedL k 0 A = ws at hl
    refine AW.freeze 0 1 ⟨86, _⟩ (ws.map fun x : Nat => .int .u64 x) (by rfl) (by simp) ?_
    simp [← hl, List.take_of_length_le]
    repeat (first | refine AW.seq ?_ | refine AW.block ?_ | (refine AW.reg mix ?_; (simp; try simp (disch := omega) only [w64, wu64])) | (refine need.of (by first | omega | kernel_rfl) ?_) | (refine AW.skip ?_; (try simp)) | (refine AW.ret ?_; (try simp)) | (refine AW.exit ?_; (try simp)))
  · have hi' : i < A.length := by omega
    have hp : (i : Int) < A.length := by omega
    obtain ⟨c, y, u, hl, hq, hor, hw, hd, hset⟩ : ∃ c z u : Nat, (cellM k A i).length = A.length + 1 ∧ (cellM k A i)[i]? = some (.d (.int .u64 c)) ∧ bits BinOp.or IntKind.u64 (c : Int) (IntKind.u64.wrap ((A[i] : Int) * 2 ^ k)) = (z : Int) ∧
        True ∧ (A[i] : Int) / 2 ^ (64 - k) = (u : Int) ∧ ((cellM k A i).set i (.d (.int .u64 z))).set (i + 1) (.d (.int .u64 u)) = cellM k A (i + 1) := by
      have hl := rowM_length k A i hi
      have hc := movedC_lt (k := k) (l := A.take i) (c := 0) (hs.take i) (Nat.two_pow_pos k)
      have hset := rowM_set k A i hi'
      rw [← W_get hi'] at hset
      refine ⟨movedC k 0 (A.take i), A[i] * 2 ^ k % 18446744073709551616 + movedC k 0 (A.take i), A[i] * 2 ^ k / 18446744073709551616, by simp [cellM, U, hl], ?_, ?_, trivial, ?_, ?_⟩
      · have := rowM_get k A i hi'
        rw [List.getD, List.getElem?_eq_getElem (by omega)] at this
        rw [cellM, U, List.getElem?_map, List.getElem?_eq_getElem (by omega)]
        simp at this
        simp [this]
      · rw [show IntKind.u64.wrap ((A[i] : Int) * 2 ^ k) = ((A[i] * 2 ^ k % 18446744073709551616 : Nat) : Int) by rw [IntKind.wrap_u64, Int.natCast_emod, Int.natCast_mul, Int.natCast_pow]; rfl]
        rw [bits_or_u64_nat _ _ (Nat.lt_of_lt_of_le hc (by rw [show (18446744073709551616 : Nat) = 2 ^ 64 by rfl]; exact Nat.pow_le_pow_right (by decide) (by omega))) (Nat.mod_lt _ (by decide)), or_moved hk hc]
      · rw [moved_div (by omega), Int.natCast_ediv, Int.natCast_pow]; rfl
      · rw [cellM, cellM, ← hset, U, U, List.map_set, List.map_set]
    have hn : ((64 : Int) - k).toNat = 64 - k := by omega
    have e1 : IntKind.i64.wrap ((i : Int) + 1) = (i : Int) + 1 := w64 (by omega) (by omega)
    have e2 : IntKind.i64.wrap ((64 : Int) - k) = (64 : Int) - k := w64 (by omega) (by omega)
    generalize cellM k A i = cm at hl hq hset
    repeat (first | refine AW.seq ?_ | refine AW.block ?_ | (refine AW.reg mix ?_; (simp [hi', hp]; try simp (disch := omega) only [w64, wu64])) | (refine need.of (by first | omega | kernel_rfl) ?_) | (refine AW.skip ?_; (try simp [hi', hp])) | (refine AW.ret ?_; (try simp [hi', hp])) | (refine AW.exit ?_; (try simp [hi', hp])))
    refine AW.cond rfl (fun h => ?_) (fun h => ?_)
    · clear h
      repeat (first | refine AW.seq ?_ | refine AW.block ?_ | (refine AW.reg mix ?_; (simp [hi', hp, hl, hq, hor, e1, e2, hn, hd, hset]; try simp (disch := omega) only [w64, wu64])) | (refine need.of (by first | omega | kernel_rfl) ?_) | (refine AW.skip ?_; (try simp [hi', hp, hl, hq, hor, e1, e2, hn, hd, hset])) | (refine AW.ret ?_; (try simp [hi', hp, hl, hq, hor, e1, e2, hn, hd, hset])) | (refine AW.exit ?_; (try simp [hi', hp, hl, hq, hor, e1, e2, hn, hd, hset])))
      exact ⟨i + 1, by omega, by omega, by simp [wk], by simp [wkH, hlow]⟩
    · simp at h
end Go.Proofs.Ytakjegcjeffmgaa.Am
