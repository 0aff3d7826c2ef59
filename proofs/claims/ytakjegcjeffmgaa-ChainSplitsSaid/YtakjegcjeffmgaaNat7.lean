import Derived.Test.YtakjegcjeffmgaaNat6
import Derived.Test.YtakjegcjeffmgaaAmTri
import Derived.Test.YtakjegcjeffmgaaYuM
import Derived.Test.YtakjegcjeffmgaaDivM
namespace Go.Proofs.Ytakjegcjeffmgaa.Am
open Go.RowKit
set_option maxRecDepth 100000
set_option linter.unusedSimpArgs false
set_option linter.unusedVariables false

theorem lenTab_ok : ∀ i : Nat, i < 256 → (([0, 1, 2, 2, 3, 3, 3, 3, 4, 4, 4, 4, 4, 4, 4, 4, 5, 5, 5, 5, 5, 5, 5, 5, 5, 5, 5, 5, 5, 5, 5, 5, 6, 6, 6, 6, 6, 6, 6, 6, 6, 6, 6, 6, 6, 6, 6, 6, 6, 6, 6, 6, 6, 6, 6, 6, 6, 6, 6, 6, 6, 6, 6, 6, 7, 7, 7, 7, 7, 7, 7, 7, 7, 7, 7, 7, 7, 7, 7, 7, 7, 7, 7, 7, 7, 7, 7, 7, 7, 7, 7, 7, 7, 7, 7, 7, 7, 7, 7, 7, 7, 7, 7, 7, 7, 7, 7, 7, 7, 7, 7, 7, 7, 7, 7, 7, 7, 7, 7, 7, 7, 7, 7, 7, 7, 7, 7, 7, 8, 8, 8, 8, 8, 8, 8, 8, 8, 8, 8, 8, 8, 8, 8, 8, 8, 8, 8, 8, 8, 8, 8, 8, 8, 8, 8, 8, 8, 8, 8, 8, 8, 8, 8, 8, 8, 8, 8, 8, 8, 8, 8, 8, 8, 8, 8, 8, 8, 8, 8, 8, 8, 8, 8, 8, 8, 8, 8, 8, 8, 8, 8, 8, 8, 8, 8, 8, 8, 8, 8, 8, 8, 8, 8, 8, 8, 8, 8, 8, 8, 8, 8, 8, 8, 8, 8, 8, 8, 8, 8, 8, 8, 8, 8, 8, 8, 8, 8, 8, 8, 8, 8, 8, 8, 8, 8, 8, 8, 8, 8, 8, 8, 8, 8, 8, 8, 8, 8, 8, 8, 8, 8, 8, 8, 8, 8, 8] : List UInt8)[i]?.getD 0).toNat = bitsN i := by
  have h : ((List.range 256).all fun i => (([0, 1, 2, 2, 3, 3, 3, 3, 4, 4, 4, 4, 4, 4, 4, 4, 5, 5, 5, 5, 5, 5, 5, 5, 5, 5, 5, 5, 5, 5, 5, 5, 6, 6, 6, 6, 6, 6, 6, 6, 6, 6, 6, 6, 6, 6, 6, 6, 6, 6, 6, 6, 6, 6, 6, 6, 6, 6, 6, 6, 6, 6, 6, 6, 7, 7, 7, 7, 7, 7, 7, 7, 7, 7, 7, 7, 7, 7, 7, 7, 7, 7, 7, 7, 7, 7, 7, 7, 7, 7, 7, 7, 7, 7, 7, 7, 7, 7, 7, 7, 7, 7, 7, 7, 7, 7, 7, 7, 7, 7, 7, 7, 7, 7, 7, 7, 7, 7, 7, 7, 7, 7, 7, 7, 7, 7, 7, 7, 8, 8, 8, 8, 8, 8, 8, 8, 8, 8, 8, 8, 8, 8, 8, 8, 8, 8, 8, 8, 8, 8, 8, 8, 8, 8, 8, 8, 8, 8, 8, 8, 8, 8, 8, 8, 8, 8, 8, 8, 8, 8, 8, 8, 8, 8, 8, 8, 8, 8, 8, 8, 8, 8, 8, 8, 8, 8, 8, 8, 8, 8, 8, 8, 8, 8, 8, 8, 8, 8, 8, 8, 8, 8, 8, 8, 8, 8, 8, 8, 8, 8, 8, 8, 8, 8, 8, 8, 8, 8, 8, 8, 8, 8, 8, 8, 8, 8, 8, 8, 8, 8, 8, 8, 8, 8, 8, 8, 8, 8, 8, 8, 8, 8, 8, 8, 8, 8, 8, 8, 8, 8, 8, 8, 8, 8, 8, 8] : List UInt8)[i]?.getD 0).toNat == bitsN i) = true := by kernel_rfl
  intro i hi
  have := List.all_eq_true.1 h i (List.mem_range.2 hi)
  exact eq_of_beq this

set_option maxHeartbeats 1000000 in
theorem len64_ok (x : Nat) (hx : x < 18446744073709551616) : Eqn Try.prog n_math_bits_Len64 [.d (.int .u64 x)] [] (.d (.int .i64 (bitsN x))) [] := by
  refine Eqn.pure r_math_bits_Len64 (plain_d _) ?_
  simp only [c_math_bits_Len64]
  obtain ⟨x1, n1, h1, hx1, hn1, e1⟩ : ∃ x1 n1 : Nat, (x1, n1) = (if 4294967296 ≤ x then (x / 4294967296, 32) else (x, 0)) ∧ x1 < 4294967296 ∧ n1 ≤ 32 ∧ bitsN x = n1 + bitsN x1 := by
    by_cases h : 4294967296 ≤ x
    · exact ⟨x / 4294967296, 32, by rw [if_pos h], by omega, by omega, bitsN_div (k := 32) h⟩
    · exact ⟨x, 0, by rw [if_neg h], by omega, by omega, by omega⟩
  obtain ⟨x2, n2, h2, hx2, hn2, e2⟩ : ∃ x2 n2 : Nat, (x2, n2) = (if 65536 ≤ x1 then (x1 / 65536, n1 + 16) else (x1, n1)) ∧ x2 < 65536 ∧ n2 ≤ 48 ∧ bitsN x = n2 + bitsN x2 := by
    by_cases h : 65536 ≤ x1
    · exact ⟨x1 / 65536, n1 + 16, by rw [if_pos h], by omega, by omega, by have := bitsN_div (k := 16) h; rw [e1, this]; simp; omega⟩
    · exact ⟨x1, n1, by rw [if_neg h], by omega, by omega, by omega⟩
  obtain ⟨x3, n3, h3, hx3, hn3, e3⟩ : ∃ x3 n3 : Nat, (x3, n3) = (if 256 ≤ x2 then (x2 / 256, n2 + 8) else (x2, n2)) ∧ x3 < 256 ∧ n3 ≤ 56 ∧ bitsN x = n3 + bitsN x3 := by
    by_cases h : 256 ≤ x2
    · exact ⟨x2 / 256, n2 + 8, by rw [if_pos h], by omega, by omega, by have := bitsN_div (k := 8) h; rw [e2, this]; simp; omega⟩
    · exact ⟨x2, n2, by rw [if_neg h], by omega, by omega, by omega⟩
  rw [e3]
  clear e1 e2 e3
  refine AW.seq (AW.reg mix ?_)
  (simp; try simp (disch := omega) only [w64, wu64])
  refine AW.cut 0 [(0, .d (.int .u64 x1)), (2, .d (.int .i64 n1))] [] (by simp) (by simp) ?_ ?_
  · have hd : (x : Int) / 4294967296 = (x / 4294967296 : Nat) := rfl
    repeat (first | refine AW.seq ?_ | refine AW.block ?_ | (refine AW.reg mix ?_; (simp; try simp (disch := omega) only [w64, wu64])) | (refine need.of (by first | omega | kernel_rfl) ?_) | (refine AW.skip ?_; (try simp)) | (refine AW.ret ?_; (try simp)) | (refine AW.exit ?_; (try simp)))
    refine AW.cond rfl (fun h => ?_) (fun h => ?_)
    · rw [if_pos (by simp at h; omega)] at h1
      cases h1
      generalize x / 4294967296 = q at *
      repeat (first | refine AW.seq ?_ | refine AW.block ?_ | (refine AW.reg mix ?_; (simp [hd]; try simp (disch := omega) only [w64, wu64])) | (refine need.of (by first | omega | kernel_rfl) ?_) | (refine AW.skip ?_; (try simp [hd])) | (refine AW.ret ?_; (try simp [hd])) | (refine AW.exit ?_; (try simp [hd])))
    · rw [if_neg (by simp at h; omega)] at h1
      cases h1
      repeat (first | refine AW.seq ?_ | refine AW.block ?_ | (refine AW.reg mix ?_; (simp; try simp (disch := omega) only [w64, wu64])) | (refine need.of (by first | omega | kernel_rfl) ?_) | (refine AW.skip ?_; (try simp)) | (refine AW.ret ?_; (try simp)) | (refine AW.exit ?_; (try simp)))
  clear h1 hx
  simp
  refine AW.cut 0 [(0, .d (.int .u64 x2)), (2, .d (.int .i64 n2))] [] (by simp) (by simp) ?_ ?_
  · have hd : (x1 : Int) / 65536 = (x1 / 65536 : Nat) := rfl
    have ew : IntKind.i64.wrap ((n1 : Int) + 16) = ((n1 + 16 : Nat) : Int) := w64 (by omega) (by omega)
    repeat (first | refine AW.seq ?_ | refine AW.block ?_ | (refine AW.reg mix ?_; (simp; try simp (disch := omega) only [w64, wu64])) | (refine need.of (by first | omega | kernel_rfl) ?_) | (refine AW.skip ?_; (try simp)) | (refine AW.ret ?_; (try simp)) | (refine AW.exit ?_; (try simp)))
    refine AW.cond rfl (fun h => ?_) (fun h => ?_)
    · rw [if_pos (by simp at h; omega)] at h2
      cases h2
      generalize x1 / 65536 = q at *
      repeat (first | refine AW.seq ?_ | refine AW.block ?_ | (refine AW.reg mix ?_; (simp [hd, ew]; try simp (disch := omega) only [w64, wu64])) | (refine need.of (by first | omega | kernel_rfl) ?_) | (refine AW.skip ?_; (try simp [hd, ew])) | (refine AW.ret ?_; (try simp [hd, ew])) | (refine AW.exit ?_; (try simp [hd, ew])))
    · rw [if_neg (by simp at h; omega)] at h2
      cases h2
      repeat (first | refine AW.seq ?_ | refine AW.block ?_ | (refine AW.reg mix ?_; (simp; try simp (disch := omega) only [w64, wu64])) | (refine need.of (by first | omega | kernel_rfl) ?_) | (refine AW.skip ?_; (try simp)) | (refine AW.ret ?_; (try simp)) | (refine AW.exit ?_; (try simp)))
  clear h2 hx1 hn1
  simp
  refine AW.cut 0 [(0, .d (.int .u64 x3)), (2, .d (.int .i64 n3))] [] (by simp) (by simp) ?_ ?_
  · have hd : (x2 : Int) / 256 = (x2 / 256 : Nat) := rfl
    have ew : IntKind.i64.wrap ((n2 : Int) + 8) = ((n2 + 8 : Nat) : Int) := w64 (by omega) (by omega)
    repeat (first | refine AW.seq ?_ | refine AW.block ?_ | (refine AW.reg mix ?_; (simp; try simp (disch := omega) only [w64, wu64])) | (refine need.of (by first | omega | kernel_rfl) ?_) | (refine AW.skip ?_; (try simp)) | (refine AW.ret ?_; (try simp)) | (refine AW.exit ?_; (try simp)))
    refine AW.cond rfl (fun h => ?_) (fun h => ?_)
    · rw [if_pos (by simp at h; omega)] at h3
      cases h3
      generalize x2 / 256 = q at *
      repeat (first | refine AW.seq ?_ | refine AW.block ?_ | (refine AW.reg mix ?_; (simp [hd, ew]; try simp (disch := omega) only [w64, wu64])) | (refine need.of (by first | omega | kernel_rfl) ?_) | (refine AW.skip ?_; (try simp [hd, ew])) | (refine AW.ret ?_; (try simp [hd, ew])) | (refine AW.exit ?_; (try simp [hd, ew])))
    · rw [if_neg (by simp at h; omega)] at h3
      cases h3
      repeat (first | refine AW.seq ?_ | refine AW.block ?_ | (refine AW.reg mix ?_; (simp; try simp (disch := omega) only [w64, wu64])) | (refine need.of (by first | omega | kernel_rfl) ?_) | (refine AW.skip ?_; (try simp)) | (refine AW.ret ?_; (try simp)) | (refine AW.exit ?_; (try simp)))
  clear h3 hx2 hn2
  simp
  have ew1 : IntKind.u8.wrap (x3 : Int) = x3 := by rw [show IntKind.u8.wrap (x3 : Int) = (x3 : Int) % 256 from rfl]; omega
  have hb := lenTab_ok x3 hx3
  have hB : bitsN x3 ≤ 8 := bitsN_le (by omega)
  have ew2 : IntKind.i64.wrap (bitsN x3 : Int) = bitsN x3 := w64 (by omega) (by omega)
  have ew3 : IntKind.i64.wrap ((n3 : Int) + bitsN x3) = (n3 : Int) + bitsN x3 := w64 (by omega) (by omega)
  refine AW.seq (AW.reg mix ?_)
  simp [ew1, hb, ew2, ew3]
  refine need.of (Nat.lt_of_lt_of_le hx3 (by decide)) ?_
  repeat (first | refine AW.seq ?_ | refine AW.block ?_ | (refine AW.reg mix ?_; (simp; try simp (disch := omega) only [w64, wu64])) | (refine need.of (by first | omega | kernel_rfl) ?_) | (refine AW.skip ?_; (try simp)) | (refine AW.ret ?_; (try simp)) | (refine AW.exit ?_; (try simp)))

theorem wval_snoc_bits {l : List Nat} {x : Nat} (hs : small l) (h0 : 0 < x) : bitsN (wval (l ++ [x])) = 64 * l.length + bitsN x := by
  have hp : (18446744073709551616 : Nat) ^ l.length = 2 ^ (64 * l.length) := by rw [show (18446744073709551616 : Nat) = 2 ^ 64 by rfl, ← Nat.pow_mul]
  have hlt := wval_lt hs
  have hv : wval (l ++ [x]) = wval l + 2 ^ (64 * l.length) * x := by rw [wval_append, hp]; simp [wval]
  rw [hp] at hlt
  rw [hv, bitsN_div (k := 64 * l.length) (by have := Nat.le_mul_of_pos_right (2 ^ (64 * l.length)) h0; omega), Nat.add_mul_div_left _ _ (Nat.two_pow_pos _), Nat.div_eq_of_lt hlt, Nat.zero_add]

theorem bits_ok (n : Nat) (hn : size n ≤ 1000000) : Eqn Try.prog n_nat_Nat_Bits [.d (.agg [natW n])] [] (.d (.int .i64 (bitsN n))) [] := by
  refine Eqn.pure r_nat_Nat_Bits (plain_d _) ?_
  simp only [c_nat_Nat_Bits, natW, W]
  unfold size at hn
  have hs := words_small n
  have ht := words_top n
  have hv := words_val n
  generalize words n = ws at *
  rcases List.eq_nil_or_concat ws with rfl | ⟨l, x, rfl⟩
  · repeat (first | refine AW.seq ?_ | refine AW.block ?_ | (refine AW.reg mix ?_; (simp; try simp (disch := omega) only [w64, wu64])) | (refine need.of (by first | omega | kernel_rfl) ?_) | (refine AW.skip ?_; (try simp)) | (refine AW.ret ?_; (try simp)) | (refine AW.exit ?_; (try simp)))
    refine AW.cond rfl (fun h => ?_) (fun h => ?_)
    · repeat (first | refine AW.seq ?_ | refine AW.block ?_ | (refine AW.reg mix ?_; (simp; try simp (disch := omega) only [w64, wu64])) | (refine need.of (by first | omega | kernel_rfl) ?_) | (refine AW.skip ?_; (try simp)) | (refine AW.ret ?_; (try simp)) | (refine AW.exit ?_; (try simp)))
      rw [← hv]
      exact Sub1.refl _
    · simp at h
  · rw [List.concat_eq_append] at *
    have hx0 : 0 < x := by
      have := ht l.length (by simp)
      simp [List.getD] at this
      omega
    have hx : x < 18446744073709551616 := hs x (by simp)
    have hb := wval_snoc_bits (l := l) (x := x) (fun y hy => hs y (by simp [hy])) hx0
    rw [hv] at hb
    have hB : bitsN x ≤ 64 := bitsN_le (by omega)
    have hll : l.length ≤ 1000000 := by simp at hn; omega
    have e1 : IntKind.i64.wrap ((l.length : Int) + 1 - 1) = (l.length : Int) := by rw [Int.add_sub_cancel]; exact w64 (by omega) (by omega)
    have e2 : IntKind.i64.wrap ((64 : Int) * l.length) = ((64 * l.length : Nat) : Int) := w64 (by omega) (by omega)
    have e0 : IntKind.i64.wrap (l.length : Int) = (l.length : Int) := w64 (by omega) (by omega)
    have hne : ¬ (l.length : Int) + 1 = 0 := by omega
    repeat (first | refine AW.seq ?_ | refine AW.block ?_ | (refine AW.reg mix ?_; (simp [hne, e1, e2, e0]; try simp (disch := omega) only [w64, wu64])) | (refine need.of (by first | omega | kernel_rfl) ?_) | (refine AW.skip ?_; (try simp [hne, e1, e2, e0])) | (refine AW.ret ?_; (try simp [hne, e1, e2, e0])) | (refine AW.exit ?_; (try simp [hne, e1, e2, e0])))
    refine AW.cond rfl (fun h => ?_) (fun h => ?_)
    · simp at h
      omega
    rw [hb]
    have e3 : IntKind.i64.wrap (((64 * l.length : Nat) : Int) + bitsN x) = ((64 * l.length + bitsN x : Nat) : Int) := w64 (by omega) (by omega)
    generalize 64 * l.length = q at *
    repeat (first | refine AW.seq ?_ | refine AW.block ?_ | (refine AW.reg mix ?_; (simp [hne, e1, e2, e0]; try simp (disch := omega) only [w64, wu64])) | (refine need.of (by first | omega | kernel_rfl) ?_) | (refine AW.skip ?_; (try simp [hne, e1, e2, e0])) | (refine AW.ret ?_; (try simp [hne, e1, e2, e0])) | (refine AW.exit ?_; (try simp [hne, e1, e2, e0])))
    refine CallS.pure (len64_ok x hx) (by first | exact plain_d _ | exact plain_tup2 _ _ | exact plain_tup3 _ _ _) rfl (fun _ => rfl) (Subs.refl _) ?_
    (try simp [e3]; try simp (disch := omega) only [w64, wu64])
    repeat (first | refine AW.seq ?_ | refine AW.block ?_ | (refine AW.reg mix ?_; (simp [e3]; try simp (disch := omega) only [w64, wu64])) | (refine need.of (by first | omega | kernel_rfl) ?_) | (refine AW.skip ?_; (try simp [e3])) | (refine AW.ret ?_; (try simp [e3])) | (refine AW.exit ?_; (try simp [e3])))

theorem clone64_own (n : Nat) (l : List D) (hl : l.length = n) (h0 : 0 < n) (hn : n ≤ 4000000000) : Eqn Try.prog n_slices_Clone_uint64_uint64 [.d (.sl n l)] [] (.own 0 1 n) [⟨86, l.map .d⟩] := by
  refine Eqn.newX r_slices_Clone_uint64_uint64 rfl (plainL_d _) (fun n => rfl) ?_
  simp only [c_slices_Clone_uint64_uint64]
  repeat (first | refine AW.seq ?_ | refine AW.block ?_ | (refine AW.reg mix ?_; (simp [h0]; try simp (disch := omega) only [w64, wu64])) | (refine need.of (by first | omega | kernel_rfl) ?_) | (refine AW.skip ?_; (try simp [h0])) | (refine AW.ret ?_; (try simp [h0])) | (refine AW.exit ?_; (try simp [h0])))
  refine AW.cond rfl (fun h => ?_) (fun h => ?_)
  · simp at h
  · repeat (first | refine AW.seq ?_ | refine AW.block ?_ | (refine AW.reg mix ?_; (simp; try simp (disch := omega) only [w64, wu64])) | (refine need.of (by first | omega | kernel_rfl) ?_) | (refine AW.skip ?_; (try simp)) | (refine AW.ret ?_; (try simp)) | (refine AW.exit ?_; (try simp)))
    have h1 : ¬ n = 0 := by omega
    simp [h1, hl]
    refine need.of (by omega) ?_
    repeat (first | refine AW.seq ?_ | refine AW.block ?_ | (refine AW.reg mix ?_; (simp; try simp (disch := omega) only [w64, wu64])) | (refine need.of (by first | omega | kernel_rfl) ?_) | (refine AW.skip ?_; (try simp)) | (refine AW.ret ?_; (try simp)) | (refine AW.exit ?_; (try simp)))
    exact ⟨0, Sub1.refl _, _, rfl, rfl, Subs.refl _⟩

/-- words so far moved down -/
def shrI (k : Nat) (A : List Nat) (i : Nat) : List Nat := (shrL k A).take i ++ A.drop i
theorem shrL_get (k : Nat) : ∀ (A : List Nat) (i : Nat), i < A.length → (shrL k A).getD i 0 = A.getD i 0 / 2 ^ k + A.getD (i + 1) 0 * 2 ^ (64 - k) % 18446744073709551616
  | [], i, h => by simp at h
  | x :: l, 0, h => by simp [shrL]
  | x :: l, i + 1, h => by
    have := shrL_get k l i (by simpa using h)
    simpa [shrL] using this
theorem shrI_len (k : Nat) (A : List Nat) (i : Nat) (h : i ≤ A.length) : (shrI k A i).length = A.length := by
  rw [shrI, List.length_append, List.length_take, shrL_len, List.length_drop]; omega
theorem shrI_get (k : Nat) (A : List Nat) (i j : Nat) (h : i ≤ j) (hj : j < A.length) : (shrI k A i)[j]? = some (A.getD j 0) := by
  rw [shrI, List.getElem?_append_right (by rw [List.length_take, shrL_len]; omega), List.length_take, shrL_len, List.getElem?_drop, show i + (j - min i A.length) = j by omega]
  simp [List.getD, hj]
theorem shrI_set (k : Nat) (A : List Nat) (i : Nat) (h : i < A.length) (y : Nat) (hy : y = (shrL k A).getD i 0) : (shrI k A i).set i y = shrI k A (i + 1) := by
  have hi : ((shrL k A).take i).length = i := by rw [List.length_take, shrL_len]; omega
  rw [shrI, shrI, List.set_append_right _ _ (by omega), hi, Nat.sub_self, take_succ_getD _ _ (by rw [shrL_len]; exact h), ← hy, List.append_assoc]
  congr 1
  rw [List.drop_eq_getElem_cons h]
  rfl
theorem shrI_end (k : Nat) (A : List Nat) : shrI k A A.length = shrL k A := by
  rw [shrI, List.drop_length, List.append_nil, List.take_of_length_le (by rw [shrL_len]; omega)]

theorem or_shr {k x y : Nat} (hk : k < 64) (hx : x < 18446744073709551616) : x / 2 ^ k ||| (y * 2 ^ (64 - k) % 18446744073709551616) = x / 2 ^ k + y * 2 ^ (64 - k) % 18446744073709551616 := by
  have hB : (18446744073709551616 : Nat) = 2 ^ k * 2 ^ (64 - k) := by rw [← Nat.pow_add, show k + (64 - k) = 64 by omega]
  have h6 : x / 2 ^ k < 2 ^ (64 - k) := by
    rw [Nat.div_lt_iff_lt_mul (Nat.two_pow_pos k), Nat.mul_comm, ← hB]; exact hx
  have e : y * 2 ^ (64 - k) % 18446744073709551616 = 2 ^ (64 - k) * (y % 2 ^ k) := by rw [hB, Nat.mul_mod_mul_right, Nat.mul_comm]
  rw [e, Nat.or_comm, ← Nat.two_pow_add_eq_or_of_lt h6, Nat.add_comm]

set_option maxHeartbeats 2000000 in
theorem shr_ok (a n : Nat) (ha : size a ≤ 1000000) (hn : n ≤ 1000000000) : Eqn Try.prog n_nat_Shr [.d (.agg [natW a]), .d (.int .i64 n)] [] (.d (.agg [natW (a / 2 ^ n)])) [] := by
  refine Eqn.pure r_nat_Shr (plain_d _) ?_
  simp only [c_nat_Shr]
  rw [show natW a = .sl (words a).length ((words a).map fun x : Nat => .int .u64 x) from rfl]
  unfold size at ha
  have hs := words_small a
  have hv := words_val a
  generalize words a = ws at *
  have hm : max 0 (n : Int) = n := by omega
  have hq : (n : Int) / 64 = (n / 64 : Nat) := rfl
  have hr : (n : Int).tmod 64 = (n % 64 : Nat) := by rw [Int.tmod_eq_emod_of_nonneg (by omega)]; rfl
  have hval : wval (shrL (n % 64) (ws.drop (n / 64))) = a / 2 ^ n ∧ small (shrL (n % 64) (ws.drop (n / 64))) := by
    obtain ⟨h1, h2⟩ := shrL_val (k := n % 64) (by omega) (ws.drop (n / 64)) (fun x hx => hs x (List.mem_of_mem_drop hx))
    refine ⟨?_, h2⟩
    rw [h1, wval_drop _ _ hs, hv, show (18446744073709551616 : Nat) = 2 ^ 64 by rfl, ← Nat.pow_mul, Nat.div_div_eq_div_mul, ← Nat.pow_add, Nat.div_add_mod]
  have hmk : n % 64 < 64 := by omega
  have hqn : n / 64 ≤ n := Nat.div_le_self _ _
  generalize hk : n % 64 = k at *
  generalize n / 64 = q at *
  repeat (first | refine AW.seq ?_ | refine AW.block ?_ | (refine AW.reg mix ?_; (simp [hm, hq]; try simp (disch := omega) only [w64, wu64])) | (refine need.of (by first | omega | kernel_rfl) ?_) | (refine AW.skip ?_; (try simp [hm, hq])) | (refine AW.ret ?_; (try simp [hm, hq])) | (refine AW.exit ?_; (try simp [hm, hq])))
  refine AW.cond rfl (fun h => ?_) (fun h => ?_)
  · have hlen : ws.length ≤ q := by simp at h; omega
    repeat (first | refine AW.seq ?_ | refine AW.block ?_ | (refine AW.reg mix ?_; (simp; try simp (disch := omega) only [w64, wu64])) | (refine need.of (by first | omega | kernel_rfl) ?_) | (refine AW.skip ?_; (try simp)) | (refine AW.ret ?_; (try simp)) | (refine AW.exit ?_; (try simp)))
    rw [List.drop_of_length_le hlen] at hval
    rw [← hval.1]
    exact Sub1.nat0
  · have hlt : q < ws.length := by simp at h; omega
    have hlt' : (q : Int) < ws.length := by omega
    have hb1 : ((ws.length : Int) - q).toNat = (ws.drop q).length := by rw [List.length_drop]; omega
    have hbp : 0 < (ws.drop q).length ∧ (ws.drop q).length ≤ 1000000 := by rw [List.length_drop]; omega
    have hsB : small (ws.drop q) := fun x hx => hs x (List.mem_of_mem_drop hx)
    have htk : (V.d (.sl ((ws.length : Int) - q).toNat (((ws.map fun x : Nat => D.int .u64 x).drop ((q : Int)).toNat).take ((ws.length : Int) - q).toNat)) : V) = .d (.sl (ws.drop q).length ((ws.drop q).map fun x : Nat => D.int .u64 x)) := by
      rw [hb1, Int.toNat_natCast, ← List.map_drop, List.take_of_length_le (by simp)]
    repeat (first | refine AW.seq ?_ | refine AW.block ?_ | (refine AW.reg mix ?_; (simp [hm, hq, hlt']; try simp (disch := omega) only [w64, wu64])) | (refine need.of (by first | omega | kernel_rfl) ?_) | (refine AW.skip ?_; (try simp [hm, hq, hlt'])) | (refine AW.ret ?_; (try simp [hm, hq, hlt'])) | (refine AW.exit ?_; (try simp [hm, hq, hlt'])))
    generalize hB : ws.drop q = B at *
    refine CallS.newX (clone64_own B.length (B.map fun x : Nat => .int .u64 x) (by simp) hbp.1 (by omega)) (plainL_d _) rfl (fun _ => rfl) (Subs.of (by rw [htk])) ?_
    rw [show ((B.map fun x : Nat => D.int .u64 x).map V.d) = U (shrI k B 0) by simp [U, shrI]]
    simp
    repeat (first | refine AW.seq ?_ | refine AW.block ?_ | (refine AW.reg mix ?_; (simp [hr]; try simp (disch := omega) only [w64, wu64])) | (refine need.of (by first | omega | kernel_rfl) ?_) | (refine AW.skip ?_; (try simp [hr])) | (refine AW.ret ?_; (try simp [hr])) | (refine AW.exit ?_; (try simp [hr])))
    clear htk hb1 hv hs ha hB hlt hlt'
    refine AW.loopT (α := Nat) 3 (fun i => [(6, .d (.int .i64 (i : Int)))]) (fun i => [(2, ⟨86, U (shrI k B i)⟩)]) (fun i => i ≤ B.length) (fun i => B.length - i) 0 ?_ ?_ (Nat.zero_le _) ?_ ?_ ?_
    · simp
    · simp
    · simp
    · simp
    rintro i hi
    simp
    by_cases h : i = B.length
    · subst h
      repeat (first | refine AW.seq ?_ | refine AW.block ?_ | (refine AW.reg mix ?_; (simp; try simp (disch := omega) only [w64, wu64])) | (refine need.of (by first | omega | kernel_rfl) ?_) | (refine AW.skip ?_; (try simp)) | (refine AW.ret ?_; (try simp)) | (refine AW.exit ?_; (try simp)))
      refine AW.cond rfl (fun h => ?_) (fun h => ?_)
      · simp at h
      refine AW.exit ?_
      (try simp; try simp (disch := omega) only [w64, wu64])
      rw [shrI_end]
      have hl : (shrL k B).length = B.length := shrL_len k B
      have hvw : natW (a / 2 ^ n) = natW (wval (shrL k B)) := by rw [hval.1]
      rw [hvw]
      have hsm := hval.2
      generalize shrL k B = r at hl hsm ⊢
      have hcell : U r = (r.map fun x : Nat => D.int .u64 x).map V.d := by simp [U]
      rw [hcell]
      refine AW.freeze 2 1 ⟨86, _⟩ (r.map fun x : Nat => .int .u64 x) (by rfl) (by rfl) ?_
      simp [← hl, List.take_of_length_le]
      repeat (first | refine AW.seq ?_ | refine AW.block ?_ | (refine AW.reg mix ?_; (simp; try simp (disch := omega) only [w64, wu64])) | (refine need.of (by first | omega | kernel_rfl) ?_) | (refine AW.skip ?_; (try simp)) | (refine AW.ret ?_; (try simp)) | (refine AW.exit ?_; (try simp)))
      refine CallS.pure (trimmed_ok r hsm (by omega)) (by first | exact plain_d _ | exact plain_tup2 _ _ | exact plain_tup3 _ _ _) rfl (fun _ => rfl) (Subs.refl _) ?_
      (try simp; try simp (disch := omega) only [w64, wu64])
      repeat (first | refine AW.seq ?_ | refine AW.block ?_ | (refine AW.reg mix ?_; (simp; try simp (disch := omega) only [w64, wu64])) | (refine need.of (by first | omega | kernel_rfl) ?_) | (refine AW.skip ?_; (try simp)) | (refine AW.ret ?_; (try simp)) | (refine AW.exit ?_; (try simp)))
    · have hi' : i < B.length := by omega
      have hp : (i : Int) < B.length := by omega
      have hxB : B.getD i 0 < 18446744073709551616 := hsB.getD i
      have hset : ∀ z : Nat, z = (shrL k B).getD i 0 → (U (shrI k B i)).set i (.d (.int .u64 z)) = U (shrI k B (i + 1)) := fun z hz => by
        rw [← shrI_set k B i hi' z hz, U, U, List.map_set]
      have hg := shrL_get k B i hi'
      have hl : (U (shrI k B i)).length = B.length := by simp [U, shrI_len k B i hi]
      have hq1 : (U (shrI k B i))[i]? = some (.d (.int .u64 (B.getD i 0 : Nat))) := by
        rw [U, List.getElem?_map, shrI_get k B i i (Nat.le_refl _) hi']; rfl
      have hq2 : i + 1 < B.length → (U (shrI k B i))[i + 1]? = some (.d (.int .u64 (B.getD (i + 1) 0 : Nat))) := fun h => by
        rw [U, List.getElem?_map, shrI_get k B i (i + 1) (by omega) h]; rfl
      have hor := or_shr (k := k) (x := B.getD i 0) (y := B.getD (i + 1) 0) hmk hxB
      rw [← hg] at hor
      have hu : ((B.getD i 0 : Nat) : Int) / 2 ^ k = ((B.getD i 0 / 2 ^ k : Nat) : Int) := by rw [Int.natCast_ediv, Int.natCast_pow]; rfl
      have hule : B.getD i 0 / 2 ^ k ≤ B.getD i 0 := Nat.div_le_self _ _
      have hw : IntKind.u64.wrap (((B.getD (i + 1) 0 : Nat) : Int) * 2 ^ (64 - k)) = ((B.getD (i + 1) 0 * 2 ^ (64 - k) % 18446744073709551616 : Nat) : Int) := by
        rw [IntKind.wrap_u64, Int.natCast_emod, Int.natCast_mul, Int.natCast_pow]; rfl
      have hwl : B.getD (i + 1) 0 * 2 ^ (64 - k) % 18446744073709551616 < 18446744073709551616 := Nat.mod_lt _ (by decide)
      have hlast : ¬ i + 1 < B.length → B.getD i 0 / 2 ^ k = (shrL k B).getD i 0 := fun h => by
        rw [hg, W_out h]; simp
      have hls : (shrL k B).length = B.length := shrL_len k B
      generalize B.getD i 0 / 2 ^ k = u at *
      generalize B.getD i 0 = x at *
      generalize B.getD (i + 1) 0 * 2 ^ (64 - k) % 18446744073709551616 = t at *
      generalize B.getD (i + 1) 0 = y at *
      have hb := bits_or_u64_nat u t (by omega) hwl
      rw [hor] at hb
      have hz := hset _ rfl
      generalize (shrL k B).getD i 0 = z at *
      generalize U (shrI k B i) = cm at *
      have e1 : IntKind.i64.wrap ((i : Int) + 1) = (i : Int) + 1 := w64 (by omega) (by omega)
      have e2 : IntKind.i64.wrap ((64 : Int) - k) = (64 : Int) - k := w64 (by omega) (by omega)
      have hn : ((64 : Int) - k).toNat = 64 - k := by omega
      have e3 : (((i : Int) + 1)).toNat = i + 1 := by omega
      have hkl : (k : Int) ≤ 64 := by omega
      have hg1 : ∀ h, cm[i]'h = .d (.int .u64 x) := fun h => by
        have := List.getElem?_eq_getElem h
        rw [hq1] at this
        exact (Option.some.inj this).symm
      have hg2 : ∀ h, cm[i + 1]'h = .d (.int .u64 y) := fun h => by
        have := List.getElem?_eq_getElem h
        rw [hq2 (by omega)] at this
        exact (Option.some.inj this).symm
      repeat (first | refine AW.seq ?_ | refine AW.block ?_ | (refine AW.reg mix ?_; (simp [hi', hp]; try simp (disch := omega) only [w64, wu64])) | (refine need.of (by first | omega | kernel_rfl) ?_) | (refine AW.skip ?_; (try simp [hi', hp])) | (refine AW.ret ?_; (try simp [hi', hp])) | (refine AW.exit ?_; (try simp [hi', hp])))
      refine AW.cond rfl (fun h => ?_) (fun h => ?_)
      · by_cases hl1 : i + 1 < B.length
        · have hlp : (i : Int) + 1 < B.length := by omega
          repeat (first | refine AW.seq ?_ | refine AW.block ?_ | (refine AW.reg mix ?_; (simp [hi', hp, hl, hg1, hu, e1, hlp]; try simp (disch := omega) only [w64, wu64])) | (refine need.of (by first | omega | kernel_rfl) ?_) | (refine AW.skip ?_; (try simp [hi', hp, hl, hg1, hu, e1, hlp])) | (refine AW.ret ?_; (try simp [hi', hp, hl, hg1, hu, e1, hlp])) | (refine AW.exit ?_; (try simp [hi', hp, hl, hg1, hu, e1, hlp])))
          refine AW.cond rfl (fun h => ?_) (fun h => ?_)
          · have hne : ¬ i = i + 1 := by omega
            have h64 : (64 - k : Int) ≤ 64 := by omega
            repeat (first | refine AW.seq ?_ | refine AW.block ?_ | (refine AW.reg mix ?_; (simp [hi', hp, hl, hg1, hg2, hu, e1, hlp, hl1, e2, hn, e3, hne, hw, hb, hz]; try simp (disch := omega) only [w64, wu64])) | (refine need.of (by first | omega | kernel_rfl) ?_) | (refine AW.skip ?_; (try simp [hi', hp, hl, hg1, hg2, hu, e1, hlp, hl1, e2, hn, e3, hne, hw, hb, hz])) | (refine AW.ret ?_; (try simp [hi', hp, hl, hg1, hg2, hu, e1, hlp, hl1, e2, hn, e3, hne, hw, hb, hz])) | (refine AW.exit ?_; (try simp [hi', hp, hl, hg1, hg2, hu, e1, hlp, hl1, e2, hn, e3, hne, hw, hb, hz])))
            exact ⟨i + 1, by omega, by omega, by simp, by simp⟩
          · simp at h
        · have hlp : ¬ (i : Int) + 1 < B.length := by omega
          repeat (first | refine AW.seq ?_ | refine AW.block ?_ | (refine AW.reg mix ?_; (simp [hi', hp, hl, hg1, hu, e1, hlp]; try simp (disch := omega) only [w64, wu64])) | (refine need.of (by first | omega | kernel_rfl) ?_) | (refine AW.skip ?_; (try simp [hi', hp, hl, hg1, hu, e1, hlp])) | (refine AW.ret ?_; (try simp [hi', hp, hl, hg1, hu, e1, hlp])) | (refine AW.exit ?_; (try simp [hi', hp, hl, hg1, hu, e1, hlp])))
          refine AW.cond rfl (fun h => ?_) (fun h => ?_)
          · simp at h
          · have := hlast hl1
            subst this
            repeat (first | refine AW.seq ?_ | refine AW.block ?_ | (refine AW.reg mix ?_; (simp [e1]; try simp (disch := omega) only [w64, wu64])) | (refine need.of (by first | omega | kernel_rfl) ?_) | (refine AW.skip ?_; (try simp [e1])) | (refine AW.ret ?_; (try simp [e1])) | (refine AW.exit ?_; (try simp [e1])))
            refine ⟨i + 1, by omega, by omega, by simp, ?_⟩
            rw [hset u rfl]
            exact Subs.refl _
      · simp at h
end Go.Proofs.Ytakjegcjeffmgaa.Am
