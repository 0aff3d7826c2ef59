import Derived.Test.YtakjegcjeffmgaaNat6
namespace Go.Proofs.Ytakjegcjeffmgaa.Am
open Go.RowKit
set_option maxRecDepth 100000
set_option linter.unusedSimpArgs false
set_option linter.unusedVariables false

theorem size_one {x : Nat} (h : x < 18446744073709551616) : size x ≤ 1 := by
  rw [size]
  rcases Nat.eq_zero_or_pos x with rfl | h0
  · simp [words, wordsF]
  · rw [words_one h0 h]; simp

end Go.Proofs.Ytakjegcjeffmgaa.Am
