import Derived.Test.YtakjegcjeffmgaaNat5
namespace Go.Proofs.Ytakjegcjeffmgaa.Am
open Go.RowKit
set_option maxRecDepth 100000
set_option linter.unusedSimpArgs false
set_option linter.unusedVariables false

theorem words_one {x : Nat} (h0 : 0 < x) (h : x < 18446744073709551616) : words x = [x] := by
  have := words_of (ws := [x]) (by intro y hy; simp at hy; omega) (by intro k hk; simp at hk; subst hk; simp; omega)
  simpa [wval] using this
theorem small_one {x : Nat} (h : x < 18446744073709551616) : small [x] := by intro y hy; simp at hy; omega

theorem Sub1.tup {l r : List V} (h : Subs l r) : Sub1 (.tup l) (.tup r) := fun m v k => by
  unfold V.rep at k ⊢
  obtain ⟨vs, h1, h2⟩ := k
  exact ⟨vs, h1, h m vs h2⟩
theorem Subs.cons {x y : V} {l r : List V} (h : Sub1 x y) (h' : Subs l r) : Subs (x :: l) (y :: r) := fun m vs k => by
  obtain ⟨v, r, rfl, h1, h2⟩ := V.reps_cons'.1 k
  exact V.reps_cons.2 ⟨h m v h1, h' m r h2⟩
theorem Sub1.nat0 : Sub1 (.d (.agg [.nilsl])) (.d (.agg [natW 0])) := fun m v k => by
  rw [V.rep_d] at k ⊢
  unfold D.rep at k ⊢
  obtain ⟨vs, h1, h2, h3⟩ := k
  refine ⟨vs, h1, h2, ?_⟩
  obtain ⟨u, r, rfl, h4, h5⟩ := D.reps_cons'.1 h3
  have := (V.rep_d (m := m)).1 (Sub1.nil m u (V.rep_d.2 h4))
  exact D.reps_cons.2 ⟨this, h5⟩

theorem cmpZ_lt {m n : Nat} : cmpZ m n < 0 ↔ m < n := by unfold cmpZ; split <;> (try split) <;> omega
theorem cmpZ_eq {m n : Nat} : cmpZ m n = 0 ↔ m = n := by unfold cmpZ; split <;> (try split) <;> omega

end Go.Proofs.Ytakjegcjeffmgaa.Am
