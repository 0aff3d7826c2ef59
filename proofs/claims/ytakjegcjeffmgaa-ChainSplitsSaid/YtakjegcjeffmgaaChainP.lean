import Derived.Test.YtakjegcjeffmgaaAmTri
/- Steps of a counter, plain. -/
namespace Go.Proofs.Ytakjegcjeffmgaa.Am

/-- what a kind's step does: of a place, of the tape's place; is it, the error, the tape behind it -/
abbrev StepT := Nat → Nat → Bool → Bool × Int × Nat × Bool
/-- so many steps: error, place, full, tape -/
def addL (st : StepT) (top : Nat) : Nat → Nat → Bool → Nat → Bool → Int × Nat × Bool × Nat × Bool
  | 0, x, f, p, d => (0, x, f, p, d)
  | n + 1, x, f, p, d =>
    if x = top then (0, x, true, p, d)
    else if (st x p d).2.1 = 0 then
      if f = true ∧ (if (st x p d).1 then x + 1 else x) = top then (0, top, f, (st x p d).2.2.1, (st x p d).2.2.2)
      else addL st top n (if (st x p d).1 then x + 1 else x) f (st x p d).2.2.1 (st x p d).2.2.2
    else ((st x p d).2.1, x, f, (st x p d).2.2.1, (st x p d).2.2.2)

theorem addL_top {st : StepT} {top : Nat} (m : Nat) (p : Nat) (d : Bool) : addL st top m top true p d = (0, top, true, p, d) := by
  cases m <;> simp [addL]
theorem addL_add {st : StepT} {top : Nat} (m : Nat) : ∀ (n x : Nat) (f : Bool) (p : Nat) (d : Bool), addL st top (n + m) x f p d = if (addL st top n x f p d).1 = 0 then addL st top m (addL st top n x f p d).2.1 (addL st top n x f p d).2.2.1 (addL st top n x f p d).2.2.2.1 (addL st top n x f p d).2.2.2.2 else addL st top n x f p d
  | 0, x, f, p, d => by simp [addL]
  | n + 1, x, f, p, d => by
    rw [show n + 1 + m = (n + m) + 1 by omega, addL, addL]
    by_cases h : x = top
    · subst h
      simp [addL_top]
    · simp only [if_neg h]
      by_cases he : (st x p d).2.1 = 0
      · simp only [if_pos he]
        by_cases hb : f = true ∧ (if (st x p d).1 then x + 1 else x) = top
        · simp only [if_pos hb, if_true]
          obtain ⟨rfl, -⟩ := hb
          simp [addL_top]
        · simp only [if_neg hb]
          exact addL_add m n _ _ _ _
      · simp only [if_neg he]
theorem addL_le {st : StepT} {top : Nat} {N : Nat} (hst : ∀ x p d, p ≤ N → (st x p d).2.2.1 ≤ N) : ∀ (n x : Nat) (f : Bool) (p : Nat) (d : Bool), x ≤ top → p ≤ N → x ≤ (addL st top n x f p d).2.1 ∧ (addL st top n x f p d).2.1 ≤ top ∧ (addL st top n x f p d).2.2.2.1 ≤ N
  | 0, x, f, p, d, hx, hp => by simp [addL, hx, hp]
  | n + 1, x, f, p, d, hx, hp => by
    rw [addL]
    have := hst x p d hp
    by_cases h : x = top
    · simp [h, hp]
    · simp only [if_neg h]
      by_cases he : (st x p d).2.1 = 0
      · simp only [if_pos he]
        have hz : x ≤ (if (st x p d).1 then x + 1 else x) ∧ (if (st x p d).1 then x + 1 else x) ≤ top := by split <;> omega
        generalize (if (st x p d).1 then x + 1 else x) = z at *
        split
        · exact ⟨hx, Nat.le_refl _, this⟩
        · have := addL_le hst n z f _ (st x p d).2.2.2 hz.2 this
          exact ⟨by omega, this.2⟩
      · simp only [if_neg he]
        exact ⟨Nat.le_refl _, hx, this⟩
end Go.Proofs.Ytakjegcjeffmgaa.Am
