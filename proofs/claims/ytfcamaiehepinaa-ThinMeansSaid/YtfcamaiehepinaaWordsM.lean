/- Words of numbers, the lowest first: what they stand for; said of no program. -/
import Derived.Test.YtfcamaiehepinaaBase
namespace Go.Proofs.Ytfcamaiehepinaa

/-! ### Words -/
/-- what words stand for, the lowest first -/
def wval : List Nat → Nat
  | [] => 0
  | x :: l => x + 18446744073709551616 * wval l
def small (ws : List Nat) : Prop := ∀ x ∈ ws, x < 18446744073709551616

theorem wval_append : ∀ (a b : List Nat), wval (a ++ b) = wval a + 18446744073709551616 ^ a.length * wval b := by
  intro a
  induction a with
  | nil => intro b; simp [wval]
  | cons x a ih => intro b; simp only [List.cons_append, wval, List.length_cons]; rw [ih, Nat.pow_succ, Nat.mul_add, ← Nat.mul_assoc, Nat.mul_comm 18446744073709551616 (18446744073709551616 ^ a.length)]; omega
theorem wval_zeros : ∀ n, wval (List.replicate n 0) = 0 := by
  intro n
  induction n with
  | zero => rfl
  | succ n ih => rw [List.replicate_succ, wval, ih]
theorem wval_lt : ∀ {ws : List Nat}, small ws → wval ws < 18446744073709551616 ^ ws.length := by
  intro ws
  induction ws with
  | nil => intro _; simp [wval]
  | cons x l ih =>
    intro h
    have h1 := h x (by simp)
    have h2 := ih (fun y hy => h y (by simp [hy]))
    rw [wval, List.length_cons, Nat.pow_succ]
    omega

/-- how many are left when the highest that are 0 are struck, of the first n -/
def trimN (ws : List Nat) : Nat → Nat
  | 0 => 0
  | n + 1 => if ws.getD n 0 = 0 then trimN ws n else n + 1
theorem trimN_le (ws : List Nat) : ∀ n, trimN ws n ≤ n := by
  intro n
  induction n with
  | zero => exact Nat.le_refl _
  | succ n ih => unfold trimN; split <;> omega
theorem take_succ_getD (ws : List Nat) (n : Nat) (h : n < ws.length) : ws.take (n + 1) = ws.take n ++ [ws.getD n 0] := by
  rw [List.take_add_one, List.getElem?_eq_getElem h]
  simp [List.getD, List.getElem?_eq_getElem h]
theorem trimN_val (ws : List Nat) : ∀ n, n ≤ ws.length → wval (ws.take (trimN ws n)) = wval (ws.take n) := by
  intro n
  induction n with
  | zero => intro _; rfl
  | succ n ih =>
    intro h
    unfold trimN
    split
    · rename_i h0
      rw [ih (by omega), take_succ_getD _ _ (by omega), wval_append, h0]
      simp [wval]
    · rfl
/-- the highest isn't 0 -/
def top1 (ws : List Nat) : Prop := ∀ k, ws.length = k + 1 → ws.getD k 0 ≠ 0
theorem trimN_top (ws : List Nat) : ∀ n, n ≤ ws.length → top1 (ws.take (trimN ws n)) := by
  intro n
  induction n with
  | zero => intro _ k hk; simp [trimN] at hk
  | succ n ih =>
    intro h
    unfold trimN
    split
    · exact ih (by omega)
    · rename_i h0
      intro k hk
      rw [List.length_take, Nat.min_eq_left h] at hk
      obtain rfl : n = k := by omega
      have e : (ws.take (n + 1)).getD n 0 = ws.getD n 0 := by simp [List.getD]
      rw [e]
      exact h0

theorem small.take {ws : List Nat} (h : small ws) (n : Nat) : small (ws.take n) := fun x hx => h x (List.mem_of_mem_take hx)

theorem top1_zero {ws : List Nat} (h : small ws) (ht : top1 ws) (h0 : wval ws = 0) : ws = [] := by
  rcases ws.eq_nil_or_concat with rfl | ⟨l, x, rfl⟩
  · rfl
  · exfalso
    have := ht l.length (by simp)
    simp at this
    simp [wval_append, wval] at h0
    rcases Nat.mul_eq_zero.1 h0.2 with h | h
    · exact absurd h (Nat.pos_iff_ne_zero.1 (Nat.pow_pos (by decide)))
    · exact this h

/-- words are what they stand for -/
theorem words_eq : ∀ {a b : List Nat}, small a → small b → top1 a → top1 b → wval a = wval b → a = b := by
  intro a
  induction a with
  | nil => intro b _ hb _ tb h; exact (top1_zero hb tb h.symm).symm
  | cons x a ih =>
    intro b ha hb ta tb h
    cases b with
    | nil => exact absurd (top1_zero ha ta h) (by simp)
    | cons y b =>
      have h1 := ha x (by simp)
      have h2 := hb y (by simp)
      simp only [wval] at h
      have e : x = y := by omega
      subst e
      have e2 : wval a = wval b := by omega
      have e3 : a = b := ih (fun z hz => ha z (by simp [hz])) (fun z hz => hb z (by simp [hz])) (fun k hk => by have := ta (k + 1) (by simp [hk]); simpa using this) (fun k hk => by have := tb (k + 1) (by simp [hk]); simpa using this) e2
      rw [e3]

/-- moved up by less than a word, with what comes from below -/
def movedL (k : Nat) : Nat → List Nat → List Nat
  | c, [] => [c]
  | c, x :: l => ((x * 2 ^ k) % 18446744073709551616 + c) :: movedL k (x * 2 ^ k / 18446744073709551616) l
theorem movedL_len (k : Nat) : ∀ (l : List Nat) (c : Nat), (movedL k c l).length = l.length + 1 := by
  intro l
  induction l with
  | nil => intro c; rfl
  | cons x l ih => intro c; simp [movedL, ih]
theorem movedL_val (k : Nat) : ∀ (l : List Nat) (c : Nat), wval (movedL k c l) = wval l * 2 ^ k + c := by
  intro l
  induction l with
  | nil => intro c; simp [movedL, wval]
  | cons x l ih =>
    intro c
    rw [movedL, wval, ih, wval]
    have := Nat.div_add_mod (x * 2 ^ k) 18446744073709551616
    rw [Nat.add_mul, Nat.mul_add, Nat.mul_assoc]
    omega
theorem movedL_small {k : Nat} (hk : k < 64) : ∀ {l : List Nat} {c : Nat}, small l → c < 2 ^ k → small (movedL k c l) := by
  have p64 : (18446744073709551616 : Nat) = 2 ^ (64 - k) * 2 ^ k := by rw [← Nat.pow_add, show 64 - k + k = 64 by omega]
  intro l
  induction l with
  | nil =>
    intro c _ hc x hx
    simp [movedL] at hx; subst hx
    exact Nat.lt_trans hc (by rw [show (18446744073709551616 : Nat) = 2 ^ 64 by decide]; exact Nat.pow_lt_pow_right (by decide) hk)
  | cons y l ih =>
    intro c h hc x hx
    simp only [movedL, List.mem_cons] at hx
    have hy := h y (by simp)
    rcases hx with rfl | hx
    · rw [p64, Nat.mul_mod_mul_right]
      have : y % 2 ^ (64 - k) < 2 ^ (64 - k) := Nat.mod_lt _ (Nat.pow_pos (by decide))
      calc _ < y % 2 ^ (64 - k) * 2 ^ k + 2 ^ k := by omega
        _ = (y % 2 ^ (64 - k) + 1) * 2 ^ k := by rw [Nat.add_mul, Nat.one_mul]
        _ ≤ _ := Nat.mul_le_mul_right _ this
    · refine ih (fun z hz => h z (by simp [hz])) ?_ x hx
      apply Nat.div_lt_of_lt_mul
      exact Nat.mul_lt_mul_of_pos_right hy (Nat.pow_pos (by decide))

/-- the same, its last word apart -/
def movedB (k : Nat) : Nat → List Nat → List Nat
  | _, [] => []
  | c, x :: l => ((x * 2 ^ k) % 18446744073709551616 + c) :: movedB k (x * 2 ^ k / 18446744073709551616) l
def movedC (k : Nat) : Nat → List Nat → Nat
  | c, [] => c
  | _, x :: l => movedC k (x * 2 ^ k / 18446744073709551616) l
theorem movedL_eq (k : Nat) : ∀ (l : List Nat) (c : Nat), movedL k c l = movedB k c l ++ [movedC k c l] := by
  intro l
  induction l with
  | nil => intro c; rfl
  | cons x l ih => intro c; simp [movedL, movedB, movedC, ih]
theorem movedB_len (k : Nat) (l : List Nat) (c : Nat) : (movedB k c l).length = l.length := by
  have h := movedL_len k l c
  rw [movedL_eq, List.length_append] at h
  simpa using h
theorem movedB_snoc (k : Nat) (x : Nat) : ∀ (l : List Nat) (c : Nat), movedB k c (l ++ [x]) = movedB k c l ++ [(x * 2 ^ k) % 18446744073709551616 + movedC k c l] := by
  intro l
  induction l with
  | nil => intro c; rfl
  | cons y l ih => intro c; simp [movedB, movedC, ih]
theorem movedC_snoc (k : Nat) (x : Nat) : ∀ (l : List Nat) (c : Nat), movedC k c (l ++ [x]) = x * 2 ^ k / 18446744073709551616 := by
  intro l
  induction l with
  | nil => intro c; rfl
  | cons y l ih => intro c; simp [movedC, ih]
theorem moved_lt {k x : Nat} (hx : x < 18446744073709551616) : x * 2 ^ k / 18446744073709551616 < 2 ^ k := by
  apply Nat.div_lt_of_lt_mul
  exact Nat.mul_lt_mul_of_pos_right hx (Nat.pow_pos (by decide))
theorem movedC_lt {k : Nat} : ∀ {l : List Nat} {c : Nat}, small l → c < 2 ^ k → movedC k c l < 2 ^ k := by
  intro l
  induction l with
  | nil => intro c _ hc; exact hc
  | cons x l ih => intro c h hc; exact ih (fun z hz => h z (by simp [hz])) (moved_lt (h x (by simp)))
/-- the bits of what was moved up, and what comes from below -/
theorem or_moved {k x c : Nat} (hk : k < 64) (hc : c < 2 ^ k) : c ||| (x * 2 ^ k) % 18446744073709551616 = (x * 2 ^ k) % 18446744073709551616 + c := by
  have p64 : (18446744073709551616 : Nat) = 2 ^ (64 - k) * 2 ^ k := by rw [← Nat.pow_add, show 64 - k + k = 64 by omega]
  rw [p64, Nat.mul_mod_mul_right, Nat.or_comm, Nat.mul_comm]
  exact (Nat.two_pow_add_eq_or_of_lt hc _).symm
theorem moved_div {k x : Nat} (hk : k ≤ 64) : x * 2 ^ k / 18446744073709551616 = x / 2 ^ (64 - k) := by
  have p64 : (18446744073709551616 : Nat) = 2 ^ (64 - k) * 2 ^ k := by rw [← Nat.pow_add, show 64 - k + k = 64 by omega]
  rw [p64, Nat.mul_div_mul_right _ _ (Nat.pow_pos (by decide))]

/-- so many words are there at least -/
theorem words_le : ∀ {ws : List Nat} {m : Nat}, top1 ws → wval ws < 18446744073709551616 ^ m → ws.length ≤ m := by
  intro ws
  induction ws with
  | nil => intro m _ _; exact Nat.zero_le _
  | cons x l ih =>
    intro m ht h
    cases m with
    | zero =>
      exfalso
      rw [Nat.pow_zero] at h
      rw [wval] at h
      cases l with
      | nil =>
        have := ht 0 rfl
        simp [wval] at this h
        omega
      | cons y l =>
        have hw : wval (y :: l) = 0 := by omega
        have : (y :: l).length ≤ 0 := ih (m := 0) (fun k hk => by have := ht (k + 1) (by simp [hk]); simpa using this) (by rw [hw]; decide)
        simp at this
    | succ m =>
      rw [List.length_cons]
      have : l.length ≤ m := by
        cases l with
        | nil => exact Nat.zero_le _
        | cons y l =>
          refine ih (fun k hk => by have := ht (k + 1) (by simp [hk]); simpa using this) ?_
          rw [wval, Nat.pow_succ] at h
          omega
      omega

end Go.Proofs.Ytfcamaiehepinaa
