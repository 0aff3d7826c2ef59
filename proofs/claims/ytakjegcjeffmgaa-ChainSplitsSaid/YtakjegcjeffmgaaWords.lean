
/- Words of numbers, the lowest first: what they stand for; said of no program. -/
namespace Go.Proofs.Ytakjegcjeffmgaa.Am

/-! ### Words -/
/-- what words stand for, the lowest first -/
def wval : List Nat → Nat
  | [] => 0
  | x :: l => x + 18446744073709551616 * wval l
def small (ws : List Nat) : Prop := ∀ x ∈ ws, x < 18446744073709551616

theorem wval_append : ∀ (a b : List Nat), wval (a ++ b) = wval a + 18446744073709551616 ^ a.length * wval b := by
  intro a
  induction a with
  | nil => intro b; simp [wval]
  | cons x a ih => intro b; simp only [List.cons_append, wval, List.length_cons]; rw [ih, Nat.pow_succ, Nat.mul_add, ← Nat.mul_assoc, Nat.mul_comm 18446744073709551616 (18446744073709551616 ^ a.length)]; omega
theorem wval_zeros : ∀ n, wval (List.replicate n 0) = 0 := by
  intro n
  induction n with
  | zero => rfl
  | succ n ih => rw [List.replicate_succ, wval, ih]
theorem wval_lt : ∀ {ws : List Nat}, small ws → wval ws < 18446744073709551616 ^ ws.length := by
  intro ws
  induction ws with
  | nil => intro _; simp [wval]
  | cons x l ih =>
    intro h
    have h1 := h x (by simp)
    have h2 := ih (fun y hy => h y (by simp [hy]))
    rw [wval, List.length_cons, Nat.pow_succ]
    omega

/-- how many are left when the highest that are 0 are struck, of the first n -/
def trimN (ws : List Nat) : Nat → Nat
  | 0 => 0
  | n + 1 => if ws.getD n 0 = 0 then trimN ws n else n + 1
theorem trimN_le (ws : List Nat) : ∀ n, trimN ws n ≤ n := by
  intro n
  induction n with
  | zero => exact Nat.le_refl _
  | succ n ih => unfold trimN; split <;> omega
theorem take_succ_getD (ws : List Nat) (n : Nat) (h : n < ws.length) : ws.take (n + 1) = ws.take n ++ [ws.getD n 0] := by
  rw [List.take_add_one, List.getElem?_eq_getElem h]
  simp [List.getD, List.getElem?_eq_getElem h]
theorem trimN_val (ws : List Nat) : ∀ n, n ≤ ws.length → wval (ws.take (trimN ws n)) = wval (ws.take n) := by
  intro n
  induction n with
  | zero => intro _; rfl
  | succ n ih =>
    intro h
    unfold trimN
    split
    · rename_i h0
      rw [ih (by omega), take_succ_getD _ _ (by omega), wval_append, h0]
      simp [wval]
    · rfl
/-- the highest isn't 0 -/
def top1 (ws : List Nat) : Prop := ∀ k, ws.length = k + 1 → ws.getD k 0 ≠ 0
theorem trimN_top (ws : List Nat) : ∀ n, n ≤ ws.length → top1 (ws.take (trimN ws n)) := by
  intro n
  induction n with
  | zero => intro _ k hk; simp [trimN] at hk
  | succ n ih =>
    intro h
    unfold trimN
    split
    · exact ih (by omega)
    · rename_i h0
      intro k hk
      rw [List.length_take, Nat.min_eq_left h] at hk
      obtain rfl : n = k := by omega
      have e : (ws.take (n + 1)).getD n 0 = ws.getD n 0 := by simp [List.getD]
      rw [e]
      exact h0

theorem small.take {ws : List Nat} (h : small ws) (n : Nat) : small (ws.take n) := fun x hx => h x (List.mem_of_mem_take hx)

theorem top1_zero {ws : List Nat} (h : small ws) (ht : top1 ws) (h0 : wval ws = 0) : ws = [] := by
  rcases ws.eq_nil_or_concat with rfl | ⟨l, x, rfl⟩
  · rfl
  · exfalso
    have := ht l.length (by simp)
    simp at this
    simp [wval_append, wval] at h0
    rcases Nat.mul_eq_zero.1 h0.2 with h | h
    · exact absurd h (Nat.pos_iff_ne_zero.1 (Nat.pow_pos (by decide)))
    · exact this h

/-- words are what they stand for -/
theorem words_eq : ∀ {a b : List Nat}, small a → small b → top1 a → top1 b → wval a = wval b → a = b := by
  intro a
  induction a with
  | nil => intro b _ hb _ tb h; exact (top1_zero hb tb h.symm).symm
  | cons x a ih =>
    intro b ha hb ta tb h
    cases b with
    | nil => exact absurd (top1_zero ha ta h) (by simp)
    | cons y b =>
      have h1 := ha x (by simp)
      have h2 := hb y (by simp)
      simp only [wval] at h
      have e : x = y := by omega
      subst e
      have e2 : wval a = wval b := by omega
      have e3 : a = b := ih (fun z hz => ha z (by simp [hz])) (fun z hz => hb z (by simp [hz])) (fun k hk => by have := ta (k + 1) (by simp [hk]); simpa using this) (fun k hk => by have := tb (k + 1) (by simp [hk]); simpa using this) e2
      rw [e3]

/-- moved up by less than a word, with what comes from below -/
def movedL (k : Nat) : Nat → List Nat → List Nat
  | c, [] => [c]
  | c, x :: l => ((x * 2 ^ k) % 18446744073709551616 + c) :: movedL k (x * 2 ^ k / 18446744073709551616) l
theorem movedL_len (k : Nat) : ∀ (l : List Nat) (c : Nat), (movedL k c l).length = l.length + 1 := by
  intro l
  induction l with
  | nil => intro c; rfl
  | cons x l ih => intro c; simp [movedL, ih]
theorem movedL_val (k : Nat) : ∀ (l : List Nat) (c : Nat), wval (movedL k c l) = wval l * 2 ^ k + c := by
  intro l
  induction l with
  | nil => intro c; simp [movedL, wval]
  | cons x l ih =>
    intro c
    rw [movedL, wval, ih, wval]
    have := Nat.div_add_mod (x * 2 ^ k) 18446744073709551616
    rw [Nat.add_mul, Nat.mul_add, Nat.mul_assoc]
    omega
theorem movedL_small {k : Nat} (hk : k < 64) : ∀ {l : List Nat} {c : Nat}, small l → c < 2 ^ k → small (movedL k c l) := by
  have p64 : (18446744073709551616 : Nat) = 2 ^ (64 - k) * 2 ^ k := by rw [← Nat.pow_add, show 64 - k + k = 64 by omega]
  intro l
  induction l with
  | nil =>
    intro c _ hc x hx
    simp [movedL] at hx; subst hx
    exact Nat.lt_trans hc (by rw [show (18446744073709551616 : Nat) = 2 ^ 64 by decide]; exact Nat.pow_lt_pow_right (by decide) hk)
  | cons y l ih =>
    intro c h hc x hx
    simp only [movedL, List.mem_cons] at hx
    have hy := h y (by simp)
    rcases hx with rfl | hx
    · rw [p64, Nat.mul_mod_mul_right]
      have : y % 2 ^ (64 - k) < 2 ^ (64 - k) := Nat.mod_lt _ (Nat.pow_pos (by decide))
      calc _ < y % 2 ^ (64 - k) * 2 ^ k + 2 ^ k := by omega
        _ = (y % 2 ^ (64 - k) + 1) * 2 ^ k := by rw [Nat.add_mul, Nat.one_mul]
        _ ≤ _ := Nat.mul_le_mul_right _ this
    · refine ih (fun z hz => h z (by simp [hz])) ?_ x hx
      apply Nat.div_lt_of_lt_mul
      exact Nat.mul_lt_mul_of_pos_right hy (Nat.pow_pos (by decide))

/-- the same, its last word apart -/
def movedB (k : Nat) : Nat → List Nat → List Nat
  | _, [] => []
  | c, x :: l => ((x * 2 ^ k) % 18446744073709551616 + c) :: movedB k (x * 2 ^ k / 18446744073709551616) l
def movedC (k : Nat) : Nat → List Nat → Nat
  | c, [] => c
  | _, x :: l => movedC k (x * 2 ^ k / 18446744073709551616) l
theorem movedL_eq (k : Nat) : ∀ (l : List Nat) (c : Nat), movedL k c l = movedB k c l ++ [movedC k c l] := by
  intro l
  induction l with
  | nil => intro c; rfl
  | cons x l ih => intro c; simp [movedL, movedB, movedC, ih]
theorem movedB_len (k : Nat) (l : List Nat) (c : Nat) : (movedB k c l).length = l.length := by
  have h := movedL_len k l c
  rw [movedL_eq, List.length_append] at h
  simpa using h
theorem movedB_snoc (k : Nat) (x : Nat) : ∀ (l : List Nat) (c : Nat), movedB k c (l ++ [x]) = movedB k c l ++ [(x * 2 ^ k) % 18446744073709551616 + movedC k c l] := by
  intro l
  induction l with
  | nil => intro c; rfl
  | cons y l ih => intro c; simp [movedB, movedC, ih]
theorem movedC_snoc (k : Nat) (x : Nat) : ∀ (l : List Nat) (c : Nat), movedC k c (l ++ [x]) = x * 2 ^ k / 18446744073709551616 := by
  intro l
  induction l with
  | nil => intro c; rfl
  | cons y l ih => intro c; simp [movedC, ih]
theorem moved_lt {k x : Nat} (hx : x < 18446744073709551616) : x * 2 ^ k / 18446744073709551616 < 2 ^ k := by
  apply Nat.div_lt_of_lt_mul
  exact Nat.mul_lt_mul_of_pos_right hx (Nat.pow_pos (by decide))
theorem movedC_lt {k : Nat} : ∀ {l : List Nat} {c : Nat}, small l → c < 2 ^ k → movedC k c l < 2 ^ k := by
  intro l
  induction l with
  | nil => intro c _ hc; exact hc
  | cons x l ih => intro c h hc; exact ih (fun z hz => h z (by simp [hz])) (moved_lt (h x (by simp)))
/-- the bits of what was moved up, and what comes from below -/
theorem or_moved {k x c : Nat} (hk : k < 64) (hc : c < 2 ^ k) : c ||| (x * 2 ^ k) % 18446744073709551616 = (x * 2 ^ k) % 18446744073709551616 + c := by
  have p64 : (18446744073709551616 : Nat) = 2 ^ (64 - k) * 2 ^ k := by rw [← Nat.pow_add, show 64 - k + k = 64 by omega]
  rw [p64, Nat.mul_mod_mul_right, Nat.or_comm, Nat.mul_comm]
  exact (Nat.two_pow_add_eq_or_of_lt hc _).symm
theorem moved_div {k x : Nat} (hk : k ≤ 64) : x * 2 ^ k / 18446744073709551616 = x / 2 ^ (64 - k) := by
  have p64 : (18446744073709551616 : Nat) = 2 ^ (64 - k) * 2 ^ k := by rw [← Nat.pow_add, show 64 - k + k = 64 by omega]
  rw [p64, Nat.mul_div_mul_right _ _ (Nat.pow_pos (by decide))]

/-- so many words are there at least -/
theorem words_le : ∀ {ws : List Nat} {m : Nat}, top1 ws → wval ws < 18446744073709551616 ^ m → ws.length ≤ m := by
  intro ws
  induction ws with
  | nil => intro m _ _; exact Nat.zero_le _
  | cons x l ih =>
    intro m ht h
    cases m with
    | zero =>
      exfalso
      rw [Nat.pow_zero] at h
      rw [wval] at h
      cases l with
      | nil =>
        have := ht 0 rfl
        simp [wval] at this h
        omega
      | cons y l =>
        have hw : wval (y :: l) = 0 := by omega
        have : (y :: l).length ≤ 0 := ih (m := 0) (fun k hk => by have := ht (k + 1) (by simp [hk]); simpa using this) (by rw [hw]; decide)
        simp at this
    | succ m =>
      rw [List.length_cons]
      have : l.length ≤ m := by
        cases l with
        | nil => exact Nat.zero_le _
        | cons y l =>
          refine ih (fun k hk => by have := ht (k + 1) (by simp [hk]); simpa using this) ?_
          rw [wval, Nat.pow_succ] at h
          omega
      omega

/-! ### Sums and differences, word by word -/
theorem wval_range (f : Nat → Nat) (n : Nat) : wval ((List.range (n + 1)).map f) = wval ((List.range n).map f) + 18446744073709551616 ^ n * f n := by
  rw [List.range_succ, List.map_append, wval_append]
  simp [wval]
theorem wval_take (l : List Nat) (n : Nat) : wval (l.take (n + 1)) = wval (l.take n) + 18446744073709551616 ^ n * l.getD n 0 := by
  by_cases h : n < l.length
  · rw [take_succ_getD _ _ h, wval_append, List.length_take, Nat.min_eq_left (Nat.le_of_lt h)]
    simp [wval]
  · rw [List.take_of_length_le (by omega), List.take_of_length_le (by omega)]
    simp [List.getD, List.getElem?_eq_none (show l.length ≤ n by omega)]

/-- the carry into word n -/
def carryW (a b : List Nat) : Nat → Nat
  | 0 => 0
  | n + 1 => (a.getD n 0 + b.getD n 0 + carryW a b n) / 18446744073709551616
def addW (a b : List Nat) (n : Nat) : Nat := (a.getD n 0 + b.getD n 0 + carryW a b n) % 18446744073709551616

theorem small.getD {l : List Nat} (h : small l) (n : Nat) : l.getD n 0 < 18446744073709551616 := by
  by_cases hn : n < l.length
  · rw [List.getD, List.getElem?_eq_getElem hn]; exact h _ (List.getElem_mem hn)
  · simp [List.getD, List.getElem?_eq_none (show l.length ≤ n by omega)]
theorem carryW_le {a b : List Nat} (ha : small a) (hb : small b) : ∀ n, carryW a b n ≤ 1 := by
  intro n
  induction n with
  | zero => exact Nat.zero_le _
  | succ n ih =>
    have h1 := ha.getD n
    have h2 := hb.getD n
    simp only [carryW]
    omega
theorem addW_val (a b : List Nat) : ∀ n, wval ((List.range n).map (addW a b)) + 18446744073709551616 ^ n * carryW a b n = wval (a.take n) + wval (b.take n) := by
  intro n
  induction n with
  | zero => simp [wval, carryW]
  | succ n ih =>
    rw [wval_range, wval_take, wval_take]
    have := Nat.div_add_mod (a.getD n 0 + b.getD n 0 + carryW a b n) 18446744073709551616
    simp only [addW, carryW]
    rw [Nat.pow_succ]
    generalize 18446744073709551616 ^ n = P at *
    generalize (a.getD n 0 + b.getD n 0 + carryW a b n) / 18446744073709551616 = q at *
    generalize (a.getD n 0 + b.getD n 0 + carryW a b n) % 18446744073709551616 = r at *
    have e : P * (18446744073709551616 * q + r) = P * a.getD n 0 + P * b.getD n 0 + P * carryW a b n := by rw [this]; simp [Nat.mul_add]
    rw [Nat.mul_add, ← Nat.mul_assoc] at e
    omega

/-- the borrow into word n -/
def borrowW (a b : List Nat) : Nat → Nat
  | 0 => 0
  | n + 1 => if a.getD n 0 < b.getD n 0 + borrowW a b n then 1 else 0
def subW (a b : List Nat) (n : Nat) : Nat := (a.getD n 0 + 18446744073709551616 - b.getD n 0 - borrowW a b n) % 18446744073709551616
theorem borrowW_le (a b : List Nat) : ∀ n, borrowW a b n ≤ 1 := by
  intro n
  cases n with
  | zero => exact Nat.zero_le _
  | succ n => simp only [borrowW]; split <;> omega
theorem subW_val {a b : List Nat} (ha : small a) (hb : small b) : ∀ n, wval ((List.range n).map (subW a b)) + wval (b.take n) = wval (a.take n) + 18446744073709551616 ^ n * borrowW a b n := by
  intro n
  induction n with
  | zero => simp [wval, borrowW]
  | succ n ih =>
    rw [wval_range, wval_take, wval_take]
    have h1 := ha.getD n
    have h2 := hb.getD n
    have h3 := borrowW_le a b n
    have e : subW a b n + b.getD n 0 + borrowW a b n = a.getD n 0 + 18446744073709551616 * borrowW a b (n + 1) := by
      simp only [subW, borrowW]
      split <;> omega
    rw [Nat.pow_succ, Nat.mul_assoc]
    generalize 18446744073709551616 ^ n = P at *
    have e2 : P * subW a b n + P * b.getD n 0 + P * borrowW a b n = P * a.getD n 0 + P * (18446744073709551616 * borrowW a b (n + 1)) := by rw [← Nat.mul_add, ← Nat.mul_add, e, Nat.mul_add]
    omega
theorem range_small {f : Nat → Nat} (h : ∀ i, f i < 18446744073709551616) (n : Nat) : small ((List.range n).map f) := by
  intro x hx
  obtain ⟨i, _, rfl⟩ := List.mem_map.1 hx
  exact h i
theorem addW_lt (a b : List Nat) (i : Nat) : addW a b i < 18446744073709551616 := Nat.mod_lt _ (by decide)
theorem subW_lt (a b : List Nat) (i : Nat) : subW a b i < 18446744073709551616 := Nat.mod_lt _ (by decide)

/-! ### What is less -/
theorem shorter_lt {a b : List Nat} (ha : small a) (hb : top1 b) (h : a.length < b.length) : wval a < wval b := by
  refine Nat.lt_of_lt_of_le (wval_lt ha) ?_
  apply Nat.le_of_not_lt
  intro hlt
  have := words_le hb hlt
  omega
/-- from the highest on, the first that are unlike tell -/
def cmpN (a b : List Nat) : Nat → Int
  | 0 => 0
  | n + 1 => if a.getD n 0 < b.getD n 0 then -1 else if b.getD n 0 < a.getD n 0 then 1 else cmpN a b n
theorem take_lt {l : List Nat} (h : small l) (n : Nat) : wval (l.take n) < 18446744073709551616 ^ n := by
  have := wval_lt (h.take n)
  rw [List.length_take] at this
  exact Nat.lt_of_lt_of_le this (Nat.pow_le_pow_right (by decide) (Nat.min_le_left _ _))
theorem cmpN_val {a b : List Nat} (ha : small a) (hb : small b) : ∀ n, cmpN a b n = if wval (a.take n) < wval (b.take n) then -1 else if wval (b.take n) < wval (a.take n) then 1 else 0 := by
  intro n
  induction n with
  | zero => simp [cmpN, wval]
  | succ n ih =>
    rw [wval_take, wval_take]
    have h1 := take_lt ha n
    have h2 := take_lt hb n
    simp only [cmpN]
    generalize 18446744073709551616 ^ n = P at *
    generalize a.getD n 0 = x at *
    generalize b.getD n 0 = y at *
    by_cases hxy : x < y
    · rw [if_pos hxy, if_pos]
      have : P * (x + 1) ≤ P * y := Nat.mul_le_mul_left _ hxy
      rw [Nat.mul_add] at this
      omega
    · rw [if_neg hxy]
      by_cases hyx : y < x
      · have : P * (y + 1) ≤ P * x := Nat.mul_le_mul_left _ hyx
        rw [Nat.mul_add] at this
        rw [if_pos hyx, if_neg (by omega), if_pos (by omega)]
      · obtain rfl : x = y := by omega
        rw [if_neg hyx, ih]
        simp only [Nat.add_lt_add_iff_right]
/-- less, the same, more -/
def cmpZ (m n : Nat) : Int := if m < n then -1 else if n < m then 1 else 0

end Go.Proofs.Ytakjegcjeffmgaa.Am
