/- Procedures over a tape as trees of coins, and their means; said of no program. -/
import Derived.Test.YtfcamaiehepinaaTapeM
namespace Go.Proofs.Ytfcamaiehepinaa

/-! ### Procedures as trees of coins -/
inductive Tr (α : Type) where
  | ret (x : α)
  | flip (f : Bool → Tr α)

namespace Tr
variable {α β : Type}

def bind : Tr α → (α → Tr β) → Tr β
  | ret x, g => g x
  | flip f, g => flip fun b => (f b).bind g

def run (cs : List Bool) : Tr α → Nat → Option (α × Nat)
  | ret x, p => some (x, p)
  | flip f, p => if p < cs.length then (f (cs.getD p false)).run cs (p + 1) else none

theorem run_bind (cs : List Bool) (g : α → Tr β) : ∀ (t : Tr α) (p : Nat), (t.bind g).run cs p = match t.run cs p with
    | some (x, q) => (g x).run cs q
    | none => none := by
  intro t
  induction t with
  | ret x => intro p; rfl
  | flip f ih =>
    intro p
    simp only [bind, run]
    split
    · exact ih _ _
    · rfl

/-- of all coins, at most k of them: the sum of v, by 2 to what is left -/
def sum (v : α → Nat) : Tr α → Nat → Nat
  | ret x, k => v x * 2 ^ k
  | flip _, 0 => 0
  | flip f, k + 1 => sum v (f false) k + sum v (f true) k
/-- isn't one done? -/
def opn : Tr α → Nat → Bool
  | ret _, _ => false
  | flip _, 0 => true
  | flip f, k + 1 => opn (f false) k || opn (f true) k
/-- is one such? -/
def any (P : α → Bool) : Tr α → Nat → Bool
  | ret x, _ => P x
  | flip _, 0 => false
  | flip f, k + 1 => any P (f false) k || any P (f true) k
/-- what may come -/
def leaf (x : α) : Tr α → Prop
  | ret y => x = y
  | flip f => leaf x (f false) ∨ leaf x (f true)

theorem opn_bind {t : Tr α} {g : α → Tr β} : ∀ {k : Nat}, (t.bind g).opn k = false → t.opn k = false := by
  induction t with
  | ret x => intro k _; cases k <;> rfl
  | flip f ih =>
    intro k h
    cases k with
    | zero => simp [bind, opn] at h
    | succ k =>
      simp only [bind, opn, Bool.or_eq_false_iff] at h ⊢
      exact ⟨ih _ h.1, ih _ h.2⟩

/-- in the mean it is e, but for what is not done or such -/
def Mart (v : α → Nat) (P : α → Bool) (t : Tr α) (e : Nat) : Prop := ∀ k, t.opn k = false → t.any P k = false → t.sum v k = e * 2 ^ k

theorem sum_bind {v : β → Nat} {P : β → Bool} {h : α → Nat} {g : α → Tr β} : ∀ {t : Tr α}, (∀ x, t.leaf x → Mart v P (g x) (h x)) → ∀ k, (t.bind g).opn k = false → (t.bind g).any P k = false → (t.bind g).sum v k = t.sum h k := by
  intro t
  induction t with
  | ret x => intro H k h1 h2; simp only [bind] at h1 h2 ⊢; rw [H x rfl k h1 h2]; simp [sum]
  | flip f ih =>
    intro H k h1 h2
    cases k with
    | zero => simp [bind, opn] at h1
    | succ k =>
      simp only [bind, opn, any, Bool.or_eq_false_iff] at h1 h2
      simp only [bind, sum]
      rw [ih false (fun x hx => H x (.inl hx)) k h1.1 h2.1, ih true (fun x hx => H x (.inr hx)) k h1.2 h2.2]

theorem Mart.bind {v : β → Nat} {P : β → Bool} {h : α → Nat} {g : α → Tr β} {t : Tr α} {e : Nat} (H : ∀ x, t.leaf x → Mart v P (g x) (h x)) (ht : ∀ k, t.opn k = false → t.sum h k = e * 2 ^ k) : Mart v P (t.bind g) e := fun k h1 h2 => by
  rw [sum_bind H k h1 h2, ht k (opn_bind h1)]

theorem sum_congr {v u : α → Nat} : ∀ {t : Tr α} (k : Nat), (∀ x, t.leaf x → v x = u x) → t.sum v k = t.sum u k := by
  intro t
  induction t with
  | ret x => intro k h; cases k <;> simp [sum, h x rfl]
  | flip f ih =>
    intro k h
    cases k with
    | zero => rfl
    | succ k => simp only [sum]; rw [ih false k (fun x hx => h x (.inl hx)), ih true k (fun x hx => h x (.inr hx))]

theorem sum_add (c : Nat) {v : α → Nat} : ∀ {t : Tr α} (k : Nat), t.opn k = false → t.sum (fun x => c + v x) k = c * 2 ^ k + t.sum v k := by
  intro t
  induction t with
  | ret x => intro k _; cases k <;> simp [sum, Nat.add_mul]
  | flip f ih =>
    intro k h
    cases k with
    | zero => simp [opn] at h
    | succ k =>
      simp only [opn, Bool.or_eq_false_iff] at h
      simp only [sum]
      rw [ih false k h.1, ih true k h.2, Nat.pow_succ]
      generalize (f false).sum v k = a
      generalize (f true).sum v k = b
      have : c * (2 ^ k * 2) = c * 2 ^ k + c * 2 ^ k := by rw [← Nat.mul_assoc, Nat.mul_two]
      omega

theorem leaf_bind {x : β} {g : α → Tr β} : ∀ {t : Tr α}, (t.bind g).leaf x → ∃ y, t.leaf y ∧ (g y).leaf x := by
  intro t
  induction t with
  | ret y => intro h; exact ⟨y, rfl, h⟩
  | flip f ih =>
    intro h
    rcases h with h | h
    · obtain ⟨y, h1, h2⟩ := ih false h
      exact ⟨y, .inl h1, h2⟩
    · obtain ⟨y, h1, h2⟩ := ih true h
      exact ⟨y, .inr h1, h2⟩

/-- what is left behind coins -/
def behind : Tr α → List Bool → Tr α
  | ret x, _ => ret x
  | flip f, [] => flip f
  | flip f, b :: c => (f b).behind c

theorem behind_snoc : ∀ (c : List Bool) (t : Tr α) (b : Bool), t.behind (c ++ [b]) = (t.behind c).behind [b] := by
  intro c
  induction c with
  | nil => intro t b; cases t <;> rfl
  | cons a c ih =>
    intro t b
    cases t with
    | ret x => rfl
    | flip f => exact ih _ _

theorem run_behind : ∀ (c : List Bool) (pre : List Bool) (t : Tr α), t.run (pre ++ c) pre.length = none ∧ (∃ f, t.behind c = flip f) ∨ ∃ x q, t.run (pre ++ c) pre.length = some (x, q) ∧ t.behind c = ret x := by
  intro c
  induction c with
  | nil =>
    intro pre t
    cases t with
    | ret x => exact .inr ⟨x, _, rfl, rfl⟩
    | flip f => exact .inl ⟨by simp [run], f, rfl⟩
  | cons b c ih =>
    intro pre t
    cases t with
    | ret x => exact .inr ⟨x, _, rfl, rfl⟩
    | flip f =>
      have h := ih (pre ++ [b]) (f b)
      have e : (flip f).run (pre ++ b :: c) pre.length = (f b).run ((pre ++ [b]) ++ c) (pre ++ [b]).length := by
        simp [run]
      rw [e]
      exact h
end Tr

/-! ### Those of thin -/
open Tr

def halfT : Nat → Tr Bool
  | 0 => ret true
  | k + 1 => flip fun b => if b then halfT k else ret false
theorem halfT_run (cs : List Bool) : ∀ k p, (halfT k).run cs p = halfM cs k p := by
  intro k
  induction k with
  | zero => intro p; rfl
  | succ k ih =>
    intro p
    simp only [halfT, run, halfM]
    split
    · split
      · exact ih _
      · rfl
    · rfl

def binT : Nat → Nat → Tr Nat
  | 0, n => ret n
  | y + 1, n => flip fun b => binT y (if b then n + 1 else n)
theorem binT_run (cs : List Bool) : ∀ y n p, (binT y n).run cs p = binA cs y n p := by
  intro y
  induction y with
  | zero => intro n p; rfl
  | succ y ih =>
    intro n p
    simp only [binT, run, binA]
    split
    · exact ih _ _
    · rfl

def thinT : Nat → St → Tr St
  | 0, s => ret s
  | m + 1, s => (binT s.y 0).bind fun y => thinT m ⟨y, s.t + 1, s.full⟩
theorem thinT_run (cs : List Bool) : ∀ m s p, (thinT m s).run cs p = thinM cs m s p := by
  intro m
  induction m with
  | zero => intro s p; rfl
  | succ m ih =>
    intro s p
    simp only [thinT, thinM]
    rw [run_bind, binT_run]
    cases h : binA cs s.y 0 p with
    | none => rfl
    | some x => exact ih _ _

def downT (most : Nat) : Nat → St → Tr St
  | 0, s => if most < s.y then ret ⟨most, s.t, true⟩ else ret s
  | f + 1, s => if most < s.y then (thinT 1 s).bind fun s' => downT most f s' else ret s
theorem downT_run (cs : List Bool) (most : Nat) : ∀ f s p, (downT most f s).run cs p = downM cs most f s p := by
  intro f
  induction f with
  | zero => intro s p; simp only [downT, downM]; split <;> rfl
  | succ f ih =>
    intro s p
    simp only [downT, downM]
    split
    · rw [run_bind, thinT_run]
      cases h : thinM cs 1 s p with
      | none => rfl
      | some x => exact ih _ _
    · rfl

def oneT (most times : Nat) (s : St) : Tr St := (halfT s.t).bind fun b => if b then downT most (times - s.t) ⟨s.y + 1, s.t, s.full⟩ else ret s
theorem oneT_run (cs : List Bool) (most times : Nat) (s : St) (p : Nat) : (oneT most times s).run cs p = oneM cs most times s p := by
  unfold oneT oneM
  rw [run_bind, halfT_run]
  rcases halfM cs s.t p with _ | ⟨b, q⟩
  · rfl
  · cases b
    · rfl
    · exact downT_run _ _ _ _ _

def addT (most times : Nat) : Nat → St → Tr St
  | 0, s => ret s
  | n + 1, s => (oneT most times s).bind fun s' => addT most times n s'
theorem addT_run (cs : List Bool) (most times : Nat) : ∀ n s p, (addT most times n s).run cs p = addM cs most times n s p := by
  intro n
  induction n with
  | zero => intro s p; rfl
  | succ n ih =>
    intro s p
    simp only [addT, addM]
    rw [run_bind, oneT_run]
    rcases oneM cs most times s p with _ | ⟨s', q⟩
    · rfl
    · exact ih _ _

def mergeT (most times : Nat) (s o : St) : Tr St := (thinT (o.t - s.t) s).bind fun a => (thinT (s.t - o.t) o).bind fun b => downT most (times - a.t) ⟨a.y + b.y, a.t, s.full || o.full⟩
theorem mergeT_run (cs : List Bool) (most times : Nat) (s o : St) (p : Nat) : (mergeT most times s o).run cs p = mergeM cs most times s o p := by
  unfold mergeT mergeM
  rw [run_bind, thinT_run]
  rcases thinM cs (o.t - s.t) s p with _ | ⟨a, q⟩
  · rfl
  · simp only
    rw [run_bind, thinT_run]
    rcases thinM cs (s.t - o.t) o q with _ | ⟨b, q⟩
    · rfl
    · exact downT_run _ _ _ _ _

/-! ### Their means -/
def St.val (s : St) : Nat := s.y * 2 ^ s.t
abbrev MartS (t : Tr St) (e : Nat) : Prop := Mart St.val St.full t e

theorem mart_ret (s : St) : MartS (ret s) s.val := fun k _ _ => by cases k <;> simp [Tr.sum]
theorem mart_full (y t : Nat) (e : Nat) : MartS (ret ⟨y, t, true⟩) e := fun k _ h => by cases k <;> simp [Tr.any] at h

theorem half_sum (B c : Nat) : ∀ t k, (halfT t).opn k = false → (halfT t).sum (fun b => if b then B + c * 2 ^ t else B) k = (B + c) * 2 ^ k := by
  intro t
  induction t generalizing c with
  | zero => intro k _; cases k <;> simp [halfT, Tr.sum]
  | succ t ih =>
    intro k h
    cases k with
    | zero => simp [halfT, Tr.opn] at h
    | succ k =>
      simp [halfT, Tr.opn] at h
      simp only [halfT, Tr.sum, if_true]
      have := ih (2 * c) k h
      have e : (fun b => if b = true then B + c * 2 ^ (t + 1) else B) = fun b => if b = true then B + 2 * c * 2 ^ t else B := by
        funext b; congr 2; rw [Nat.pow_succ, Nat.mul_assoc 2, Nat.mul_comm 2, Nat.mul_assoc, Nat.mul_comm (2 ^ t)]
      rw [e, this]
      have e2 : Tr.sum (fun b => if b = true then B + 2 * c * 2 ^ t else B) (if false = true then halfT t else ret false) k = B * 2 ^ k := by
        cases k <;> simp [Tr.sum]
      rw [e2, Nat.pow_succ, ← Nat.add_mul, ← Nat.mul_assoc, Nat.mul_right_comm]
      congr 1
      omega

theorem bin_sum (c : Nat) : ∀ y n k, (binT y n).opn k = false → (binT y n).sum (fun m => 2 * m * c) k = (2 * n + y) * c * 2 ^ k := by
  intro y
  induction y with
  | zero => intro n k _; cases k <;> simp [binT, Tr.sum]
  | succ y ih =>
    intro n k h
    cases k with
    | zero => simp [binT, Tr.opn] at h
    | succ k =>
      simp only [binT, Tr.opn, Bool.or_eq_false_iff] at h
      simp only [binT, Tr.sum]
      have e : (2 * n + y) * c + (2 * (n + 1) + y) * c = (2 * n + (y + 1)) * c * 2 := by rw [← Nat.add_mul, Nat.mul_right_comm]; congr 1; omega
      rw [ih _ k h.1, ih _ k h.2, Nat.pow_succ, Nat.mul_comm (2 ^ k) 2, ← Nat.mul_assoc, ← e]
      simp only [Bool.false_eq_true, if_false, if_true]
      exact (Nat.add_mul _ _ _).symm

theorem thin_leaf : ∀ {m : Nat} {s x : St}, (thinT m s).leaf x → x.t = s.t + m := by
  intro m
  induction m with
  | zero => intro s x h; simp [thinT, Tr.leaf] at h; subst h; rfl
  | succ m ih =>
    intro s x h
    obtain ⟨y, _, h⟩ := leaf_bind h
    have := ih h
    simp only at this
    omega

theorem mart_thin_bind {g : St → Tr St} (c : Nat) : ∀ (m : Nat) (s : St), (∀ x : St, x.t = s.t + m → MartS (g x) (c + x.val)) → MartS ((thinT m s).bind g) (c + s.val) := by
  intro m
  induction m with
  | zero => intro s H; exact H s rfl
  | succ m ih =>
    intro s H
    have e : (thinT (m + 1) s).bind g = (binT s.y 0).bind fun y => (thinT m ⟨y, s.t + 1, s.full⟩).bind g := by
      simp only [thinT]
      generalize binT s.y 0 = t
      induction t with
      | ret x => rfl
      | flip f ih => simp only [Tr.bind]; congr 1; funext b; exact ih b
    rw [e]
    refine Mart.bind (h := fun y => c + y * 2 ^ (s.t + 1)) (fun y _ => ?_) (fun k hk => ?_)
    · exact ih ⟨y, s.t + 1, s.full⟩ (fun x hx => H x (by simp only at hx; omega))
    · rw [sum_add c k hk]
      have := bin_sum (2 ^ s.t) s.y 0 k hk
      have e : (fun y : Nat => y * 2 ^ (s.t + 1)) = fun m => 2 * m * 2 ^ s.t := by
        funext y; rw [Nat.pow_succ, Nat.mul_comm 2 y, Nat.mul_assoc, Nat.mul_comm (2 ^ s.t)]
      rw [e, this, Nat.mul_zero, Nat.zero_add, ← Nat.add_mul]
      rfl

theorem mart_down (most : Nat) : ∀ (f : Nat) (s : St), MartS (downT most f s) s.val := by
  intro f
  induction f with
  | zero => intro s; unfold downT; split; exact mart_full _ _ _; exact mart_ret s
  | succ f ih =>
    intro s
    unfold downT
    split
    · have := mart_thin_bind (g := fun s' => downT most f s') 0 1 s (fun x _ => by rw [Nat.zero_add]; exact ih x)
      rwa [Nat.zero_add] at this
    · exact mart_ret s

theorem mart_one (most times : Nat) (s : St) : MartS (oneT most times s) (s.val + 1) := by
  refine Mart.bind (h := fun b => if b = true then s.val + 1 * 2 ^ s.t else s.val) (fun b _ => ?_) (fun k hk => half_sum _ 1 _ k hk)
  cases b
  · exact mart_ret s
  · have := mart_down most (times - s.t) ⟨s.y + 1, s.t, s.full⟩
    simp only [St.val, Nat.add_mul] at this
    exact this

/-- a procedure whose mean rises by c, and what comes behind it -/
theorem Tr.bind_bind {α β γ : Type} (g : α → Tr β) (h : β → Tr γ) : ∀ t : Tr α, (t.bind g).bind h = t.bind fun x => (g x).bind h := by
  intro t
  induction t with
  | ret x => rfl
  | flip f ih => simp only [Tr.bind]; congr 1; funext b; exact ih b

theorem mart_down_bind {g : St → Tr St} (c most : Nat) (H : ∀ x : St, MartS (g x) (c + x.val)) (hf : ∀ y t, ∀ e, MartS (g ⟨y, t, true⟩) e) : ∀ (f : Nat) (s : St), MartS ((downT most f s).bind g) (c + s.val) := by
  intro f
  induction f with
  | zero => intro s; unfold downT; split; exact hf _ _ _; exact H s
  | succ f ih =>
    intro s
    unfold downT
    split
    · rw [Tr.bind_bind]
      exact mart_thin_bind c 1 s (fun x _ => ih x)
    · exact H s

theorem mart_one_bind {g : St → Tr St} (c most times : Nat) (H : ∀ x : St, MartS (g x) (c + x.val)) (hf : ∀ y t, ∀ e, MartS (g ⟨y, t, true⟩) e) (s : St) : MartS ((oneT most times s).bind g) (c + (s.val + 1)) := by
  unfold oneT
  rw [Tr.bind_bind]
  refine Mart.bind (h := fun b => if b = true then (c + s.val) + 1 * 2 ^ s.t else c + s.val) (fun b _ => ?_) (fun k hk => by rw [half_sum _ 1 _ k hk]; congr 1)
  cases b
  · exact H s
  · have := mart_down_bind c most H hf (times - s.t) ⟨s.y + 1, s.t, s.full⟩
    simp only [St.val, Nat.add_mul] at this
    rw [← Nat.add_assoc] at this
    exact this

/-- a full state stays full -/
def Full (t : Tr St) : Prop := ∀ x, t.leaf x → x.full = true
theorem Full.mart : ∀ {t : Tr St}, Full t → ∀ e, MartS t e := by
  intro t
  induction t with
  | ret x => intro h e k _ h2; have := h x rfl; cases k <;> simp [Tr.any, this] at h2
  | flip f ih =>
    intro h e k h1 h2
    cases k with
    | zero => simp [Tr.opn] at h1
    | succ k =>
      simp only [Tr.opn, Tr.any, Bool.or_eq_false_iff] at h1 h2
      simp only [Tr.sum]
      rw [ih false (fun x hx => h x (.inl hx)) e k h1.1 h2.1, ih true (fun x hx => h x (.inr hx)) e k h1.2 h2.2, Nat.pow_succ, ← Nat.mul_assoc]
      omega
theorem Full.bind {α : Type} {t : Tr α} {g : α → Tr St} (H : ∀ y, t.leaf y → Full (g y)) : Full (t.bind g) := fun x h => by
  obtain ⟨y, h1, h2⟩ := leaf_bind h
  exact H y h1 x h2

theorem full_thin : ∀ (m : Nat) (s : St), s.full = true → Full (thinT m s) := by
  intro m
  induction m with
  | zero => intro s hs x h; simp [thinT, Tr.leaf] at h; subst h; exact hs
  | succ m ih => intro s hs; exact Full.bind (fun y _ => ih _ hs)
theorem full_down (most : Nat) : ∀ (f : Nat) (s : St), s.full = true → Full (downT most f s) := by
  intro f
  induction f with
  | zero => intro s hs x h; unfold downT at h; split at h <;> (simp only [Tr.leaf] at h; subst h); rfl; exact hs
  | succ f ih =>
    intro s hs
    unfold downT
    split
    · exact Full.bind (fun y hy => ih y (full_thin _ _ hs y hy))
    · intro x h; simp only [Tr.leaf] at h; subst h; exact hs
theorem full_add (most times : Nat) : ∀ (n : Nat) (s : St), s.full = true → Full (addT most times n s) := by
  intro n
  induction n with
  | zero => intro s hs x h; simp [addT, Tr.leaf] at h; subst h; exact hs
  | succ n ih =>
    intro s hs
    refine Full.bind (fun y hy => ih y ?_)
    obtain ⟨b, _, hb⟩ := leaf_bind hy
    cases b
    · simp only [Bool.false_eq_true, if_false, Tr.leaf] at hb; subst hb; exact hs
    · exact full_down _ _ _ (by exact hs) _ hb
theorem full_merge (most times : Nat) (s o : St) (h : s.full = true ∨ o.full = true) : Full (mergeT most times s o) := by
  refine Full.bind (fun a _ => Full.bind (fun b _ => full_down _ _ _ ?_))
  simpa using h

theorem mart_add_bind {g : St → Tr St} (c most times : Nat) (H : ∀ x : St, MartS (g x) (c + x.val)) (hf : ∀ x : St, x.full = true → Full (g x)) : ∀ (n : Nat) (s : St), MartS ((addT most times n s).bind g) (c + (s.val + n)) := by
  intro n
  induction n with
  | zero => intro s; exact H s
  | succ n ih =>
    intro s
    have e : (addT most times (n + 1) s).bind g = (oneT most times s).bind fun s' => (addT most times n s').bind g := by
      simp only [addT]; rw [Tr.bind_bind]
    rw [e]
    have := mart_one_bind (g := fun s' => (addT most times n s').bind g) (c + n) most times (fun x => by
      have := ih x
      rwa [show c + (x.val + n) = c + n + x.val by omega] at this) (fun y t e => (Full.bind (fun x hx => hf x (full_add _ _ _ _ (by rfl) x hx))).mart e) s
    rwa [show c + n + (s.val + 1) = c + (s.val + (n + 1)) by omega] at this

theorem Tr.bind_ret {α : Type} : ∀ t : Tr α, t.bind ret = t := by
  intro t
  induction t with
  | ret x => rfl
  | flip f ih => simp only [Tr.bind]; congr 1; funext b; exact ih b

theorem mart_add (most times n : Nat) (s : St) : MartS (addT most times n s) (s.val + n) := by
  have := mart_add_bind (g := ret) 0 most times (fun x => by rw [Nat.zero_add]; exact mart_ret x) (fun x hx y hy => by simp only [Tr.leaf] at hy; subst hy; exact hx) n s
  rwa [Tr.bind_ret, Nat.zero_add] at this

theorem mart_merge (most times : Nat) (s o : St) : MartS (mergeT most times s o) (s.val + o.val) := by
  unfold mergeT
  rw [show s.val + o.val = o.val + s.val by omega]
  refine mart_thin_bind o.val _ s (fun a ha => ?_)
  rw [show o.val + a.val = a.val + o.val by omega]
  refine mart_thin_bind a.val _ o (fun b hb => ?_)
  have := mart_down most (times - a.t) ⟨a.y + b.y, a.t, s.full || o.full⟩
  have e : a.t = b.t := by omega
  simp only [St.val, Nat.add_mul] at this ⊢
  rw [← e]
  exact this

def bothT (most times n m : Nat) : Tr St := (addT most times n ⟨0, 0, false⟩).bind fun a => (addT most times m ⟨0, 0, false⟩).bind fun b => mergeT most times a b
theorem mart_both (most times n m : Nat) : MartS (bothT most times n m) (n + m) := by
  have := mart_add_bind (g := fun a => (addT most times m ⟨0, 0, false⟩).bind fun b => mergeT most times a b) m most times (fun a => by
      have := mart_add_bind (g := fun b => mergeT most times a b) a.val most times (fun b => mart_merge most times a b) (fun b hb => full_merge _ _ _ _ (.inr hb)) m ⟨0, 0, false⟩
      simp only [St.val, Nat.zero_mul, Nat.zero_add] at this
      rwa [Nat.add_comm] at this) (fun a ha => Full.bind (fun b _ => full_merge _ _ _ _ (.inl ha))) n ⟨0, 0, false⟩
  simp only [St.val, Nat.zero_mul, Nat.zero_add] at this
  rwa [Nat.add_comm] at this

end Go.Proofs.Ytfcamaiehepinaa
