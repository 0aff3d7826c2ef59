/- What procedures over a tape come to: plain functions of the coins and a place; and the form of their contracts. -/
import Derived.Test.YtfcamaiehepinaaBase
namespace Go.Proofs.Ytfcamaiehepinaa
open Go.RowKit

/-- of 1 by 2 to the k -/
def halfM (cs : List Bool) : Nat → Nat → Option (Bool × Nat)
  | 0, p => some (true, p)
  | k + 1, p => if p < cs.length then (if cs.getD p false then halfM cs k (p + 1) else some (false, p + 1)) else none

/-- how many of y coins are yes, behind n -/
def binA (cs : List Bool) : Nat → Nat → Nat → Option (Nat × Nat)
  | 0, n, p => some (n, p)
  | y + 1, n, p => if p < cs.length then binA cs y (if cs.getD p false then n + 1 else n) (p + 1) else none

structure St where
  y : Nat
  t : Nat
  full : Bool

def thinM (cs : List Bool) : Nat → St → Nat → Option (St × Nat)
  | 0, s, p => some (s, p)
  | m + 1, s, p => match binA cs s.y 0 p with
    | some (y, p') => thinM cs m ⟨y, s.t + 1, s.full⟩ p'
    | none => none

def downM (cs : List Bool) (most : Nat) : Nat → St → Nat → Option (St × Nat)
  | 0, s, p => if most < s.y then some (⟨most, s.t, true⟩, p) else some (s, p)
  | f + 1, s, p => if most < s.y then (match thinM cs 1 s p with
    | some (s', p') => downM cs most f s' p'
    | none => none) else some (s, p)

def oneM (cs : List Bool) (most times : Nat) (s : St) (p : Nat) : Option (St × Nat) :=
  match halfM cs s.t p with
  | none => none
  | some (false, p') => some (s, p')
  | some (true, p') => downM cs most (times - s.t) ⟨s.y + 1, s.t, s.full⟩ p'

def addM (cs : List Bool) (most times : Nat) : Nat → St → Nat → Option (St × Nat)
  | 0, s, p => some (s, p)
  | n + 1, s, p => match oneM cs most times s p with
    | some (s', p') => addM cs most times n s' p'
    | none => none

def mergeM (cs : List Bool) (most times : Nat) (s o : St) (p : Nat) : Option (St × Nat) :=
  match thinM cs (o.t - s.t) s p with
  | none => none
  | some (a, p1) => match thinM cs (s.t - o.t) o p1 with
    | none => none
    | some (b, p2) => downM cs most (times - a.t) ⟨a.y + b.y, a.t, s.full || o.full⟩ p2

/-! ### Places stay within the coins; states stay small -/

theorem halfM_le {cs : List Bool} : ∀ {k p r p'}, halfM cs k p = some (r, p') → p ≤ cs.length → p ≤ p' ∧ p' ≤ cs.length := by
  intro k
  induction k with
  | zero => intro p r p' h hp; simp [halfM] at h; omega
  | succ k ih =>
    intro p r p' h hp
    unfold halfM at h
    split at h
    · split at h
      · have := ih h (by omega); omega
      · simp at h; omega
    · cases h

theorem binA_le {cs : List Bool} : ∀ {y n p m p'}, binA cs y n p = some (m, p') → p ≤ cs.length → p ≤ p' ∧ p' ≤ cs.length ∧ n ≤ m ∧ m ≤ n + y := by
  intro y
  induction y with
  | zero => intro n p m p' h hp; simp [binA] at h; omega
  | succ y ih =>
    intro n p m p' h hp
    unfold binA at h
    split at h
    · have := ih h (by omega)
      split at this <;> omega
    · cases h

theorem thinM_le {cs : List Bool} : ∀ {m s p s' p'}, thinM cs m s p = some (s', p') → p ≤ cs.length → p ≤ p' ∧ p' ≤ cs.length ∧ s'.y ≤ s.y ∧ s'.t = s.t + m ∧ s'.full = s.full := by
  intro m
  induction m with
  | zero => intro s p s' p' h hp; simp [thinM] at h; obtain ⟨rfl, rfl⟩ := h; simp; omega
  | succ m ih =>
    intro s p s' p' h hp
    unfold thinM at h
    split at h
    · rename_i y q hb
      have h1 := binA_le hb hp
      have h2 := ih h (by omega)
      simp only at h2
      refine ⟨by omega, by omega, by omega, by omega, h2.2.2.2.2⟩
    · cases h

theorem downM_le {cs : List Bool} {most : Nat} : ∀ {f s p s' p'}, downM cs most f s p = some (s', p') → p ≤ cs.length → p ≤ p' ∧ p' ≤ cs.length ∧ s'.y ≤ most ∧ s.t ≤ s'.t ∧ s'.t ≤ s.t + f ∧ (s'.full = s.full ∨ s'.t = s.t + f) := by
  intro f
  induction f with
  | zero =>
    intro s p s' p' h hp
    unfold downM at h
    split at h <;> (simp at h; obtain ⟨rfl, rfl⟩ := h; simp; omega)
  | succ f ih =>
    intro s p s' p' h hp
    unfold downM at h
    split at h
    · split at h
      · rename_i s1 p1 h1
        have h2 := thinM_le h1 hp
        have h3 := ih h (by omega)
        refine ⟨by omega, by omega, by omega, by omega, by omega, ?_⟩
        rcases h3.2.2.2.2.2 with h | h
        · left; rw [h, h2.2.2.2.2]
        · right; omega
      · cases h
    · simp at h; obtain ⟨rfl, rfl⟩ := h; simp; omega

/-- a state that may be -/
def St.ok (most times : Nat) (s : St) : Prop := s.y ≤ most ∧ s.t ≤ times ∧ (s.full = true → s.t = times)

theorem oneM_ok {cs : List Bool} {most times : Nat} {s s' : St} {p p' : Nat} (h : oneM cs most times s p = some (s', p')) (hp : p ≤ cs.length) (hs : s.ok most times) : s'.ok most times ∧ p ≤ p' ∧ p' ≤ cs.length := by
  unfold oneM at h
  split at h
  · cases h
  · rename_i q hq
    have := halfM_le hq hp
    simp at h
    obtain ⟨rfl, rfl⟩ := h
    exact ⟨hs, this⟩
  · rename_i q hq
    have h1 := halfM_le hq hp
    have h2 := downM_le h h1.2
    simp only at h2
    obtain ⟨a, b, c⟩ := hs
    refine ⟨⟨by omega, by omega, fun hf => ?_⟩, by omega, by omega⟩
    rcases h2.2.2.2.2.2 with h | h
    · have := c (by rw [← h]; exact hf); omega
    · omega

theorem addM_ok {cs : List Bool} {most times : Nat} : ∀ {n s p s' p'}, addM cs most times n s p = some (s', p') → p ≤ cs.length → s.ok most times → s'.ok most times ∧ p ≤ p' ∧ p' ≤ cs.length := by
  intro n
  induction n with
  | zero => intro s p s' p' h hp hs; simp [addM] at h; obtain ⟨rfl, rfl⟩ := h; exact ⟨hs, Nat.le_refl _, hp⟩
  | succ n ih =>
    intro s p s' p' h hp hs
    unfold addM at h
    split at h
    · rename_i s1 p1 h1
      have h2 := oneM_ok h1 hp hs
      have h3 := ih h h2.2.2 h2.1
      exact ⟨h3.1, by omega, h3.2.2⟩
    · cases h

theorem mergeM_ok {cs : List Bool} {most times : Nat} {s o s' : St} {p p' : Nat} (h : mergeM cs most times s o p = some (s', p')) (hp : p ≤ cs.length) (hs : s.ok most times) (ho : o.ok most times) : s'.ok most times ∧ p ≤ p' ∧ p' ≤ cs.length := by
  unfold mergeM at h
  split at h
  · cases h
  · rename_i a p1 h1
    split at h
    · cases h
    · rename_i b p2 h2
      have e1 := thinM_le h1 hp
      have e2 := thinM_le h2 e1.2.1
      have e3 := downM_le h e2.2.1
      simp only at e3
      obtain ⟨a1, a2, a3⟩ := hs
      obtain ⟨b1, b2, b3⟩ := ho
      refine ⟨⟨by omega, by omega, fun hf => ?_⟩, by omega, by omega⟩
      rcases e3.2.2.2.2.2 with h | h
      · rw [h] at hf
        simp at hf
        rcases hf with hf | hf
        · have := a3 hf; omega
        · have := b3 hf; omega
      · omega

theorem addM_add (cs : List Bool) (most times : Nat) : ∀ (n m : Nat) (s : St) (p : Nat), addM cs most times (n + m) s p = match addM cs most times n s p with
    | some (s', p') => addM cs most times m s' p'
    | none => none := by
  intro n
  induction n with
  | zero => intro m s p; simp [addM]
  | succ n ih =>
    intro m s p
    rw [show n + 1 + m = (n + m) + 1 by omega]
    show (match oneM cs most times s p with | some (s', p') => addM cs most times (n + m) s' p' | none => none) = (match (match oneM cs most times s p with | some (s', p') => addM cs most times n s' p' | none => none) with | some (s', p') => addM cs most times m s' p' | none => none)
    rcases oneM cs most times s p with _ | ⟨s', p'⟩
    · rfl
    · exact ih m s' p'

/-- What a procedure over a tape hands back, and leaves. -/
def TPost {α : Type} (enc : α → Value) (F : α → Prop) (w : World) (b : Nat) (v : Value) (cs : List Bool) (R : Option (α × Nat)) (e : Ending) (w' : World) : Prop :=
  match R with
  | some (x, p) => e = .returned (.tuple #[enc x, .int .i64 0]) ∧ TapeAt w' b v cs p false ∧ Ext (· = b) w w'
  | none => ∃ x, F x ∧ e = .returned (.tuple #[enc x, .int .i64 8]) ∧ TapeAt w' b v cs cs.length true ∧ Ext (· = b) w w'

/-- What a reference's procedure hands back: of coins from a place p on. -/
def RPost {α : Type} (enc : α → Int → Int → Value) (F : α → Prop) (p l : Nat) (w : World) (R : Option (α × Nat)) (e : Ending) (w' : World) : Prop :=
  match R with
  | some (x, q) => e = .returned (enc x ((q : Int) - p) 0) ∧ Same w w'
  | none => ∃ x, F x ∧ e = .returned (enc x ((l : Int) - p) 8) ∧ Same w w'

def encSt (s : St) : Value := .agg #[.int .i64 s.y, .int .i64 s.t, .bool s.full]

end Go.Proofs.Ytfcamaiehepinaa
