/- Flat values: what is made of numbers and bools alone, as it comes in. -/
import Derived.Test.YtdakiocgijlgiaaGreatDoorOpen
namespace Go.Proofs.YtdakiocgijlgiaaGreatDoor
open Go.RowKit Go.ChangeShapes Go.WideShapes Go.ChangeAt

/-- a cell's kind -/
inductive CK where
  | i (k : IntKind)
  | b

/-- fields, one behind the other -/
def flatFs (P : Program) (r : TypeId → Option (List CK)) : Nat → List Field → Option (List CK)
  | _, [] => some []
  | off, f :: fs => if f.offset = off then (r f.type).bind fun ks => if ks.length = P.cellsOf f.type then (flatFs P r (off + ks.length) fs).map (ks ++ ·) else none else none

/-- a flat type's cells -/
def flatT (P : Program) : Nat → TypeId → Option (List CK)
  | 0, _ => none
  | n + 1, t =>
    match P.underlying t with
    | some .bool => some [.b]
    | some (.int k) => some [.i k]
    | some (.struct fs) => (flatFs P (flatT P n) 0 fs.toList).bind fun ks => if ks.length = P.cellsOf t then some ks else none
    | some (.array m e) => (flatT P n e).bind fun ks => if ks.length = P.cellsOf e ∧ m * ks.length = P.cellsOf t then some (List.replicate m ks).flatten else none
    | _ => none

/-- cells of these kinds -/
def Fits : List CK → List Value → Prop
  | [], [] => True
  | .i k :: ks, .int k' n :: vs => k' = k ∧ (Lit.int k n).wf = true ∧ Fits ks vs
  | .b :: ks, .bool _ :: vs => Fits ks vs
  | _, _ => False

theorem Fits.len {ks : List CK} {vs : List Value} (h : Fits ks vs) : vs.length = ks.length := by
  induction ks generalizing vs with
  | nil => cases vs <;> simp [Fits] at h ⊢
  | cons k ks ih =>
    cases vs with
    | nil => cases k <;> simp [Fits] at h
    | cons v vs =>
      cases k <;> cases v <;> simp [Fits] at h ⊢
      · exact ih h.2.2
      · exact ih h

theorem Fits.append {a b : List CK} {x y : List Value} (h : Fits a x) (k : Fits b y) : Fits (a ++ b) (x ++ y) := by
  induction a generalizing x with
  | nil => cases x <;> simp [Fits] at h; exact k
  | cons c a ih =>
    cases x with
    | nil => cases c <;> simp [Fits] at h
    | cons v x =>
      cases c <;> cases v <;> simp [Fits] at h ⊢
      · exact ⟨h.1, h.2.1, ih h.2.2⟩
      · exact ih h

theorem Fits.int {k : IntKind} {ks : List CK} {vs : List Value} (h : Fits (.i k :: ks) vs) : ∃ n vs', vs = .int k n :: vs' ∧ (Lit.int k n).wf = true ∧ Fits ks vs' := by
  match vs with
  | [] => simp [Fits] at h
  | v :: vs =>
    cases v <;> simp [Fits] at h
    obtain ⟨rfl, h1, h2⟩ := h
    exact ⟨_, _, rfl, h1, h2⟩
theorem Fits.bool {ks : List CK} {vs : List Value} (h : Fits (.b :: ks) vs) : ∃ b vs', vs = .bool b :: vs' ∧ Fits ks vs' := by
  match vs with
  | [] => simp [Fits] at h
  | v :: vs =>
    cases v <;> simp [Fits] at h
    exact ⟨_, _, rfl, h⟩
theorem Fits.nil {vs : List Value} (h : Fits [] vs) : vs = [] := by
  match vs with
  | [] => rfl
  | v :: vs => simp [Fits] at h

section
variable {H : Type} {enc : TypeId × Value → H} {P : Program} {w : World} {base : Nat} {spare : Nat → Bool} {held : Bool}

end

end Go.Proofs.YtdakiocgijlgiaaGreatDoor
