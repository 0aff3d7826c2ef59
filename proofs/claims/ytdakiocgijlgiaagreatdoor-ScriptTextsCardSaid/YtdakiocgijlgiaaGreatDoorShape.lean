/- Values made of numbers, bools and slices, as they come in. -/
import Derived.Test.YtdakiocgijlgiaaGreatDoorFlat
namespace Go.Proofs.YtdakiocgijlgiaaGreatDoor
open Go.RowKit Go.ChangeShapes Go.WideShapes Go.ChangeAt

/-- a cell's kind -/
inductive CK2 where
  | i (k : IntKind)
  | b
  | s (u : TypeId)

def shapeFs (P : Program) (r : TypeId → Option (List CK2)) : Nat → List Field → Option (List CK2)
  | _, [] => some []
  | off, f :: fs => if f.offset = off then (r f.type).bind fun ks => if ks.length = P.cellsOf f.type then (shapeFs P r (off + ks.length) fs).map (ks ++ ·) else none else none

def shapeT (P : Program) : Nat → TypeId → Option (List CK2)
  | 0, _ => none
  | n + 1, t =>
    match P.underlying t with
    | some .bool => some [.b]
    | some (.int k) => some [.i k]
    | some (.slice _) => some [.s t]
    | some (.struct fs) => (shapeFs P (shapeT P n) 0 fs.toList).bind fun ks => if ks.length = P.cellsOf t then some ks else none
    | some (.array m e) => (shapeT P n e).bind fun ks => if ks.length = P.cellsOf e ∧ m * ks.length = P.cellsOf t then some (List.replicate m ks).flatten else none
    | _ => none

/-- cells of these kinds -/
def Fits2 (ok : TypeId → Value → Prop) : List CK2 → List Value → Prop
  | [], [] => True
  | .i k :: ks, .int k' n :: vs => k' = k ∧ (Lit.int k n).wf = true ∧ Fits2 ok ks vs
  | .b :: ks, .bool _ :: vs => Fits2 ok ks vs
  | .s u :: ks, v :: vs => ok u v ∧ Fits2 ok ks vs
  | _, _ => False

theorem Fits2.append {ok : TypeId → Value → Prop} {a b : List CK2} {x y : List Value} (h : Fits2 ok a x) (k : Fits2 ok b y) : Fits2 ok (a ++ b) (x ++ y) := by
  induction a generalizing x with
  | nil => cases x <;> simp [Fits2] at h; exact k
  | cons c a ih =>
    cases x with
    | nil => cases c <;> simp [Fits2] at h
    | cons v x =>
      cases c with
      | s u =>
        simp only [Fits2] at h
        simp only [List.cons_append, Fits2]
        exact ⟨h.1, ih h.2⟩
      | i k => cases v <;> simp [Fits2] at h ⊢; exact ⟨h.1, h.2.1, ih h.2.2⟩
      | b => cases v <;> simp [Fits2] at h ⊢; exact ih h
theorem Fits2.len {ok : TypeId → Value → Prop} {ks : List CK2} {vs : List Value} (h : Fits2 ok ks vs) : vs.length = ks.length := by
  induction ks generalizing vs with
  | nil => cases vs <;> simp [Fits2] at h ⊢
  | cons c ks ih =>
    cases vs with
    | nil => cases c <;> simp [Fits2] at h
    | cons v vs =>
      cases c with
      | s u => simp only [Fits2] at h; simp [ih h.2]
      | i k => cases v <;> simp [Fits2] at h ⊢; exact ih h.2.2
      | b => cases v <;> simp [Fits2] at h ⊢; exact ih h
theorem Fits2.mono {ok ok' : TypeId → Value → Prop} : ∀ {ks : List CK2} {vs : List Value}, Fits2 ok ks vs → (∀ (i : Nat) u v, ks[i]? = some (.s u) → vs[i]? = some v → ok u v → ok' u v) → Fits2 ok' ks vs
  | [], [], _, _ => trivial
  | [], _ :: _, h, _ => by simp [Fits2] at h
  | .i _ :: _, [], h, _ | .b :: _, [], h, _ | .s _ :: _, [], h, _ => by simp [Fits2] at h
  | .s u :: ks, v :: vs, h, k => by
    simp only [Fits2] at h ⊢
    exact ⟨k 0 u v rfl rfl h.1, h.2.mono fun i u v h1 h2 => k (i + 1) u v (by simpa using h1) (by simpa using h2)⟩
  | .i _ :: ks, v :: vs, h, k => by
    cases v <;> simp [Fits2] at h ⊢
    exact ⟨h.1, h.2.1, h.2.2.mono fun i u v h1 h2 => k (i + 1) u v (by simpa using h1) (by simpa using h2)⟩
  | .b :: ks, v :: vs, h, k => by
    cases v <;> simp [Fits2] at h ⊢
    exact h.mono fun i u v h1 h2 => k (i + 1) u v (by simpa using h1) (by simpa using h2)
theorem Fits2.int {ok : TypeId → Value → Prop} {k : IntKind} {ks : List CK2} {vs : List Value} (h : Fits2 ok (.i k :: ks) vs) : ∃ n vs', vs = .int k n :: vs' ∧ (Lit.int k n).wf = true ∧ Fits2 ok ks vs' := by
  match vs with
  | [] => simp [Fits2] at h
  | v :: vs =>
    cases v <;> simp [Fits2] at h
    obtain ⟨rfl, h1, h2⟩ := h
    exact ⟨_, _, rfl, h1, h2⟩
theorem Fits2.bool {ok : TypeId → Value → Prop} {ks : List CK2} {vs : List Value} (h : Fits2 ok (.b :: ks) vs) : ∃ b vs', vs = .bool b :: vs' ∧ Fits2 ok ks vs' := by
  match vs with
  | [] => simp [Fits2] at h
  | v :: vs =>
    cases v <;> simp [Fits2] at h
    exact ⟨_, _, rfl, h⟩
theorem Fits2.slice {ok : TypeId → Value → Prop} {u : TypeId} {ks : List CK2} {vs : List Value} (h : Fits2 ok (.s u :: ks) vs) : ∃ v vs', vs = v :: vs' ∧ ok u v ∧ Fits2 ok ks vs' := by
  match vs with
  | [] => simp [Fits2] at h
  | v :: vs => simp only [Fits2] at h; exact ⟨_, _, rfl, h.1, h.2⟩
theorem Fits2.nil {ok : TypeId → Value → Prop} {vs : List Value} (h : Fits2 ok [] vs) : vs = [] := by
  match vs with
  | [] => rfl
  | v :: vs => simp [Fits2] at h

section
variable {H : Type} {enc : TypeId × Value → H} {P : Program} {w : World} {base : Nat} {spare : Nat → Bool} {held : Bool}

theorem shapeFs_trod {ok : TypeId → Value → Prop} {r : TypeId → Option (List CK2)} {rd : TypeId → List Value → Option (DataW H × List MemPlace)} (ih : ∀ t ks cs x, r t = some ks → rd t cs = some x → Fits2 ok ks cs) (cs : List Value) :
    ∀ (fs : List Field) (off : Nat) (ks : List CK2) (xs : List (DataW H × List MemPlace)), shapeFs P r off fs = some ks → fs.mapM (fun f => rd f.type ((cs.drop f.offset).take (P.cellsOf f.type))) = some xs → Fits2 ok ks ((cs.drop off).take ks.length) := by
  intro fs
  induction fs with
  | nil =>
    intro off ks xs h _
    simp [shapeFs] at h
    subst h
    simp [Fits2]
  | cons f fs ihf =>
    intro off ks xs h hm
    unfold shapeFs at h
    split at h
    · rename_i ho
      obtain ⟨k1, hk1, h2⟩ := Option.bind_eq_some_iff.1 h
      split at h2
      · rename_i hl
        obtain ⟨k2, hk2, rfl⟩ := Option.map_eq_some_iff.1 h2
        simp only [List.mapM_cons, Option.bind_eq_bind, Option.bind_eq_some_iff] at hm
        obtain ⟨y, hy, ys, hys, _⟩ := hm
        have h1 := ih _ _ _ _ hk1 hy
        have h3 := ihf _ _ _ hk2 hys
        rw [ho, ← hl] at h1
        have e : (cs.drop off).take (k1 ++ k2).length = (cs.drop off).take k1.length ++ (cs.drop (off + k1.length)).take k2.length := by
          rw [List.length_append, List.take_add, List.drop_drop]
        rw [e]
        exact h1.append h3
      · cases h2
    · cases h

/-- the slices' types are those of the cells -/
def okTs : List CK2 → List TypeId → Bool
  | [], [] => true
  | .s u :: ks, t :: ts => u == t && okTs ks ts
  | _ :: ks, _ :: ts => okTs ks ts
  | _, _ => false
theorem okTs.get : ∀ {ks : List CK2} {ts : List TypeId}, okTs ks ts = true → ks.length = ts.length ∧ ∀ (i : Nat) u, ks[i]? = some (.s u) → ts[i]? = some u
  | [], [], _ => ⟨rfl, by simp⟩
  | [], _ :: _, h => by simp [okTs] at h
  | .i _ :: _, [], h | .b :: _, [], h | .s _ :: _, [], h => by simp [okTs] at h
  | .s v :: ks, t :: ts, h => by
    simp only [okTs, Bool.and_eq_true, beq_iff_eq] at h
    obtain ⟨h1, h2⟩ := okTs.get h.2
    refine ⟨by simp [h1], fun i u hi => ?_⟩
    cases i with
    | zero => simp at hi ⊢; rw [← h.1, hi]
    | succ i => simpa using h2 i u (by simpa using hi)
  | .i _ :: ks, t :: ts, h | .b :: ks, t :: ts, h => by
    simp only [okTs] at h
    obtain ⟨h1, h2⟩ := okTs.get h
    refine ⟨by simp [h1], fun i u hi => ?_⟩
    cases i with
    | zero => simp at hi
    | succ i => simpa using h2 i u (by simpa using hi)

end
end Go.Proofs.YtdakiocgijlgiaaGreatDoor
