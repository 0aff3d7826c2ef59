/- Flat values: what is made of numbers and bools alone, as it comes in. -/
import Derived.Test.YtidfejfgmlakpaaGreatOpen
namespace Go.Proofs.YtidfejfgmlakpaaGreat
open Go.RowKit Go.ChangeShapes Go.WideShapes Go.ChangeAt

/-- a cell's kind -/
inductive CK where
  | i (k : IntKind)
  | b

/-- fields, one behind the other -/
def flatFs (P : Program) (r : TypeId → Option (List CK)) : Nat → List Field → Option (List CK)
  | _, [] => some []
  | off, f :: fs => if f.offset = off then (r f.type).bind fun ks => if ks.length = P.cellsOf f.type then (flatFs P r (off + ks.length) fs).map (ks ++ ·) else none else none

/-- a flat type's cells -/
def flatT (P : Program) : Nat → TypeId → Option (List CK)
  | 0, _ => none
  | n + 1, t =>
    match P.underlying t with
    | some .bool => some [.b]
    | some (.int k) => some [.i k]
    | some (.struct fs) => (flatFs P (flatT P n) 0 fs.toList).bind fun ks => if ks.length = P.cellsOf t then some ks else none
    | some (.array m e) => (flatT P n e).bind fun ks => if ks.length = P.cellsOf e ∧ m * ks.length = P.cellsOf t then some (List.replicate m ks).flatten else none
    | _ => none

/-- cells of these kinds -/
def Fits : List CK → List Value → Prop
  | [], [] => True
  | .i k :: ks, .int k' n :: vs => k' = k ∧ (Lit.int k n).wf = true ∧ Fits ks vs
  | .b :: ks, .bool _ :: vs => Fits ks vs
  | _, _ => False

theorem Fits.len {ks : List CK} {vs : List Value} (h : Fits ks vs) : vs.length = ks.length := by
  induction ks generalizing vs with
  | nil => cases vs <;> simp [Fits] at h ⊢
  | cons k ks ih =>
    cases vs with
    | nil => cases k <;> simp [Fits] at h
    | cons v vs =>
      cases k <;> cases v <;> simp [Fits] at h ⊢
      · exact ih h.2.2
      · exact ih h

theorem Fits.append {a b : List CK} {x y : List Value} (h : Fits a x) (k : Fits b y) : Fits (a ++ b) (x ++ y) := by
  induction a generalizing x with
  | nil => cases x <;> simp [Fits] at h; exact k
  | cons c a ih =>
    cases x with
    | nil => cases c <;> simp [Fits] at h
    | cons v x =>
      cases c <;> cases v <;> simp [Fits] at h ⊢
      · exact ⟨h.1, h.2.1, ih h.2.2⟩
      · exact ih h

theorem Fits.int {k : IntKind} {ks : List CK} {vs : List Value} (h : Fits (.i k :: ks) vs) : ∃ n vs', vs = .int k n :: vs' ∧ (Lit.int k n).wf = true ∧ Fits ks vs' := by
  match vs with
  | [] => simp [Fits] at h
  | v :: vs =>
    cases v <;> simp [Fits] at h
    obtain ⟨rfl, h1, h2⟩ := h
    exact ⟨_, _, rfl, h1, h2⟩
theorem Fits.bool {ks : List CK} {vs : List Value} (h : Fits (.b :: ks) vs) : ∃ b vs', vs = .bool b :: vs' ∧ Fits ks vs' := by
  match vs with
  | [] => simp [Fits] at h
  | v :: vs =>
    cases v <;> simp [Fits] at h
    exact ⟨_, _, rfl, h⟩
theorem Fits.nil {vs : List Value} (h : Fits [] vs) : vs = [] := by
  match vs with
  | [] => rfl
  | v :: vs => simp [Fits] at h

section
variable {H : Type} {enc : TypeId × Value → H} {P : Program} {w : World} {base : Nat} {spare : Nat → Bool} {held : Bool}

theorem flatFs_trod {r : TypeId → Option (List CK)} {rd : TypeId → List Value → Option (DataW H × List MemPlace)} (ih : ∀ t ks cs x, r t = some ks → rd t cs = some x → Fits ks cs) (cs : List Value) :
    ∀ (fs : List Field) (off : Nat) (ks : List CK) (xs : List (DataW H × List MemPlace)), flatFs P r off fs = some ks → fs.mapM (fun f => rd f.type ((cs.drop f.offset).take (P.cellsOf f.type))) = some xs → Fits ks ((cs.drop off).take ks.length) := by
  intro fs
  induction fs with
  | nil =>
    intro off ks xs h _
    simp [flatFs] at h
    subst h
    simp [Fits]
  | cons f fs ihf =>
    intro off ks xs h hm
    unfold flatFs at h
    split at h
    · rename_i ho
      obtain ⟨k1, hk1, h2⟩ := Option.bind_eq_some_iff.1 h
      split at h2
      · rename_i hl
        obtain ⟨k2, hk2, rfl⟩ := Option.map_eq_some_iff.1 h2
        simp only [List.mapM_cons, Option.bind_eq_bind, Option.bind_eq_some_iff] at hm
        obtain ⟨y, hy, ys, hys, _⟩ := hm
        have h1 := ih _ _ _ _ hk1 hy
        have h3 := ihf _ _ _ hk2 hys
        rw [ho, ← hl] at h1
        have e : (cs.drop off).take (k1 ++ k2).length = (cs.drop off).take k1.length ++ (cs.drop (off + k1.length)).take k2.length := by
          rw [List.length_append, List.take_add, List.drop_drop]
        rw [e]
        exact h1.append h3
      · cases h2
    · cases h

theorem flat_trod : ∀ (n : Nat) (t : TypeId) (ks : List CK) (fuel : Nat) (cs : List Value) (x : DataW H × List MemPlace), flatT P n t = some ks → DataW.trod enc P w base spare held fuel t cs = some x → Fits ks cs := by
  intro n
  induction n with
  | zero => intro t ks fuel cs x h; simp [flatT] at h
  | succ n ih =>
    intro t ks fuel cs x h hx
    unfold flatT at h
    split at h
    · rename_i ht
      simp at h; subst h
      obtain ⟨b, rfl⟩ := trod_bool ht hx
      simp [Fits]
    · rename_i k ht
      simp at h; subst h
      obtain ⟨m, rfl, hw⟩ := trod_int' ht hx
      simp [Fits, hw]
    · rename_i fs ht
      obtain ⟨k1, hk1, h2⟩ := Option.bind_eq_some_iff.1 h
      split at h2
      · rename_i hl
        simp at h2; subst h2
        cases fuel with
        | zero => simp [DataW.trod] at hx
        | succ m =>
          unfold DataW.trod at hx
          simp only [ht] at hx
          split at hx
          · rename_i hcl
            obtain ⟨xs, hxs, _⟩ := Option.map_eq_some_iff.1 hx
            have := flatFs_trod (rd := DataW.trod enc P w base spare held m) (fun t ks cs x => ih t ks m cs x) cs _ 0 _ _ hk1 hxs
            rw [hl, ← hcl] at this
            simpa using this
          · cases hx
      · cases h2
    · rename_i m e ht
      obtain ⟨k1, hk1, h2⟩ := Option.bind_eq_some_iff.1 h
      split at h2
      · rename_i hl
        obtain ⟨hl1, hl2⟩ := hl
        simp at h2; subst h2
        obtain ⟨xs, q, rfl, _, hcl, hxl, hel⟩ := DataW.trod_array ht hx
        have each : ∀ j, j < m → Fits k1 ((cs.drop (j * k1.length)).take k1.length) := by
          intro j hj
          have h3 := hel j hj
          rw [List.getElem?_eq_getElem (by omega)] at h3
          rw [hl1]
          exact ih _ _ _ _ _ hk1 h3
        have all : ∀ j, j ≤ m → Fits (List.replicate j k1).flatten (cs.take (j * k1.length)) := by
          intro j
          induction j with
          | zero => intro _; simp [Fits]
          | succ j ihj =>
            intro hj
            have e : cs.take ((j + 1) * k1.length) = cs.take (j * k1.length) ++ (cs.drop (j * k1.length)).take k1.length := by
              rw [Nat.add_mul, Nat.one_mul, List.take_add]
            rw [e, List.replicate_succ', List.flatten_append, List.flatten_singleton]
            exact (ihj (by omega)).append (each j (by omega))
        have := all m (Nat.le_refl _)
        rw [hl2, ← hcl] at this
        simpa using this
      · cases h2
    · cases h

/-- a value made of numbers and bools -/
theorem open_flat {r : Reach} {b0 n : Nat} {fuel : Nat} {t : TypeId} {v : Value} {x : DataW H × List MemPlace} {ks : List CK} (hf : flatT P n t = some ks) (hs : (match P.underlying t with | some (.struct _) => true | some (.array _ _) => true | _ => false) = true)
    (hv : Value.okWide P w r b0 t v) (h : DataW.trod enc P w base spare held fuel t v.cells.toList = some x) : ∃ cs : List Value, v = .agg cs.toArray ∧ Fits ks cs := by
  have : ∃ cs, v = .agg cs := by
    unfold Value.okWide at hv
    split at hv
    · obtain ⟨cs, rfl, _⟩ := hv; exact ⟨cs, rfl⟩
    · obtain ⟨cs, rfl, _⟩ := hv; exact ⟨cs, rfl⟩
    · rename_i h1 h2
      split at hs
      · rename_i fs hfs; exact (h1 fs hfs).elim
      · rename_i n e hfs; exact (h2 n e hfs).elim
      · cases hs
  obtain ⟨cs, rfl⟩ := this
  exact ⟨cs.toList, by simp, flat_trod _ _ _ _ _ _ hf h⟩

end

end Go.Proofs.YtidfejfgmlakpaaGreat
