/- Values made of numbers, bools and slices, as they come in. -/
import Derived.Test.YtdklbnemfelpnaaGreatDoorFlat
namespace Go.Proofs.YtdklbnemfelpnaaGreatDoor
open Go.RowKit Go.ChangeShapes Go.WideShapes Go.ChangeAt

/-- a cell's kind -/
inductive CK2 where
  | i (k : IntKind)
  | b
  | s (u : TypeId)

def shapeFs (P : Program) (r : TypeId → Option (List CK2)) : Nat → List Field → Option (List CK2)
  | _, [] => some []
  | off, f :: fs => if f.offset = off then (r f.type).bind fun ks => if ks.length = P.cellsOf f.type then (shapeFs P r (off + ks.length) fs).map (ks ++ ·) else none else none

def shapeT (P : Program) : Nat → TypeId → Option (List CK2)
  | 0, _ => none
  | n + 1, t =>
    match P.underlying t with
    | some .bool => some [.b]
    | some (.int k) => some [.i k]
    | some (.slice _) => some [.s t]
    | some (.struct fs) => (shapeFs P (shapeT P n) 0 fs.toList).bind fun ks => if ks.length = P.cellsOf t then some ks else none
    | some (.array m e) => (shapeT P n e).bind fun ks => if ks.length = P.cellsOf e ∧ m * ks.length = P.cellsOf t then some (List.replicate m ks).flatten else none
    | _ => none

/-- cells of these kinds -/
def Fits2 (ok : TypeId → Value → Prop) : List CK2 → List Value → Prop
  | [], [] => True
  | .i k :: ks, .int k' n :: vs => k' = k ∧ (Lit.int k n).wf = true ∧ Fits2 ok ks vs
  | .b :: ks, .bool _ :: vs => Fits2 ok ks vs
  | .s u :: ks, v :: vs => ok u v ∧ Fits2 ok ks vs
  | _, _ => False

theorem Fits2.append {ok : TypeId → Value → Prop} {a b : List CK2} {x y : List Value} (h : Fits2 ok a x) (k : Fits2 ok b y) : Fits2 ok (a ++ b) (x ++ y) := by
  induction a generalizing x with
  | nil => cases x <;> simp [Fits2] at h; exact k
  | cons c a ih =>
    cases x with
    | nil => cases c <;> simp [Fits2] at h
    | cons v x =>
      cases c with
      | s u =>
        simp only [Fits2] at h
        simp only [List.cons_append, Fits2]
        exact ⟨h.1, ih h.2⟩
      | i k => cases v <;> simp [Fits2] at h ⊢; exact ⟨h.1, h.2.1, ih h.2.2⟩
      | b => cases v <;> simp [Fits2] at h ⊢; exact ih h
theorem Fits2.len {ok : TypeId → Value → Prop} {ks : List CK2} {vs : List Value} (h : Fits2 ok ks vs) : vs.length = ks.length := by
  induction ks generalizing vs with
  | nil => cases vs <;> simp [Fits2] at h ⊢
  | cons c ks ih =>
    cases vs with
    | nil => cases c <;> simp [Fits2] at h
    | cons v vs =>
      cases c with
      | s u => simp only [Fits2] at h; simp [ih h.2]
      | i k => cases v <;> simp [Fits2] at h ⊢; exact ih h.2.2
      | b => cases v <;> simp [Fits2] at h ⊢; exact ih h
theorem Fits2.mono {ok ok' : TypeId → Value → Prop} : ∀ {ks : List CK2} {vs : List Value}, Fits2 ok ks vs → (∀ (i : Nat) u v, ks[i]? = some (.s u) → vs[i]? = some v → ok u v → ok' u v) → Fits2 ok' ks vs
  | [], [], _, _ => trivial
  | [], _ :: _, h, _ => by simp [Fits2] at h
  | .i _ :: _, [], h, _ | .b :: _, [], h, _ | .s _ :: _, [], h, _ => by simp [Fits2] at h
  | .s u :: ks, v :: vs, h, k => by
    simp only [Fits2] at h ⊢
    exact ⟨k 0 u v rfl rfl h.1, h.2.mono fun i u v h1 h2 => k (i + 1) u v (by simpa using h1) (by simpa using h2)⟩
  | .i _ :: ks, v :: vs, h, k => by
    cases v <;> simp [Fits2] at h ⊢
    exact ⟨h.1, h.2.1, h.2.2.mono fun i u v h1 h2 => k (i + 1) u v (by simpa using h1) (by simpa using h2)⟩
  | .b :: ks, v :: vs, h, k => by
    cases v <;> simp [Fits2] at h ⊢
    exact h.mono fun i u v h1 h2 => k (i + 1) u v (by simpa using h1) (by simpa using h2)
theorem Fits2.int {ok : TypeId → Value → Prop} {k : IntKind} {ks : List CK2} {vs : List Value} (h : Fits2 ok (.i k :: ks) vs) : ∃ n vs', vs = .int k n :: vs' ∧ (Lit.int k n).wf = true ∧ Fits2 ok ks vs' := by
  match vs with
  | [] => simp [Fits2] at h
  | v :: vs =>
    cases v <;> simp [Fits2] at h
    obtain ⟨rfl, h1, h2⟩ := h
    exact ⟨_, _, rfl, h1, h2⟩
theorem Fits2.bool {ok : TypeId → Value → Prop} {ks : List CK2} {vs : List Value} (h : Fits2 ok (.b :: ks) vs) : ∃ b vs', vs = .bool b :: vs' ∧ Fits2 ok ks vs' := by
  match vs with
  | [] => simp [Fits2] at h
  | v :: vs =>
    cases v <;> simp [Fits2] at h
    exact ⟨_, _, rfl, h⟩
theorem Fits2.slice {ok : TypeId → Value → Prop} {u : TypeId} {ks : List CK2} {vs : List Value} (h : Fits2 ok (.s u :: ks) vs) : ∃ v vs', vs = v :: vs' ∧ ok u v ∧ Fits2 ok ks vs' := by
  match vs with
  | [] => simp [Fits2] at h
  | v :: vs => simp only [Fits2] at h; exact ⟨_, _, rfl, h.1, h.2⟩
theorem Fits2.nil {ok : TypeId → Value → Prop} {vs : List Value} (h : Fits2 ok [] vs) : vs = [] := by
  match vs with
  | [] => rfl
  | v :: vs => simp [Fits2] at h

section
variable {H : Type} {enc : TypeId × Value → H} {P : Program} {w : World} {base : Nat} {spare : Nat → Bool} {held : Bool}

theorem shapeFs_trod {ok : TypeId → Value → Prop} {r : TypeId → Option (List CK2)} {rd : TypeId → List Value → Option (DataW H × List MemPlace)} (ih : ∀ t ks cs x, r t = some ks → rd t cs = some x → Fits2 ok ks cs) (cs : List Value) :
    ∀ (fs : List Field) (off : Nat) (ks : List CK2) (xs : List (DataW H × List MemPlace)), shapeFs P r off fs = some ks → fs.mapM (fun f => rd f.type ((cs.drop f.offset).take (P.cellsOf f.type))) = some xs → Fits2 ok ks ((cs.drop off).take ks.length) := by
  intro fs
  induction fs with
  | nil =>
    intro off ks xs h _
    simp [shapeFs] at h
    subst h
    simp [Fits2]
  | cons f fs ihf =>
    intro off ks xs h hm
    unfold shapeFs at h
    split at h
    · rename_i ho
      obtain ⟨k1, hk1, h2⟩ := Option.bind_eq_some_iff.1 h
      split at h2
      · rename_i hl
        obtain ⟨k2, hk2, rfl⟩ := Option.map_eq_some_iff.1 h2
        simp only [List.mapM_cons, Option.bind_eq_bind, Option.bind_eq_some_iff] at hm
        obtain ⟨y, hy, ys, hys, _⟩ := hm
        have h1 := ih _ _ _ _ hk1 hy
        have h3 := ihf _ _ _ hk2 hys
        rw [ho, ← hl] at h1
        have e : (cs.drop off).take (k1 ++ k2).length = (cs.drop off).take k1.length ++ (cs.drop (off + k1.length)).take k2.length := by
          rw [List.length_append, List.take_add, List.drop_drop]
        rw [e]
        exact h1.append h3
      · cases h2
    · cases h

theorem shape_trod : ∀ (n : Nat) (t : TypeId) (ks : List CK2) (fuel : Nat) (cs : List Value) (x : DataW H × List MemPlace), shapeT P n t = some ks → DataW.trod enc P w base spare held fuel t cs = some x → Fits2 (fun u v => ∃ m y, DataW.trod enc P w base spare held m u v.cells.toList = some y) ks cs := by
  intro n
  induction n with
  | zero => intro t ks fuel cs x h; simp [shapeT] at h
  | succ n ih =>
    intro t ks fuel cs x h hx
    unfold shapeT at h
    split at h
    · rename_i ht
      simp at h; subst h
      obtain ⟨b, rfl⟩ := trod_bool ht hx
      simp [Fits2]
    · rename_i k ht
      simp at h; subst h
      obtain ⟨m, rfl, hw⟩ := trod_int' ht hx
      simp [Fits2, hw]
    · rename_i e ht
      simp at h; subst h
      have : ∃ v, cs = [v] ∧ v.cells.toList = [v] := by
        cases fuel with
        | zero => simp [DataW.trod] at hx
        | succ m =>
          unfold DataW.trod at hx
          simp only [ht] at hx
          split at hx
          all_goals (first | (rename_i he; cases he; done) | skip)
          all_goals first | exact ⟨_, rfl, rfl⟩ | (cases hx; done)
      obtain ⟨v, rfl, hv⟩ := this
      simp only [Fits2, and_true]
      exact ⟨fuel, x, by rw [hv]; exact hx⟩
    · rename_i fs ht
      obtain ⟨k1, hk1, h2⟩ := Option.bind_eq_some_iff.1 h
      split at h2
      · rename_i hl
        simp at h2; subst h2
        cases fuel with
        | zero => simp [DataW.trod] at hx
        | succ m =>
          unfold DataW.trod at hx
          simp only [ht] at hx
          split at hx
          · rename_i hcl
            obtain ⟨xs, hxs, _⟩ := Option.map_eq_some_iff.1 hx
            have := shapeFs_trod (rd := DataW.trod enc P w base spare held m) (fun t ks cs x => ih t ks m cs x) cs _ 0 _ _ hk1 hxs
            rw [hl, ← hcl] at this
            simpa using this
          · cases hx
      · cases h2
    · rename_i m e ht
      obtain ⟨k1, hk1, h2⟩ := Option.bind_eq_some_iff.1 h
      split at h2
      · rename_i hl
        obtain ⟨hl1, hl2⟩ := hl
        simp at h2; subst h2
        obtain ⟨xs, q, rfl, _, hcl, hxl, hel⟩ := DataW.trod_array ht hx
        have each : ∀ j, j < m → Fits2 (fun u v => ∃ m y, DataW.trod enc P w base spare held m u v.cells.toList = some y) k1 ((cs.drop (j * k1.length)).take k1.length) := by
          intro j hj
          have h3 := hel j hj
          rw [List.getElem?_eq_getElem (by omega)] at h3
          rw [hl1]
          exact ih _ _ _ _ _ hk1 h3
        have all : ∀ j, j ≤ m → Fits2 (fun u v => ∃ m y, DataW.trod enc P w base spare held m u v.cells.toList = some y) (List.replicate j k1).flatten (cs.take (j * k1.length)) := by
          intro j
          induction j with
          | zero => intro _; simp [Fits2]
          | succ j ihj =>
            intro hj
            have e : cs.take ((j + 1) * k1.length) = cs.take (j * k1.length) ++ (cs.drop (j * k1.length)).take k1.length := by
              rw [Nat.add_mul, Nat.one_mul, List.take_add]
            rw [e, List.replicate_succ', List.flatten_append, List.flatten_singleton]
            exact (ihj (by omega)).append (each j (by omega))
        have := all m (Nat.le_refl _)
        rw [hl2, ← hcl] at this
        simpa using this
      · cases h2
    · cases h

/-- the slices' types are those of the cells -/
def okTs : List CK2 → List TypeId → Bool
  | [], [] => true
  | .s u :: ks, t :: ts => u == t && okTs ks ts
  | _ :: ks, _ :: ts => okTs ks ts
  | _, _ => false
theorem okTs.get : ∀ {ks : List CK2} {ts : List TypeId}, okTs ks ts = true → ks.length = ts.length ∧ ∀ (i : Nat) u, ks[i]? = some (.s u) → ts[i]? = some u
  | [], [], _ => ⟨rfl, by simp⟩
  | [], _ :: _, h => by simp [okTs] at h
  | .i _ :: _, [], h | .b :: _, [], h | .s _ :: _, [], h => by simp [okTs] at h
  | .s v :: ks, t :: ts, h => by
    simp only [okTs, Bool.and_eq_true, beq_iff_eq] at h
    obtain ⟨h1, h2⟩ := okTs.get h.2
    refine ⟨by simp [h1], fun i u hi => ?_⟩
    cases i with
    | zero => simp at hi ⊢; rw [← h.1, hi]
    | succ i => simpa using h2 i u (by simpa using hi)
  | .i _ :: ks, t :: ts, h | .b :: ks, t :: ts, h => by
    simp only [okTs] at h
    obtain ⟨h1, h2⟩ := okTs.get h
    refine ⟨by simp [h1], fun i u hi => ?_⟩
    cases i with
    | zero => simp at hi
    | succ i => simpa using h2 i u (by simpa using hi)

/-- a value made of numbers, bools and slices -/
theorem open_shape {r : Reach} {b0 n : Nat} {fuel : Nat} {t : TypeId} {v : Value} {x : DataW H × List MemPlace} {ks : List CK2} {ts : List TypeId} (hf : shapeT P n t = some ks) (hts : P.cellTypes P.depth t = some ts) (hck : okTs ks ts = true) (hs : (match P.underlying t with | some (.struct _) => true | some (.array _ _) => true | _ => false) = true)
    (hv : Value.okWide P w r b0 t v) (h : DataW.trod enc P w base spare held fuel t v.cells.toList = some x) : ∃ cs : List Value, v = .agg cs.toArray ∧ Fits2 (fun u v => Cell.okWide P w r b0 u v ∧ ∃ m y, DataW.trod enc P w base spare held m u v.cells.toList = some y) ks cs := by
  have : ∃ cs, v = .agg cs ∧ Row.okWide P w r b0 t cs := by
    unfold Value.okWide at hv
    split at hv
    · obtain ⟨cs, rfl, _, h⟩ := hv; exact ⟨cs, rfl, h⟩
    · obtain ⟨cs, rfl, _, h⟩ := hv; exact ⟨cs, rfl, h⟩
    · rename_i h1 h2
      split at hs
      · rename_i fs hfs; exact (h1 fs hfs).elim
      · rename_i n e hfs; exact (h2 n e hfs).elim
      · cases hs
  obtain ⟨cs, rfl, hr⟩ := this
  refine ⟨cs.toList, by simp, ?_⟩
  have hfit : Fits2 (fun u v => ∃ m y, DataW.trod enc P w base spare held m u v.cells.toList = some y) ks cs.toList := shape_trod _ _ _ _ _ _ hf h
  refine hfit.mono fun i u v h1 h2 h3 => ⟨?_, h3⟩
  obtain ⟨ts', hts', -, hcell⟩ := hr
  rw [hts] at hts'
  cases hts'
  obtain ⟨hl, hg⟩ := okTs.get hck
  obtain ⟨u', hu', hok⟩ := hcell i v (by simpa using h2)
  have hi : i < ts.length := by rw [← hl]; exact (List.getElem?_eq_some_iff.1 h1).1
  rw [Nat.mod_eq_of_lt hi, hg i u h1] at hu'
  cases hu'
  exact hok
end
end Go.Proofs.YtdklbnemfelpnaaGreatDoor
