/- Slices of values that are made of numbers, bools and slices, as they come in. -/
import Derived.Test.YtdakiocgijlgiaaGreatDoorShape
import Derived.Test.YtdakiocgijlgiaaGreatDoorLaw
namespace Go.Proofs.YtdakiocgijlgiaaGreatDoor
open Go.RowKit Go.ChangeShapes Go.WideShapes Go.ChangeAt

section
variable {H : Type} {enc : TypeId × Value → H} {P : Program} {w : World} {base : Nat} {spare : Nat → Bool} {held : Bool}

theorem shape_trod1 : ∀ (n : Nat) (t : TypeId) (ks : List CK2) (fuel : Nat) (cs : List Value) (x : DataW H × List MemPlace), shapeT P n t = some ks → DataW.trod enc P w base spare held fuel t cs = some x → Fits2 (fun u v => ∃ m y, DataW.trod enc P w base spare held m u [v] = some y) ks cs := by
  intro n
  induction n with
  | zero => intro t ks fuel cs x h; simp [shapeT] at h
  | succ n ih =>
    intro t ks fuel cs x h hx
    unfold shapeT at h
    split at h
    · rename_i ht
      simp at h; subst h
      obtain ⟨b, rfl⟩ := trod_bool ht hx
      simp [Fits2]
    · rename_i k ht
      simp at h; subst h
      obtain ⟨m, rfl, hw⟩ := trod_int' ht hx
      simp [Fits2, hw]
    · rename_i e ht
      simp at h; subst h
      have : ∃ v, cs = [v] := by
        rcases Go.Deep.open_slice ht hx with ⟨h0, _⟩ | ⟨a, len', cap', m, n', D, Pl, h0, _⟩
        · exact ⟨_, h0⟩
        · exact ⟨_, h0⟩
      obtain ⟨v, rfl⟩ := this
      simp only [Fits2, and_true]
      exact ⟨fuel, x, hx⟩
    · rename_i fs ht
      obtain ⟨k1, hk1, h2⟩ := Option.bind_eq_some_iff.1 h
      split at h2
      · rename_i hl
        simp at h2; subst h2
        cases fuel with
        | zero => simp [DataW.trod] at hx
        | succ m =>
          unfold DataW.trod at hx
          simp only [ht] at hx
          split at hx
          · rename_i hcl
            obtain ⟨xs, hxs, _⟩ := Option.map_eq_some_iff.1 hx
            have := shapeFs_trod (rd := DataW.trod enc P w base spare held m) (fun t ks cs x => ih t ks m cs x) cs _ 0 _ _ hk1 hxs
            rw [hl, ← hcl] at this
            simpa using this
          · cases hx
      · cases h2
    · rename_i m e ht
      obtain ⟨k1, hk1, h2⟩ := Option.bind_eq_some_iff.1 h
      split at h2
      · rename_i hl
        obtain ⟨hl1, hl2⟩ := hl
        simp at h2; subst h2
        obtain ⟨xs, q, rfl, _, hcl, hxl, hel⟩ := DataW.trod_array ht hx
        have each : ∀ j, j < m → Fits2 (fun u v => ∃ m y, DataW.trod enc P w base spare held m u [v] = some y) k1 ((cs.drop (j * k1.length)).take k1.length) := by
          intro j hj
          have h3 := hel j hj
          rw [List.getElem?_eq_getElem (by omega)] at h3
          rw [hl1]
          exact ih _ _ _ _ _ hk1 h3
        have all : ∀ j, j ≤ m → Fits2 (fun u v => ∃ m y, DataW.trod enc P w base spare held m u [v] = some y) (List.replicate j k1).flatten (cs.take (j * k1.length)) := by
          intro j
          induction j with
          | zero => intro _; simp [Fits2]
          | succ j ihj =>
            intro hj
            have e : cs.take ((j + 1) * k1.length) = cs.take (j * k1.length) ++ (cs.drop (j * k1.length)).take k1.length := by
              rw [Nat.add_mul, Nat.one_mul, List.take_add]
            rw [e, List.replicate_succ', List.flatten_append, List.flatten_singleton]
            exact (ihj (by omega)).append (each j (by omega))
        have := all m (Nat.le_refl _)
        rw [hl2, ← hcl] at this
        simpa using this
      · cases h2
    · cases h

/-- a slice of such -/
theorem open_shapes {r : Reach} {b0 n : Nat} {fuel : Nat} {t e : TypeId} {v : Value} {x : DataW H × List MemPlace} {ks : List CK2} (ht : P.underlying t = some (.slice e)) (hf : shapeT P n e = some ks) (hk : ks.length = P.cellsOf e)
    (hv : Cell.okWide P w r b0 t v) (h : DataW.trod enc P w base spare held fuel t v.cells.toList = some x) : ∃ L : List (List Value), Cells w v ks.length L.length L.flatten ∧ ∀ l ∈ L, Fits2 (fun u v => ∃ m y, DataW.trod enc P w base spare held m u [v] = some y) ks l := by
  rcases slice_ok ht hv with rfl | ⟨b, o, len, cap, rfl, hlc, hcm, hbs⟩
  · exact ⟨[], Cells.nil w _, fun z hz => by cases hz⟩
  rcases Go.Deep.open_slice ht h with ⟨h0, _⟩ | ⟨a, len', cap', m, n', D, Pl, h0, hb, hl, _, hmm, hx, hcell⟩
  · simp [Value.cells] at h0
  simp [Value.cells] at h0
  obtain ⟨rfl, rfl, rfl⟩ := h0
  have hlm : len ≤ m := by rw [hmm]; split <;> omega
  obtain ⟨f, hf⟩ := Go.Deep.choose_lt (α := List Value) (n := len) (p := fun i l => Fits2 (fun u v => ∃ m y, DataW.trod enc P w base spare held m u [v] = some y) ks l ∧ ∀ j, j < ks.length → w.cell? ⟨b, o + (i * ks.length + j), none⟩ = l[j]?) (fun i hi => by
    obtain ⟨cs', h1, h2⟩ := hcell i (by omega)
    refine ⟨cs', shape_trod1 _ _ _ _ _ _ hf h2, fun j hj => ?_⟩
    obtain ⟨_, h3, h4⟩ := World.cells?_some h1
    rw [← h4 j (by omega), Go.Deep.add_add, Addr.add_lit, hk])
  have hlen : ∀ k, k ≤ len → ((List.range k).map f).flatten.length = k * ks.length := by
    intro k
    induction k with
    | zero => simp
    | succ k ih =>
      intro hk
      rw [List.range_succ, List.map_append, List.flatten_append, List.length_append, ih (by omega), Nat.add_mul]
      simp [(hf k (by omega)).1.len]
  have hget : ∀ k, k ≤ len → ∀ i, i < k * ks.length → w.cell? ⟨b, o + i, none⟩ = ((List.range k).map f).flatten[i]? := by
    intro k
    induction k with
    | zero => intro _ i hi; simp at hi
    | succ k ih =>
      intro hk i hi
      rw [List.range_succ, List.map_append, List.flatten_append]
      have hlk := hlen k (by omega)
      by_cases hik : i < k * ks.length
      · rw [List.getElem?_append_left (by omega), ih (by omega) i hik]
      · rw [List.getElem?_append_right (by omega), hlk]
        rw [Nat.add_mul, Nat.one_mul] at hi
        have := (hf k (by omega)).2 (i - k * ks.length) (by omega)
        rw [show k * ks.length + (i - k * ks.length) = i by omega] at this
        rw [this]
        simp
  refine ⟨(List.range len).map f, ⟨by rw [hlen len (Nat.le_refl _)]; simp, some ⟨b, o, none⟩, cap, by simp, by simpa using hlc, hcm, .inr ⟨b, o, rfl, hbs, fun i u hu => ?_⟩⟩, fun l hl => ?_⟩
  · have hi : i < len * ks.length := by
      have := (List.getElem?_eq_some_iff.1 hu).1
      rwa [hlen len (Nat.le_refl _)] at this
    rw [hget len (Nat.le_refl _) i hi, hu]
  · obtain ⟨i, hi, rfl⟩ := List.mem_map.1 hl
    exact (hf i (by simpa using hi)).1

theorem lt_of_cell {W : World} {b o : Nat} {u : Value} (h : W.cell? ⟨b, o, none⟩ = some u) : b < W.heap.size := by
  rcases Nat.lt_or_ge b W.heap.size with h6 | h6
  · exact h6
  · unfold World.cell? at h
    rw [Array.getElem?_eq_none h6] at h
    cases h

/-- a slice of numbers in a cell -/
theorem open_nest {k : IntKind} {fuel : Nat} {t e : TypeId} {v : Value} {x : DataW H × List MemPlace} (ht : P.underlying t = some (.slice e)) (he : P.underlying e = some (.int k)) (hc : P.cellsOf e = 1) (hsp : ∀ b, spare b = true)
    (h : DataW.trod enc P w base spare held fuel t [v] = some x) : ∃ zs : List Int, Am.Nest w v (zs.map (.int k)) ∧ ∀ z ∈ zs, (Lit.int k z).wf = true := by
  rcases Go.Deep.open_slice1 ht hc h with ⟨h0, _⟩ | ⟨a, len, cap, m, n, V, D, Pl, h0, hb, hl, hcm, hmm, hx, hcell⟩
  · cases h0
    exact ⟨[], ⟨none, 0, rfl, Nat.le_refl _, Nat.zero_le _, .inl ⟨rfl, rfl⟩⟩, fun z hz => by cases hz⟩
  cases h0
  rw [hsp, if_pos rfl] at hmm
  subst hmm
  obtain ⟨f, hf⟩ := Go.Deep.choose_lt (α := Int) (n := m) (p := fun i z => w.cell? (a.add i) = some (.int k z) ∧ (Lit.int k z).wf = true) (fun i hi => by
    obtain ⟨h1, h2⟩ := hcell i hi
    obtain ⟨z, hz, hwz⟩ := trod_int' he h2
    simp at hz
    exact ⟨z, by rw [← hz, ← h1], hwz⟩)
  refine ⟨(List.range len).map f, ⟨some a, m, by simp, by simpa using hl, hcm, ?_⟩, fun z hz => ?_⟩
  · by_cases hm : m = 0
    · have : len = 0 := by omega
      exact .inl ⟨hm, by simp [this]⟩
    · right
      have h0 := (hf 0 (by omega)).1
      obtain ⟨b, o, s⟩ := a
      have hs : s = none := by
        cases s with
        | none => rfl
        | some s =>
          exfalso
          unfold World.cell? at h0
          split at h0
          · simp [Addr.add] at h0
          · cases h0
      subst hs
      rw [Addr.add_lit] at h0
      refine ⟨b, o, rfl, lt_of_cell h0, fun i u hu => ?_⟩
      simp only [List.map_map, List.getElem?_map] at hu
      by_cases hi : i < len
      · rw [List.getElem?_range hi] at hu
        simp at hu
        rw [← Addr.add_lit, (hf i (by omega)).1, hu]
      · rw [List.getElem?_eq_none (by simpa using hi)] at hu
        cases hu
  · obtain ⟨i, hi, rfl⟩ := List.mem_map.1 hz
    have : i < len := by simpa using hi
    exact (hf i (by omega)).2
end
end Go.Proofs.YtdakiocgijlgiaaGreatDoor
