import Derived.Test.YtakjegcjeffmgaaAmTri
import Derived.Test.YtakjegcjeffmgaaBase
namespace Go.Proofs.Ytakjegcjeffmgaa.Am
open Go.RowKit

theorem fnOf_enter {P : Program} {f : FuncId} {c : C} {rs : List RV} {nt : Nat} (hf : fnOf P f = some (c, rs, nt, false)) (vs : Array Value) (w : World) : (callFunc f vs).run P w = .ok (.enter f vs) w := by
  unfold fnOf at hf
  split at hf
  · rename_i fn hfn
    split at hf
    · rename_i b hb
      simp only [Option.some.injEq, Prod.mk.injEq] at hf
      obtain ⟨h1, h2, h3, h4⟩ := hf
      have h1 : ¬ fn.name = "runtime.NumGoroutine" := by simpa using h4
      simp [callFunc, hfn, h1, hb]
    · cases hf
  · cases hf

/-- the world that a law finds: nothing has a name, what is there stays -/
abbrev memW (W : World) : Mem := ⟨fun _ => none, fun b => b < W.heap.size, W⟩

theorem law_walk {P : Program} {f : FuncId} {args : List V} {c : C} {rs : List RV} {nt : Nat} (hf : fnOf P f = some (c, rs, nt, false)) (E : Eqn P f args [] (.d (.bool true)) []) {W : World} {vs : List Value} (h : V.reps (memW W) args vs) :
    Calls P f vs.toArray W (fun e W' => e = .returned (.bool true) ∧ Same W W') := by
  rcases E.run (memW W) vs ⟨fun b h => h, fun n b h => by cases h⟩ h (by simp) (fun n i b h => by simp at h) (fun _ _ => rfl) with ⟨v, h1, _⟩ | ⟨_, h2⟩
  · rw [fnOf_enter hf] at h1; cases h1
  · refine h2.mono ?_
    rintro e w' ⟨v, m', rfl, rfl, hE⟩
    have hv := hE.rep
    rw [V.rep_d] at hv
    unfold D.rep at hv
    subst hv
    exact ⟨rfl, hE.le.os, hE.le.tape, hE.le.output, hE.le.size, fun k hk _ => hE.le.imm k hk⟩

theorem reps_of {I : Nat → Prop} {w : World} {α : Type} (f : α → D) (g : α → Value) (h : ∀ a, D.rep I w (f a) (g a)) : ∀ l : List α, D.reps I w (l.map f) (l.map g)
  | [] => by simp
  | a :: l => by
    rw [List.map_cons, List.map_cons, D.reps_cons]
    exact ⟨h a, reps_of f g h l⟩

/-- a slice that came in, of cells that are data -/
theorem rep_cells {W : World} {v : Value} {α : Type} {l : List α} (f : α → D) (g : α → Value) (hg : ∀ a, (g a).oneCell' = true) (hr : ∀ a, D.rep (fun b => b < W.heap.size) W (f a) (g a)) (h : Cells W v 1 l.length (l.map g)) : V.rep (memW W) (.d (.sl l.length (l.map f))) v := by
  rw [V.rep_d]
  unfold D.rep
  obtain ⟨h1, p, cap, rfl, h2, h3, h4⟩ := h
  refine ⟨p, cap, rfl, h2, h3, l.map g, fun u hu => ?_, reps_of f g hr l, ?_⟩
  · obtain ⟨a, -, rfl⟩ := List.mem_map.1 hu
    exact hg a
  · rcases h4 with ⟨rfl, h5, h6⟩ | ⟨b, o, rfl, hb, hc⟩
    · left
      exact ⟨rfl, h6, by rw [List.eq_nil_of_length_eq_zero h5]; rfl⟩
    · exact .inr ⟨b, o, rfl, .inr hb, hc⟩

/-- bools that came in -/
theorem rep_bools {W : World} {v : Value} {cs : List Bool} (h : Bools W v cs) : V.rep (memW W) (.d (.sl cs.length (cs.map .bool))) v :=
  rep_cells D.bool Value.bool (fun _ => rfl) (fun _ => by unfold D.rep; rfl) h
theorem bools_len {W : World} {v : Value} {cs : List Bool} (h : Bools W v cs) : cs.length ≤ maxLen := h.len

/-- numbers and bools that came in -/
theorem rep_agg {W : World} {l : List D} {vs : List Value} (h1 : ∀ u ∈ vs, u.oneCell' = true) (h : D.reps (fun b => b < W.heap.size) W l vs) : V.rep (memW W) (.d (.agg l)) (.agg vs.toArray) := by
  rw [V.rep_d]
  unfold D.rep
  exact ⟨vs, rfl, h1, h⟩
end Go.Proofs.Ytakjegcjeffmgaa.Am
