/- Open: what arguments read as, in the walks' words. -/
import Derived.Test.YtmpjlkclkhnpfaaGreatDoorRows
import Derived.Test.YtmpjlkclkhnpfaaGreatDoorBase
import Derived.ProofKit
import Derived.OpenShut
import Derived.ShutString
import Derived.ChangeOld
namespace Go.Proofs.YtmpjlkclkhnpfaaGreatDoor
open Go.RowKit Go.ChangeShapes Go.WideShapes Go.ChangeAt

theorem own : ownKnob Tryz.prog.godebug = none := by kernel_rfl
theorem laidOut : laidOutB Tryz.prog = true := by kernel_rfl

section
variable {H : Type} {enc : TypeId × Value → H} {P : Program} {w : World} {base : Nat} {spare : Nat → Bool} {held : Bool}

theorem trod_bool {fuel : Nat} {t : TypeId} {cs : List Value} {x : DataW H × List MemPlace} (ht : P.underlying t = some .bool) (h : DataW.trod enc P w base spare held fuel t cs = some x) : ∃ b, cs = [.bool b] := by
  cases fuel with
  | zero => simp [DataW.trod] at h
  | succ n =>
    unfold DataW.trod at h
    simp only [ht] at h
    split at h
    all_goals (first | (rename_i he; cases he; done) | skip)
    all_goals first | exact ⟨_, rfl⟩ | (cases h; done)

/-- a slice's value, as what may come in: nil; or it leads to a block that is there -/
theorem slice_ok {r : Reach} {b0 : Nat} {t e : TypeId} {v : Value} (ht : P.underlying t = some (.slice e)) (h : Cell.okWide P w r b0 t v) :
    v = .slice none 0 0 ∨ ∃ b o len cap, v = .slice (some ⟨b, o, none⟩) len cap ∧ len ≤ cap ∧ cap ≤ maxLen ∧ b < w.heap.size := by
  cases v with
  | slice a len cap =>
    cases a with
    | none =>
      left
      cases len <;> cases cap <;> simp [Cell.okWide, Cell.ok, ht] at h ⊢
    | some a =>
      simp only [Cell.okWide, Cell.ok, ht] at h
      obtain ⟨h1, h2, h3, h4, row, cells, h5, h6⟩ := h
      obtain ⟨b, o, s⟩ := a
      simp only at h4 h5
      subst h4
      refine .inr ⟨b, o, len, cap, rfl, h1, by simp [IntKind.max, IntKind.bits, IntKind.signed] at h2; unfold maxLen; omega, ?_⟩
      unfold World.shape? at h5
      split at h5
      · rename_i hb; exact (Array.getElem?_eq_some_iff.1 hb).1
      · cases h5
  | _ => simp [Cell.okWide, Cell.ok, ht] at h

/-- a slice of bools -/
theorem open_bools {r : Reach} {b0 : Nat} {fuel : Nat} {t e : TypeId} {v : Value} {x : DataW H × List MemPlace} (ht : P.underlying t = some (.slice e)) (he : P.underlying e = some .bool) (hc : P.cellsOf e = 1)
    (hv : Cell.okWide P w r b0 t v) (h : DataW.trod enc P w base spare held fuel t v.cells.toList = some x) : ∃ cs : List Bool, Bools w v cs := by
  rcases slice_ok ht hv with rfl | ⟨b, o, len, cap, rfl, hlc, hcm, hbs⟩
  · exact ⟨[], Cells.nil w 1⟩
  rcases Go.Deep.open_slice1 ht hc h with ⟨h0, _⟩ | ⟨a, len', cap', m, n, V, D, Pl, h0, hb, hl, _, hmm, hx, hcell⟩
  · simp [Value.cells] at h0
  simp [Value.cells] at h0
  obtain ⟨rfl, rfl, rfl⟩ := h0
  have hlm : len ≤ m := by rw [hmm]; split <;> omega
  obtain ⟨f, hf⟩ := Go.Deep.choose_lt (α := Bool) (n := len) (p := fun i b' => w.cell? ⟨b, o + i, none⟩ = some (.bool b')) (fun i hi => by
    obtain ⟨h1, h2⟩ := hcell i (by omega)
    obtain ⟨b', hb'⟩ := trod_bool he h2
    simp at hb'
    exact ⟨b', by rw [← hb', ← h1, Addr.add_lit]⟩)
  refine ⟨(List.range len).map f, by simp, some ⟨b, o, none⟩, cap, by simp, by simpa using hlc, hcm, .inr ⟨b, o, rfl, hbs, fun i u hu => ?_⟩⟩
  simp only [List.map_map, List.getElem?_map] at hu
  by_cases hi : i < len
  · rw [List.getElem?_range hi] at hu
    simp at hu
    rw [hf i hi, hu]
  · rw [List.getElem?_eq_none (by simpa using hi)] at hu
    cases hu

theorem trod_int' {k : IntKind} {fuel : Nat} {t : TypeId} {cs : List Value} {x : DataW H × List MemPlace} (ht : P.underlying t = some (.int k)) (h : DataW.trod enc P w base spare held fuel t cs = some x) : ∃ n, cs = [.int k n] ∧ (Lit.int k n).wf = true := by
  obtain ⟨n, h1, _, h3⟩ := DataW.trod_int ht h
  exact ⟨n, h1, h3⟩

/-- a slice of numbers -/
theorem open_nums {k : IntKind} {r : Reach} {b0 : Nat} {fuel : Nat} {t e : TypeId} {v : Value} {x : DataW H × List MemPlace} (ht : P.underlying t = some (.slice e)) (he : P.underlying e = some (.int k)) (hc : P.cellsOf e = 1)
    (hv : Cell.okWide P w r b0 t v) (h : DataW.trod enc P w base spare held fuel t v.cells.toList = some x) : ∃ zs : List Int, Cells w v 1 zs.length (zs.map (.int k)) ∧ ∀ z ∈ zs, (Lit.int k z).wf = true := by
  rcases slice_ok ht hv with rfl | ⟨b, o, len, cap, rfl, hlc, hcm, hbs⟩
  · exact ⟨[], Cells.nil w 1, fun z hz => by cases hz⟩
  rcases Go.Deep.open_slice1 ht hc h with ⟨h0, _⟩ | ⟨a, len', cap', m, n, V, D, Pl, h0, hb, hl, _, hmm, hx, hcell⟩
  · simp [Value.cells] at h0
  simp [Value.cells] at h0
  obtain ⟨rfl, rfl, rfl⟩ := h0
  have hlm : len ≤ m := by rw [hmm]; split <;> omega
  obtain ⟨f, hf⟩ := Go.Deep.choose_lt (α := Int) (n := len) (p := fun i z => w.cell? ⟨b, o + i, none⟩ = some (.int k z) ∧ (Lit.int k z).wf = true) (fun i hi => by
    obtain ⟨h1, h2⟩ := hcell i (by omega)
    obtain ⟨z, hz, hwz⟩ := trod_int' he h2
    simp at hz
    exact ⟨z, by rw [← hz, ← h1, Addr.add_lit], hwz⟩)
  refine ⟨(List.range len).map f, ⟨by simp, some ⟨b, o, none⟩, cap, by simp, by simpa using hlc, hcm, .inr ⟨b, o, rfl, hbs, fun i u hu => ?_⟩⟩, fun z hz => ?_⟩
  · simp only [List.map_map, List.getElem?_map] at hu
    by_cases hi : i < len
    · rw [List.getElem?_range hi] at hu
      simp at hu
      rw [(hf i hi).1, hu]
    · rw [List.getElem?_eq_none (by simpa using hi)] at hu
      cases hu
  · obtain ⟨i, hi, rfl⟩ := List.mem_map.1 hz
    exact (hf i (by simpa using hi)).2

/-- bytes that came in -/
abbrev BytesIn (w : World) (v : Value) (zs : List Int) : Prop := Cells w v 1 zs.length (zs.map (.int .u8)) ∧ ∀ z ∈ zs, 0 ≤ z ∧ z < 256

theorem open_bytes {r : Reach} {b0 : Nat} {fuel : Nat} {t e : TypeId} {v : Value} {x : DataW H × List MemPlace} (ht : P.underlying t = some (.slice e)) (he : P.underlying e = some (.int .u8)) (hc : P.cellsOf e = 1)
    (hv : Cell.okWide P w r b0 t v) (h : DataW.trod enc P w base spare held fuel t v.cells.toList = some x) : ∃ zs : List Int, BytesIn w v zs := by
  obtain ⟨zs, h1, h2⟩ := open_nums ht he hc hv h
  refine ⟨zs, h1, fun z hz => ?_⟩
  have := h2 z hz
  simp [Lit.wf, IntKind.min, IntKind.max, IntKind.bits, IntKind.signed] at this
  omega
end

end Go.Proofs.YtmpjlkclkhnpfaaGreatDoor
