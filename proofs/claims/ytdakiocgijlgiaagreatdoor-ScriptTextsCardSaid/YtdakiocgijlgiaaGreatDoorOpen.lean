/- Open: what arguments read as, in the walks' words. -/
import Derived.Test.YtdakiocgijlgiaaGreatDoorRows
import Derived.Test.YtdakiocgijlgiaaGreatDoorBase
import Derived.ProofKit
import Derived.OpenShut
import Derived.ShutString
import Derived.ChangeOld
namespace Go.Proofs.YtdakiocgijlgiaaGreatDoor
open Go.RowKit Go.ChangeShapes Go.WideShapes Go.ChangeAt

theorem own : ownKnob Tryz.prog.godebug = none := by kernel_rfl
theorem laidOut : laidOutB Tryz.prog = true := by kernel_rfl

section
variable {H : Type} {enc : TypeId × Value → H} {P : Program} {w : World} {base : Nat} {spare : Nat → Bool} {held : Bool}

theorem trod_bool {fuel : Nat} {t : TypeId} {cs : List Value} {x : DataW H × List MemPlace} (ht : P.underlying t = some .bool) (h : DataW.trod enc P w base spare held fuel t cs = some x) : ∃ b, cs = [.bool b] := by
  cases fuel with
  | zero => simp [DataW.trod] at h
  | succ n =>
    unfold DataW.trod at h
    simp only [ht] at h
    split at h
    all_goals (first | (rename_i he; cases he; done) | skip)
    all_goals first | exact ⟨_, rfl⟩ | (cases h; done)

/-- a slice's value, as what may come in: nil; or it leads to a block that is there -/
theorem slice_ok {r : Reach} {b0 : Nat} {t e : TypeId} {v : Value} (ht : P.underlying t = some (.slice e)) (h : Cell.okWide P w r b0 t v) :
    v = .slice none 0 0 ∨ ∃ b o len cap, v = .slice (some ⟨b, o, none⟩) len cap ∧ len ≤ cap ∧ cap ≤ maxLen ∧ b < w.heap.size := by
  cases v with
  | slice a len cap =>
    cases a with
    | none =>
      left
      cases len <;> cases cap <;> simp [Cell.okWide, Cell.ok, ht] at h ⊢
    | some a =>
      simp only [Cell.okWide, Cell.ok, ht] at h
      obtain ⟨h1, h2, h3, h4, row, cells, h5, h6⟩ := h
      obtain ⟨b, o, s⟩ := a
      simp only at h4 h5
      subst h4
      refine .inr ⟨b, o, len, cap, rfl, h1, by simp [IntKind.max, IntKind.bits, IntKind.signed] at h2; unfold maxLen; omega, ?_⟩
      unfold World.shape? at h5
      split at h5
      · rename_i hb; exact (Array.getElem?_eq_some_iff.1 hb).1
      · cases h5
  | _ => simp [Cell.okWide, Cell.ok, ht] at h

theorem trod_int' {k : IntKind} {fuel : Nat} {t : TypeId} {cs : List Value} {x : DataW H × List MemPlace} (ht : P.underlying t = some (.int k)) (h : DataW.trod enc P w base spare held fuel t cs = some x) : ∃ n, cs = [.int k n] ∧ (Lit.int k n).wf = true := by
  obtain ⟨n, h1, _, h3⟩ := DataW.trod_int ht h
  exact ⟨n, h1, h3⟩

/-- bytes that came in -/
abbrev BytesIn (w : World) (v : Value) (zs : List Int) : Prop := Cells w v 1 zs.length (zs.map (.int .u8)) ∧ ∀ z ∈ zs, 0 ≤ z ∧ z < 256

end

end Go.Proofs.YtdakiocgijlgiaaGreatDoor
