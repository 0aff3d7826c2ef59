/- Open: what arguments read as, in the walks' words. -/
import Derived.Test.YtdakiocgijlgiaaGreatDoorRows
import Derived.Test.YtdakiocgijlgiaaGreatDoorBase
import Derived.ProofKit
import Derived.OpenShut
import Derived.ShutString
import Derived.ChangeOld
namespace Go.Proofs.YtdakiocgijlgiaaGreatDoor
open Go.RowKit Go.ChangeShapes Go.WideShapes Go.ChangeAt

theorem own : ownKnob Tryz.prog.godebug = none := by kernel_rfl
theorem laidOut : laidOutB Tryz.prog = true := by kernel_rfl

section
variable {H : Type} {enc : TypeId × Value → H} {P : Program} {w : World} {base : Nat} {spare : Nat → Bool} {held : Bool}

/-- bytes that came in -/
abbrev BytesIn (w : World) (v : Value) (zs : List Int) : Prop := Cells w v 1 zs.length (zs.map (.int .u8)) ∧ ∀ z ∈ zs, 0 ≤ z ∧ z < 256

end

end Go.Proofs.YtdakiocgijlgiaaGreatDoor
