/-
  No cell of these rows narrows 'for every input' (looked for: loops, veiled, ifaces, maps, wideKeys, modest, calm, conditions, laid).
  DERIVED. THE GIVEN ROWS OF THIS SEAT. 8 by the template 'for every input the law returns true; each argument reads behind the call as it read before'; 0 by the template 'total and deterministic' (their statements: YtfcamaiehepinaaTotals.lean).
  GIVEN WITH THE SEED: the statements are not yours to turn. If you find one false, say at which input.
  Laid BY PROGRAM, IN A SANDBOX (cutbox-rows.mjs): the forced cells as the released guide's own fill.sh prints them over the translation f11b28191bf1bec6… (all of the seat's roots in one cut). By AI agents, Wed Nov 11 2026. No macro, syntax, notation, axiom, sorry.
-/
import Derived.Test.YtfcamaiehepinaaChecked
import GoSem.Claim
import GoSem.ClaimJoined
import GoSem.ClaimMapViews
import Derived.JoinedTies
import Derived.KernelRfl
namespace Go.Proofs.Ytfcamaiehepinaa
/- THE CELL 'sum', in the pinned program and in every row, IS THE sha256 OF THE DUMP (.gsa) THAT YtfcamaiehepinaaProg.lean LOADS. Nothing in Lean hashes anything: it is a label: what it is worth is what the hold of that sum in a sandbox is worth. -/
noncomputable def Try.pinned : Pinned := { name := "ytfcamaiehepinaa", sum := "f11b28191bf1bec6e95d7b53605d45d3a845c68f2fba306fa049c453037cd6ed", checked := Try.checked }
namespace Rows
def none {H : Type} : Left H := { results := [], args := [] }

/-- 'tallymarklaw09.TapeLonger': WHATEVER THE INPUT: true; the input reads as it did. -/
def tapeLongerSpec : ChangeSpec := { name := "tapeLonger", fn := fun _ => fun
  | [d1, d2, d3] => { results := [.lit (.bool true)], args := [d1, d2, d3] }
  | _ => none }
def tapeLongerRow : OpenClaim := { program := "ytfcamaiehepinaa", sum := "f11b28191bf1bec6e95d7b53605d45d3a845c68f2fba306fa049c453037cd6ed", func := "tallymark/tallymarklaw09.TapeLonger", spec := "tapeLonger", apart := false }
def TapeLongerSaid : Prop := tapeLongerRow.holds Try.pinned (OpenSpec.ofChange tapeLongerSpec)

/-- ITS FALSE NEIGHBOUR: 'it returns false'. Refute it at one input. -/
def tapeLongerWrong : ChangeSpec := { name := "tapeLonger", fn := fun _ => fun
  | [d1, d2, d3] => { results := [.lit (.bool false)], args := [d1, d2, d3] }
  | _ => none }
def TapeLongerWrongFalsely : Prop := tapeLongerRow.holds Try.pinned (OpenSpec.ofChange tapeLongerWrong)

/-- 'tallymarklaw09.TapeBacks': WHATEVER THE INPUT: true; the input reads as it did. -/
def tapeBacksSpec : ChangeSpec := { name := "tapeBacks", fn := fun _ => fun
  | [d1, d2, d3] => { results := [.lit (.bool true)], args := [d1, d2, d3] }
  | _ => none }
def tapeBacksRow : OpenClaim := { program := "ytfcamaiehepinaa", sum := "f11b28191bf1bec6e95d7b53605d45d3a845c68f2fba306fa049c453037cd6ed", func := "tallymark/tallymarklaw09.TapeBacks", spec := "tapeBacks", apart := false }
def TapeBacksSaid : Prop := tapeBacksRow.holds Try.pinned (OpenSpec.ofChange tapeBacksSpec)

/-- ITS FALSE NEIGHBOUR: 'it returns false'. Refute it at one input. -/
def tapeBacksWrong : ChangeSpec := { name := "tapeBacks", fn := fun _ => fun
  | [d1, d2, d3] => { results := [.lit (.bool false)], args := [d1, d2, d3] }
  | _ => none }
def TapeBacksWrongFalsely : Prop := tapeBacksRow.holds Try.pinned (OpenSpec.ofChange tapeBacksWrong)

/-- 'tallymarklaw09.TapePlays': WHATEVER THE INPUT: true; the input reads as it did. -/
def tapePlaysSpec : ChangeSpec := { name := "tapePlays", fn := fun _ => fun
  | [d1, d2] => { results := [.lit (.bool true)], args := [d1, d2] }
  | _ => none }
def tapePlaysRow : OpenClaim := { program := "ytfcamaiehepinaa", sum := "f11b28191bf1bec6e95d7b53605d45d3a845c68f2fba306fa049c453037cd6ed", func := "tallymark/tallymarklaw09.TapePlays", spec := "tapePlays", apart := false }
def TapePlaysSaid : Prop := tapePlaysRow.holds Try.pinned (OpenSpec.ofChange tapePlaysSpec)

/-- ITS FALSE NEIGHBOUR: 'it returns false'. Refute it at one input. -/
def tapePlaysWrong : ChangeSpec := { name := "tapePlays", fn := fun _ => fun
  | [d1, d2] => { results := [.lit (.bool false)], args := [d1, d2] }
  | _ => none }
def TapePlaysWrongFalsely : Prop := tapePlaysRow.holds Try.pinned (OpenSpec.ofChange tapePlaysWrong)

/-- 'tallymarklaw09.TapeBytes': WHATEVER THE INPUT: true; the input reads as it did. -/
def tapeBytesSpec : ChangeSpec := { name := "tapeBytes", fn := fun _ => fun
  | [d1, d2] => { results := [.lit (.bool true)], args := [d1, d2] }
  | _ => none }
def tapeBytesRow : OpenClaim := { program := "ytfcamaiehepinaa", sum := "f11b28191bf1bec6e95d7b53605d45d3a845c68f2fba306fa049c453037cd6ed", func := "tallymark/tallymarklaw09.TapeBytes", spec := "tapeBytes", apart := false }
def TapeBytesSaid : Prop := tapeBytesRow.holds Try.pinned (OpenSpec.ofChange tapeBytesSpec)

/-- ITS FALSE NEIGHBOUR: 'it returns false'. Refute it at one input. -/
def tapeBytesWrong : ChangeSpec := { name := "tapeBytes", fn := fun _ => fun
  | [d1, d2] => { results := [.lit (.bool false)], args := [d1, d2] }
  | _ => none }
def TapeBytesWrongFalsely : Prop := tapeBytesRow.holds Try.pinned (OpenSpec.ofChange tapeBytesWrong)

/-- 'tallymarklaw16.ThinAdds': WHATEVER THE INPUT: true; the input reads as it did. -/
def thinAddsSpec : ChangeSpec := { name := "thinAdds", fn := fun _ => fun
  | [d1, d2, d3] => { results := [.lit (.bool true)], args := [d1, d2, d3] }
  | _ => none }
def thinAddsRow : OpenClaim := { program := "ytfcamaiehepinaa", sum := "f11b28191bf1bec6e95d7b53605d45d3a845c68f2fba306fa049c453037cd6ed", func := "tallymark/tallymarklaw16.ThinAdds", spec := "thinAdds", apart := false }
def ThinAddsSaid : Prop := thinAddsRow.holds Try.pinned (OpenSpec.ofChange thinAddsSpec)

/-- ITS FALSE NEIGHBOUR: 'it returns false'. Refute it at one input. -/
def thinAddsWrong : ChangeSpec := { name := "thinAdds", fn := fun _ => fun
  | [d1, d2, d3] => { results := [.lit (.bool false)], args := [d1, d2, d3] }
  | _ => none }
def ThinAddsWrongFalsely : Prop := thinAddsRow.holds Try.pinned (OpenSpec.ofChange thinAddsWrong)

/-- 'tallymarklaw16.ThinSplits': WHATEVER THE INPUT: true; the input reads as it did. -/
def thinSplitsSpec : ChangeSpec := { name := "thinSplits", fn := fun _ => fun
  | [d1, d2, d3] => { results := [.lit (.bool true)], args := [d1, d2, d3] }
  | _ => none }
def thinSplitsRow : OpenClaim := { program := "ytfcamaiehepinaa", sum := "f11b28191bf1bec6e95d7b53605d45d3a845c68f2fba306fa049c453037cd6ed", func := "tallymark/tallymarklaw16.ThinSplits", spec := "thinSplits", apart := false }
def ThinSplitsSaid : Prop := thinSplitsRow.holds Try.pinned (OpenSpec.ofChange thinSplitsSpec)

/-- ITS FALSE NEIGHBOUR: 'it returns false'. Refute it at one input. -/
def thinSplitsWrong : ChangeSpec := { name := "thinSplits", fn := fun _ => fun
  | [d1, d2, d3] => { results := [.lit (.bool false)], args := [d1, d2, d3] }
  | _ => none }
def ThinSplitsWrongFalsely : Prop := thinSplitsRow.holds Try.pinned (OpenSpec.ofChange thinSplitsWrong)

/-- 'tallymarklaw16.ThinMerges': WHATEVER THE INPUT: true; the input reads as it did. -/
def thinMergesSpec : ChangeSpec := { name := "thinMerges", fn := fun _ => fun
  | [d1, d2, d3] => { results := [.lit (.bool true)], args := [d1, d2, d3] }
  | _ => none }
def thinMergesRow : OpenClaim := { program := "ytfcamaiehepinaa", sum := "f11b28191bf1bec6e95d7b53605d45d3a845c68f2fba306fa049c453037cd6ed", func := "tallymark/tallymarklaw16.ThinMerges", spec := "thinMerges", apart := false }
def ThinMergesSaid : Prop := thinMergesRow.holds Try.pinned (OpenSpec.ofChange thinMergesSpec)

/-- ITS FALSE NEIGHBOUR: 'it returns false'. Refute it at one input. -/
def thinMergesWrong : ChangeSpec := { name := "thinMerges", fn := fun _ => fun
  | [d1, d2, d3] => { results := [.lit (.bool false)], args := [d1, d2, d3] }
  | _ => none }
def ThinMergesWrongFalsely : Prop := thinMergesRow.holds Try.pinned (OpenSpec.ofChange thinMergesWrong)

/-- 'tallymarklaw16.ThinMeans': WHATEVER THE INPUT: true; the input reads as it did. -/
def thinMeansSpec : ChangeSpec := { name := "thinMeans", fn := fun _ => fun
  | [d1, d2, d3] => { results := [.lit (.bool true)], args := [d1, d2, d3] }
  | _ => none }
def thinMeansRow : OpenClaim := { program := "ytfcamaiehepinaa", sum := "f11b28191bf1bec6e95d7b53605d45d3a845c68f2fba306fa049c453037cd6ed", func := "tallymark/tallymarklaw16.ThinMeans", spec := "thinMeans", unfollowed := true, recurses := true, apart := false }
def ThinMeansSaid : Prop := thinMeansRow.holds Try.pinned (OpenSpec.ofChange thinMeansSpec)

/-- ITS FALSE NEIGHBOUR: 'it returns false'. Refute it at one input. -/
def thinMeansWrong : ChangeSpec := { name := "thinMeans", fn := fun _ => fun
  | [d1, d2, d3] => { results := [.lit (.bool false)], args := [d1, d2, d3] }
  | _ => none }
def ThinMeansWrongFalsely : Prop := thinMeansRow.holds Try.pinned (OpenSpec.ofChange thinMeansWrong)

/- THE SECOND FORM. 'bulk': how many values and letters a reading holds, each counted each time it is reached (what is shared counts as often as it is met; a slice's spare places count too). A statement '..UptoSaid' is the law's where the arguments, and the package variables that the reading takes, are together of bulk at most 1048576: NARROWER than '..Said'. Prove '..Said' where nothing that the law and all that it calls make is longer than what came in: it says more and counts as full. Else prove '..UptoSaid'. A law counts once. -/
mutual
def uptoBulk {H : Type} : DataW H → Nat
  | .lit (.string bytes) => bytes.length + 1
  | .lit _ => 1
  | .nil => 1
  | .ptr d => uptoBulk d + 1
  | .slice elems spare => uptoBulkAll elems + uptoBulkAll spare + 1
  | .agg parts => uptoBulkAll parts + 1
  | .iface _ d => uptoBulk d + 1
  | .map entries => uptoBulkEntries entries + 1
  | .held _ => 1
def uptoBulkAll {H : Type} : List (DataW H) → Nat
  | [] => 0
  | d :: r => uptoBulk d + uptoBulkAll r
def uptoBulkEntries {H : Type} : List (Lit × DataW H) → Nat
  | [] => 0
  | x :: r => uptoBulkEntry x + uptoBulkEntries r
def uptoBulkEntry {H : Type} : Lit × DataW H → Nat
  | (.string bytes, d) => bytes.length + uptoBulk d + 1
  | (_, d) => uptoBulk d + 1
 end
def uptoSmall : (H : Type) → List (DataW H) → Bool := fun _ ds => decide (uptoBulkAll ds ≤ 1048576)
def OpenSpec.upto (s : _root_.Go.ChangeSpec) : _root_.Go.OpenSpec := { _root_.Go.OpenSpec.ofChange s with cond := some uptoSmall }

/-- 'tallymarklaw09.TapeLonger', WHERE WHAT IT READS IS OF BULK AT MOST 1048576: true; the input reads as it did. -/
def tapeLongerUptoRow : OpenClaim := { program := "ytfcamaiehepinaa", sum := "f11b28191bf1bec6e95d7b53605d45d3a845c68f2fba306fa049c453037cd6ed", func := "tallymark/tallymarklaw09.TapeLonger", spec := "tapeLonger", apart := false, narrowed := true }
def TapeLongerUptoSaid : Prop := tapeLongerUptoRow.holds Try.pinned (OpenSpec.upto tapeLongerSpec)

/-- 'tallymarklaw09.TapeBacks', WHERE WHAT IT READS IS OF BULK AT MOST 1048576: true; the input reads as it did. -/
def tapeBacksUptoRow : OpenClaim := { program := "ytfcamaiehepinaa", sum := "f11b28191bf1bec6e95d7b53605d45d3a845c68f2fba306fa049c453037cd6ed", func := "tallymark/tallymarklaw09.TapeBacks", spec := "tapeBacks", apart := false, narrowed := true }
def TapeBacksUptoSaid : Prop := tapeBacksUptoRow.holds Try.pinned (OpenSpec.upto tapeBacksSpec)

/-- 'tallymarklaw09.TapePlays', WHERE WHAT IT READS IS OF BULK AT MOST 1048576: true; the input reads as it did. -/
def tapePlaysUptoRow : OpenClaim := { program := "ytfcamaiehepinaa", sum := "f11b28191bf1bec6e95d7b53605d45d3a845c68f2fba306fa049c453037cd6ed", func := "tallymark/tallymarklaw09.TapePlays", spec := "tapePlays", apart := false, narrowed := true }
def TapePlaysUptoSaid : Prop := tapePlaysUptoRow.holds Try.pinned (OpenSpec.upto tapePlaysSpec)

/-- 'tallymarklaw09.TapeBytes', WHERE WHAT IT READS IS OF BULK AT MOST 1048576: true; the input reads as it did. -/
def tapeBytesUptoRow : OpenClaim := { program := "ytfcamaiehepinaa", sum := "f11b28191bf1bec6e95d7b53605d45d3a845c68f2fba306fa049c453037cd6ed", func := "tallymark/tallymarklaw09.TapeBytes", spec := "tapeBytes", apart := false, narrowed := true }
def TapeBytesUptoSaid : Prop := tapeBytesUptoRow.holds Try.pinned (OpenSpec.upto tapeBytesSpec)

/-- 'tallymarklaw16.ThinAdds', WHERE WHAT IT READS IS OF BULK AT MOST 1048576: true; the input reads as it did. -/
def thinAddsUptoRow : OpenClaim := { program := "ytfcamaiehepinaa", sum := "f11b28191bf1bec6e95d7b53605d45d3a845c68f2fba306fa049c453037cd6ed", func := "tallymark/tallymarklaw16.ThinAdds", spec := "thinAdds", apart := false, narrowed := true }
def ThinAddsUptoSaid : Prop := thinAddsUptoRow.holds Try.pinned (OpenSpec.upto thinAddsSpec)

/-- 'tallymarklaw16.ThinSplits', WHERE WHAT IT READS IS OF BULK AT MOST 1048576: true; the input reads as it did. -/
def thinSplitsUptoRow : OpenClaim := { program := "ytfcamaiehepinaa", sum := "f11b28191bf1bec6e95d7b53605d45d3a845c68f2fba306fa049c453037cd6ed", func := "tallymark/tallymarklaw16.ThinSplits", spec := "thinSplits", apart := false, narrowed := true }
def ThinSplitsUptoSaid : Prop := thinSplitsUptoRow.holds Try.pinned (OpenSpec.upto thinSplitsSpec)

/-- 'tallymarklaw16.ThinMerges', WHERE WHAT IT READS IS OF BULK AT MOST 1048576: true; the input reads as it did. -/
def thinMergesUptoRow : OpenClaim := { program := "ytfcamaiehepinaa", sum := "f11b28191bf1bec6e95d7b53605d45d3a845c68f2fba306fa049c453037cd6ed", func := "tallymark/tallymarklaw16.ThinMerges", spec := "thinMerges", apart := false, narrowed := true }
def ThinMergesUptoSaid : Prop := thinMergesUptoRow.holds Try.pinned (OpenSpec.upto thinMergesSpec)

/-- 'tallymarklaw16.ThinMeans', WHERE WHAT IT READS IS OF BULK AT MOST 1048576: true; the input reads as it did. -/
def thinMeansUptoRow : OpenClaim := { program := "ytfcamaiehepinaa", sum := "f11b28191bf1bec6e95d7b53605d45d3a845c68f2fba306fa049c453037cd6ed", func := "tallymark/tallymarklaw16.ThinMeans", spec := "thinMeans", unfollowed := true, recurses := true, apart := false, narrowed := true }
def ThinMeansUptoSaid : Prop := thinMeansUptoRow.holds Try.pinned (OpenSpec.upto thinMeansSpec)

end Rows
end Go.Proofs.Ytfcamaiehepinaa
