/-
  No cell of these rows narrows 'for every input' (looked for: loops, veiled, ifaces, maps, wideKeys, modest, calm, conditions, laid).
  DERIVED. THE GIVEN ROWS OF THIS SEAT. 4 by the template 'for every input the law returns true; each argument reads behind the call as it read before'; 0 by the template 'total and deterministic' (their statements: YtgfndnafmokfhaaTotals.lean).
  GIVEN WITH THE SEED: the statements are not yours to turn. If you find one false, say at which input.
  Laid BY PROGRAM, IN A SANDBOX (cutbox-rows.mjs): the forced cells as the released guide's own fill.sh prints them over the translation b15c04cb9bc8a7af… (all of the seat's roots in one cut). By AI agents, Wed Nov 11 2026. No macro, syntax, notation, axiom, sorry.
-/
import Derived.Test.YtgfndnafmokfhaaChecked
import GoSem.Claim
import GoSem.ClaimJoined
import GoSem.ClaimMapViews
import Derived.JoinedTies
import Derived.KernelRfl
namespace Go.Proofs.Ytgfndnafmokfhaa
/- THE CELL 'sum', in the pinned program and in every row, IS THE sha256 OF THE DUMP (.gsa) THAT YtgfndnafmokfhaaProg.lean LOADS. Nothing in Lean hashes anything: it is a label: what it is worth is what the hold of that sum in a sandbox is worth. -/
noncomputable def Try.pinned : Pinned := { name := "ytgfndnafmokfhaa", sum := "b15c04cb9bc8a7af6858ae16f0bf16411f5e5e0eb7f45563e3bb5cd126ce7b44", checked := Try.checked }
namespace Rows
def none {H : Type} : Left H := { results := [], args := [] }

/-- 'tallymarklaw09.TapeLonger': WHATEVER THE INPUT: true; the input reads as it did. -/
def tapeLongerSpec : ChangeSpec := { name := "tapeLonger", fn := fun _ => fun
  | [d1, d2, d3] => { results := [.lit (.bool true)], args := [d1, d2, d3] }
  | _ => none }
def tapeLongerRow : OpenClaim := { program := "ytgfndnafmokfhaa", sum := "b15c04cb9bc8a7af6858ae16f0bf16411f5e5e0eb7f45563e3bb5cd126ce7b44", func := "tallymark/tallymarklaw09.TapeLonger", spec := "tapeLonger", apart := false }
def TapeLongerSaid : Prop := tapeLongerRow.holds Try.pinned (OpenSpec.ofChange tapeLongerSpec)

/-- ITS FALSE NEIGHBOUR: 'it returns false'. Refute it at one input. -/
def tapeLongerWrong : ChangeSpec := { name := "tapeLonger", fn := fun _ => fun
  | [d1, d2, d3] => { results := [.lit (.bool false)], args := [d1, d2, d3] }
  | _ => none }
def TapeLongerWrongFalsely : Prop := tapeLongerRow.holds Try.pinned (OpenSpec.ofChange tapeLongerWrong)

/-- 'tallymarklaw09.TapeBacks': WHATEVER THE INPUT: true; the input reads as it did. -/
def tapeBacksSpec : ChangeSpec := { name := "tapeBacks", fn := fun _ => fun
  | [d1, d2, d3] => { results := [.lit (.bool true)], args := [d1, d2, d3] }
  | _ => none }
def tapeBacksRow : OpenClaim := { program := "ytgfndnafmokfhaa", sum := "b15c04cb9bc8a7af6858ae16f0bf16411f5e5e0eb7f45563e3bb5cd126ce7b44", func := "tallymark/tallymarklaw09.TapeBacks", spec := "tapeBacks", apart := false }
def TapeBacksSaid : Prop := tapeBacksRow.holds Try.pinned (OpenSpec.ofChange tapeBacksSpec)

/-- ITS FALSE NEIGHBOUR: 'it returns false'. Refute it at one input. -/
def tapeBacksWrong : ChangeSpec := { name := "tapeBacks", fn := fun _ => fun
  | [d1, d2, d3] => { results := [.lit (.bool false)], args := [d1, d2, d3] }
  | _ => none }
def TapeBacksWrongFalsely : Prop := tapeBacksRow.holds Try.pinned (OpenSpec.ofChange tapeBacksWrong)

/-- 'tallymarklaw09.TapePlays': WHATEVER THE INPUT: true; the input reads as it did. -/
def tapePlaysSpec : ChangeSpec := { name := "tapePlays", fn := fun _ => fun
  | [d1, d2] => { results := [.lit (.bool true)], args := [d1, d2] }
  | _ => none }
def tapePlaysRow : OpenClaim := { program := "ytgfndnafmokfhaa", sum := "b15c04cb9bc8a7af6858ae16f0bf16411f5e5e0eb7f45563e3bb5cd126ce7b44", func := "tallymark/tallymarklaw09.TapePlays", spec := "tapePlays", apart := false }
def TapePlaysSaid : Prop := tapePlaysRow.holds Try.pinned (OpenSpec.ofChange tapePlaysSpec)

/-- ITS FALSE NEIGHBOUR: 'it returns false'. Refute it at one input. -/
def tapePlaysWrong : ChangeSpec := { name := "tapePlays", fn := fun _ => fun
  | [d1, d2] => { results := [.lit (.bool false)], args := [d1, d2] }
  | _ => none }
def TapePlaysWrongFalsely : Prop := tapePlaysRow.holds Try.pinned (OpenSpec.ofChange tapePlaysWrong)

/-- 'tallymarklaw09.TapeBytes': WHATEVER THE INPUT: true; the input reads as it did. -/
def tapeBytesSpec : ChangeSpec := { name := "tapeBytes", fn := fun _ => fun
  | [d1, d2] => { results := [.lit (.bool true)], args := [d1, d2] }
  | _ => none }
def tapeBytesRow : OpenClaim := { program := "ytgfndnafmokfhaa", sum := "b15c04cb9bc8a7af6858ae16f0bf16411f5e5e0eb7f45563e3bb5cd126ce7b44", func := "tallymark/tallymarklaw09.TapeBytes", spec := "tapeBytes", apart := false }
def TapeBytesSaid : Prop := tapeBytesRow.holds Try.pinned (OpenSpec.ofChange tapeBytesSpec)

/-- ITS FALSE NEIGHBOUR: 'it returns false'. Refute it at one input. -/
def tapeBytesWrong : ChangeSpec := { name := "tapeBytes", fn := fun _ => fun
  | [d1, d2] => { results := [.lit (.bool false)], args := [d1, d2] }
  | _ => none }
def TapeBytesWrongFalsely : Prop := tapeBytesRow.holds Try.pinned (OpenSpec.ofChange tapeBytesWrong)

/- THE SECOND FORM. 'bulk': how many values and letters a reading holds, each counted each time it is reached (what is shared counts as often as it is met; a slice's spare places count too). A statement '..UptoSaid' is the law's where the arguments, and the package variables that the reading takes, are together of bulk at most 1048576: NARROWER than '..Said'. Prove '..Said' where nothing that the law and all that it calls make is longer than what came in: it says more and counts as full. Else prove '..UptoSaid'. A law counts once. -/
mutual
def uptoBulk {H : Type} : DataW H → Nat
  | .lit (.string bytes) => bytes.length + 1
  | .lit _ => 1
  | .nil => 1
  | .ptr d => uptoBulk d + 1
  | .slice elems spare => uptoBulkAll elems + uptoBulkAll spare + 1
  | .agg parts => uptoBulkAll parts + 1
  | .iface _ d => uptoBulk d + 1
  | .map entries => uptoBulkEntries entries + 1
  | .held _ => 1
def uptoBulkAll {H : Type} : List (DataW H) → Nat
  | [] => 0
  | d :: r => uptoBulk d + uptoBulkAll r
def uptoBulkEntries {H : Type} : List (Lit × DataW H) → Nat
  | [] => 0
  | x :: r => uptoBulkEntry x + uptoBulkEntries r
def uptoBulkEntry {H : Type} : Lit × DataW H → Nat
  | (.string bytes, d) => bytes.length + uptoBulk d + 1
  | (_, d) => uptoBulk d + 1
 end
def uptoSmall : (H : Type) → List (DataW H) → Bool := fun _ ds => decide (uptoBulkAll ds ≤ 1048576)
def OpenSpec.upto (s : _root_.Go.ChangeSpec) : _root_.Go.OpenSpec := { _root_.Go.OpenSpec.ofChange s with cond := some uptoSmall }

/-- 'tallymarklaw09.TapeLonger', WHERE WHAT IT READS IS OF BULK AT MOST 1048576: true; the input reads as it did. -/
def tapeLongerUptoRow : OpenClaim := { program := "ytgfndnafmokfhaa", sum := "b15c04cb9bc8a7af6858ae16f0bf16411f5e5e0eb7f45563e3bb5cd126ce7b44", func := "tallymark/tallymarklaw09.TapeLonger", spec := "tapeLonger", apart := false, narrowed := true }
def TapeLongerUptoSaid : Prop := tapeLongerUptoRow.holds Try.pinned (OpenSpec.upto tapeLongerSpec)

/-- 'tallymarklaw09.TapeBacks', WHERE WHAT IT READS IS OF BULK AT MOST 1048576: true; the input reads as it did. -/
def tapeBacksUptoRow : OpenClaim := { program := "ytgfndnafmokfhaa", sum := "b15c04cb9bc8a7af6858ae16f0bf16411f5e5e0eb7f45563e3bb5cd126ce7b44", func := "tallymark/tallymarklaw09.TapeBacks", spec := "tapeBacks", apart := false, narrowed := true }
def TapeBacksUptoSaid : Prop := tapeBacksUptoRow.holds Try.pinned (OpenSpec.upto tapeBacksSpec)

/-- 'tallymarklaw09.TapePlays', WHERE WHAT IT READS IS OF BULK AT MOST 1048576: true; the input reads as it did. -/
def tapePlaysUptoRow : OpenClaim := { program := "ytgfndnafmokfhaa", sum := "b15c04cb9bc8a7af6858ae16f0bf16411f5e5e0eb7f45563e3bb5cd126ce7b44", func := "tallymark/tallymarklaw09.TapePlays", spec := "tapePlays", apart := false, narrowed := true }
def TapePlaysUptoSaid : Prop := tapePlaysUptoRow.holds Try.pinned (OpenSpec.upto tapePlaysSpec)

/-- 'tallymarklaw09.TapeBytes', WHERE WHAT IT READS IS OF BULK AT MOST 1048576: true; the input reads as it did. -/
def tapeBytesUptoRow : OpenClaim := { program := "ytgfndnafmokfhaa", sum := "b15c04cb9bc8a7af6858ae16f0bf16411f5e5e0eb7f45563e3bb5cd126ce7b44", func := "tallymark/tallymarklaw09.TapeBytes", spec := "tapeBytes", apart := false, narrowed := true }
def TapeBytesUptoSaid : Prop := tapeBytesUptoRow.holds Try.pinned (OpenSpec.upto tapeBytesSpec)

end Rows
end Go.Proofs.Ytgfndnafmokfhaa
