/-
  No cell of these rows narrows 'for every input' (looked for: loops, veiled, ifaces, maps, wideKeys, modest, calm, conditions, laid).
  DERIVED. THE GIVEN ROWS OF THIS SEAT. 6 by the template 'for every input the law returns true; each argument reads behind the call as it read before'; 0 by the template 'total and deterministic' (their statements: YtdbfenhaljmbfaaGreatTotals.lean).
  GIVEN WITH THE SEED: the statements are not yours to turn. If you find one false, say at which input.
  Laid BY PROGRAM, IN A SANDBOX (cutbox-rows.mjs): the forced cells as the released guide's own fill.sh prints them over the translation e1a4b31296cd4883… (all of the seat's roots in one cut). By AI agents, Wed Nov 11 2026. No macro, syntax, notation, axiom, sorry.
-/
import Derived.Test.YtdbfenhaljmbfaaGreatChecked
import GoSem.Claim
import GoSem.ClaimJoined
import GoSem.ClaimMapViews
import Derived.JoinedTies
import Derived.KernelRfl
namespace Go.Proofs.YtdbfenhaljmbfaaGreat
/- THE CELL 'sum', in the pinned program and in every row, IS THE sha256 OF THE DUMP (.gsa) THAT YtdbfenhaljmbfaaGreatProg.lean LOADS. Nothing in Lean hashes anything: it is a label: what it is worth is what the hold of that sum in a sandbox is worth. -/
noncomputable def Tryz.pinned : Pinned := { name := "ytdbfenhaljmbfaagreat", sum := "e1a4b31296cd488394baf515df15b8fe18a758aaa2e046e38528bc4762aaf0e4", checked := Tryz.checked }
namespace Rows
def none {H : Type} : Left H := { results := [], args := [] }

/-- 'tallymarktop.TallyArrays': WHATEVER THE INPUT: true; the input reads as it did. -/
def tallyArraysSpec : ChangeSpec := { name := "tallyArrays", fn := fun _ => fun
  | [d1, d2, d3] => { results := [.lit (.bool true)], args := [d1, d2, d3] }
  | _ => none }
def tallyArraysRow : OpenClaim := { program := "ytdbfenhaljmbfaagreat", sum := "e1a4b31296cd488394baf515df15b8fe18a758aaa2e046e38528bc4762aaf0e4", func := "tallymark/tallymarktop.TallyArrays", spec := "tallyArrays", unfollowed := true, recurses := true, apart := false }
def TallyArraysSaid : Prop := tallyArraysRow.holds Tryz.pinned (OpenSpec.ofChange tallyArraysSpec)

/-- ITS FALSE NEIGHBOUR: 'it returns false'. Refute it at one input. -/
def tallyArraysWrong : ChangeSpec := { name := "tallyArrays", fn := fun _ => fun
  | [d1, d2, d3] => { results := [.lit (.bool false)], args := [d1, d2, d3] }
  | _ => none }
def TallyArraysWrongFalsely : Prop := tallyArraysRow.holds Tryz.pinned (OpenSpec.ofChange tallyArraysWrong)

/-- 'tallymarklaw18.CarrayMerges': WHATEVER THE INPUT: true; the input reads as it did. -/
def carrayMergesSpec : ChangeSpec := { name := "carrayMerges", fn := fun _ => fun
  | [d1, d2, d3] => { results := [.lit (.bool true)], args := [d1, d2, d3] }
  | _ => none }
def carrayMergesRow : OpenClaim := { program := "ytdbfenhaljmbfaagreat", sum := "e1a4b31296cd488394baf515df15b8fe18a758aaa2e046e38528bc4762aaf0e4", func := "tallymark/tallymarklaw18.CarrayMerges", spec := "carrayMerges", unfollowed := true, recurses := true, apart := false }
def CarrayMergesSaid : Prop := carrayMergesRow.holds Tryz.pinned (OpenSpec.ofChange carrayMergesSpec)

/-- ITS FALSE NEIGHBOUR: 'it returns false'. Refute it at one input. -/
def carrayMergesWrong : ChangeSpec := { name := "carrayMerges", fn := fun _ => fun
  | [d1, d2, d3] => { results := [.lit (.bool false)], args := [d1, d2, d3] }
  | _ => none }
def CarrayMergesWrongFalsely : Prop := carrayMergesRow.holds Tryz.pinned (OpenSpec.ofChange carrayMergesWrong)

/-- 'tallymarklaw18.CarrayApart': WHATEVER THE INPUT: true; the input reads as it did. -/
def carrayApartSpec : ChangeSpec := { name := "carrayApart", fn := fun _ => fun
  | [d1, d2, d3] => { results := [.lit (.bool true)], args := [d1, d2, d3] }
  | _ => none }
def carrayApartRow : OpenClaim := { program := "ytdbfenhaljmbfaagreat", sum := "e1a4b31296cd488394baf515df15b8fe18a758aaa2e046e38528bc4762aaf0e4", func := "tallymark/tallymarklaw18.CarrayApart", spec := "carrayApart", unfollowed := true, recurses := true, apart := false }
def CarrayApartSaid : Prop := carrayApartRow.holds Tryz.pinned (OpenSpec.ofChange carrayApartSpec)

/-- ITS FALSE NEIGHBOUR: 'it returns false'. Refute it at one input. -/
def carrayApartWrong : ChangeSpec := { name := "carrayApart", fn := fun _ => fun
  | [d1, d2, d3] => { results := [.lit (.bool false)], args := [d1, d2, d3] }
  | _ => none }
def CarrayApartWrongFalsely : Prop := carrayApartRow.holds Tryz.pinned (OpenSpec.ofChange carrayApartWrong)

/-- 'tallymarklaw18.CarrayPlays': WHATEVER THE INPUT: true; the input reads as it did. -/
def carrayPlaysSpec : ChangeSpec := { name := "carrayPlays", fn := fun _ => fun
  | [d1, d2, d3] => { results := [.lit (.bool true)], args := [d1, d2, d3] }
  | _ => none }
def carrayPlaysRow : OpenClaim := { program := "ytdbfenhaljmbfaagreat", sum := "e1a4b31296cd488394baf515df15b8fe18a758aaa2e046e38528bc4762aaf0e4", func := "tallymark/tallymarklaw18.CarrayPlays", spec := "carrayPlays", unfollowed := true, recurses := true, apart := false }
def CarrayPlaysSaid : Prop := carrayPlaysRow.holds Tryz.pinned (OpenSpec.ofChange carrayPlaysSpec)

/-- ITS FALSE NEIGHBOUR: 'it returns false'. Refute it at one input. -/
def carrayPlaysWrong : ChangeSpec := { name := "carrayPlays", fn := fun _ => fun
  | [d1, d2, d3] => { results := [.lit (.bool false)], args := [d1, d2, d3] }
  | _ => none }
def CarrayPlaysWrongFalsely : Prop := carrayPlaysRow.holds Tryz.pinned (OpenSpec.ofChange carrayPlaysWrong)

/-- 'tallymarktop.TallyLoads': WHATEVER THE INPUT: true; the input reads as it did. -/
def tallyLoadsSpec : ChangeSpec := { name := "tallyLoads", fn := fun _ => fun
  | [d1, d2, d3] => { results := [.lit (.bool true)], args := [d1, d2, d3] }
  | _ => none }
def tallyLoadsRow : OpenClaim := { program := "ytdbfenhaljmbfaagreat", sum := "e1a4b31296cd488394baf515df15b8fe18a758aaa2e046e38528bc4762aaf0e4", func := "tallymark/tallymarktop.TallyLoads", spec := "tallyLoads", inPlace := ["math/bits.Add64"], unfollowed := true, recurses := true, apart := false }
def TallyLoadsSaid : Prop := tallyLoadsRow.holds Tryz.pinned (OpenSpec.ofChange tallyLoadsSpec)

/-- ITS FALSE NEIGHBOUR: 'it returns false'. Refute it at one input. -/
def tallyLoadsWrong : ChangeSpec := { name := "tallyLoads", fn := fun _ => fun
  | [d1, d2, d3] => { results := [.lit (.bool false)], args := [d1, d2, d3] }
  | _ => none }
def TallyLoadsWrongFalsely : Prop := tallyLoadsRow.holds Tryz.pinned (OpenSpec.ofChange tallyLoadsWrong)

/-- 'tallymarklaw17.RegSplits': WHATEVER THE INPUT: true; the input reads as it did. -/
def regSplitsSpec : ChangeSpec := { name := "regSplits", fn := fun _ => fun
  | [d1, d2, d3] => { results := [.lit (.bool true)], args := [d1, d2, d3] }
  | _ => none }
def regSplitsRow : OpenClaim := { program := "ytdbfenhaljmbfaagreat", sum := "e1a4b31296cd488394baf515df15b8fe18a758aaa2e046e38528bc4762aaf0e4", func := "tallymark/tallymarklaw17.RegSplits", spec := "regSplits", inPlace := ["math/bits.Add64"], unfollowed := true, recurses := true, apart := false }
def RegSplitsSaid : Prop := regSplitsRow.holds Tryz.pinned (OpenSpec.ofChange regSplitsSpec)

/-- ITS FALSE NEIGHBOUR: 'it returns false'. Refute it at one input. -/
def regSplitsWrong : ChangeSpec := { name := "regSplits", fn := fun _ => fun
  | [d1, d2, d3] => { results := [.lit (.bool false)], args := [d1, d2, d3] }
  | _ => none }
def RegSplitsWrongFalsely : Prop := regSplitsRow.holds Tryz.pinned (OpenSpec.ofChange regSplitsWrong)

/- THE SECOND FORM. 'bulk': how many values and letters a reading holds, each counted each time it is reached (what is shared counts as often as it is met; a slice's spare places count too). A statement '..UptoSaid' is the law's where the arguments, and the package variables that the reading takes, are together of bulk at most 1048576: NARROWER than '..Said'. Prove '..Said' where nothing that the law and all that it calls make is longer than what came in: it says more and counts as full. Else prove '..UptoSaid'. A law counts once. -/
mutual
def uptoBulk {H : Type} : DataW H → Nat
  | .lit (.string bytes) => bytes.length + 1
  | .lit _ => 1
  | .nil => 1
  | .ptr d => uptoBulk d + 1
  | .slice elems spare => uptoBulkAll elems + uptoBulkAll spare + 1
  | .agg parts => uptoBulkAll parts + 1
  | .iface _ d => uptoBulk d + 1
  | .map entries => uptoBulkEntries entries + 1
  | .held _ => 1
def uptoBulkAll {H : Type} : List (DataW H) → Nat
  | [] => 0
  | d :: r => uptoBulk d + uptoBulkAll r
def uptoBulkEntries {H : Type} : List (Lit × DataW H) → Nat
  | [] => 0
  | x :: r => uptoBulkEntry x + uptoBulkEntries r
def uptoBulkEntry {H : Type} : Lit × DataW H → Nat
  | (.string bytes, d) => bytes.length + uptoBulk d + 1
  | (_, d) => uptoBulk d + 1
 end
def uptoSmall : (H : Type) → List (DataW H) → Bool := fun _ ds => decide (uptoBulkAll ds ≤ 1048576)
def OpenSpec.upto (s : _root_.Go.ChangeSpec) : _root_.Go.OpenSpec := { _root_.Go.OpenSpec.ofChange s with cond := some uptoSmall }

/-- 'tallymarktop.TallyArrays', WHERE WHAT IT READS IS OF BULK AT MOST 1048576: true; the input reads as it did. -/
def tallyArraysUptoRow : OpenClaim := { program := "ytdbfenhaljmbfaagreat", sum := "e1a4b31296cd488394baf515df15b8fe18a758aaa2e046e38528bc4762aaf0e4", func := "tallymark/tallymarktop.TallyArrays", spec := "tallyArrays", unfollowed := true, recurses := true, apart := false, narrowed := true }
def TallyArraysUptoSaid : Prop := tallyArraysUptoRow.holds Tryz.pinned (OpenSpec.upto tallyArraysSpec)

/-- 'tallymarklaw18.CarrayMerges', WHERE WHAT IT READS IS OF BULK AT MOST 1048576: true; the input reads as it did. -/
def carrayMergesUptoRow : OpenClaim := { program := "ytdbfenhaljmbfaagreat", sum := "e1a4b31296cd488394baf515df15b8fe18a758aaa2e046e38528bc4762aaf0e4", func := "tallymark/tallymarklaw18.CarrayMerges", spec := "carrayMerges", unfollowed := true, recurses := true, apart := false, narrowed := true }
def CarrayMergesUptoSaid : Prop := carrayMergesUptoRow.holds Tryz.pinned (OpenSpec.upto carrayMergesSpec)

/-- 'tallymarklaw18.CarrayApart', WHERE WHAT IT READS IS OF BULK AT MOST 1048576: true; the input reads as it did. -/
def carrayApartUptoRow : OpenClaim := { program := "ytdbfenhaljmbfaagreat", sum := "e1a4b31296cd488394baf515df15b8fe18a758aaa2e046e38528bc4762aaf0e4", func := "tallymark/tallymarklaw18.CarrayApart", spec := "carrayApart", unfollowed := true, recurses := true, apart := false, narrowed := true }
def CarrayApartUptoSaid : Prop := carrayApartUptoRow.holds Tryz.pinned (OpenSpec.upto carrayApartSpec)

/-- 'tallymarklaw18.CarrayPlays', WHERE WHAT IT READS IS OF BULK AT MOST 1048576: true; the input reads as it did. -/
def carrayPlaysUptoRow : OpenClaim := { program := "ytdbfenhaljmbfaagreat", sum := "e1a4b31296cd488394baf515df15b8fe18a758aaa2e046e38528bc4762aaf0e4", func := "tallymark/tallymarklaw18.CarrayPlays", spec := "carrayPlays", unfollowed := true, recurses := true, apart := false, narrowed := true }
def CarrayPlaysUptoSaid : Prop := carrayPlaysUptoRow.holds Tryz.pinned (OpenSpec.upto carrayPlaysSpec)

/-- 'tallymarktop.TallyLoads', WHERE WHAT IT READS IS OF BULK AT MOST 1048576: true; the input reads as it did. -/
def tallyLoadsUptoRow : OpenClaim := { program := "ytdbfenhaljmbfaagreat", sum := "e1a4b31296cd488394baf515df15b8fe18a758aaa2e046e38528bc4762aaf0e4", func := "tallymark/tallymarktop.TallyLoads", spec := "tallyLoads", inPlace := ["math/bits.Add64"], unfollowed := true, recurses := true, apart := false, narrowed := true }
def TallyLoadsUptoSaid : Prop := tallyLoadsUptoRow.holds Tryz.pinned (OpenSpec.upto tallyLoadsSpec)

/-- 'tallymarklaw17.RegSplits', WHERE WHAT IT READS IS OF BULK AT MOST 1048576: true; the input reads as it did. -/
def regSplitsUptoRow : OpenClaim := { program := "ytdbfenhaljmbfaagreat", sum := "e1a4b31296cd488394baf515df15b8fe18a758aaa2e046e38528bc4762aaf0e4", func := "tallymark/tallymarklaw17.RegSplits", spec := "regSplits", inPlace := ["math/bits.Add64"], unfollowed := true, recurses := true, apart := false, narrowed := true }
def RegSplitsUptoSaid : Prop := regSplitsUptoRow.holds Tryz.pinned (OpenSpec.upto regSplitsSpec)

end Rows
end Go.Proofs.YtdbfenhaljmbfaaGreat
