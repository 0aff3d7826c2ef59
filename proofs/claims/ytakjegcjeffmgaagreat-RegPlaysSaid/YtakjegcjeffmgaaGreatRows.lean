/-
  No cell of these rows narrows 'for every input' (looked for: loops, veiled, ifaces, maps, wideKeys, modest, calm, conditions, laid).
  DERIVED. THE GIVEN ROWS OF THIS SEAT. 4 by the template 'for every input the law returns true; each argument reads behind the call as it read before'; 0 by the template 'total and deterministic' (their statements: YtakjegcjeffmgaaGreatTotals.lean).
  GIVEN WITH THE SEED: the statements are not yours to turn. If you find one false, say at which input.
  Laid BY PROGRAM, IN A SANDBOX (cutbox-rows.mjs): the forced cells as the released guide's own fill.sh prints them over the translation 34f1fae0b8b0511a… (all of the seat's roots in one cut). By AI agents, Wed Nov 11 2026. No macro, syntax, notation, axiom, sorry.
-/
import Derived.Test.YtakjegcjeffmgaaGreatChecked
import GoSem.Claim
import GoSem.ClaimJoined
import GoSem.ClaimMapViews
import Derived.JoinedTies
import Derived.KernelRfl
namespace Go.Proofs.YtakjegcjeffmgaaGreat
/- THE CELL 'sum', in the pinned program and in every row, IS THE sha256 OF THE DUMP (.gsa) THAT YtakjegcjeffmgaaGreatProg.lean LOADS. Nothing in Lean hashes anything: it is a label: what it is worth is what the hold of that sum in a sandbox is worth. -/
noncomputable def Tryz.pinned : Pinned := { name := "ytakjegcjeffmgaagreat", sum := "34f1fae0b8b0511ad87705db6284cbce6685f6b0a51252ac670d3a08d6f1e1b1", checked := Tryz.checked }
namespace Rows
def none {H : Type} : Left H := { results := [], args := [] }

/-- 'tallymarklaw15.ChainAdds': WHATEVER THE INPUT: true; the input reads as it did. -/
def chainAddsSpec : ChangeSpec := { name := "chainAdds", fn := fun _ => fun
  | [d1, d2, d3] => { results := [.lit (.bool true)], args := [d1, d2, d3] }
  | _ => none }
def chainAddsRow : OpenClaim := { program := "ytakjegcjeffmgaagreat", sum := "34f1fae0b8b0511ad87705db6284cbce6685f6b0a51252ac670d3a08d6f1e1b1", func := "tallymark/tallymarklaw15.ChainAdds", spec := "chainAdds", inPlace := ["math/bits.Add64"], unfollowed := true, recurses := true, apart := false }
def ChainAddsSaid : Prop := chainAddsRow.holds Tryz.pinned (OpenSpec.ofChange chainAddsSpec)

/-- ITS FALSE NEIGHBOUR: 'it returns false'. Refute it at one input. -/
def chainAddsWrong : ChangeSpec := { name := "chainAdds", fn := fun _ => fun
  | [d1, d2, d3] => { results := [.lit (.bool false)], args := [d1, d2, d3] }
  | _ => none }
def ChainAddsWrongFalsely : Prop := chainAddsRow.holds Tryz.pinned (OpenSpec.ofChange chainAddsWrong)

/-- 'tallymarklaw17.RegPlays': WHATEVER THE INPUT: true; the input reads as it did. -/
def regPlaysSpec : ChangeSpec := { name := "regPlays", fn := fun _ => fun
  | [d1, d2, d3] => { results := [.lit (.bool true)], args := [d1, d2, d3] }
  | _ => none }
def regPlaysRow : OpenClaim := { program := "ytakjegcjeffmgaagreat", sum := "34f1fae0b8b0511ad87705db6284cbce6685f6b0a51252ac670d3a08d6f1e1b1", func := "tallymark/tallymarklaw17.RegPlays", spec := "regPlays", unfollowed := true, recurses := true, apart := false }
def RegPlaysSaid : Prop := regPlaysRow.holds Tryz.pinned (OpenSpec.ofChange regPlaysSpec)

/-- ITS FALSE NEIGHBOUR: 'it returns false'. Refute it at one input. -/
def regPlaysWrong : ChangeSpec := { name := "regPlays", fn := fun _ => fun
  | [d1, d2, d3] => { results := [.lit (.bool false)], args := [d1, d2, d3] }
  | _ => none }
def RegPlaysWrongFalsely : Prop := regPlaysRow.holds Tryz.pinned (OpenSpec.ofChange regPlaysWrong)

/-- 'tallymarktop.TallyArrays': WHATEVER THE INPUT: true; the input reads as it did. -/
def tallyArraysSpec : ChangeSpec := { name := "tallyArrays", fn := fun _ => fun
  | [d1, d2, d3] => { results := [.lit (.bool true)], args := [d1, d2, d3] }
  | _ => none }
def tallyArraysRow : OpenClaim := { program := "ytakjegcjeffmgaagreat", sum := "34f1fae0b8b0511ad87705db6284cbce6685f6b0a51252ac670d3a08d6f1e1b1", func := "tallymark/tallymarktop.TallyArrays", spec := "tallyArrays", unfollowed := true, recurses := true, apart := false }
def TallyArraysSaid : Prop := tallyArraysRow.holds Tryz.pinned (OpenSpec.ofChange tallyArraysSpec)

/-- ITS FALSE NEIGHBOUR: 'it returns false'. Refute it at one input. -/
def tallyArraysWrong : ChangeSpec := { name := "tallyArrays", fn := fun _ => fun
  | [d1, d2, d3] => { results := [.lit (.bool false)], args := [d1, d2, d3] }
  | _ => none }
def TallyArraysWrongFalsely : Prop := tallyArraysRow.holds Tryz.pinned (OpenSpec.ofChange tallyArraysWrong)

/-- 'tallymarklaw15.ChainMerges': WHATEVER THE INPUT: true; the input reads as it did. -/
def chainMergesSpec : ChangeSpec := { name := "chainMerges", fn := fun _ => fun
  | [d1, d2, d3] => { results := [.lit (.bool true)], args := [d1, d2, d3] }
  | _ => none }
def chainMergesRow : OpenClaim := { program := "ytakjegcjeffmgaagreat", sum := "34f1fae0b8b0511ad87705db6284cbce6685f6b0a51252ac670d3a08d6f1e1b1", func := "tallymark/tallymarklaw15.ChainMerges", spec := "chainMerges", inPlace := ["math/bits.Add64"], unfollowed := true, recurses := true, apart := false }
def ChainMergesSaid : Prop := chainMergesRow.holds Tryz.pinned (OpenSpec.ofChange chainMergesSpec)

/-- ITS FALSE NEIGHBOUR: 'it returns false'. Refute it at one input. -/
def chainMergesWrong : ChangeSpec := { name := "chainMerges", fn := fun _ => fun
  | [d1, d2, d3] => { results := [.lit (.bool false)], args := [d1, d2, d3] }
  | _ => none }
def ChainMergesWrongFalsely : Prop := chainMergesRow.holds Tryz.pinned (OpenSpec.ofChange chainMergesWrong)

/- THE SECOND FORM. 'bulk': how many values and letters a reading holds, each counted each time it is reached (what is shared counts as often as it is met; a slice's spare places count too). A statement '..UptoSaid' is the law's where the arguments, and the package variables that the reading takes, are together of bulk at most 1048576: NARROWER than '..Said'. Prove '..Said' where nothing that the law and all that it calls make is longer than what came in: it says more and counts as full. Else prove '..UptoSaid'. A law counts once. -/
mutual
def uptoBulk {H : Type} : DataW H → Nat
  | .lit (.string bytes) => bytes.length + 1
  | .lit _ => 1
  | .nil => 1
  | .ptr d => uptoBulk d + 1
  | .slice elems spare => uptoBulkAll elems + uptoBulkAll spare + 1
  | .agg parts => uptoBulkAll parts + 1
  | .iface _ d => uptoBulk d + 1
  | .map entries => uptoBulkEntries entries + 1
  | .held _ => 1
def uptoBulkAll {H : Type} : List (DataW H) → Nat
  | [] => 0
  | d :: r => uptoBulk d + uptoBulkAll r
def uptoBulkEntries {H : Type} : List (Lit × DataW H) → Nat
  | [] => 0
  | x :: r => uptoBulkEntry x + uptoBulkEntries r
def uptoBulkEntry {H : Type} : Lit × DataW H → Nat
  | (.string bytes, d) => bytes.length + uptoBulk d + 1
  | (_, d) => uptoBulk d + 1
 end
def uptoSmall : (H : Type) → List (DataW H) → Bool := fun _ ds => decide (uptoBulkAll ds ≤ 1048576)
def OpenSpec.upto (s : _root_.Go.ChangeSpec) : _root_.Go.OpenSpec := { _root_.Go.OpenSpec.ofChange s with cond := some uptoSmall }

/-- 'tallymarklaw15.ChainAdds', WHERE WHAT IT READS IS OF BULK AT MOST 1048576: true; the input reads as it did. -/
def chainAddsUptoRow : OpenClaim := { program := "ytakjegcjeffmgaagreat", sum := "34f1fae0b8b0511ad87705db6284cbce6685f6b0a51252ac670d3a08d6f1e1b1", func := "tallymark/tallymarklaw15.ChainAdds", spec := "chainAdds", inPlace := ["math/bits.Add64"], unfollowed := true, recurses := true, apart := false, narrowed := true }
def ChainAddsUptoSaid : Prop := chainAddsUptoRow.holds Tryz.pinned (OpenSpec.upto chainAddsSpec)

/-- 'tallymarklaw17.RegPlays', WHERE WHAT IT READS IS OF BULK AT MOST 1048576: true; the input reads as it did. -/
def regPlaysUptoRow : OpenClaim := { program := "ytakjegcjeffmgaagreat", sum := "34f1fae0b8b0511ad87705db6284cbce6685f6b0a51252ac670d3a08d6f1e1b1", func := "tallymark/tallymarklaw17.RegPlays", spec := "regPlays", unfollowed := true, recurses := true, apart := false, narrowed := true }
def RegPlaysUptoSaid : Prop := regPlaysUptoRow.holds Tryz.pinned (OpenSpec.upto regPlaysSpec)

/-- 'tallymarktop.TallyArrays', WHERE WHAT IT READS IS OF BULK AT MOST 1048576: true; the input reads as it did. -/
def tallyArraysUptoRow : OpenClaim := { program := "ytakjegcjeffmgaagreat", sum := "34f1fae0b8b0511ad87705db6284cbce6685f6b0a51252ac670d3a08d6f1e1b1", func := "tallymark/tallymarktop.TallyArrays", spec := "tallyArrays", unfollowed := true, recurses := true, apart := false, narrowed := true }
def TallyArraysUptoSaid : Prop := tallyArraysUptoRow.holds Tryz.pinned (OpenSpec.upto tallyArraysSpec)

/-- 'tallymarklaw15.ChainMerges', WHERE WHAT IT READS IS OF BULK AT MOST 1048576: true; the input reads as it did. -/
def chainMergesUptoRow : OpenClaim := { program := "ytakjegcjeffmgaagreat", sum := "34f1fae0b8b0511ad87705db6284cbce6685f6b0a51252ac670d3a08d6f1e1b1", func := "tallymark/tallymarklaw15.ChainMerges", spec := "chainMerges", inPlace := ["math/bits.Add64"], unfollowed := true, recurses := true, apart := false, narrowed := true }
def ChainMergesUptoSaid : Prop := chainMergesUptoRow.holds Tryz.pinned (OpenSpec.upto chainMergesSpec)

end Rows
end Go.Proofs.YtakjegcjeffmgaaGreat
