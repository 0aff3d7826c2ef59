/- Parts of the proof: KeC. -/
import Derived.Test.YtpobgdipcbglcaaGreatDoorPf
set_option linter.unusedVariables false
set_option linter.unusedSimpArgs false
set_option maxRecDepth 100000
namespace Go.Proofs.YtpobgdipcbglcaaGreatDoor.Am
section
open Go.RowKit
def pofC:List V:=[.d (.int .i64 1),.d (.int .i64 0),.d (.bool false),.d (.sl 1 [.int .u64 1]),.d (.bool false),.d (.sl 1 [.int .u64 1]),.d (.int .i64 2),.d (.int .i64 0),.d (.bool false),.d (.sl 1 [.int .u64 1]),.d (.bool false),.d (.sl 1 [.int .u64 1])]
theorem o_ly:Eqn Tryz.prog o_eq [.d (.agg [.int .i64 2,.int .i64 0,.int .i64 3]),.d (.agg [.int .i64 1,.int .i64 0,.bool false]),.d (.int .i64 1)] [] (.tup [.own 0 6 2,.d (.int .i64 0)]) [⟨154,pofC⟩]:=o_lu o_lr (by kernel_rfl)
end
end Go.Proofs.YtpobgdipcbglcaaGreatDoor.Am
