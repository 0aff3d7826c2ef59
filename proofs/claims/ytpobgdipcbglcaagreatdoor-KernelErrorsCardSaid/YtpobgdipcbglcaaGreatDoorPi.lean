/- Parts of the proof: KeD. -/
import Derived.Test.YtpobgdipcbglcaaGreatDoorPh
set_option linter.unusedVariables false
set_option linter.unusedSimpArgs false
set_option maxRecDepth 100000
namespace Go.Proofs.YtpobgdipcbglcaaGreatDoor.Am
section
open Go.RowKit
def pmgC:List V:=[.d (.int .i64 0),.d (.int .i64 0),.d (.bool false),.d (.sl 1 [.int .u64 1]),.d (.bool false),.d (.sl 0 [])]
theorem o_m3:Eqn Tryz.prog o_g5 [.d (.agg [.int .i64 2,.int .i64 1,.int .i64 3]),.d (.agg [.int .i64 0,.int .i64 0,.bool false]),.d (.agg [.int .i64 0,.int .i64 0,.bool false])] [] (.tup [.own 0 6 1,.d (.int .i64 0)]) [⟨154,pmgC⟩]:=o_lu o_lr (by kernel_rfl)
end
end Go.Proofs.YtpobgdipcbglcaaGreatDoor.Am
