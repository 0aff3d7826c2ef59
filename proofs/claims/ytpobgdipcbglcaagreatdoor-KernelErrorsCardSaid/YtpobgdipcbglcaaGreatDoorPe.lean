/- Parts of the proof: KeB. -/
import Derived.Test.YtpobgdipcbglcaaGreatDoorPd
set_option linter.unusedVariables false
set_option linter.unusedSimpArgs false
set_option maxRecDepth 100000
namespace Go.Proofs.YtpobgdipcbglcaaGreatDoor.Am
section
open Go.RowKit
theorem o_lv:Eqn Tryz.prog o_b2 [.d (.agg (itX 0 1))] [] (.tup [.own 0 1 7,.d (.int .i64 0)]) [⟨5,u8s [18,228,32,225,159,184,44]⟩]:=o_lu o_lr (by kernel_rfl)
end
end Go.Proofs.YtpobgdipcbglcaaGreatDoor.Am
