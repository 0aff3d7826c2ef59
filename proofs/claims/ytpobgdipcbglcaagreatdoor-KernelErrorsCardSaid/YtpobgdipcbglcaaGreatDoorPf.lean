/- Parts of the proof: KeB2. -/
import Derived.Test.YtpobgdipcbglcaaGreatDoorPe
set_option linter.unusedVariables false
set_option linter.unusedSimpArgs false
set_option maxRecDepth 100000
namespace Go.Proofs.YtpobgdipcbglcaaGreatDoor.Am
section
open Go.RowKit
theorem o_lw:Eqn Tryz.prog o_b2 [.d (.agg (itX 0 2))] [] (.tup [.own 0 1 7,.d (.int .i64 0)]) [⟨5,u8s [18,228,64,172,45,217,116]⟩]:=o_lu o_lr (by kernel_rfl)
theorem o_lx:Eqn Tryz.prog o_b2 [.d (.agg (itX 1 0))] [] (.tup [.own 0 1 7,.d (.int .i64 0)]) [⟨5,u8s [18,209,0,120,192,90,82]⟩]:=o_lu o_lr (by kernel_rfl)
end
end Go.Proofs.YtpobgdipcbglcaaGreatDoor.Am
