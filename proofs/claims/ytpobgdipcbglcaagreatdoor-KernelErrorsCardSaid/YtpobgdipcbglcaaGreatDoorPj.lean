/- Parts of the proof: KeG. -/
import Derived.Test.YtpobgdipcbglcaaGreatDoorPi
set_option linter.unusedVariables false
set_option linter.unusedSimpArgs false
set_option maxRecDepth 100000
namespace Go.Proofs.YtpobgdipcbglcaaGreatDoor.Am
section
open Go.RowKit
def orG:List (FuncId×List V×V×List Ob):=[(o_b2,[.d (.agg (itX 1 0))],.tup [.own 0 1 7,.d (.int .i64 0)],[⟨5,u8s [18,209,0,120,192,90,82]⟩]),(o_g5,[.d (.agg [.int .i64 2,.int .i64 1,.int .i64 3]),.d (.agg [.int .i64 0,.int .i64 0,.bool false]),.d (.agg [.int .i64 0,.int .i64 0,.bool false])],.tup [.own 0 6 1,.d (.int .i64 0)],[⟨154,pmgC⟩])]
theorem o_m4:∀e∈orG,EqnD Tryz.prog e.1 e.2.1 [] e.2.2.1 e.2.2.2 []∧V.lowl 0 e.2.1=true:=by
 unfold orG
 simp only [List.forall_mem_cons]
 exact ⟨⟨o_lx,rfl⟩,⟨o_m3,rfl⟩,by simp⟩
def kmgC:List V:=[.d (.int .i64 1),.d (.int .i64 2),.d (.int .i64 1),.d (.int .i64 3),.d (.int .i64 0),.d (.int .i64 0),.d (.bool false),.d .nilp,.d .nilp,.d .nilp,.d .nilp,.d (.sl 1 [.int .u64 1]),.d (.bool false),.d (.sl 0 [])]
theorem o_m5:Eqn Tryz.prog o_h2 [.d (.agg (itX 1 0)),.d (.agg (itX 1 0))] [] (.tup [.own 0 14 1,.d (.int .i64 0)]) [⟨52,kmgC⟩]:=o_lu o_m4 (by kernel_rfl)
theorem o_m6:Eqn Tryz.prog o_h5 [.d .nilsl] [] (.p 0 0) [⟨111,[.d (.int .i64 0),.d (.bool false),.d .nilsl]⟩]:=o_lu o_m4 (by kernel_rfl)
theorem o_m7:Eqn Tryz.prog o_a5 [.d (.agg (itX 1 0))] [] (.d (.int .i64 0)) []:=o_lu o_m4 (by kernel_rfl)
theorem o_m8:Eqn Tryz.prog o_92 [.d (.agg [.int .i64 0,.int .i64 0,.int .i64 0]),.d (.agg [.int .i64 0,.int .i64 0,.bool false])] [] (.d (.bool false)) []:=o_lu o_m4 (by kernel_rfl)
theorem o_m9:Eqn Tryz.prog o_h8 [.d (.agg [.int .i64 2,.int .i64 1,.int .i64 3]),.p 0 0,.d (.agg [.int .i64 0,.int .i64 0,.bool false]),.d (.agg [.int .i64 0,.int .i64 0,.bool false])] [⟨111,[.d (.int .i64 0),.d (.bool false),.d .nilsl]⟩] (.tup [.d (.agg [.int .i64 0,.int .i64 0,.bool false]),.d (.int .i64 0)]) [⟨111,[.d (.int .i64 0),.d (.bool false),.d .nilsl]⟩]:=o_lu o_m4 (by kernel_rfl)
end
end Go.Proofs.YtpobgdipcbglcaaGreatDoor.Am
