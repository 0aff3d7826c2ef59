/- Parts of the proof: KeE, KeF. -/
import Derived.Test.YtpobgdipcbglcaaGreatDoorPg
set_option linter.unusedVariables false
set_option linter.unusedSimpArgs false
set_option maxRecDepth 100000
namespace Go.Proofs.YtpobgdipcbglcaaGreatDoor.Am
section
open Go.RowKit
def kadC:List V:=[.d (.int .i64 1),.d (.int .i64 2),.d (.int .i64 0),.d (.int .i64 3),.d (.int .i64 1),.d (.int .i64 0),.d (.bool false),.d .nilp,.d .nilp,.d .nilp,.d .nilp,.d (.sl 1 [.int .u64 1]),.d (.bool false),.d (.sl 1 [.int .u64 1]),.d (.int .i64 1),.d (.int .i64 2),.d (.int .i64 0),.d (.int .i64 3),.d (.int .i64 2),.d (.int .i64 0),.d (.bool false),.d .nilp,.d .nilp,.d .nilp,.d .nilp,.d (.sl 1 [.int .u64 1]),.d (.bool false),.d (.sl 1 [.int .u64 1])]
def orA:List (FuncId×List V×V×List Ob):=[(o_b2,[.d (.agg (itX 0 1))],.tup [.own 0 1 7,.d (.int .i64 0)],[⟨5,u8s [18,228,32,225,159,184,44]⟩]),(o_b2,[.d (.agg (itX 0 2))],.tup [.own 0 1 7,.d (.int .i64 0)],[⟨5,u8s [18,228,64,172,45,217,116]⟩]),(o_eq,[.d (.agg [.int .i64 2,.int .i64 0,.int .i64 3]),.d (.agg [.int .i64 1,.int .i64 0,.bool false]),.d (.int .i64 1)],.tup [.own 0 6 2,.d (.int .i64 0)],[⟨154,pofC⟩])]
theorem o_lz:∀e∈orA,EqnD Tryz.prog e.1 e.2.1 [] e.2.2.1 e.2.2.2 []∧V.lowl 0 e.2.1=true:=by
 unfold orA
 simp only [List.forall_mem_cons]
 exact ⟨⟨o_lv,rfl⟩,⟨o_lw,rfl⟩,⟨o_ly,rfl⟩,by simp⟩
theorem o_m0:Eqn Tryz.prog o_eh [.d (.agg (itX 0 1)),.d (.int .i64 0),.d (.int .i64 1)] [] (.tup [.own 0 14 2,.d (.int .i64 0)]) [⟨52,kadC⟩]:=o_lu o_lz (by kernel_rfl)
end
section
open Go.RowKit
def orF:List (FuncId×List V×V×List Ob):=[(o_eh,[.d (.agg (itX 0 1)),.d (.int .i64 0),.d (.int .i64 1)],.tup [.own 0 14 2,.d (.int .i64 0)],[⟨52,kadC⟩])]
theorem o_m1:∀e∈orF,EqnD Tryz.prog e.1 e.2.1 [] e.2.2.1 e.2.2.2 []∧V.lowl 0 e.2.1=true:=by
 unfold orF
 simp only [List.forall_mem_cons]
 exact ⟨⟨o_m0,rfl⟩,by simp⟩
theorem o_m2:Eqn Tryz.prog o_gw [] [] (.d (.bool true)) []:=o_lu o_m1 (by kernel_rfl)
end
end Go.Proofs.YtpobgdipcbglcaaGreatDoor.Am
