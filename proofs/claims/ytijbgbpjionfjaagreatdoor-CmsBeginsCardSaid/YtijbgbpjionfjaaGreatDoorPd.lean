/- Parts of the proof: CodeD1, WordsM, Nat1, Nat2, Nat3, Nat4, Nat5, Nat6, Mul1, Hash1, BitsM, Bits1, Bits2, Bits3, Draw1, Rat1, Text1, Tape1, YuM, DivM. -/
import Derived.Test.YtijbgbpjionfjaaGreatDoorPc
set_option linter.unusedVariables false
set_option linter.unusedSimpArgs false
set_option maxRecDepth 100000
namespace Go.Proofs.YtijbgbpjionfjaaGreatDoor.Am
section
open Go.Proofs.YtijbgbpjionfjaaGreatDoor.Am
/-- (tallymark/chain.aMorris).value -/
abbrev n_chain_aMorris_value : FuncId := 209
def c_chain_aMorris_value : C := (.seq (.reg false [⟨some 4,.new 51 [.nilsl,(.bool false),.nilsl],none,[]⟩,⟨some 5,.mv (.d (.int .i64 0)),none,[]⟩]) (.seq (.reg false [⟨some 6,.mv (.t 0),none,[]⟩,⟨some 7,.mv (.t 1),none,[]⟩,⟨some 8,.call 213 [(.t
  6),(.t 7)],none,[0,1]⟩,⟨some 9,.ext (.t 8) 0,none,[2]⟩,⟨some 10,.ext (.t 8) 1,none,[2]⟩,⟨none,.store 3 (.t 4) (.t 9),none,[3,2,0,1,2,3,4]⟩,⟨some 5,.mv (.t 10),none,[4,5,0,1,2,3,4,5]⟩]) .ret))
theorem r_chain_aMorris_value : fnOf Tryz.prog n_chain_aMorris_value = some (c_chain_aMorris_value, [.cell 4 true 3, .t 5], 11, false) := by kernel_rfl

/-- tallymark/morris.Good -/
abbrev n_morris_Good : FuncId := 211
def c_morris_Good : C := (.seq (.reg false [⟨some 2,.mv (.d (.bool false)),none,[]⟩]) (.seq (.reg false [⟨some 3,.mv (.t 0),none,[]⟩,⟨some 4,.bin .geq (.t 3) (.d (.int .i64 1)),none,[0]⟩,⟨some 5,.mv (.t 4),none,[1]⟩,⟨some 6,.mv (.t 0),some
  (5,true),[2]⟩,⟨some 7,.bin .leq (.t 6) (.d (.int .i64 4096)),some (5,true),[3,2]⟩,⟨some 8,.pick (.t 5) (.t 7) (.d (.bool false)),none,[2,4]⟩,⟨some 2,.mv (.t 8),none,[5,2,0,1,2,3,4,5]⟩]) .ret))
theorem r_morris_Good : fnOf Tryz.prog n_morris_Good = some (c_morris_Good, [.t 2], 9, false) := by kernel_rfl

/-- tallymark/morris.Step -/
abbrev n_morris_Step : FuncId := 212
def c_morris_Step : C := (.seq (.reg false [⟨some 6,.mv (.d (.bool false)),none,[]⟩,⟨some 7,.mv (.d (.int .i64 0)),none,[0]⟩]) (.seq (.seq (.reg false [⟨some 9,.mv (.t 1),none,[]⟩,⟨some 10,.mv (.t 2),none,[]⟩,⟨some 11,.bsl 3 1 1 [(.int .i64 0)]
  [(0,1,(.t 10))],none,[1]⟩,⟨some 12,.call 214 [(.t 9),(.t 11)],none,[0,2]⟩,⟨some 8,.mv (.t 12),none,[3,3,0,1,2,3]⟩]) (.seq (.reg false [⟨some 13,.mv (.t 8),none,[]⟩,⟨some 14,.bin .neq (.t 13) (.d (.int .i64
  0)),none,[0]⟩]) (.cond (.t 14) (.seq (.reg false [⟨some 15,.mv (.t 8),none,[]⟩,⟨some 6,.mv (.d (.bool false)),none,[]⟩,⟨some 7,.mv (.t 15),none,[0,1,0,1]⟩]) .ret) .skip))) (.seq (.reg false [⟨some 16,.mv (.t
  0),none,[]⟩,⟨some 17,.mv (.t 1),none,[]⟩,⟨some 18,.mv (.t 2),none,[]⟩,⟨some 19,.call 215 [(.t 16),(.t 17),(.t 18)],none,[0,1,2]⟩,⟨some 20,.ext (.t 19) 0,none,[3]⟩,⟨some 21,.ext (.t 19) 1,none,[3]⟩,⟨some 6,.mv (.t
  20),none,[4,3,0,1,2,3,4,5]⟩,⟨some 7,.mv (.t 21),none,[5,6,0,1,2,3,4,5,6]⟩]) .ret)))
theorem r_morris_Step : fnOf Tryz.prog n_morris_Step = some (c_morris_Step, [.t 6, .t 7], 22, false) := by kernel_rfl

/-- tallymark/morris.Value -/
abbrev n_morris_Value : FuncId := 213
def c_morris_Value : C := (.seq (.reg false [⟨some 4,.new 51 [.nilsl,(.bool false),.nilsl],none,[]⟩,⟨some 5,.mv (.d (.int .i64 0)),none,[]⟩]) (.seq (.seq (.reg false [⟨some 11,.mv (.t 0),none,[]⟩,⟨some 12,.mv (.t 1),none,[]⟩,⟨some 13,.bsl 3 1 1
  [(.int .i64 0)] [(0,1,(.t 12))],none,[1]⟩,⟨some 14,.call 214 [(.t 11),(.t 13)],none,[0,2]⟩,⟨some 6,.mv (.t 14),none,[3,3,0,1,2,3]⟩]) (.seq (.reg false [⟨some 15,.mv (.t 6),none,[]⟩,⟨some 16,.bin .neq (.t 15) (.d (.int
  .i64 0)),none,[0]⟩]) (.cond (.t 16) (.seq (.reg false [⟨some 17,.build [.nilsl,(.bool false),.nilsl] [],none,[]⟩,⟨some 18,.mv (.t 6),none,[]⟩,⟨none,.store 3 (.t 4) (.t 17),none,[0,0]⟩,⟨some 5,.mv (.t
  18),none,[1,2,0,1,2]⟩]) .ret) .skip))) (.seq (.reg false [⟨some 20,.mv (.t 0),none,[]⟩,⟨some 21,.bin .add (.t 20) (.d (.int .i64 1)),none,[0]⟩,⟨some 22,.mv (.t 0),none,[]⟩,⟨some 23,.call 216 [(.t 21),(.t
  22)],none,[1,2]⟩,⟨some 19,.mv (.t 23),none,[3]⟩,⟨some 24,.ext (.t 19) 0,none,[4]⟩,⟨some 25,.ext (.t 19) 1,none,[4]⟩,⟨some 7,.new 51 [.nilsl,(.bool false),.nilsl],none,[]⟩,⟨none,.store 3 (.t 7) (.t
  24),none,[7,5,3,0,1,2,3,4,5,7]⟩,⟨some 8,.mv (.t 25),none,[6,8,0,1,2,3,4,5,6,7,8]⟩]) (.seq (.reg false [⟨some 27,.load true 3 (.t 7),none,[]⟩,⟨some 28,.mv (.t 1),none,[]⟩,⟨some 29,.call 217 [(.t 27),(.t
  28)],none,[0,1]⟩,⟨some 26,.mv (.t 29),none,[2]⟩,⟨some 30,.ext (.t 26) 0,none,[3]⟩,⟨some 31,.ext (.t 26) 1,none,[3]⟩,⟨some 9,.new 51 [.nilsl,(.bool false),.nilsl],none,[]⟩,⟨none,.store 3 (.t 9) (.t
  30),none,[6,4,2,0,1,2,3,4,6]⟩,⟨some 10,.mv (.t 31),none,[5,7,0,1,2,3,4,5,6,7]⟩]) (.seq (.seq (.reg false [⟨some 32,.mv (.t 10),none,[]⟩,⟨some 33,.bin .neq (.t 32) (.d (.int .i64 0)),none,[0]⟩]) (.cond (.t 33) (.seq
  (.reg false [⟨some 34,.build [.nilsl,(.bool false),.nilsl] [],none,[]⟩,⟨some 35,.mv (.t 10),none,[]⟩,⟨none,.store 3 (.t 4) (.t 34),none,[0,0]⟩,⟨some 5,.mv (.t 35),none,[1,2,0,1,2]⟩]) .ret) .skip)) (.seq (.reg true
  [⟨some 36,.mv (.t 0),none,[]⟩,⟨some 37,.call 19 [(.t 36)],none,[0]⟩,⟨some 38,.load true 3 (.t 9),none,[]⟩,⟨some 39,.call 19 [(.d (.int .i64 1))],none,[1]⟩,⟨some 40,.call 219 [(.t 38),(.t 39)],none,[2,3,3]⟩,⟨some
  41,.call 218 [(.t 37),(.t 40)],none,[1,4,4]⟩,⟨none,.store 3 (.t 4) (.t 41),none,[5,5,0,1,2,3,4,5]⟩,⟨some 5,.mv (.d (.int .i64 0)),none,[6,0,1,2,3,4,5,6]⟩]) .ret))))))
theorem r_morris_Value : fnOf Tryz.prog n_morris_Value = some (c_morris_Value, [.cell 4 true 3, .t 5], 42, false) := by kernel_rfl

/-- tallymark/morris.wrong -/
abbrev n_morris_wrong : FuncId := 214
def c_morris_wrong : C := (.seq (.reg false [⟨some 4,.mv (.d (.int .i64 0)),none,[]⟩]) (.seq (.seq (.reg false [⟨some 7,.mv (.t 0),none,[]⟩,⟨some 8,.call 211 [(.t 7)],none,[0]⟩,⟨some 9,.un .not (.t 8),none,[1]⟩]) (.cond (.t 9) (.seq (.reg false
  [⟨some 4,.mv (.d (.int .i64 10)),none,[]⟩]) .ret) .skip)) (.seq (.seq (.reg false [⟨some 10,.mv (.t 1),none,[]⟩,⟨some 11,.len (.t 10),none,[0]⟩,⟨some 12,.mv (.d (.int .i64 0)),none,[]⟩]) (.block 0 (.loop (.seq (.reg
  false [⟨some 13,.bin .lss (.t 12) (.t 11),none,[]⟩]) (.seq (.cond (.t 13) .skip (.exit 0)) (.seq (.block 1 (.seq (.reg false [⟨some 14,.ix 1 (.t 10) (.t 12),none,[]⟩,⟨some 15,.load false 1 (.t 14),none,[0]⟩,⟨some 6,.mv
  (.t 15),none,[1,0,1]⟩]) (.seq (.reg false [⟨some 16,.mv (.t 6),none,[]⟩,⟨some 17,.bin .lss (.t 16) (.d (.int .i64 0)),none,[0]⟩,⟨some 18,.mv (.t 17),none,[1]⟩,⟨some 19,.mv (.t 6),some (18,false),[2]⟩,⟨some 20,.bin .gtr
  (.t 19) (.d (.int .i64 1023)),some (18,false),[3,2]⟩,⟨some 21,.pick (.t 18) (.d (.bool true)) (.t 20),none,[2,4]⟩]) (.cond (.t 21) (.seq (.reg false [⟨some 4,.mv (.d (.int .i64 2)),none,[]⟩]) .ret) .skip)))) (.reg false
  [⟨some 22,.bin .add (.t 12) (.d (.int .i64 1)),none,[]⟩,⟨some 12,.mv (.t 22),none,[0]⟩]))))))) (.seq (.reg false [⟨some 4,.mv (.d (.int .i64 0)),none,[]⟩]) .ret))))
theorem r_morris_wrong : fnOf Tryz.prog n_morris_wrong = some (c_morris_wrong, [.t 4], 23, false) := by kernel_rfl

/-- tallymark/morris.power -/
abbrev n_morris_power : FuncId := 215
def c_morris_power : C := (.seq (.reg false [⟨some 6,.mv (.d (.bool false)),none,[]⟩,⟨some 7,.mv (.d (.int .i64 0)),none,[0]⟩]) (.seq (.reg false [⟨some 8,.mv (.t 0),none,[]⟩,⟨some 9,.mv (.t 1),none,[]⟩,⟨some 10,.conv .u64 (.t 9),none,[1]⟩,⟨some
  11,.bsl 28 1 1 [(.int .u64 0)] [(0,1,(.t 10))],none,[2]⟩,⟨some 12,.call 108 [(.t 11)],none,[3]⟩,⟨some 13,.mv (.t 1),none,[]⟩,⟨some 14,.bin .add (.t 13) (.d (.int .i64 1)),none,[5]⟩,⟨some 15,.conv .u64 (.t
  14),none,[6]⟩,⟨some 16,.bsl 28 1 1 [(.int .u64 0)] [(0,1,(.t 15))],none,[7]⟩,⟨some 17,.call 108 [(.t 16)],none,[8,4]⟩,⟨some 18,.mv (.t 2),none,[]⟩,⟨some 19,.call 220 [(.t 8),(.t 12),(.t 17),(.t
  18)],none,[0,4,9,10,9]⟩,⟨some 20,.ext (.t 19) 0,none,[11]⟩,⟨some 21,.ext (.t 19) 1,none,[11]⟩,⟨some 6,.mv (.t 20),none,[12,11,0,1,2,3,4,5,6,7,8,9,10,11,12,13]⟩,⟨some 7,.mv (.t
  21),none,[13,14,0,1,2,3,4,5,6,7,8,9,10,11,12,13,14]⟩]) .ret))
theorem r_morris_power : fnOf Tryz.prog n_morris_power = some (c_morris_power, [.t 6, .t 7], 22, false) := by kernel_rfl

/-- tallymark/rat.Make -/
abbrev n_rat_Make : FuncId := 216
def c_rat_Make : C := (.seq (.reg false [⟨some 4,.new 51 [.nilsl,(.bool false),.nilsl],none,[]⟩,⟨some 5,.mv (.d (.int .i64 0)),none,[]⟩]) (.seq (.reg false [⟨some 6,.mv (.t 0),none,[]⟩,⟨some 7,.call 57 [(.t 6)],none,[0]⟩,⟨some 8,.mv (.t
  1),none,[]⟩,⟨some 9,.call 57 [(.t 8)],none,[2,1]⟩,⟨some 10,.call 221 [(.t 7),(.t 9)],none,[1,3,3]⟩,⟨some 11,.ext (.t 10) 0,none,[4]⟩,⟨some 12,.ext (.t 10) 1,none,[4]⟩,⟨none,.store 3 (.t 4) (.t
  11),none,[5,4,0,1,2,3,4,5,6]⟩,⟨some 5,.mv (.t 12),none,[6,7,0,1,2,3,4,5,6,7]⟩]) .ret))
theorem r_rat_Make : fnOf Tryz.prog n_rat_Make = some (c_rat_Make, [.cell 4 true 3, .t 5], 13, false) := by kernel_rfl

/-- tallymark/rat.Pow -/
abbrev n_rat_Pow : FuncId := 217
def c_rat_Pow : C := (.seq (.reg false [⟨some 2,.box 51 (.t 0),none,[]⟩,⟨some 4,.new 51 [.nilsl,(.bool false),.nilsl],none,[]⟩,⟨some 5,.mv (.d (.int .i64 0)),none,[]⟩]) (.seq (.reg false [⟨some 10,.fa 0 (.t 2),none,[]⟩,⟨some 11,.load true 2
  (.t 10),none,[0]⟩,⟨some 12,.call 223 [(.t 11)],none,[1]⟩,⟨some 13,.mv (.t 1),none,[]⟩,⟨some 14,.call 222 [(.t 12),(.t 13)],none,[2,3,2]⟩,⟨some 9,.mv (.t 14),none,[4]⟩,⟨some 15,.ext (.t 9) 0,none,[5]⟩,⟨some 16,.ext (.t
  9) 1,none,[5]⟩,⟨some 6,.new 47 [.nilsl],none,[]⟩,⟨none,.store 1 (.t 6) (.t 15),none,[8,6,4,0,1,2,3,4,5,6,8]⟩,⟨some 7,.mv (.t 16),none,[7,9,0,1,2,3,4,5,6,7,8,9]⟩]) (.seq (.seq (.reg false [⟨some 17,.mv (.t
  7),none,[]⟩,⟨some 18,.bin .neq (.t 17) (.d (.int .i64 0)),none,[0]⟩]) (.cond (.t 18) (.seq (.reg false [⟨some 19,.build [.nilsl,(.bool false),.nilsl] [],none,[]⟩,⟨some 20,.mv (.t 7),none,[]⟩,⟨none,.store 3 (.t 4) (.t
  19),none,[0,0]⟩,⟨some 5,.mv (.t 20),none,[1,2,0,1,2]⟩]) .ret) .skip)) (.seq (.reg false [⟨some 22,.load true 3 (.t 2),none,[]⟩,⟨some 23,.call 60 [(.t 22)],none,[0]⟩,⟨some 24,.mv (.t 1),none,[]⟩,⟨some 25,.call 222 [(.t
  23),(.t 24)],none,[1,2,1]⟩,⟨some 21,.mv (.t 25),none,[3]⟩,⟨some 26,.ext (.t 21) 0,none,[4]⟩,⟨some 27,.ext (.t 21) 1,none,[4]⟩,⟨some 8,.new 47 [.nilsl],none,[]⟩,⟨none,.store 1 (.t 8) (.t
  26),none,[7,5,3,0,1,2,3,4,5,7]⟩,⟨some 7,.mv (.t 27),none,[6,8,0,1,2,3,4,5,6,7,8]⟩]) (.seq (.seq (.reg false [⟨some 28,.mv (.t 7),none,[]⟩,⟨some 29,.bin .neq (.t 28) (.d (.int .i64 0)),none,[0]⟩]) (.cond (.t 29) (.seq
  (.reg false [⟨some 30,.build [.nilsl,(.bool false),.nilsl] [],none,[]⟩,⟨some 31,.mv (.t 7),none,[]⟩,⟨none,.store 3 (.t 4) (.t 30),none,[0,0]⟩,⟨some 5,.mv (.t 31),none,[1,2,0,1,2]⟩]) .ret) .skip)) (.seq (.reg true [⟨some
  32,.fa 0 (.t 2),none,[]⟩,⟨some 33,.load true 2 (.t 32),none,[0]⟩,⟨some 34,.call 202 [(.t 33)],none,[1]⟩,⟨some 35,.mv (.t 34),none,[2,2]⟩,⟨some 36,.mv (.t 1),some (35,true),[3]⟩,⟨some 37,.bin .and (.t 36) (.d (.int .i64
  1)),some (35,true),[4,3]⟩,⟨some 38,.bin .eql (.t 37) (.d (.int .i64 1)),some (35,true),[5,3]⟩,⟨some 39,.pick (.t 35) (.t 38) (.d (.bool false)),none,[3,6]⟩,⟨some 40,.load true 1 (.t 6),none,[]⟩,⟨some 41,.call 106 [(.t
  39),(.t 40)],none,[7,8,3]⟩,⟨some 42,.load true 1 (.t 8),none,[]⟩,⟨some 43,.call 224 [(.t 41),(.t 42)],none,[9,10,9]⟩,⟨none,.store 3 (.t 4) (.t 43),none,[11,11,0,1,2,3,4,5,6,7,8,9,10,11]⟩,⟨some 5,.mv (.d (.int .i64
  0)),none,[12,0,1,2,3,4,5,6,7,8,9,10,11,12]⟩]) .ret))))))
theorem r_rat_Pow : fnOf Tryz.prog n_rat_Pow = some (c_rat_Pow, [.cell 4 true 3, .t 5], 44, false) := by kernel_rfl

/-- tallymark/rat.Mul -/
abbrev n_rat_Mul : FuncId := 218
def c_rat_Mul : C := (.seq (.reg false [⟨some 2,.box 51 (.t 0),none,[]⟩,⟨some 3,.box 51 (.t 1),none,[]⟩,⟨some 4,.new 51 [.nilsl,(.bool false),.nilsl],none,[]⟩]) (.seq (.reg true [⟨some 5,.fa 0 (.t 2),none,[]⟩,⟨some 6,.load true 2 (.t
  5),none,[0]⟩,⟨some 7,.fa 0 (.t 3),none,[]⟩,⟨some 8,.load true 2 (.t 7),none,[2]⟩,⟨some 9,.call 55 [(.t 6),(.t 8)],none,[1,3]⟩,⟨some 10,.load true 3 (.t 2),none,[]⟩,⟨some 11,.call 60 [(.t 10)],none,[5,4]⟩,⟨some 12,.load
  true 3 (.t 3),none,[]⟩,⟨some 13,.call 60 [(.t 12)],none,[7,6]⟩,⟨some 14,.call 107 [(.t 11),(.t 13)],none,[6,8,8]⟩,⟨some 15,.call 224 [(.t 9),(.t 14)],none,[4,9,9]⟩,⟨none,.store 3 (.t 4) (.t
  15),none,[10,10,0,1,2,3,4,5,6,7,8,9,10]⟩]) .ret))
theorem r_rat_Mul : fnOf Tryz.prog n_rat_Mul = some (c_rat_Mul, [.cell 4 true 3], 16, false) := by kernel_rfl

/-- tallymark/rat.Sub -/
abbrev n_rat_Sub : FuncId := 219
def c_rat_Sub : C := (.seq (.reg false [⟨some 2,.box 51 (.t 0),none,[]⟩,⟨some 3,.box 51 (.t 1),none,[]⟩,⟨some 4,.new 51 [.nilsl,(.bool false),.nilsl],none,[]⟩]) (.seq (.reg true [⟨some 5,.load true 3 (.t 2),none,[]⟩,⟨some 6,.fa 0 (.t
  3),none,[]⟩,⟨some 7,.load true 2 (.t 6),none,[1]⟩,⟨some 8,.call 226 [(.t 7)],none,[2]⟩,⟨some 9,.fa 2 (.t 3),none,[]⟩,⟨some 10,.load true 1 (.t 9),none,[4]⟩,⟨some 11,.build [.nilsl,(.bool false),.nilsl] [(0,2,(.t
  8)),(2,1,(.t 10))],none,[3,5]⟩,⟨some 12,.call 225 [(.t 5),(.t 11)],none,[0,6,3]⟩,⟨none,.store 3 (.t 4) (.t 12),none,[7,7,0,1,2,3,4,5,6,7]⟩]) .ret))
theorem r_rat_Sub : fnOf Tryz.prog n_rat_Sub = some (c_rat_Sub, [.cell 4 true 3], 13, false) := by kernel_rfl

/-- tallymark/flip.Power -/
abbrev n_flip_Power : FuncId := 220
def c_flip_Power : C := (.seq (.reg false [⟨some 5,.box 47 (.t 1),none,[]⟩,⟨some 6,.box 47 (.t 2),none,[]⟩,⟨some 8,.mv (.d (.bool false)),none,[]⟩,⟨some 9,.mv (.d (.int .i64 0)),none,[2]⟩]) (.seq (.seq (.reg false [⟨some 12,.load true 1 (.t
  5),none,[]⟩,⟨some 13,.load true 1 (.t 6),none,[]⟩,⟨some 14,.call 227 [(.t 12),(.t 13)],none,[0,1]⟩,⟨some 15,.un .not (.t 14),none,[2]⟩]) (.cond (.t 15) (.seq (.reg false [⟨some 8,.mv (.d (.bool false)),none,[]⟩,⟨some
  9,.mv (.d (.int .i64 2)),none,[0,0]⟩]) .ret) .skip)) (.seq (.seq (.reg false [⟨some 16,.mv (.t 3),none,[]⟩,⟨some 17,.mm true [(.d (.int .i64 0)),(.t 16)],none,[0]⟩,⟨some 18,.mv (.d (.int .i64 0)),none,[]⟩]) (.block 0
  (.loop (.seq (.reg false [⟨some 19,.bin .lss (.t 18) (.t 17),none,[]⟩]) (.seq (.cond (.t 19) .skip (.exit 0)) (.seq (.block 1 (.seq (.reg false [⟨some 21,.mv (.t 0),none,[]⟩,⟨some 22,.load true 1 (.t 5),none,[]⟩,⟨some
  23,.load true 1 (.t 6),none,[]⟩,⟨some 24,.call 228 [(.t 21),(.t 22),(.t 23)],none,[0,1,2]⟩,⟨some 20,.mv (.t 24),none,[3]⟩,⟨some 25,.ext (.t 20) 0,none,[4]⟩,⟨some 26,.ext (.t 20) 1,none,[4]⟩,⟨some 10,.mv (.t
  25),none,[5,3,0,1,2,3,4,5]⟩,⟨some 11,.mv (.t 26),none,[6,7,0,1,2,3,4,5,6,7]⟩]) (.seq (.reg false [⟨some 27,.mv (.t 10),none,[]⟩,⟨some 28,.un .not (.t 27),none,[0]⟩]) (.cond (.t 28) (.seq (.reg false [⟨some 29,.mv (.t
  11),none,[]⟩,⟨some 8,.mv (.d (.bool false)),none,[]⟩,⟨some 9,.mv (.t 29),none,[0,1,0,1]⟩]) .ret) .skip)))) (.reg false [⟨some 30,.bin .add (.t 18) (.d (.int .i64 1)),none,[]⟩,⟨some 18,.mv (.t 30),none,[0]⟩]))))))) (.seq
  (.reg false [⟨some 8,.mv (.d (.bool true)),none,[]⟩,⟨some 9,.mv (.d (.int .i64 0)),none,[0,0]⟩]) .ret))))
theorem r_flip_Power : fnOf Tryz.prog n_flip_Power = some (c_flip_Power, [.t 8, .t 9], 31, false) := by kernel_rfl

/-- tallymark/rat.Frac -/
abbrev n_rat_Frac : FuncId := 221
def c_rat_Frac : C := (.seq (.reg false [⟨some 2,.box 49 (.t 0),none,[]⟩,⟨some 3,.box 49 (.t 1),none,[]⟩,⟨some 4,.new 51 [.nilsl,(.bool false),.nilsl],none,[]⟩,⟨some 5,.mv (.d (.int .i64 0)),none,[]⟩]) (.seq (.seq (.reg false [⟨some 6,.load
  true 2 (.t 3),none,[]⟩,⟨some 7,.call 223 [(.t 6)],none,[0]⟩,⟨some 8,.call 109 [(.t 7)],none,[1,1]⟩]) (.cond (.t 8) (.seq (.reg false [⟨some 9,.build [.nilsl,(.bool false),.nilsl] [],none,[]⟩,⟨none,.store 3 (.t 4) (.t
  9),none,[0,0]⟩,⟨some 5,.mv (.d (.int .i64 7)),none,[1,0,1]⟩]) .ret) .skip)) (.seq (.reg true [⟨some 10,.load true 2 (.t 2),none,[]⟩,⟨some 11,.call 202 [(.t 10)],none,[0]⟩,⟨some 12,.load true 2 (.t 3),none,[]⟩,⟨some
  13,.call 202 [(.t 12)],none,[2,1]⟩,⟨some 14,.beq true (.t 11) (.t 13),none,[1,3]⟩,⟨some 15,.load true 2 (.t 2),none,[]⟩,⟨some 16,.call 223 [(.t 15)],none,[5,3]⟩,⟨some 17,.call 106 [(.t 14),(.t 16)],none,[4,6,6]⟩,⟨some
  18,.load true 2 (.t 3),none,[]⟩,⟨some 19,.call 223 [(.t 18)],none,[8,7]⟩,⟨some 20,.call 224 [(.t 17),(.t 19)],none,[7,9,9]⟩,⟨none,.store 3 (.t 4) (.t 20),none,[10,10,0,1,2,3,4,5,6,7,8,9,10]⟩,⟨some 5,.mv (.d (.int .i64
  0)),none,[11,0,1,2,3,4,5,6,7,8,9,10,11]⟩]) .ret)))
theorem r_rat_Frac : fnOf Tryz.prog n_rat_Frac = some (c_rat_Frac, [.cell 4 true 3, .t 5], 21, false) := by kernel_rfl

/-- tallymark/nat.Pow -/
abbrev n_nat_Pow : FuncId := 222
def c_nat_Pow : C := (.seq (.reg false [⟨some 2,.box 47 (.t 0),none,[]⟩,⟨some 4,.new 47 [.nilsl],none,[]⟩,⟨some 5,.mv (.d (.int .i64 0)),none,[]⟩]) (.seq (.block 0 (.seq (.reg false [⟨some 8,.mv (.t 1),none,[]⟩,⟨some 9,.bin .lss (.t 8) (.d
  (.int .i64 0)),none,[0]⟩,⟨some 7,.mv (.t 9),none,[1]⟩]) (.cond (.t 7) (.seq (.reg false [⟨some 10,.build [.nilsl] [],none,[]⟩,⟨none,.store 1 (.t 4) (.t 10),none,[0,0]⟩,⟨some 5,.mv (.d (.int .i64 2)),none,[1,0,1]⟩])
  .ret) (.seq (.reg false [⟨some 12,.load true 1 (.t 2),none,[]⟩,⟨some 13,.call 201 [(.t 12)],none,[0]⟩,⟨some 14,.bin .gtr (.t 13) (.d (.int .i64 1)),none,[1]⟩,⟨some 15,.mv (.t 14),none,[2,1]⟩,⟨some 16,.mv (.t 1),some
  (15,true),[3]⟩,⟨some 17,.load true 1 (.t 2),some (15,true),[3]⟩,⟨some 18,.call 201 [(.t 17)],some (15,true),[5,3,3]⟩,⟨some 19,.bin .quo (.d (.int .i64 8192)) (.t 18),some (15,true),[6,3]⟩,⟨some 20,.bin .gtr (.t 16) (.t
  19),some (15,true),[4,7,3]⟩,⟨some 21,.pick (.t 15) (.t 20) (.d (.bool false)),none,[3,8]⟩,⟨some 11,.mv (.t 21),none,[9,6]⟩]) (.cond (.t 11) (.seq (.reg false [⟨some 22,.build [.nilsl] [],none,[]⟩,⟨none,.store 1 (.t 4)
  (.t 22),none,[0,0]⟩,⟨some 5,.mv (.d (.int .i64 3)),none,[1,0,1]⟩]) .ret) .skip))))) (.seq (.reg false [⟨some 23,.bsl 28 1 1 [(.int .u64 0)] [(0,1,(.d (.int .u64 1)))],none,[]⟩,⟨some 24,.call 108 [(.t
  23)],none,[0]⟩,⟨some 6,.new 47 [.nilsl],none,[]⟩,⟨none,.store 1 (.t 6) (.t 24),none,[2,1,1,0,1,2]⟩]) (.seq (.seq (.reg false [⟨some 25,.load true 1 (.t 2),none,[]⟩,⟨some 26,.call 201 [(.t 25)],none,[0]⟩,⟨some 27,.bin
  .leq (.t 26) (.d (.int .i64 1)),none,[1]⟩]) (.cond (.t 27) (.reg false [⟨some 28,.mv (.t 1),none,[]⟩,⟨some 29,.mm false [(.t 28),(.d (.int .i64 1))],none,[0]⟩,⟨some 1,.mv (.t 29),none,[1,0,1]⟩]) .skip)) (.seq (.block 1
  (.loop (.seq (.seq (.reg false [⟨some 30,.mv (.t 1),none,[]⟩,⟨some 31,.bin .gtr (.t 30) (.d (.int .i64 0)),none,[0]⟩]) (.cond (.t 31) .skip (.exit 1))) (.seq (.block 2 (.seq (.seq (.reg false [⟨some 34,.mv (.t
  1),none,[]⟩,⟨some 35,.bin .and (.t 34) (.d (.int .i64 1)),none,[0]⟩,⟨some 36,.bin .eql (.t 35) (.d (.int .i64 1)),none,[1]⟩]) (.cond (.t 36) (.reg false [⟨some 37,.load true 1 (.t 6),none,[]⟩,⟨some 38,.load true 1 (.t
  2),none,[]⟩,⟨some 39,.call 107 [(.t 37),(.t 38)],none,[0,1]⟩,⟨none,.store 1 (.t 6) (.t 39),none,[2,2,0,1,2]⟩]) .skip)) (.reg false [⟨some 40,.load true 1 (.t 2),none,[]⟩,⟨some 41,.load true 1 (.t 2),none,[]⟩,⟨some
  42,.call 107 [(.t 40),(.t 41)],none,[0,1]⟩,⟨none,.store 1 (.t 2) (.t 42),none,[2,2,0,1,2]⟩]))) (.reg false [⟨some 32,.mv (.t 1),none,[]⟩,⟨some 33,.bin .shr (.t 32) (.d (.int .u64 1)),none,[0]⟩,⟨some 1,.mv (.t
  33),none,[1,0,1]⟩]))))) (.seq (.reg false [⟨some 43,.load true 1 (.t 6),none,[]⟩,⟨none,.store 1 (.t 4) (.t 43),none,[0,0]⟩,⟨some 5,.mv (.d (.int .i64 0)),none,[1,0,1]⟩]) .ret))))))
theorem r_nat_Pow : fnOf Tryz.prog n_nat_Pow = some (c_nat_Pow, [.cell 4 true 1, .t 5], 44, false) := by kernel_rfl

/-- (tallymark/whole.Whole).Abs -/
abbrev n_whole_Whole_Abs : FuncId := 223
def c_whole_Whole_Abs : C := (.seq (.reg false [⟨some 1,.box 49 (.t 0),none,[]⟩,⟨some 2,.new 47 [.nilsl],none,[]⟩]) (.seq (.reg false [⟨some 3,.fa 0 (.t 1),none,[]⟩,⟨some 4,.load true 1 (.t 3),none,[0]⟩,⟨none,.store 1 (.t 2) (.t 4),none,[1,0,1]⟩])
  .ret))
theorem r_whole_Whole_Abs : fnOf Tryz.prog n_whole_Whole_Abs = some (c_whole_Whole_Abs, [.cell 2 true 1], 5, false) := by kernel_rfl

/-- tallymark/rat.made -/
abbrev n_rat_made : FuncId := 224
def c_rat_made : C := (.seq (.reg false [⟨some 2,.box 49 (.t 0),none,[]⟩,⟨some 3,.box 47 (.t 1),none,[]⟩,⟨some 4,.new 51 [.nilsl,(.bool false),.nilsl],none,[]⟩]) (.seq (.reg true [⟨some 14,.load true 2 (.t 2),none,[]⟩,⟨some 15,.call 223 [(.t
  14)],none,[0]⟩,⟨some 16,.load true 1 (.t 3),none,[]⟩,⟨some 17,.call 229 [(.t 15),(.t 16)],none,[1,2,1]⟩,⟨some 5,.new 47 [.nilsl],none,[]⟩,⟨none,.store 1 (.t 5) (.t 17),none,[4,3,3,0,1,2,3,4]⟩]) (.seq (.reg true [⟨some
  19,.load true 2 (.t 2),none,[]⟩,⟨some 20,.call 223 [(.t 19)],none,[0]⟩,⟨some 21,.load true 1 (.t 5),none,[]⟩,⟨some 22,.call 230 [(.t 20),(.t 21)],none,[1,2,1]⟩,⟨some 18,.mv (.t 22),none,[3]⟩,⟨some 23,.ext (.t 18)
  0,none,[4]⟩,⟨some 24,.ext (.t 18) 1,none,[4]⟩,⟨some 25,.ext (.t 18) 2,none,[4]⟩,⟨some 6,.new 47 [.nilsl],none,[]⟩,⟨some 7,.new 47 [.nilsl],none,[]⟩,⟨none,.store 1 (.t 6) (.t
  23),none,[8,5,3,0,1,2,3,4,5,8,9]⟩,⟨none,.store 1 (.t 7) (.t 24),none,[9,6,10,0,1,2,3,4,5,6,8,9,10]⟩,⟨some 8,.mv (.t 25),none,[7,11,0,1,2,3,4,5,6,7,8,9,10,11]⟩]) (.seq (.reg false [⟨some 27,.load true 1 (.t
  3),none,[]⟩,⟨some 28,.load true 1 (.t 5),none,[]⟩,⟨some 29,.call 230 [(.t 27),(.t 28)],none,[0,1]⟩,⟨some 26,.mv (.t 29),none,[2]⟩,⟨some 30,.ext (.t 26) 0,none,[3]⟩,⟨some 31,.ext (.t 26) 1,none,[3]⟩,⟨some 32,.ext (.t 26)
  2,none,[3]⟩,⟨some 9,.new 47 [.nilsl],none,[]⟩,⟨some 10,.new 47 [.nilsl],none,[]⟩,⟨none,.store 1 (.t 9) (.t 30),none,[7,4,2,0,1,2,3,4,7,8]⟩,⟨none,.store 1 (.t 10) (.t 31),none,[8,5,9,0,1,2,3,4,5,7,8,9]⟩,⟨some 11,.mv (.t
  32),none,[6,10,0,1,2,3,4,5,6,7,8,9,10]⟩]) (.seq (.reg true [⟨some 34,.load true 1 (.t 9),none,[]⟩,⟨some 35,.bsl 28 1 1 [(.int .u64 0)] [(0,1,(.d (.int .u64 1)))],none,[]⟩,⟨some 36,.call 108 [(.t 35)],none,[1]⟩,⟨some
  37,.call 231 [(.t 34),(.t 36)],none,[0,2,2]⟩,⟨some 33,.mv (.t 37),none,[3]⟩,⟨some 38,.ext (.t 33) 0,none,[4]⟩,⟨some 39,.ext (.t 33) 1,none,[4]⟩,⟨some 12,.new 47 [.nilsl],none,[]⟩,⟨none,.store 1 (.t 12) (.t
  38),none,[7,5,3,0,1,2,3,4,5,7]⟩,⟨some 13,.mv (.t 39),none,[6,8,0,1,2,3,4,5,6,7,8]⟩]) (.seq (.reg true [⟨some 40,.load true 2 (.t 2),none,[]⟩,⟨some 41,.call 202 [(.t 40)],none,[0]⟩,⟨some 42,.load true 1 (.t
  6),none,[]⟩,⟨some 43,.call 106 [(.t 41),(.t 42)],none,[1,2,1]⟩,⟨some 44,.load true 1 (.t 12),none,[]⟩,⟨some 45,.build [.nilsl,(.bool false),.nilsl] [(0,2,(.t 43)),(2,1,(.t 44))],none,[3,4]⟩,⟨none,.store 3 (.t 4) (.t
  45),none,[5,3,0,1,2,3,4,5]⟩]) .ret))))))
theorem r_rat_made : fnOf Tryz.prog n_rat_made = some (c_rat_made, [.cell 4 true 3], 46, false) := by kernel_rfl

/-- tallymark/rat.Add -/
abbrev n_rat_Add : FuncId := 225
def c_rat_Add : C := (.seq (.reg false [⟨some 2,.box 51 (.t 0),none,[]⟩,⟨some 3,.box 51 (.t 1),none,[]⟩,⟨some 4,.new 51 [.nilsl,(.bool false),.nilsl],none,[]⟩]) (.seq (.reg true [⟨some 5,.fa 0 (.t 2),none,[]⟩,⟨some 6,.load true 2 (.t
  5),none,[0]⟩,⟨some 7,.load true 3 (.t 3),none,[]⟩,⟨some 8,.call 56 [(.t 7)],none,[2]⟩,⟨some 9,.call 55 [(.t 6),(.t 8)],none,[1,3,3]⟩,⟨some 10,.fa 0 (.t 3),none,[]⟩,⟨some 11,.load true 2 (.t 10),none,[5]⟩,⟨some 12,.load
  true 3 (.t 2),none,[]⟩,⟨some 13,.call 56 [(.t 12)],none,[7,4]⟩,⟨some 14,.call 55 [(.t 11),(.t 13)],none,[6,8,8]⟩,⟨some 15,.call 232 [(.t 9),(.t 14)],none,[4,9,9]⟩,⟨some 16,.load true 3 (.t 2),none,[]⟩,⟨some 17,.call 60
  [(.t 16)],none,[11,10]⟩,⟨some 18,.load true 3 (.t 3),none,[]⟩,⟨some 19,.call 60 [(.t 18)],none,[13,12]⟩,⟨some 20,.call 107 [(.t 17),(.t 19)],none,[12,14,14]⟩,⟨some 21,.call 224 [(.t 15),(.t
  20)],none,[10,15,15]⟩,⟨none,.store 3 (.t 4) (.t 21),none,[16,16,0,1,2,3,4,5,6,7,8,9,10,11,12,13,14,15,16]⟩]) .ret))
theorem r_rat_Add : fnOf Tryz.prog n_rat_Add = some (c_rat_Add, [.cell 4 true 3], 22, false) := by kernel_rfl

/-- tallymark/whole.Minus -/
abbrev n_whole_Minus : FuncId := 226
def c_whole_Minus : C := (.seq (.reg false [⟨some 1,.box 49 (.t 0),none,[]⟩,⟨some 2,.new 49 [.nilsl,(.bool false)],none,[]⟩]) (.seq (.reg false [⟨some 3,.fa 1 (.t 1),none,[]⟩,⟨some 4,.load false 1 (.t 3),none,[0]⟩,⟨some 5,.un .not (.t
  4),none,[1]⟩,⟨some 6,.fa 0 (.t 1),none,[]⟩,⟨some 7,.load true 1 (.t 6),none,[3]⟩,⟨some 8,.call 106 [(.t 5),(.t 7)],none,[2,4]⟩,⟨none,.store 2 (.t 2) (.t 8),none,[5,5,0,1,2,3,4,5]⟩]) .ret))
theorem r_whole_Minus : fnOf Tryz.prog n_whole_Minus = some (c_whole_Minus, [.cell 2 true 2], 9, false) := by kernel_rfl

/-- tallymark/flip.good -/
abbrev n_flip_good : FuncId := 227
def c_flip_good : C := (.seq (.reg false [⟨some 2,.box 47 (.t 0),none,[]⟩,⟨some 3,.box 47 (.t 1),none,[]⟩,⟨some 4,.mv (.d (.bool false)),none,[]⟩]) (.seq (.reg false [⟨some 5,.load true 1 (.t 3),none,[]⟩,⟨some 6,.call 109 [(.t
  5)],none,[0]⟩,⟨some 7,.un .not (.t 6),none,[1]⟩,⟨some 8,.mv (.t 7),none,[2,1]⟩,⟨some 9,.load true 1 (.t 2),some (8,true),[3]⟩,⟨some 10,.load true 1 (.t 3),some (8,true),[3]⟩,⟨some 11,.call 105 [(.t 9),(.t 10)],some
  (8,true),[4,5,3,3]⟩,⟨some 12,.bin .leq (.t 11) (.d (.int .i64 0)),some (8,true),[6,3]⟩,⟨some 13,.pick (.t 8) (.t 12) (.d (.bool false)),none,[3,7]⟩,⟨some 4,.mv (.t 13),none,[8,6,0,1,2,3,4,5,6,7,8]⟩]) .ret))
theorem r_flip_good : fnOf Tryz.prog n_flip_good = some (c_flip_good, [.t 4], 14, false) := by kernel_rfl

/-- tallymark/flip.Ratio -/
abbrev n_flip_Ratio : FuncId := 228
def c_flip_Ratio : C := (.seq (.reg false [⟨some 4,.box 47 (.t 1),none,[]⟩,⟨some 5,.box 47 (.t 2),none,[]⟩,⟨some 6,.mv (.d (.bool false)),none,[]⟩,⟨some 7,.mv (.d (.int .i64 0)),none,[2]⟩]) (.seq (.block 0 (.seq (.reg false [⟨some 15,.load
  true 1 (.t 4),none,[]⟩,⟨some 16,.load true 1 (.t 5),none,[]⟩,⟨some 17,.call 227 [(.t 15),(.t 16)],none,[0,1]⟩,⟨some 18,.un .not (.t 17),none,[2]⟩,⟨some 14,.mv (.t 18),none,[3,2]⟩]) (.cond (.t 14) (.seq (.reg false
  [⟨some 6,.mv (.d (.bool false)),none,[]⟩,⟨some 7,.mv (.d (.int .i64 2)),none,[0,0]⟩]) .ret) (.seq (.reg false [⟨some 20,.load true 1 (.t 4),none,[]⟩,⟨some 21,.call 109 [(.t 20)],none,[0]⟩,⟨some 19,.mv (.t
  21),none,[1,1]⟩]) (.cond (.t 19) (.seq (.reg false [⟨some 6,.mv (.d (.bool false)),none,[]⟩,⟨some 7,.mv (.d (.int .i64 0)),none,[0,0]⟩]) .ret) .skip))))) (.seq (.seq (.reg false [⟨some 22,.load true 1 (.t
  4),none,[]⟩,⟨some 8,.new 47 [.nilsl],none,[]⟩,⟨none,.store 1 (.t 8) (.t 22),none,[1,0,0,1]⟩]) (.block 1 (.loop (.seq (.seq (.reg false [⟨some 23,.load true 1 (.t 8),none,[]⟩,⟨some 24,.load true 1 (.t 5),none,[]⟩,⟨some
  25,.call 105 [(.t 23),(.t 24)],none,[0,1]⟩,⟨some 26,.bin .lss (.t 25) (.d (.int .i64 0)),none,[2]⟩]) (.cond (.t 26) .skip (.exit 1))) (.seq (.block 2 (.seq (.reg false [⟨some 28,.mv (.t 0),none,[]⟩,⟨some 29,.call 131
  [(.t 28)],none,[0]⟩,⟨some 27,.mv (.t 29),none,[1]⟩,⟨some 30,.ext (.t 27) 0,none,[2]⟩,⟨some 31,.ext (.t 27) 1,none,[2]⟩,⟨some 9,.mv (.t 30),none,[3,1,0,1,2,3]⟩,⟨some 10,.mv (.t 31),none,[4,5,0,1,2,3,4,5]⟩]) (.seq (.seq
  (.reg false [⟨some 32,.mv (.t 10),none,[]⟩,⟨some 33,.bin .neq (.t 32) (.d (.int .i64 0)),none,[0]⟩]) (.cond (.t 33) (.seq (.reg false [⟨some 34,.mv (.t 10),none,[]⟩,⟨some 6,.mv (.d (.bool false)),none,[]⟩,⟨some 7,.mv
  (.t 34),none,[0,1,0,1]⟩]) .ret) .skip)) (.seq (.reg false [⟨some 35,.load true 1 (.t 8),none,[]⟩,⟨some 36,.load true 1 (.t 8),none,[]⟩,⟨some 37,.call 110 [(.t 35),(.t 36)],none,[0,1]⟩,⟨none,.store 1 (.t 8) (.t
  37),none,[2,2,0,1,2]⟩]) (.seq (.reg false [⟨some 39,.load true 1 (.t 8),none,[]⟩,⟨some 40,.load true 1 (.t 5),none,[]⟩,⟨some 41,.call 231 [(.t 39),(.t 40)],none,[0,1]⟩,⟨some 38,.mv (.t 41),none,[2]⟩,⟨some 42,.ext (.t
  38) 0,none,[3]⟩,⟨some 43,.ext (.t 38) 1,none,[3]⟩,⟨some 11,.new 47 [.nilsl],none,[]⟩,⟨none,.store 1 (.t 11) (.t 42),none,[6,4,2,0,1,2,3,4,6]⟩,⟨some 12,.mv (.t 43),none,[5,7,0,1,2,3,4,5,6,7]⟩]) (.seq (.reg false [⟨some
  44,.mv (.t 12),none,[]⟩,⟨some 45,.bin .eql (.t 44) (.d (.int .i64 0)),none,[0]⟩,⟨some 13,.mv (.t 45),none,[1,0,1]⟩]) (.seq (.seq (.reg false [⟨some 46,.mv (.t 13),none,[]⟩]) (.cond (.t 46) (.reg false [⟨some 47,.load
  true 1 (.t 11),none,[]⟩,⟨none,.store 1 (.t 8) (.t 47),none,[0,0]⟩]) .skip)) (.seq (.reg false [⟨some 48,.mv (.t 9),none,[]⟩,⟨some 49,.mv (.t 13),none,[]⟩,⟨some 50,.beq true (.t 48) (.t 49),none,[0,1]⟩,⟨some 51,.mv (.t
  50),none,[2]⟩,⟨some 52,.load true 1 (.t 8),some (51,false),[3]⟩,⟨some 53,.call 109 [(.t 52)],some (51,false),[4,3,3]⟩,⟨some 54,.pick (.t 51) (.d (.bool true)) (.t 53),none,[3,5]⟩]) (.cond (.t 54) (.seq (.reg false
  [⟨some 55,.mv (.t 13),none,[]⟩,⟨some 56,.mv (.t 55),none,[0]⟩,⟨some 57,.mv (.t 9),some (56,true),[1]⟩,⟨some 58,.un .not (.t 57),some (56,true),[2,1]⟩,⟨some 59,.pick (.t 56) (.t 58) (.d (.bool false)),none,[1,3]⟩,⟨some
  6,.mv (.t 59),none,[4,1,0,1,2,3,4]⟩,⟨some 7,.mv (.d (.int .i64 0)),none,[5,0,1,2,3,4,5]⟩]) .ret) .skip))))))))) (.seq (.reg false [⟨some 60,.load true 1 (.t 8),none,[]⟩]) (.reg false [⟨some 8,.new 47
  [.nilsl],none,[]⟩,⟨none,.store 1 (.t 8) (.t 60),none,[0,0]⟩]))))))) (.seq (.reg false [⟨some 6,.mv (.d (.bool true)),none,[]⟩,⟨some 7,.mv (.d (.int .i64 0)),none,[0,0]⟩]) .ret))))
theorem r_flip_Ratio : fnOf Tryz.prog n_flip_Ratio = some (c_flip_Ratio, [.t 6, .t 7], 61, false) := by kernel_rfl

/-- tallymark/nat.Gcd -/
abbrev n_nat_Gcd : FuncId := 229
def c_nat_Gcd : C := (.seq (.reg false [⟨some 2,.box 47 (.t 0),none,[]⟩,⟨some 3,.box 47 (.t 1),none,[]⟩,⟨some 4,.new 47 [.nilsl],none,[]⟩]) (.seq (.block 0 (.loop (.seq (.seq (.reg false [⟨some 8,.load true 1 (.t 3),none,[]⟩,⟨some 9,.call
  109 [(.t 8)],none,[0]⟩,⟨some 10,.un .not (.t 9),none,[1]⟩]) (.cond (.t 10) .skip (.exit 0))) (.block 1 (.seq (.reg false [⟨some 12,.load true 1 (.t 2),none,[]⟩,⟨some 13,.load true 1 (.t 3),none,[]⟩,⟨some 14,.call 230
  [(.t 12),(.t 13)],none,[0,1]⟩,⟨some 11,.mv (.t 14),none,[2]⟩,⟨some 15,.ext (.t 11) 0,none,[3]⟩,⟨some 16,.ext (.t 11) 1,none,[3]⟩,⟨some 17,.ext (.t 11) 2,none,[3]⟩,⟨some 5,.new 47 [.nilsl],none,[]⟩,⟨some 6,.new 47
  [.nilsl],none,[]⟩,⟨none,.store 1 (.t 5) (.t 15),none,[7,4,2,0,1,2,3,4,7,8]⟩,⟨none,.store 1 (.t 6) (.t 16),none,[8,5,9,0,1,2,3,4,5,7,8,9]⟩,⟨some 7,.mv (.t 17),none,[6,10,0,1,2,3,4,5,6,7,8,9,10]⟩]) (.reg true [⟨some
  18,.load true 1 (.t 3),none,[]⟩,⟨some 19,.load true 1 (.t 6),none,[]⟩,⟨none,.store 1 (.t 2) (.t 18),none,[0,0]⟩,⟨none,.store 1 (.t 3) (.t 19),none,[1,2,0,1,2]⟩])))))) (.seq (.reg false [⟨some 20,.fa 0 (.t
  2),none,[]⟩,⟨some 21,.load false 1 (.t 20),none,[0]⟩,⟨some 22,.call 108 [(.t 21)],none,[1]⟩,⟨none,.store 1 (.t 4) (.t 22),none,[2,2,0,1,2]⟩]) .ret)))
theorem r_nat_Gcd : fnOf Tryz.prog n_nat_Gcd = some (c_nat_Gcd, [.cell 4 true 1], 23, false) := by kernel_rfl

/-- tallymark/nat.DivMod -/
abbrev n_nat_DivMod : FuncId := 230
def c_nat_DivMod : C := (.seq (.reg false [⟨some 2,.box 47 (.t 0),none,[]⟩,⟨some 3,.box 47 (.t 1),none,[]⟩,⟨some 4,.new 47 [.nilsl],none,[]⟩,⟨some 5,.new 47 [.nilsl],none,[]⟩,⟨some 6,.mv (.d (.int .i64 0)),none,[]⟩]) (.seq (.block 0 (.seq
  (.reg false [⟨some 10,.load true 1 (.t 3),none,[]⟩,⟨some 11,.call 109 [(.t 10)],none,[0]⟩,⟨some 9,.mv (.t 11),none,[1,1]⟩]) (.cond (.t 9) (.seq (.reg false [⟨some 12,.build [.nilsl] [],none,[]⟩,⟨some 13,.build [.nilsl]
  [],none,[]⟩,⟨none,.store 1 (.t 4) (.t 12),none,[0,0]⟩,⟨none,.store 1 (.t 5) (.t 13),none,[1,2,0,1,2]⟩,⟨some 6,.mv (.d (.int .i64 7)),none,[3,0,1,2,3]⟩]) .ret) (.seq (.reg false [⟨some 15,.load true 1 (.t
  2),none,[]⟩,⟨some 16,.load true 1 (.t 3),none,[]⟩,⟨some 17,.call 105 [(.t 15),(.t 16)],none,[0,1]⟩,⟨some 18,.bin .lss (.t 17) (.d (.int .i64 0)),none,[2]⟩,⟨some 14,.mv (.t 18),none,[3,2]⟩]) (.cond (.t 14) (.seq (.reg
  false [⟨some 19,.build [.nilsl] [],none,[]⟩,⟨some 20,.fa 0 (.t 2),none,[]⟩,⟨some 21,.load false 1 (.t 20),none,[1]⟩,⟨some 22,.call 108 [(.t 21)],none,[2]⟩,⟨none,.store 1 (.t 4) (.t 19),none,[0,3,0]⟩,⟨none,.store 1 (.t
  5) (.t 22),none,[3,4,0,1,2,3,4]⟩,⟨some 6,.mv (.d (.int .i64 0)),none,[5,0,1,2,3,4,5]⟩]) .ret) (.seq (.reg false [⟨some 24,.fa 0 (.t 3),none,[]⟩,⟨some 25,.load false 1 (.t 24),none,[0]⟩,⟨some 26,.len (.t
  25),none,[1]⟩,⟨some 27,.bin .eql (.t 26) (.d (.int .i64 1)),none,[2]⟩,⟨some 23,.mv (.t 27),none,[3]⟩]) (.cond (.t 23) (.seq (.reg true [⟨some 29,.fa 0 (.t 2),none,[]⟩,⟨some 30,.load false 1 (.t 29),none,[0]⟩,⟨some
  31,.fa 0 (.t 3),none,[]⟩,⟨some 32,.load false 1 (.t 31),none,[2]⟩,⟨some 33,.ix 1 (.t 32) (.d (.int .i64 0)),none,[3]⟩,⟨some 34,.load false 1 (.t 33),none,[4]⟩,⟨some 35,.call 111 [(.t 30),(.t 34)],none,[1,5]⟩,⟨some
  28,.mv (.t 35),none,[6]⟩,⟨some 36,.ext (.t 28) 0,none,[7]⟩,⟨some 37,.ext (.t 28) 1,none,[7]⟩,⟨some 7,.mv (.t 36),none,[8,6,0,1,2,3,4,5,6,7,8]⟩,⟨some 8,.mv (.t 37),none,[9,10,0,1,2,3,4,5,6,7,8,9,10]⟩]) (.seq (.reg false
  [⟨some 38,.mv (.t 7),none,[]⟩,⟨some 39,.call 112 [(.t 38)],none,[0]⟩,⟨some 40,.mv (.t 8),none,[]⟩,⟨some 41,.bsl 28 1 1 [(.int .u64 0)] [(0,1,(.t 40))],none,[2]⟩,⟨some 42,.call 108 [(.t 41)],none,[3,1]⟩,⟨none,.store 1
  (.t 4) (.t 39),none,[1,4,0,1]⟩,⟨none,.store 1 (.t 5) (.t 42),none,[4,5,0,1,2,3,4,5]⟩,⟨some 6,.mv (.d (.int .i64 0)),none,[6,0,1,2,3,4,5,6]⟩]) .ret)) .skip))))))) (.seq (.reg false [⟨some 43,.load true 1 (.t
  2),none,[]⟩,⟨some 44,.load true 1 (.t 3),none,[]⟩,⟨some 45,.call 233 [(.t 43),(.t 44)],none,[0,1]⟩,⟨some 46,.ext (.t 45) 0,none,[2]⟩,⟨some 47,.ext (.t 45) 1,none,[2]⟩,⟨some 48,.ext (.t 45) 2,none,[2]⟩,⟨none,.store 1 (.t
  4) (.t 46),none,[3,2,0,1,2,3,4,5]⟩,⟨none,.store 1 (.t 5) (.t 47),none,[4,6,0,1,2,3,4,5,6]⟩,⟨some 6,.mv (.t 48),none,[5,7,0,1,2,3,4,5,6,7]⟩]) .ret)))
theorem r_nat_DivMod : fnOf Tryz.prog n_nat_DivMod = some (c_nat_DivMod, [.cell 4 true 1, .cell 5 true 1, .t 6], 49, false) := by kernel_rfl

/-- tallymark/nat.Sub -/
abbrev n_nat_Sub : FuncId := 231
def c_nat_Sub : C := (.seq (.reg false [⟨some 2,.box 47 (.t 0),none,[]⟩,⟨some 3,.box 47 (.t 1),none,[]⟩,⟨some 4,.new 47 [.nilsl],none,[]⟩,⟨some 5,.mv (.d (.int .i64 0)),none,[]⟩]) (.seq (.seq (.reg false [⟨some 11,.load true 1 (.t
  2),none,[]⟩,⟨some 12,.load true 1 (.t 3),none,[]⟩,⟨some 13,.call 105 [(.t 11),(.t 12)],none,[0,1]⟩,⟨some 14,.bin .lss (.t 13) (.d (.int .i64 0)),none,[2]⟩]) (.cond (.t 14) (.seq (.reg false [⟨some 15,.build [.nilsl]
  [],none,[]⟩,⟨none,.store 1 (.t 4) (.t 15),none,[0,0]⟩,⟨some 5,.mv (.d (.int .i64 2)),none,[1,0,1]⟩]) .ret) .skip)) (.seq (.reg false [⟨some 16,.fa 0 (.t 2),none,[]⟩,⟨some 17,.load false 1 (.t 16),none,[0]⟩,⟨some 18,.len
  (.t 17),none,[1]⟩,⟨some 19,.mksl 28 1 8 [(.int .u64 0)] (.t 18) (.t 18),none,[2,2]⟩,⟨some 6,.mv (.t 19),none,[3,0,1,2,3]⟩]) (.seq (.reg false [⟨some 7,.mv (.d (.int .u64 0)),none,[]⟩]) (.seq (.seq (.reg false [⟨some
  20,.fa 0 (.t 2),none,[]⟩,⟨some 21,.load false 1 (.t 20),none,[0]⟩,⟨some 22,.len (.t 21),none,[1]⟩,⟨some 23,.mv (.d (.int .i64 0)),none,[]⟩]) (.block 0 (.loop (.seq (.reg false [⟨some 24,.bin .lss (.t 23) (.t
  22),none,[]⟩]) (.seq (.cond (.t 24) .skip (.exit 0)) (.seq (.block 1 (.seq (.reg false [⟨some 25,.mv (.t 23),none,[]⟩,⟨some 26,.ix 1 (.t 21) (.t 23),none,[]⟩,⟨some 27,.load false 1 (.t 26),none,[1]⟩,⟨some 8,.mv (.t
  25),none,[0,0,1,2]⟩,⟨some 9,.mv (.t 27),none,[2,3,0,1,2,3]⟩]) (.seq (.reg false [⟨some 10,.mv (.d (.int .u64 0)),none,[]⟩]) (.seq (.seq (.reg false [⟨some 28,.mv (.t 8),none,[]⟩,⟨some 29,.fa 0 (.t 3),none,[]⟩,⟨some
  30,.load false 1 (.t 29),none,[1]⟩,⟨some 31,.len (.t 30),none,[2]⟩,⟨some 32,.bin .lss (.t 28) (.t 31),none,[0,3]⟩]) (.cond (.t 32) (.reg false [⟨some 33,.fa 0 (.t 3),none,[]⟩,⟨some 34,.load false 1 (.t
  33),none,[0]⟩,⟨some 35,.mv (.t 8),none,[]⟩,⟨some 36,.ix 1 (.t 34) (.t 35),none,[1,2]⟩,⟨some 37,.load false 1 (.t 36),none,[3]⟩,⟨some 10,.mv (.t 37),none,[4,0,1,2,3,4]⟩]) .skip)) (.reg false [⟨some 39,.mv (.t
  6),none,[]⟩,⟨some 40,.mv (.t 8),none,[]⟩,⟨some 41,.mv (.t 9),none,[]⟩,⟨some 42,.mv (.t 10),none,[]⟩,⟨some 43,.mv (.t 7),none,[]⟩,⟨some 44,.call 234 [(.t 41),(.t 42),(.t 43)],none,[2,3,4]⟩,⟨some 38,.mv (.t
  44),none,[5]⟩,⟨some 45,.ext (.t 38) 0,none,[6]⟩,⟨some 46,.ext (.t 38) 1,none,[6]⟩,⟨some 47,.ix 1 (.t 39) (.t 40),none,[0,1,0,1,2,3,4,5,6,7]⟩,⟨none,.store 1 (.t 47) (.t 45),none,[9,7,5,0,1,2,3,4,5,6,7]⟩,⟨some 7,.mv (.t
  46),none,[8,10,0,1,2,3,4,5,6,7,8,9,10]⟩]))))) (.reg false [⟨some 48,.bin .add (.t 23) (.d (.int .i64 1)),none,[]⟩,⟨some 23,.mv (.t 48),none,[0]⟩]))))))) (.seq (.reg false [⟨some 49,.mv (.t 6),none,[]⟩,⟨some 50,.call 112
  [(.t 49)],none,[0]⟩,⟨none,.store 1 (.t 4) (.t 50),none,[1,1,0,1]⟩,⟨some 5,.mv (.d (.int .i64 0)),none,[2,0,1,2]⟩]) .ret))))))
theorem r_nat_Sub : fnOf Tryz.prog n_nat_Sub = some (c_nat_Sub, [.cell 4 true 1, .t 5], 51, false) := by kernel_rfl

/-- tallymark/whole.Add -/
abbrev n_whole_Add : FuncId := 232
def c_whole_Add : C := (.seq (.reg false [⟨some 2,.box 49 (.t 0),none,[]⟩,⟨some 3,.box 49 (.t 1),none,[]⟩,⟨some 4,.new 49 [.nilsl,(.bool false)],none,[]⟩]) (.seq (.seq (.reg false [⟨some 9,.fa 1 (.t 2),none,[]⟩,⟨some 10,.load false 1 (.t
  9),none,[0]⟩,⟨some 11,.fa 1 (.t 3),none,[]⟩,⟨some 12,.load false 1 (.t 11),none,[2]⟩,⟨some 13,.beq false (.t 10) (.t 12),none,[1,3]⟩]) (.cond (.t 13) (.seq (.reg true [⟨some 14,.fa 1 (.t 2),none,[]⟩,⟨some 15,.load false
  1 (.t 14),none,[0]⟩,⟨some 16,.fa 0 (.t 2),none,[]⟩,⟨some 17,.load true 1 (.t 16),none,[2]⟩,⟨some 18,.fa 0 (.t 3),none,[]⟩,⟨some 19,.load true 1 (.t 18),none,[4]⟩,⟨some 20,.call 110 [(.t 17),(.t 19)],none,[3,5]⟩,⟨some
  21,.call 106 [(.t 15),(.t 20)],none,[1,6,6]⟩,⟨none,.store 2 (.t 4) (.t 21),none,[7,7,0,1,2,3,4,5,6,7]⟩]) .ret) .skip)) (.seq (.seq (.reg false [⟨some 23,.fa 0 (.t 2),none,[]⟩,⟨some 24,.load true 1 (.t
  23),none,[0]⟩,⟨some 25,.fa 0 (.t 3),none,[]⟩,⟨some 26,.load true 1 (.t 25),none,[2]⟩,⟨some 27,.call 231 [(.t 24),(.t 26)],none,[1,3]⟩,⟨some 22,.mv (.t 27),none,[4]⟩,⟨some 28,.ext (.t 22) 0,none,[5]⟩,⟨some 29,.ext (.t
  22) 1,none,[5]⟩,⟨some 5,.new 47 [.nilsl],none,[]⟩,⟨none,.store 1 (.t 5) (.t 28),none,[8,6,4,0,1,2,3,4,5,6,8]⟩,⟨some 6,.mv (.t 29),none,[7,9,0,1,2,3,4,5,6,7,8,9]⟩]) (.seq (.reg false [⟨some 30,.mv (.t 6),none,[]⟩,⟨some
  31,.bin .eql (.t 30) (.d (.int .i64 0)),none,[0]⟩]) (.cond (.t 31) (.seq (.reg false [⟨some 32,.fa 1 (.t 2),none,[]⟩,⟨some 33,.load false 1 (.t 32),none,[0]⟩,⟨some 34,.load true 1 (.t 5),none,[]⟩,⟨some 35,.call 106 [(.t
  33),(.t 34)],none,[1,2]⟩,⟨none,.store 2 (.t 4) (.t 35),none,[3,3,0,1,2,3]⟩]) .ret) .skip))) (.seq (.reg false [⟨some 37,.fa 0 (.t 3),none,[]⟩,⟨some 38,.load true 1 (.t 37),none,[0]⟩,⟨some 39,.fa 0 (.t 2),none,[]⟩,⟨some
  40,.load true 1 (.t 39),none,[2]⟩,⟨some 41,.call 231 [(.t 38),(.t 40)],none,[1,3]⟩,⟨some 36,.mv (.t 41),none,[4]⟩,⟨some 42,.ext (.t 36) 0,none,[5]⟩,⟨some 43,.ext (.t 36) 1,none,[5]⟩,⟨some 7,.new 47
  [.nilsl],none,[]⟩,⟨none,.store 1 (.t 7) (.t 42),none,[8,6,4,0,1,2,3,4,5,6,8]⟩,⟨some 8,.mv (.t 43),none,[7,9,0,1,2,3,4,5,6,7,8,9]⟩]) (.seq (.reg false [⟨some 44,.fa 1 (.t 3),none,[]⟩,⟨some 45,.load false 1 (.t
  44),none,[0]⟩,⟨some 46,.load true 1 (.t 7),none,[]⟩,⟨some 47,.call 106 [(.t 45),(.t 46)],none,[1,2]⟩,⟨none,.store 2 (.t 4) (.t 47),none,[3,3,0,1,2,3]⟩]) .ret)))))
theorem r_whole_Add : fnOf Tryz.prog n_whole_Add = some (c_whole_Add, [.cell 4 true 2], 48, false) := by kernel_rfl

/-- tallymark/nat.long -/
abbrev n_nat_long : FuncId := 233
def c_nat_long : C := (.seq (.reg false [⟨some 2,.box 47 (.t 0),none,[]⟩,⟨some 3,.box 47 (.t 1),none,[]⟩,⟨some 4,.new 47 [.nilsl],none,[]⟩,⟨some 5,.new 47 [.nilsl],none,[]⟩,⟨some 6,.mv (.d (.int .i64 0)),none,[]⟩]) (.seq (.reg false [⟨some
  13,.fa 0 (.t 3),none,[]⟩,⟨some 14,.load false 1 (.t 13),none,[0]⟩,⟨some 15,.len (.t 14),none,[1]⟩,⟨some 7,.mv (.t 15),none,[2,0,1,2]⟩]) (.seq (.reg false [⟨some 16,.fa 0 (.t 3),none,[]⟩,⟨some 17,.load false 1 (.t
  16),none,[0]⟩,⟨some 18,.mv (.t 7),none,[]⟩,⟨some 19,.bin .sub (.t 18) (.d (.int .i64 1)),none,[2]⟩,⟨some 20,.ix 1 (.t 17) (.t 19),none,[1,3]⟩,⟨some 21,.load false 1 (.t 20),none,[4]⟩,⟨some 22,.call 167 [(.t
  21)],none,[5]⟩,⟨some 8,.mv (.t 22),none,[6,6,0,1,2,3,4,5,6]⟩]) (.seq (.reg false [⟨some 23,.fa 0 (.t 3),none,[]⟩,⟨some 24,.load false 1 (.t 23),none,[0]⟩,⟨some 25,.mv (.t 8),none,[]⟩,⟨some 26,.call 162 [(.t 24),(.t
  25)],none,[1,2]⟩,⟨some 27,.mv (.t 7),none,[]⟩,⟨some 28,.slice 1 (.t 26) none (some (.t 27)) none,none,[3,4]⟩,⟨some 9,.mv (.t 28),none,[5,3,0,1,2,3,4,5]⟩]) (.seq (.reg false [⟨some 29,.fa 0 (.t 2),none,[]⟩,⟨some 30,.load
  false 1 (.t 29),none,[0]⟩,⟨some 31,.mv (.t 8),none,[]⟩,⟨some 32,.call 162 [(.t 30),(.t 31)],none,[1,2]⟩,⟨some 10,.mv (.t 32),none,[3,3,0,1,2,3]⟩]) (.seq (.reg false [⟨some 33,.mv (.t 10),none,[]⟩,⟨some 34,.len (.t
  33),none,[0]⟩,⟨some 35,.mv (.t 7),none,[]⟩,⟨some 36,.bin .sub (.t 34) (.t 35),none,[1,2]⟩,⟨some 37,.mksl 28 1 8 [(.int .u64 0)] (.t 36) (.t 36),none,[3,3]⟩,⟨some 11,.mv (.t 37),none,[4,0,1,2,3,4]⟩]) (.seq (.seq (.reg
  false [⟨some 38,.mv (.t 11),none,[]⟩,⟨some 39,.len (.t 38),none,[0]⟩,⟨some 40,.bin .sub (.t 39) (.d (.int .i64 1)),none,[1]⟩,⟨some 12,.mv (.t 40),none,[2,0,1,2]⟩]) (.block 0 (.loop (.seq (.seq (.reg false [⟨some 41,.mv
  (.t 12),none,[]⟩,⟨some 42,.bin .geq (.t 41) (.d (.int .i64 0)),none,[0]⟩]) (.cond (.t 42) .skip (.exit 0))) (.seq (.block 1 (.reg false [⟨some 45,.mv (.t 11),none,[]⟩,⟨some 46,.mv (.t 12),none,[]⟩,⟨some 47,.mv (.t
  10),none,[]⟩,⟨some 48,.mv (.t 12),none,[]⟩,⟨some 49,.mv (.t 12),none,[]⟩,⟨some 50,.mv (.t 7),none,[]⟩,⟨some 51,.bin .add (.t 49) (.t 50),none,[4,5]⟩,⟨some 52,.bin .add (.t 51) (.d (.int .i64 1)),none,[6]⟩,⟨some
  53,.slice 1 (.t 47) (some (.t 48)) (some (.t 52)) none,none,[2,3,7]⟩,⟨some 54,.mv (.t 9),none,[]⟩,⟨some 55,.call 235 [(.t 53),(.t 54)],none,[8,9]⟩,⟨some 56,.ix 1 (.t 45) (.t
  46),none,[0,1,0,1,2,3,4,5,6,7,8,9,10]⟩,⟨none,.store 1 (.t 56) (.t 55),none,[11,10,10,0,1,2,3,4,5,6,7,8,9,10]⟩])) (.reg false [⟨some 43,.mv (.t 12),none,[]⟩,⟨some 44,.bin .sub (.t 43) (.d (.int .i64 1)),none,[0]⟩,⟨some
  12,.mv (.t 44),none,[1,0,1]⟩])))))) (.seq (.reg true [⟨some 57,.mv (.t 11),none,[]⟩,⟨some 58,.call 112 [(.t 57)],none,[0]⟩,⟨some 59,.mv (.t 10),none,[]⟩,⟨some 60,.mv (.t 7),none,[]⟩,⟨some 61,.slice 1 (.t 59) none (some
  (.t 60)) none,none,[2,3]⟩,⟨some 62,.call 112 [(.t 61)],none,[4,1]⟩,⟨some 63,.mv (.t 8),none,[]⟩,⟨some 64,.call 236 [(.t 62),(.t 63)],none,[5,6,5]⟩,⟨none,.store 1 (.t 4) (.t 58),none,[1,7,0,1]⟩,⟨none,.store 1 (.t 5) (.t
  64),none,[7,8,0,1,2,3,4,5,6,7,8]⟩,⟨some 6,.mv (.d (.int .i64 0)),none,[9,0,1,2,3,4,5,6,7,8,9]⟩]) .ret))))))))
theorem r_nat_long : fnOf Tryz.prog n_nat_long = some (c_nat_long, [.cell 4 true 1, .cell 5 true 1, .t 6], 65, false) := by kernel_rfl

/-- tallymark/nat.digit -/
abbrev n_nat_digit : FuncId := 235
def c_nat_digit : C := (.seq (.reg false [⟨some 4,.mv (.d (.int .u64 0)),none,[]⟩]) (.seq (.reg false [⟨some 11,.mv (.t 1),none,[]⟩,⟨some 12,.len (.t 11),none,[0]⟩,⟨some 5,.mv (.t 12),none,[1,0,1]⟩]) (.seq (.reg false [⟨some 6,.mv (.d (.int
  .u64 18446744073709551615)),none,[]⟩]) (.seq (.seq (.reg true [⟨some 13,.mv (.t 0),none,[]⟩,⟨some 14,.mv (.t 5),none,[]⟩,⟨some 15,.ix 1 (.t 13) (.t 14),none,[0,1]⟩,⟨some 16,.load false 1 (.t 15),none,[2]⟩,⟨some 17,.mv
  (.t 1),none,[]⟩,⟨some 18,.mv (.t 5),none,[]⟩,⟨some 19,.bin .sub (.t 18) (.d (.int .i64 1)),none,[5]⟩,⟨some 20,.ix 1 (.t 17) (.t 19),none,[4,6]⟩,⟨some 21,.load false 1 (.t 20),none,[7]⟩,⟨some 22,.bin .lss (.t 16) (.t
  21),none,[3,8]⟩]) (.cond (.t 22) (.reg true [⟨some 24,.mv (.t 0),none,[]⟩,⟨some 25,.mv (.t 5),none,[]⟩,⟨some 26,.ix 1 (.t 24) (.t 25),none,[0,1]⟩,⟨some 27,.load false 1 (.t 26),none,[2]⟩,⟨some 28,.mv (.t
  0),none,[]⟩,⟨some 29,.mv (.t 5),none,[]⟩,⟨some 30,.bin .sub (.t 29) (.d (.int .i64 1)),none,[5]⟩,⟨some 31,.ix 1 (.t 28) (.t 30),none,[4,6]⟩,⟨some 32,.load false 1 (.t 31),none,[7]⟩,⟨some 33,.mv (.t 1),none,[]⟩,⟨some
  34,.mv (.t 5),none,[]⟩,⟨some 35,.bin .sub (.t 34) (.d (.int .i64 1)),none,[10]⟩,⟨some 36,.ix 1 (.t 33) (.t 35),none,[9,11]⟩,⟨some 37,.load false 1 (.t 36),none,[12]⟩,⟨some 38,.call 151 [(.t 27),(.t 32),(.t
  37)],none,[3,8,13]⟩,⟨some 23,.mv (.t 38),none,[14]⟩,⟨some 39,.ext (.t 23) 0,none,[15]⟩,⟨some 40,.ext (.t 23) 1,none,[15]⟩,⟨some 6,.mv (.t 39),none,[16,14,0,1,2,3,4,5,6,7,8,9,10,11,12,13,14,15,16]⟩]) .skip)) (.seq (.seq
  (.reg false [⟨some 41,.mv (.t 0),none,[]⟩,⟨some 42,.mv (.t 1),none,[]⟩,⟨some 43,.mv (.t 6),none,[]⟩,⟨some 44,.call 237 [(.t 41),(.t 42),(.t 43)],none,[0,1,2]⟩,⟨some 7,.mv (.t 44),none,[3,3,0,1,2,3]⟩]) (.block 0 (.loop
  (.seq (.seq (.reg false [⟨some 45,.mv (.t 7),none,[]⟩,⟨some 46,.bin .gtr (.t 45) (.d (.int .i64 0)),none,[0]⟩]) (.cond (.t 46) .skip (.exit 0))) (.seq (.block 1 (.seq (.reg false [⟨some 49,.mv (.t 6),none,[]⟩,⟨some
  50,.bin .sub (.t 49) (.d (.int .u64 1)),none,[0]⟩,⟨some 6,.mv (.t 50),none,[1,0,1]⟩]) (.seq (.reg false [⟨some 8,.mv (.d (.int .u64 0)),none,[]⟩]) (.seq (.seq (.reg false [⟨some 51,.mv (.t 1),none,[]⟩,⟨some 52,.len (.t
  51),none,[0]⟩,⟨some 53,.mv (.d (.int .i64 0)),none,[]⟩]) (.block 2 (.loop (.seq (.reg false [⟨some 54,.bin .lss (.t 53) (.t 52),none,[]⟩]) (.seq (.cond (.t 54) .skip (.exit 2)) (.seq (.block 3 (.seq (.reg false [⟨some
  55,.mv (.t 53),none,[]⟩,⟨some 56,.ix 1 (.t 51) (.t 53),none,[]⟩,⟨some 57,.load false 1 (.t 56),none,[1]⟩,⟨some 9,.mv (.t 55),none,[0,0,1,2]⟩,⟨some 10,.mv (.t 57),none,[2,3,0,1,2,3]⟩]) (.reg false [⟨some 59,.mv (.t
  0),none,[]⟩,⟨some 60,.mv (.t 9),none,[]⟩,⟨some 61,.mv (.t 0),none,[]⟩,⟨some 62,.mv (.t 9),none,[]⟩,⟨some 63,.ix 1 (.t 61) (.t 62),none,[2,3]⟩,⟨some 64,.load false 1 (.t 63),none,[4]⟩,⟨some 65,.mv (.t 10),none,[]⟩,⟨some
  66,.mv (.t 8),none,[]⟩,⟨some 67,.call 149 [(.t 64),(.t 65),(.t 66)],none,[5,6,7]⟩,⟨some 58,.mv (.t 67),none,[8]⟩,⟨some 68,.ext (.t 58) 0,none,[9]⟩,⟨some 69,.ext (.t 58) 1,none,[9]⟩,⟨some 70,.ix 1 (.t 59) (.t
  60),none,[0,1,0,1,2,3,4,5,6,7,8,9,10]⟩,⟨none,.store 1 (.t 70) (.t 68),none,[12,10,8,0,1,2,3,4,5,6,7,8,9,10]⟩,⟨some 8,.mv (.t 69),none,[11,13,0,1,2,3,4,5,6,7,8,9,10,11,12,13]⟩]))) (.reg false [⟨some 71,.bin .add (.t 53)
  (.d (.int .i64 1)),none,[]⟩,⟨some 53,.mv (.t 71),none,[0]⟩]))))))) (.seq (.reg false [⟨some 72,.mv (.t 0),none,[]⟩,⟨some 73,.mv (.t 5),none,[]⟩,⟨some 74,.ix 1 (.t 72) (.t 73),none,[0,1]⟩,⟨some 75,.load false 1 (.t
  74),none,[2]⟩,⟨some 76,.mv (.t 8),none,[]⟩,⟨some 77,.bin .add (.t 75) (.t 76),none,[3,4]⟩,⟨some 78,.ix 1 (.t 72) (.t 73),none,[0,1,0,1,2,3,4,5]⟩,⟨none,.store 1 (.t 78) (.t 77),none,[6,5,0,1,2,3,4,5]⟩]) (.seq (.reg false
  [⟨some 79,.mv (.t 0),none,[]⟩,⟨some 80,.mv (.t 5),none,[]⟩,⟨some 81,.ix 1 (.t 79) (.t 80),none,[0,1]⟩,⟨some 82,.load false 1 (.t 81),none,[2]⟩,⟨some 83,.bin .neq (.t 82) (.d (.int .u64 0)),none,[3]⟩]) (.cond (.t 83)
  (.reg false [⟨some 84,.mv (.t 7),none,[]⟩,⟨some 85,.bin .add (.t 84) (.d (.int .i64 1)),none,[0]⟩,⟨some 7,.mv (.t 85),none,[1,0,1]⟩]) .skip))))))) (.reg false [⟨some 47,.mv (.t 7),none,[]⟩,⟨some 48,.bin .sub (.t 47) (.d
  (.int .i64 1)),none,[0]⟩,⟨some 7,.mv (.t 48),none,[1,0,1]⟩])))))) (.seq (.reg false [⟨some 86,.mv (.t 6),none,[]⟩,⟨some 4,.mv (.t 86),none,[0,0]⟩]) .ret))))))
theorem r_nat_digit : fnOf Tryz.prog n_nat_digit = some (c_nat_digit, [.t 4], 87, false) := by kernel_rfl

/-- tallymark/nat.Shr -/
abbrev n_nat_Shr : FuncId := 236
def c_nat_Shr : C := (.seq (.reg false [⟨some 2,.box 47 (.t 0),none,[]⟩,⟨some 4,.new 47 [.nilsl],none,[]⟩]) (.seq (.reg false [⟨some 8,.mv (.t 1),none,[]⟩,⟨some 9,.mm true [(.d (.int .i64 0)),(.t 8)],none,[0]⟩,⟨some 1,.mv (.t
  9),none,[1,0,1]⟩]) (.seq (.seq (.reg false [⟨some 10,.mv (.t 1),none,[]⟩,⟨some 11,.bin .quo (.t 10) (.d (.int .i64 64)),none,[0]⟩,⟨some 12,.fa 0 (.t 2),none,[]⟩,⟨some 13,.load false 1 (.t 12),none,[2]⟩,⟨some 14,.len (.t
  13),none,[3]⟩,⟨some 15,.bin .geq (.t 11) (.t 14),none,[1,4]⟩]) (.cond (.t 15) (.seq (.reg false [⟨some 16,.build [.nilsl] [],none,[]⟩,⟨none,.store 1 (.t 4) (.t 16),none,[0,0]⟩]) .ret) .skip)) (.seq (.reg false [⟨some
  17,.fa 0 (.t 2),none,[]⟩,⟨some 18,.load false 1 (.t 17),none,[0]⟩,⟨some 19,.mv (.t 1),none,[]⟩,⟨some 20,.bin .quo (.t 19) (.d (.int .i64 64)),none,[2]⟩,⟨some 21,.slice 1 (.t 18) (some (.t 20)) none
  none,none,[1,3]⟩,⟨some 22,.call 150 [(.t 21)],none,[4]⟩,⟨some 5,.mv (.t 22),none,[5,5,0,1,2,3,4,5]⟩]) (.seq (.seq (.reg false [⟨some 23,.mv (.t 1),none,[]⟩,⟨some 24,.bin .rem (.t 23) (.d (.int .i64 64)),none,[0]⟩,⟨some
  6,.mv (.d (.int .i64 0)),none,[]⟩,⟨some 7,.mv (.t 24),none,[1,2,0,1,2]⟩]) (.block 0 (.loop (.seq (.seq (.reg false [⟨some 25,.mv (.t 6),none,[]⟩,⟨some 26,.mv (.t 5),none,[]⟩,⟨some 27,.len (.t 26),none,[1]⟩,⟨some 28,.bin
  .lss (.t 25) (.t 27),none,[0,2]⟩]) (.cond (.t 28) .skip (.exit 0))) (.seq (.block 1 (.seq (.reg false [⟨some 31,.mv (.t 5),none,[]⟩,⟨some 32,.mv (.t 6),none,[]⟩,⟨some 33,.ix 1 (.t 31) (.t 32),none,[0,1]⟩,⟨some 34,.load
  false 1 (.t 33),none,[2]⟩,⟨some 35,.mv (.t 7),none,[]⟩,⟨some 36,.bin .shr (.t 34) (.t 35),none,[3,4]⟩,⟨some 37,.ix 1 (.t 31) (.t 32),none,[0,1,0,1,2,3,4,5]⟩,⟨none,.store 1 (.t 37) (.t 36),none,[6,5,0,1,2,3,4,5]⟩]) (.seq
  (.reg false [⟨some 38,.mv (.t 6),none,[]⟩,⟨some 39,.bin .add (.t 38) (.d (.int .i64 1)),none,[0]⟩,⟨some 40,.mv (.t 5),none,[]⟩,⟨some 41,.len (.t 40),none,[2]⟩,⟨some 42,.bin .lss (.t 39) (.t 41),none,[1,3]⟩]) (.cond (.t
  42) (.reg true [⟨some 43,.mv (.t 5),none,[]⟩,⟨some 44,.mv (.t 6),none,[]⟩,⟨some 45,.ix 1 (.t 43) (.t 44),none,[0,1]⟩,⟨some 46,.load false 1 (.t 45),none,[2]⟩,⟨some 47,.mv (.t 5),none,[]⟩,⟨some 48,.mv (.t
  6),none,[]⟩,⟨some 49,.bin .add (.t 48) (.d (.int .i64 1)),none,[5]⟩,⟨some 50,.ix 1 (.t 47) (.t 49),none,[4,6]⟩,⟨some 51,.load false 1 (.t 50),none,[7]⟩,⟨some 52,.mv (.t 7),none,[]⟩,⟨some 53,.bin .sub (.d (.int .i64 64))
  (.t 52),none,[9]⟩,⟨some 54,.bin .shl (.t 51) (.t 53),none,[8,10]⟩,⟨some 55,.bin .or (.t 46) (.t 54),none,[3,11]⟩,⟨some 56,.ix 1 (.t 43) (.t 44),none,[0,1,0,1,2,3,4,5,6,7,8,9,10,11,12]⟩,⟨none,.store 1 (.t 56) (.t
  55),none,[13,12,0,1,2,3,4,5,6,7,8,9,10,11,12]⟩]) .skip)))) (.reg false [⟨some 29,.mv (.t 6),none,[]⟩,⟨some 30,.bin .add (.t 29) (.d (.int .i64 1)),none,[0]⟩,⟨some 6,.mv (.t 30),none,[1,0,1]⟩])))))) (.seq (.reg false
  [⟨some 57,.mv (.t 5),none,[]⟩,⟨some 58,.call 112 [(.t 57)],none,[0]⟩,⟨none,.store 1 (.t 4) (.t 58),none,[1,1,0,1]⟩]) .ret))))))
theorem r_nat_Shr : fnOf Tryz.prog n_nat_Shr = some (c_nat_Shr, [.cell 4 true 1], 59, false) := by kernel_rfl

/-- tallymark/nat.take -/
abbrev n_nat_take : FuncId := 237
def c_nat_take : C := (.seq (.reg false [⟨some 6,.mv (.d (.int .i64 0)),none,[]⟩]) (.seq (.reg false [⟨some 7,.mv (.d (.int .u64 0)),none,[]⟩,⟨some 8,.mv (.d (.int .u64 0)),none,[0]⟩]) (.seq (.seq (.reg false [⟨some 15,.mv (.t
  1),none,[]⟩,⟨some 16,.len (.t 15),none,[0]⟩,⟨some 17,.mv (.d (.int .i64 0)),none,[]⟩]) (.block 0 (.loop (.seq (.reg false [⟨some 18,.bin .lss (.t 17) (.t 16),none,[]⟩]) (.seq (.cond (.t 18) .skip (.exit 0)) (.seq
  (.block 1 (.seq (.reg false [⟨some 19,.mv (.t 17),none,[]⟩,⟨some 20,.ix 1 (.t 15) (.t 17),none,[]⟩,⟨some 21,.load false 1 (.t 20),none,[1]⟩,⟨some 9,.mv (.t 19),none,[0,0,1,2]⟩,⟨some 10,.mv (.t 21),none,[2,3,0,1,2,3]⟩])
  (.seq (.reg false [⟨some 23,.mv (.t 10),none,[]⟩,⟨some 24,.mv (.t 2),none,[]⟩,⟨some 25,.call 148 [(.t 23),(.t 24)],none,[0,1]⟩,⟨some 22,.mv (.t 25),none,[2]⟩,⟨some 26,.ext (.t 22) 0,none,[3]⟩,⟨some 27,.ext (.t 22)
  1,none,[3]⟩,⟨some 11,.mv (.t 26),none,[4,2,0,1,2,3,4]⟩,⟨some 12,.mv (.t 27),none,[5,6,0,1,2,3,4,5,6]⟩]) (.seq (.reg false [⟨some 13,.mv (.d (.int .u64 0)),none,[]⟩]) (.seq (.reg false [⟨some 29,.mv (.t
  12),none,[]⟩,⟨some 30,.mv (.t 7),none,[]⟩,⟨some 31,.call 149 [(.t 29),(.t 30),(.d (.int .u64 0))],none,[0,1]⟩,⟨some 28,.mv (.t 31),none,[2]⟩,⟨some 32,.ext (.t 28) 0,none,[3]⟩,⟨some 33,.ext (.t 28) 1,none,[3]⟩,⟨some
  12,.mv (.t 32),none,[4,2,0,1,2,3,4]⟩,⟨some 13,.mv (.t 33),none,[5,6,0,1,2,3,4,5,6]⟩]) (.seq (.reg false [⟨some 34,.mv (.t 11),none,[]⟩,⟨some 35,.mv (.t 13),none,[]⟩,⟨some 36,.bin .add (.t 34) (.t 35),none,[0,1]⟩,⟨some
  7,.mv (.t 36),none,[2,0,1,2]⟩]) (.reg false [⟨some 38,.mv (.t 0),none,[]⟩,⟨some 39,.mv (.t 9),none,[]⟩,⟨some 40,.mv (.t 0),none,[]⟩,⟨some 41,.mv (.t 9),none,[]⟩,⟨some 42,.ix 1 (.t 40) (.t 41),none,[2,3]⟩,⟨some 43,.load
  false 1 (.t 42),none,[4]⟩,⟨some 44,.mv (.t 12),none,[]⟩,⟨some 45,.mv (.t 8),none,[]⟩,⟨some 46,.call 234 [(.t 43),(.t 44),(.t 45)],none,[5,6,7]⟩,⟨some 37,.mv (.t 46),none,[8]⟩,⟨some 47,.ext (.t 37) 0,none,[9]⟩,⟨some
  48,.ext (.t 37) 1,none,[9]⟩,⟨some 49,.ix 1 (.t 38) (.t 39),none,[0,1,0,1,2,3,4,5,6,7,8,9,10]⟩,⟨none,.store 1 (.t 49) (.t 47),none,[12,10,8,0,1,2,3,4,5,6,7,8,9,10]⟩,⟨some 8,.mv (.t
  48),none,[11,13,0,1,2,3,4,5,6,7,8,9,10,11,12,13]⟩]))))))) (.reg false [⟨some 50,.bin .add (.t 17) (.d (.int .i64 1)),none,[]⟩,⟨some 17,.mv (.t 50),none,[0]⟩]))))))) (.seq (.reg false [⟨some 51,.mv (.t 1),none,[]⟩,⟨some
  52,.len (.t 51),none,[0]⟩,⟨some 14,.mv (.t 52),none,[1,0,1]⟩]) (.seq (.reg false [⟨some 54,.mv (.t 0),none,[]⟩,⟨some 55,.mv (.t 14),none,[]⟩,⟨some 56,.mv (.t 0),none,[]⟩,⟨some 57,.mv (.t 14),none,[]⟩,⟨some 58,.ix 1 (.t
  56) (.t 57),none,[2,3]⟩,⟨some 59,.load false 1 (.t 58),none,[4]⟩,⟨some 60,.mv (.t 7),none,[]⟩,⟨some 61,.mv (.t 8),none,[]⟩,⟨some 62,.call 234 [(.t 59),(.t 60),(.t 61)],none,[5,6,7]⟩,⟨some 53,.mv (.t 62),none,[8]⟩,⟨some
  63,.ext (.t 53) 0,none,[9]⟩,⟨some 64,.ext (.t 53) 1,none,[9]⟩,⟨some 65,.ix 1 (.t 54) (.t 55),none,[0,1,0,1,2,3,4,5,6,7,8,9,10]⟩,⟨none,.store 1 (.t 65) (.t 63),none,[12,10,8,0,1,2,3,4,5,6,7,8,9,10]⟩,⟨some 8,.mv (.t
  64),none,[11,13,0,1,2,3,4,5,6,7,8,9,10,11,12,13]⟩]) (.seq (.reg false [⟨some 66,.mv (.t 8),none,[]⟩,⟨some 67,.conv .i64 (.t 66),none,[0]⟩,⟨some 6,.mv (.t 67),none,[1,0,1]⟩]) .ret))))))
theorem r_nat_take : fnOf Tryz.prog n_nat_take = some (c_nat_take, [.t 6], 68, false) := by kernel_rfl

/-- (tallymark/chain.aFloat).good -/
abbrev n_chain_aFloat_good : FuncId := 240
def c_chain_aFloat_good : C := (.seq (.reg false [⟨some 2,.mv (.d (.bool false)),none,[]⟩]) (.seq (.reg false [⟨some 3,.mv (.t 0),none,[]⟩,⟨some 4,.call 245 [(.t 3)],none,[0]⟩,⟨some 2,.mv (.t 4),none,[1,1,0,1]⟩]) .ret))
theorem r_chain_aFloat_good : fnOf Tryz.prog n_chain_aFloat_good = some (c_chain_aFloat_good, [.t 2], 5, false) := by kernel_rfl

/-- (tallymark/chain.aFloat).step -/
abbrev n_chain_aFloat_step : FuncId := 242
def c_chain_aFloat_step : C := (.seq (.reg false [⟨some 6,.mv (.d (.bool false)),none,[]⟩,⟨some 7,.mv (.d (.int .i64 0)),none,[0]⟩]) (.seq (.reg false [⟨some 8,.mv (.t 1),none,[]⟩,⟨some 9,.mv (.t 0),none,[]⟩,⟨some 10,.mv (.t 2),none,[]⟩,⟨some
  11,.call 246 [(.t 8),(.t 9),(.t 10)],none,[0,1,2]⟩,⟨some 12,.ext (.t 11) 0,none,[3]⟩,⟨some 13,.ext (.t 11) 1,none,[3]⟩,⟨some 6,.mv (.t 12),none,[4,3,0,1,2,3,4,5]⟩,⟨some 7,.mv (.t 13),none,[5,6,0,1,2,3,4,5,6]⟩]) .ret))
theorem r_chain_aFloat_step : fnOf Tryz.prog n_chain_aFloat_step = some (c_chain_aFloat_step, [.t 6, .t 7], 14, false) := by kernel_rfl

/-- (tallymark/chain.aFloat).value -/
abbrev n_chain_aFloat_value : FuncId := 243
def c_chain_aFloat_value : C := (.seq (.reg false [⟨some 4,.new 51 [.nilsl,(.bool false),.nilsl],none,[]⟩,⟨some 5,.mv (.d (.int .i64 0)),none,[]⟩]) (.seq (.reg false [⟨some 9,.mv (.t 0),none,[]⟩,⟨some 10,.mv (.t 1),none,[]⟩,⟨some 11,.call 247 [(.t
  9),(.t 10)],none,[0,1]⟩,⟨some 8,.mv (.t 11),none,[2]⟩,⟨some 12,.ext (.t 8) 0,none,[3]⟩,⟨some 13,.ext (.t 8) 1,none,[3]⟩,⟨some 6,.new 47 [.nilsl],none,[]⟩,⟨none,.store 1 (.t 6) (.t 12),none,[6,4,2,0,1,2,3,4,6]⟩,⟨some
  7,.mv (.t 13),none,[5,7,0,1,2,3,4,5,6,7]⟩]) (.seq (.reg false [⟨some 14,.load true 1 (.t 6),none,[]⟩,⟨some 15,.call 70 [(.t 14)],none,[0]⟩,⟨some 16,.mv (.t 7),none,[]⟩,⟨none,.store 3 (.t 4) (.t 15),none,[1,1,0,1]⟩,⟨some
  5,.mv (.t 16),none,[2,3,0,1,2,3]⟩]) .ret)))
theorem r_chain_aFloat_value : fnOf Tryz.prog n_chain_aFloat_value = some (c_chain_aFloat_value, [.cell 4 true 3, .t 5], 17, false) := by kernel_rfl

/-- tallymark/float.Good -/
abbrev n_float_Good : FuncId := 245
def c_float_Good : C := (.seq (.reg false [⟨some 2,.mv (.d (.bool false)),none,[]⟩]) (.seq (.reg false [⟨some 3,.mv (.t 0),none,[]⟩,⟨some 4,.bin .geq (.t 3) (.d (.int .i64 0)),none,[0]⟩,⟨some 5,.mv (.t 4),none,[1]⟩,⟨some 6,.mv (.t 0),some
  (5,true),[2]⟩,⟨some 7,.bin .leq (.t 6) (.d (.int .i64 8)),some (5,true),[3,2]⟩,⟨some 8,.pick (.t 5) (.t 7) (.d (.bool false)),none,[2,4]⟩,⟨some 2,.mv (.t 8),none,[5,2,0,1,2,3,4,5]⟩]) .ret))
theorem r_float_Good : fnOf Tryz.prog n_float_Good = some (c_float_Good, [.t 2], 9, false) := by kernel_rfl

/-- tallymark/float.Step -/
abbrev n_float_Step : FuncId := 246
def c_float_Step : C := (.seq (.reg false [⟨some 6,.mv (.d (.bool false)),none,[]⟩,⟨some 7,.mv (.d (.int .i64 0)),none,[0]⟩]) (.seq (.seq (.reg false [⟨some 11,.mv (.t 1),none,[]⟩,⟨some 12,.mv (.t 2),none,[]⟩,⟨some 13,.bsl 3 1 1 [(.int .i64
  0)] [(0,1,(.t 12))],none,[1]⟩,⟨some 14,.call 248 [(.t 11),(.t 13)],none,[0,2]⟩,⟨some 8,.mv (.t 14),none,[3,3,0,1,2,3]⟩]) (.seq (.reg false [⟨some 15,.mv (.t 8),none,[]⟩,⟨some 16,.bin .neq (.t 15) (.d (.int .i64
  0)),none,[0]⟩]) (.cond (.t 16) (.seq (.reg false [⟨some 17,.mv (.t 8),none,[]⟩,⟨some 6,.mv (.d (.bool false)),none,[]⟩,⟨some 7,.mv (.t 17),none,[0,1,0,1]⟩]) .ret) .skip))) (.seq (.reg false [⟨some 19,.mv (.t
  1),none,[]⟩,⟨some 20,.mv (.t 2),none,[]⟩,⟨some 21,.call 249 [(.t 19),(.t 20)],none,[0,1]⟩,⟨some 18,.mv (.t 21),none,[2]⟩,⟨some 22,.ext (.t 18) 0,none,[3]⟩,⟨some 23,.ext (.t 18) 1,none,[3]⟩,⟨some 9,.mv (.t
  22),none,[4,2,0,1,2,3,4]⟩,⟨some 10,.mv (.t 23),none,[5,6,0,1,2,3,4,5,6]⟩]) (.seq (.reg false [⟨some 24,.mv (.t 0),none,[]⟩,⟨some 25,.mv (.t 9),none,[]⟩,⟨some 26,.call 164 [(.t 24),(.t 25)],none,[0,1]⟩,⟨some 27,.ext (.t
  26) 0,none,[2]⟩,⟨some 28,.ext (.t 26) 1,none,[2]⟩,⟨some 6,.mv (.t 27),none,[3,2,0,1,2,3,4]⟩,⟨some 7,.mv (.t 28),none,[4,5,0,1,2,3,4,5]⟩]) .ret))))
theorem r_float_Step : fnOf Tryz.prog n_float_Step = some (c_float_Step, [.t 6, .t 7], 29, false) := by kernel_rfl

/-- tallymark/float.Value -/
abbrev n_float_Value : FuncId := 247
def c_float_Value : C := (.seq (.reg false [⟨some 4,.new 47 [.nilsl],none,[]⟩,⟨some 5,.mv (.d (.int .i64 0)),none,[]⟩]) (.seq (.seq (.reg false [⟨some 11,.mv (.t 0),none,[]⟩,⟨some 12,.mv (.t 1),none,[]⟩,⟨some 13,.bsl 3 1 1 [(.int .i64 0)]
  [(0,1,(.t 12))],none,[1]⟩,⟨some 14,.call 248 [(.t 11),(.t 13)],none,[0,2]⟩,⟨some 6,.mv (.t 14),none,[3,3,0,1,2,3]⟩]) (.seq (.reg false [⟨some 15,.mv (.t 6),none,[]⟩,⟨some 16,.bin .neq (.t 15) (.d (.int .i64
  0)),none,[0]⟩]) (.cond (.t 16) (.seq (.reg false [⟨some 17,.build [.nilsl] [],none,[]⟩,⟨some 18,.mv (.t 6),none,[]⟩,⟨none,.store 1 (.t 4) (.t 17),none,[0,0]⟩,⟨some 5,.mv (.t 18),none,[1,2,0,1,2]⟩]) .ret) .skip))) (.seq
  (.reg false [⟨some 20,.mv (.t 0),none,[]⟩,⟨some 21,.mv (.t 1),none,[]⟩,⟨some 22,.call 249 [(.t 20),(.t 21)],none,[0,1]⟩,⟨some 19,.mv (.t 22),none,[2]⟩,⟨some 23,.ext (.t 19) 0,none,[3]⟩,⟨some 24,.ext (.t 19)
  1,none,[3]⟩,⟨some 7,.mv (.t 23),none,[4,2,0,1,2,3,4]⟩,⟨some 8,.mv (.t 24),none,[5,6,0,1,2,3,4,5,6]⟩]) (.seq (.reg false [⟨some 26,.mv (.t 0),none,[]⟩,⟨some 27,.bin .shl (.d (.int .i64 1)) (.t 26),none,[0]⟩,⟨some 28,.mv
  (.t 8),none,[]⟩,⟨some 29,.bin .add (.t 27) (.t 28),none,[1,2]⟩,⟨some 30,.conv .u64 (.t 29),none,[3]⟩,⟨some 31,.bsl 28 1 1 [(.int .u64 0)] [(0,1,(.t 30))],none,[4]⟩,⟨some 32,.call 108 [(.t 31)],none,[5]⟩,⟨some 33,.mv (.t
  7),none,[]⟩,⟨some 34,.call 120 [(.t 32),(.t 33)],none,[6,7,6]⟩,⟨some 25,.mv (.t 34),none,[8]⟩,⟨some 35,.ext (.t 25) 0,none,[9]⟩,⟨some 36,.ext (.t 25) 1,none,[9]⟩,⟨some 9,.new 47 [.nilsl],none,[]⟩,⟨none,.store 1 (.t 9)
  (.t 35),none,[12,10,8,0,1,2,3,4,5,6,7,8,9,10,12]⟩,⟨some 10,.mv (.t 36),none,[11,13,0,1,2,3,4,5,6,7,8,9,10,11,12,13]⟩]) (.seq (.reg true [⟨some 37,.load true 1 (.t 9),none,[]⟩,⟨some 38,.mv (.t 0),none,[]⟩,⟨some 39,.bin
  .shl (.d (.int .u64 1)) (.t 38),none,[1]⟩,⟨some 40,.bsl 28 1 1 [(.int .u64 0)] [(0,1,(.t 39))],none,[2]⟩,⟨some 41,.call 108 [(.t 40)],none,[3]⟩,⟨some 42,.call 231 [(.t 37),(.t 41)],none,[0,4,4]⟩,⟨some 43,.ext (.t 42)
  0,none,[5]⟩,⟨some 44,.ext (.t 42) 1,none,[5]⟩,⟨none,.store 1 (.t 4) (.t 43),none,[6,5,0,1,2,3,4,5,6,7]⟩,⟨some 5,.mv (.t 44),none,[7,8,0,1,2,3,4,5,6,7,8]⟩]) .ret)))))
theorem r_float_Value : fnOf Tryz.prog n_float_Value = some (c_float_Value, [.cell 4 true 1, .t 5], 45, false) := by kernel_rfl

/-- tallymark/float.wrong -/
abbrev n_float_wrong : FuncId := 248
def c_float_wrong : C := (.seq (.reg false [⟨some 4,.mv (.d (.int .i64 0)),none,[]⟩]) (.seq (.seq (.reg false [⟨some 7,.mv (.t 0),none,[]⟩,⟨some 8,.call 245 [(.t 7)],none,[0]⟩,⟨some 9,.un .not (.t 8),none,[1]⟩]) (.cond (.t 9) (.seq (.reg false
  [⟨some 4,.mv (.d (.int .i64 10)),none,[]⟩]) .ret) .skip)) (.seq (.seq (.reg false [⟨some 10,.mv (.t 1),none,[]⟩,⟨some 11,.len (.t 10),none,[0]⟩,⟨some 12,.mv (.d (.int .i64 0)),none,[]⟩]) (.block 0 (.loop (.seq (.reg
  false [⟨some 13,.bin .lss (.t 12) (.t 11),none,[]⟩]) (.seq (.cond (.t 13) .skip (.exit 0)) (.seq (.block 1 (.seq (.reg false [⟨some 14,.ix 1 (.t 10) (.t 12),none,[]⟩,⟨some 15,.load false 1 (.t 14),none,[0]⟩,⟨some 6,.mv
  (.t 15),none,[1,0,1]⟩]) (.seq (.reg false [⟨some 16,.mv (.t 6),none,[]⟩,⟨some 17,.bin .lss (.t 16) (.d (.int .i64 0)),none,[0]⟩,⟨some 18,.mv (.t 17),none,[1]⟩,⟨some 19,.mv (.t 6),some (18,false),[2]⟩,⟨some 20,.bin .gtr
  (.t 19) (.d (.int .i64 1023)),some (18,false),[3,2]⟩,⟨some 21,.pick (.t 18) (.d (.bool true)) (.t 20),none,[2,4]⟩]) (.cond (.t 21) (.seq (.reg false [⟨some 4,.mv (.d (.int .i64 2)),none,[]⟩]) .ret) .skip)))) (.reg false
  [⟨some 22,.bin .add (.t 12) (.d (.int .i64 1)),none,[]⟩,⟨some 12,.mv (.t 22),none,[0]⟩]))))))) (.seq (.reg false [⟨some 4,.mv (.d (.int .i64 0)),none,[]⟩]) .ret))))
theorem r_float_wrong : fnOf Tryz.prog n_float_wrong = some (c_float_wrong, [.t 4], 23, false) := by kernel_rfl

/-- tallymark/float.parts -/
abbrev n_float_parts : FuncId := 249
def c_float_parts : C := (.seq (.reg false [⟨some 4,.mv (.d (.int .i64 0)),none,[]⟩,⟨some 5,.mv (.d (.int .i64 0)),none,[0]⟩]) (.seq (.reg true [⟨some 6,.mv (.t 1),none,[]⟩,⟨some 7,.mv (.t 0),none,[]⟩,⟨some 8,.bin .shr (.t 6) (.t
  7),none,[0,1]⟩,⟨some 9,.mv (.t 1),none,[]⟩,⟨some 10,.mv (.t 0),none,[]⟩,⟨some 11,.bin .shl (.d (.int .i64 1)) (.t 10),none,[4]⟩,⟨some 12,.bin .sub (.t 11) (.d (.int .i64 1)),none,[5]⟩,⟨some 13,.bin .and (.t 9) (.t
  12),none,[3,6]⟩,⟨some 4,.mv (.t 8),none,[2,0,1,2]⟩,⟨some 5,.mv (.t 13),none,[7,8,0,1,2,3,4,5,6,7,8]⟩]) .ret))
theorem r_float_parts : fnOf Tryz.prog n_float_parts = some (c_float_parts, [.t 4, .t 5], 14, false) := by kernel_rfl

/-- (tallymark/chain.aYu).good -/
abbrev n_chain_aYu_good : FuncId := 252
def c_chain_aYu_good : C := (.seq (.reg false [⟨some 2,.mv (.d (.bool false)),none,[]⟩]) (.seq (.reg false [⟨some 3,.mv (.t 0),none,[]⟩,⟨some 4,.call 257 [(.t 3)],none,[0]⟩,⟨some 2,.mv (.t 4),none,[1,1,0,1]⟩]) .ret))
theorem r_chain_aYu_good : fnOf Tryz.prog n_chain_aYu_good = some (c_chain_aYu_good, [.t 2], 5, false) := by kernel_rfl

/-- (tallymark/chain.aYu).step -/
abbrev n_chain_aYu_step : FuncId := 254
def c_chain_aYu_step : C := (.seq (.reg false [⟨some 6,.mv (.d (.bool false)),none,[]⟩,⟨some 7,.mv (.d (.int .i64 0)),none,[0]⟩]) (.seq (.reg false [⟨some 8,.mv (.t 1),none,[]⟩,⟨some 9,.mv (.t 0),none,[]⟩,⟨some 10,.mv (.t 2),none,[]⟩,⟨some
  11,.call 258 [(.t 8),(.t 9),(.t 10)],none,[0,1,2]⟩,⟨some 12,.ext (.t 11) 0,none,[3]⟩,⟨some 13,.ext (.t 11) 1,none,[3]⟩,⟨some 6,.mv (.t 12),none,[4,3,0,1,2,3,4,5]⟩,⟨some 7,.mv (.t 13),none,[5,6,0,1,2,3,4,5,6]⟩]) .ret))
theorem r_chain_aYu_step : fnOf Tryz.prog n_chain_aYu_step = some (c_chain_aYu_step, [.t 6, .t 7], 14, false) := by kernel_rfl

/-- (tallymark/chain.aYu).value -/
abbrev n_chain_aYu_value : FuncId := 255
def c_chain_aYu_value : C := (.seq (.reg false [⟨some 4,.new 51 [.nilsl,(.bool false),.nilsl],none,[]⟩,⟨some 5,.mv (.d (.int .i64 0)),none,[]⟩]) (.seq (.reg false [⟨some 9,.mv (.t 0),none,[]⟩,⟨some 10,.mv (.t 1),none,[]⟩,⟨some 11,.call 259 [(.t
  9),(.t 10)],none,[0,1]⟩,⟨some 8,.mv (.t 11),none,[2]⟩,⟨some 12,.ext (.t 8) 0,none,[3]⟩,⟨some 13,.ext (.t 8) 1,none,[3]⟩,⟨some 6,.new 303 [(.int .i64 0),(.int .i64 0),.nilsl,.nilsl],none,[]⟩,⟨none,.store 4 (.t 6) (.t
  12),none,[6,4,2,0,1,2,3,4,6]⟩,⟨some 7,.mv (.t 13),none,[5,7,0,1,2,3,4,5,6,7]⟩]) (.seq (.reg false [⟨some 14,.fa 2 (.t 6),none,[]⟩,⟨some 15,.load true 1 (.t 14),none,[0]⟩,⟨some 16,.call 70 [(.t 15)],none,[1]⟩,⟨some
  17,.mv (.t 7),none,[]⟩,⟨none,.store 3 (.t 4) (.t 16),none,[2,2,0,1,2]⟩,⟨some 5,.mv (.t 17),none,[3,4,0,1,2,3,4]⟩]) .ret)))
theorem r_chain_aYu_value : fnOf Tryz.prog n_chain_aYu_value = some (c_chain_aYu_value, [.cell 4 true 3, .t 5], 18, false) := by kernel_rfl

/-- tallymark/yu.Good -/
abbrev n_yu_Good : FuncId := 257
def c_yu_Good : C := (.seq (.reg false [⟨some 2,.mv (.d (.bool false)),none,[]⟩]) (.seq (.reg false [⟨some 3,.mv (.t 0),none,[]⟩,⟨some 4,.bin .geq (.t 3) (.d (.int .i64 1)),none,[0]⟩,⟨some 5,.mv (.t 4),none,[1]⟩,⟨some 6,.mv (.t 0),some
  (5,true),[2]⟩,⟨some 7,.bin .leq (.t 6) (.d (.int .i64 5)),some (5,true),[3,2]⟩,⟨some 8,.pick (.t 5) (.t 7) (.d (.bool false)),none,[2,4]⟩,⟨some 2,.mv (.t 8),none,[5,2,0,1,2,3,4,5]⟩]) .ret))
theorem r_yu_Good : fnOf Tryz.prog n_yu_Good = some (c_yu_Good, [.t 2], 9, false) := by kernel_rfl

/-- tallymark/yu.Step -/
abbrev n_yu_Step : FuncId := 258
def c_yu_Step : C := (.seq (.reg false [⟨some 6,.mv (.d (.bool false)),none,[]⟩,⟨some 7,.mv (.d (.int .i64 0)),none,[0]⟩]) (.seq (.reg false [⟨some 11,.mv (.t 1),none,[]⟩,⟨some 12,.mv (.t 2),none,[]⟩,⟨some 13,.call 259 [(.t 11),(.t
  12)],none,[0,1]⟩,⟨some 10,.mv (.t 13),none,[2]⟩,⟨some 14,.ext (.t 10) 0,none,[3]⟩,⟨some 15,.ext (.t 10) 1,none,[3]⟩,⟨some 8,.new 303 [(.int .i64 0),(.int .i64 0),.nilsl,.nilsl],none,[]⟩,⟨none,.store 4 (.t 8) (.t
  14),none,[6,4,2,0,1,2,3,4,6]⟩,⟨some 9,.mv (.t 15),none,[5,7,0,1,2,3,4,5,6,7]⟩]) (.seq (.seq (.reg false [⟨some 16,.mv (.t 9),none,[]⟩,⟨some 17,.bin .neq (.t 16) (.d (.int .i64 0)),none,[0]⟩]) (.cond (.t 17) (.seq (.reg
  false [⟨some 18,.mv (.t 9),none,[]⟩,⟨some 6,.mv (.d (.bool false)),none,[]⟩,⟨some 7,.mv (.t 18),none,[0,1,0,1]⟩]) .ret) .skip)) (.seq (.reg false [⟨some 19,.mv (.t 0),none,[]⟩,⟨some 20,.fa 1 (.t 8),none,[]⟩,⟨some
  21,.load false 1 (.t 20),none,[1]⟩,⟨some 22,.call 164 [(.t 19),(.t 21)],none,[0,2]⟩,⟨some 23,.ext (.t 22) 0,none,[3]⟩,⟨some 24,.ext (.t 22) 1,none,[3]⟩,⟨some 6,.mv (.t 23),none,[4,3,0,1,2,3,4,5]⟩,⟨some 7,.mv (.t
  24),none,[5,6,0,1,2,3,4,5,6]⟩]) .ret))))
theorem r_yu_Step : fnOf Tryz.prog n_yu_Step = some (c_yu_Step, [.t 6, .t 7], 25, false) := by kernel_rfl

/-- tallymark/yu.At -/
abbrev n_yu_At : FuncId := 259
def c_yu_At : C := (.seq (.reg false [⟨some 3,.box 3 (.t 1),none,[]⟩,⟨some 4,.new 303 [(.int .i64 0),(.int .i64 0),.nilsl,.nilsl],none,[]⟩,⟨some 5,.mv (.d (.int .i64 0)),none,[]⟩]) (.seq (.block 0 (.seq (.reg false [⟨some 10,.mv (.t
  0),none,[]⟩,⟨some 11,.call 257 [(.t 10)],none,[0]⟩,⟨some 12,.un .not (.t 11),none,[1]⟩,⟨some 9,.mv (.t 12),none,[2,1]⟩]) (.cond (.t 9) (.seq (.reg false [⟨some 13,.build [(.int .i64 0),(.int .i64 0),.nilsl,.nilsl]
  [],none,[]⟩,⟨none,.store 4 (.t 4) (.t 13),none,[0,0]⟩,⟨some 5,.mv (.d (.int .i64 10)),none,[1,0,1]⟩]) .ret) (.seq (.reg false [⟨some 15,.load false 1 (.t 3),none,[]⟩,⟨some 16,.bin .lss (.t 15) (.d (.int .i64
  0)),none,[0]⟩,⟨some 17,.mv (.t 16),none,[1]⟩,⟨some 18,.load false 1 (.t 3),some (17,false),[2]⟩,⟨some 19,.bin .gtr (.t 18) (.d (.int .i64 1023)),some (17,false),[3,2]⟩,⟨some 20,.pick (.t 17) (.d (.bool true)) (.t
  19),none,[2,4]⟩,⟨some 14,.mv (.t 20),none,[5,2]⟩]) (.cond (.t 14) (.seq (.reg false [⟨some 21,.build [(.int .i64 0),(.int .i64 0),.nilsl,.nilsl] [],none,[]⟩,⟨none,.store 4 (.t 4) (.t 21),none,[0,0]⟩,⟨some 5,.mv (.d
  (.int .i64 2)),none,[1,0,1]⟩]) .ret) .skip))))) (.seq (.reg false [⟨some 6,.new 303 [(.int .i64 0),(.int .i64 0),.nilsl,.nilsl],none,[]⟩]) (.seq (.seq (.reg false [⟨some 22,.mv (.t 0),none,[]⟩,⟨some 23,.call 260 [(.t
  22)],none,[0]⟩]) (.block 1 .bad)) (.seq (.reg false [⟨some 30,.load true 4 (.t 6),none,[]⟩,⟨none,.store 4 (.t 4) (.t 30),none,[0,0]⟩,⟨some 5,.mv (.d (.int .i64 0)),none,[1,0,1]⟩]) .ret)))))
theorem r_yu_At : fnOf Tryz.prog n_yu_At = some (c_yu_At, [.cell 4 true 4, .t 5], 31, false) := by kernel_rfl

/-- tallymark/yu.walk -/
abbrev n_yu_walk : FuncId := 260
def c_yu_walk : C := (.seq (.reg false [⟨some 1,.box 3 (.t 0),none,[]⟩,⟨some 2,.mv (.d .nilfn),none,[]⟩]) (.seq (.reg false [⟨some 3,.mkf (.func 261) [(.t 1)],none,[]⟩,⟨some 2,.mv (.t 3),none,[0,0]⟩]) .ret))
theorem r_yu_walk : fnOf Tryz.prog n_yu_walk = some (c_yu_walk, [.t 2], 4, false) := by kernel_rfl

/-- tallymark/yu.walk$1 -/
abbrev n_yu_walk_1 : FuncId := 261
def c_yu_walk_1 : C := (.seq (.reg false [⟨some 5,.load false 1 (.t 1),none,[]⟩,⟨some 6,.bin .mul (.d (.int .i64 2)) (.t 5),none,[0]⟩,⟨some 7,.bin .shl (.d (.int .u64 1)) (.t 6),none,[1]⟩,⟨some 8,.bsl 28 1 1 [(.int .u64 0)] [(0,1,(.t
  7))],none,[2]⟩,⟨some 9,.call 108 [(.t 8)],none,[3]⟩,⟨some 10,.build [(.int .i64 0),(.int .i64 0),.nilsl,.nilsl] [(3,1,(.t 9))],none,[4]⟩,⟨some 3,.new 303 [(.int .i64 0),(.int .i64 0),.nilsl,.nilsl],none,[]⟩,⟨none,.store
  4 (.t 3) (.t 10),none,[6,5,4,0,1,2,3,4,5,6]⟩]) (.seq (.reg false [⟨some 4,.mv (.d (.int .i64 0)),none,[]⟩]) (.block 0 (.loop (.seq (.seq (.reg false [⟨some 11,.mv (.t 4),none,[]⟩,⟨some 12,.bin .leq (.t 11) (.d (.int
  .i64 1023)),none,[0]⟩]) (.cond (.t 12) .skip (.exit 0))) (.seq (.block 1 (.seq (.seq (.reg false [⟨some 15,.mv (.t 0),none,[]⟩,⟨some 16,.mv (.t 4),none,[]⟩,⟨some 17,.load true 4 (.t 3),none,[]⟩,⟨some 18,.callv (.t 15)
  [(.t 16),(.t 17)],none,[0,1,2]⟩,⟨some 19,.un .not (.t 18),none,[3]⟩]) (.cond (.t 19) .ret .skip)) (.reg false [⟨some 20,.load true 4 (.t 3),none,[]⟩,⟨some 21,.load false 1 (.t 1),none,[]⟩,⟨some 22,.call 262 [(.t 20),(.t
  21)],none,[0,1]⟩,⟨none,.store 4 (.t 3) (.t 22),none,[2,2,0,1,2]⟩]))) (.reg false [⟨some 13,.mv (.t 4),none,[]⟩,⟨some 14,.bin .add (.t 13) (.d (.int .i64 1)),none,[0]⟩,⟨some 4,.mv (.t 14),none,[1,0,1]⟩])))))))
/-- (tallymark/yu.Place).next -/
abbrev n_yu_Place_next : FuncId := 262
def c_yu_Place_next : C := (.seq (.reg false [⟨some 2,.box 303 (.t 0),none,[]⟩,⟨some 4,.new 303 [(.int .i64 0),(.int .i64 0),.nilsl,.nilsl],none,[]⟩]) (.seq (.reg true [⟨some 8,.bsl 28 1 1 [(.int .u64 0)] [(0,1,(.d (.int .u64 1)))],none,[]⟩,⟨some
  9,.call 108 [(.t 8)],none,[0]⟩,⟨some 10,.fa 1 (.t 2),none,[]⟩,⟨some 11,.load false 1 (.t 10),none,[2]⟩,⟨some 12,.call 120 [(.t 9),(.t 11)],none,[1,3,1]⟩,⟨some 7,.mv (.t 12),none,[4]⟩,⟨some 13,.ext (.t 7)
  0,none,[5]⟩,⟨some 14,.ext (.t 7) 1,none,[5]⟩,⟨some 5,.new 47 [.nilsl],none,[]⟩,⟨none,.store 1 (.t 5) (.t 13),none,[8,6,4,0,1,2,3,4,5,6,8]⟩,⟨some 6,.mv (.t 14),none,[7,9,0,1,2,3,4,5,6,7,8,9]⟩]) (.seq (.reg false [⟨some
  15,.fa 2 (.t 2),none,[]⟩,⟨some 16,.load true 1 (.t 15),none,[0]⟩,⟨some 17,.load true 1 (.t 5),none,[]⟩,⟨some 18,.call 110 [(.t 16),(.t 17)],none,[1,2]⟩,⟨some 19,.fa 2 (.t 2),none,[0,1,2,3]⟩,⟨none,.store 1 (.t 19) (.t
  18),none,[4,3,3,0,1,2,3]⟩]) (.seq (.seq (.reg false [⟨some 20,.fa 2 (.t 2),none,[]⟩,⟨some 21,.load true 1 (.t 20),none,[0]⟩,⟨some 22,.fa 3 (.t 2),none,[]⟩,⟨some 23,.load true 1 (.t 22),none,[2]⟩,⟨some 24,.call 105 [(.t
  21),(.t 23)],none,[1,3]⟩,⟨some 25,.bin .geq (.t 24) (.d (.int .i64 0)),none,[4]⟩]) (.cond (.t 25) (.seq (.reg false [⟨some 26,.fa 0 (.t 2),none,[]⟩,⟨some 27,.load false 1 (.t 26),none,[0]⟩,⟨some 28,.bin .add (.t 27) (.d
  (.int .i64 1)),none,[1]⟩,⟨some 29,.fa 0 (.t 2),none,[0,1,2]⟩,⟨none,.store 1 (.t 29) (.t 28),none,[3,2,0,1,2]⟩]) (.seq (.reg false [⟨some 30,.mv (.t 1),none,[]⟩,⟨some 31,.fa 3 (.t 2),none,[]⟩,⟨some 32,.load true 1 (.t
  31),none,[1]⟩,⟨some 33,.call 263 [(.t 30),(.t 32)],none,[0,2]⟩,⟨some 34,.fa 3 (.t 2),none,[0,1,2,3]⟩,⟨none,.store 1 (.t 34) (.t 33),none,[4,3,3,0,1,2,3]⟩]) (.reg false [⟨some 35,.mv (.t 1),none,[]⟩,⟨some 36,.fa 3 (.t
  2),none,[]⟩,⟨some 37,.load true 1 (.t 36),none,[1]⟩,⟨some 38,.call 264 [(.t 35),(.t 37)],none,[0,2]⟩,⟨some 39,.fa 1 (.t 2),none,[0,1,2,3]⟩,⟨none,.store 1 (.t 39) (.t 38),none,[4,3,3,0,1,2,3]⟩]))) .skip)) (.seq (.reg
  false [⟨some 40,.load true 4 (.t 2),none,[]⟩,⟨none,.store 4 (.t 4) (.t 40),none,[0,0]⟩]) .ret)))))
theorem r_yu_Place_next : fnOf Tryz.prog n_yu_Place_next = some (c_yu_Place_next, [.cell 4 true 4], 41, false) := by kernel_rfl

/-- tallymark/yu.more -/
abbrev n_yu_more : FuncId := 263
def c_yu_more : C := (.seq (.reg false [⟨some 3,.box 47 (.t 1),none,[]⟩,⟨some 4,.new 47 [.nilsl],none,[]⟩]) (.seq (.reg false [⟨some 8,.load true 1 (.t 3),none,[]⟩,⟨some 9,.mv (.t 0),none,[]⟩,⟨some 10,.call 236 [(.t 8),(.t
  9)],none,[0,1]⟩,⟨some 5,.new 47 [.nilsl],none,[]⟩,⟨none,.store 1 (.t 5) (.t 10),none,[3,2,2,0,1,2,3]⟩]) (.seq (.seq (.reg false [⟨some 12,.load true 1 (.t 5),none,[]⟩,⟨some 13,.mv (.t 0),none,[]⟩,⟨some 14,.call 120 [(.t
  12),(.t 13)],none,[0,1]⟩,⟨some 11,.mv (.t 14),none,[2]⟩,⟨some 15,.ext (.t 11) 0,none,[3]⟩,⟨some 16,.ext (.t 11) 1,none,[3]⟩,⟨some 6,.new 47 [.nilsl],none,[]⟩,⟨none,.store 1 (.t 6) (.t 15),none,[6,4,2,0,1,2,3,4,6]⟩,⟨some
  7,.mv (.t 16),none,[5,7,0,1,2,3,4,5,6,7]⟩]) (.seq (.reg false [⟨some 17,.load true 1 (.t 6),none,[]⟩,⟨some 18,.load true 1 (.t 3),none,[]⟩,⟨some 19,.call 105 [(.t 17),(.t 18)],none,[0,1]⟩,⟨some 20,.bin .lss (.t 19) (.d
  (.int .i64 0)),none,[2]⟩]) (.cond (.t 20) (.reg true [⟨some 21,.load true 1 (.t 5),none,[]⟩,⟨some 22,.bsl 28 1 1 [(.int .u64 0)] [(0,1,(.d (.int .u64 1)))],none,[]⟩,⟨some 23,.call 108 [(.t 22)],none,[1]⟩,⟨some 24,.call
  110 [(.t 21),(.t 23)],none,[0,2,2]⟩,⟨none,.store 1 (.t 5) (.t 24),none,[3,3,0,1,2,3]⟩]) .skip))) (.seq (.reg false [⟨some 25,.load true 1 (.t 3),none,[]⟩,⟨some 26,.load true 1 (.t 5),none,[]⟩,⟨some 27,.call 110 [(.t
  25),(.t 26)],none,[0,1]⟩,⟨none,.store 1 (.t 4) (.t 27),none,[2,2,0,1,2]⟩]) .ret))))
theorem r_yu_more : fnOf Tryz.prog n_yu_more = some (c_yu_more, [.cell 4 true 1], 28, false) := by kernel_rfl

/-- tallymark/yu.shift -/
abbrev n_yu_shift : FuncId := 264
def c_yu_shift : C := (.seq (.reg false [⟨some 3,.box 47 (.t 1),none,[]⟩,⟨some 4,.mv (.d (.int .i64 0)),none,[]⟩]) (.seq (.reg false [⟨some 5,.load true 1 (.t 3),none,[]⟩,⟨some 6,.call 201 [(.t 5)],none,[0]⟩,⟨some 7,.bin .sub (.t 6) (.d
  (.int .i64 1)),none,[1]⟩,⟨some 8,.mv (.t 0),none,[]⟩,⟨some 9,.bin .mul (.d (.int .i64 2)) (.t 8),none,[3]⟩,⟨some 10,.bin .sub (.t 7) (.t 9),none,[2,4]⟩,⟨some 11,.mm true [(.d (.int .i64 0)),(.t 10)],none,[5]⟩,⟨some
  4,.mv (.t 11),none,[6,1,0,1,2,3,4,5,6]⟩]) .ret))
theorem r_yu_shift : fnOf Tryz.prog n_yu_shift = some (c_yu_shift, [.t 4], 12, false) := by kernel_rfl

/-- math/bits.Add64 -/
abbrev n_math_bits_Add64 : FuncId := 149
theorem x_math_bits_Add64 : Tryz.prog.funcs[n_math_bits_Add64]? = some Tryz.f149 := Tryz.func149
/-- math/bits.Sub64 -/
abbrev n_math_bits_Sub64 : FuncId := 234
theorem x_math_bits_Sub64 : Tryz.prog.funcs[n_math_bits_Sub64]? = some Tryz.f234 := Tryz.func234
end
end Go.Proofs.YtijbgbpjionfjaaGreatDoor.Am
namespace Go.Proofs.YtijbgbpjionfjaaGreatDoor.Am
section
/-- what words stand for, the lowest first -/
def wval : List Nat → Nat
  | [] => 0
  | x :: l => x + 18446744073709551616 * wval l
def small (ws : List Nat) : Prop := ∀ x ∈ ws, x < 18446744073709551616

theorem wval_append : ∀ (a b : List Nat), wval (a ++ b) = wval a + 18446744073709551616 ^ a.length * wval b := by
  intro a
  induction a with
  | nil => intro b; simp [wval]
  | cons x a ih => intro b; simp only [List.cons_append, wval, List.length_cons]; rw [ih, Nat.pow_succ, Nat.mul_add, ← Nat.mul_assoc, Nat.mul_comm 18446744073709551616 (18446744073709551616 ^ a.length)]; omega
theorem wval_zeros : ∀ n, wval (List.replicate n 0) = 0 := by
  intro n
  induction n with
  | zero => rfl
  | succ n ih => rw [List.replicate_succ, wval, ih]
theorem wval_lt : ∀ {ws : List Nat}, small ws → wval ws < 18446744073709551616 ^ ws.length := by
  intro ws
  induction ws with
  | nil => intro _; simp [wval]
  | cons x l ih =>
    intro h
    have h1 := h x (by simp)
    have h2 := ih (fun y hy => h y (by simp [hy]))
    rw [wval, List.length_cons, Nat.pow_succ]
    omega

/-- how many are left when the highest that are 0 are struck, of the first n -/
def trimN (ws : List Nat) : Nat → Nat
  | 0 => 0
  | n + 1 => if ws.getD n 0 = 0 then trimN ws n else n + 1
theorem take_succ_getD (ws : List Nat) (n : Nat) (h : n < ws.length) : ws.take (n + 1) = ws.take n ++ [ws.getD n 0] := by
  rw [List.take_add_one, List.getElem?_eq_getElem h]
  simp [List.getD, List.getElem?_eq_getElem h]
theorem trimN_val (ws : List Nat) : ∀ n, n ≤ ws.length → wval (ws.take (trimN ws n)) = wval (ws.take n) := by
  intro n
  induction n with
  | zero => intro _; rfl
  | succ n ih =>
    intro h
    unfold trimN
    split
    · rename_i h0
      rw [ih (by omega), take_succ_getD _ _ (by omega), wval_append, h0]
      simp [wval]
    · rfl
/-- the highest isn't 0 -/
def top1 (ws : List Nat) : Prop := ∀ k, ws.length = k + 1 → ws.getD k 0 ≠ 0
theorem trimN_top (ws : List Nat) : ∀ n, n ≤ ws.length → top1 (ws.take (trimN ws n)) := by
  intro n
  induction n with
  | zero => intro _ k hk; simp [trimN] at hk
  | succ n ih =>
    intro h
    unfold trimN
    split
    · exact ih (by omega)
    · rename_i h0
      intro k hk
      rw [List.length_take, Nat.min_eq_left h] at hk
      obtain rfl : n = k := by omega
      have e : (ws.take (n + 1)).getD n 0 = ws.getD n 0 := by simp [List.getD]
      rw [e]
      exact h0

theorem small.take {ws : List Nat} (h : small ws) (n : Nat) : small (ws.take n) := fun x hx => h x (List.mem_of_mem_take hx)

theorem top1_zero {ws : List Nat} (h : small ws) (ht : top1 ws) (h0 : wval ws = 0) : ws = [] := by
  rcases ws.eq_nil_or_concat with rfl | ⟨l, x, rfl⟩
  · rfl
  · exfalso
    have := ht l.length (by simp)
    simp at this
    simp [wval_append, wval] at h0
    rcases Nat.mul_eq_zero.1 h0.2 with h | h
    · exact absurd h (Nat.pos_iff_ne_zero.1 (Nat.pow_pos (by decide)))
    · exact this h

/-- words are what they stand for -/
theorem words_eq : ∀ {a b : List Nat}, small a → small b → top1 a → top1 b → wval a = wval b → a = b := by
  intro a
  induction a with
  | nil => intro b _ hb _ tb h; exact (top1_zero hb tb h.symm).symm
  | cons x a ih =>
    intro b ha hb ta tb h
    cases b with
    | nil => exact absurd (top1_zero ha ta h) (by simp)
    | cons y b =>
      have h1 := ha x (by simp)
      have h2 := hb y (by simp)
      simp only [wval] at h
      have e : x = y := by omega
      subst e
      have e2 : wval a = wval b := by omega
      have e3 : a = b := ih (fun z hz => ha z (by simp [hz])) (fun z hz => hb z (by simp [hz])) (fun k hk => by have := ta (k + 1) (by simp [hk]); simpa using this) (fun k hk => by have := tb (k + 1) (by simp [hk]); simpa using this) e2
      rw [e3]

/-- moved up by less than a word, with what comes from below -/
def movedL (k : Nat) : Nat → List Nat → List Nat
  | c, [] => [c]
  | c, x :: l => ((x * 2 ^ k) % 18446744073709551616 + c) :: movedL k (x * 2 ^ k / 18446744073709551616) l
theorem movedL_len (k : Nat) : ∀ (l : List Nat) (c : Nat), (movedL k c l).length = l.length + 1 := by
  intro l
  induction l with
  | nil => intro c; rfl
  | cons x l ih => intro c; simp [movedL, ih]
theorem movedL_val (k : Nat) : ∀ (l : List Nat) (c : Nat), wval (movedL k c l) = wval l * 2 ^ k + c := by
  intro l
  induction l with
  | nil => intro c; simp [movedL, wval]
  | cons x l ih =>
    intro c
    rw [movedL, wval, ih, wval]
    have := Nat.div_add_mod (x * 2 ^ k) 18446744073709551616
    rw [Nat.add_mul, Nat.mul_add, Nat.mul_assoc]
    omega
theorem movedL_small {k : Nat} (hk : k < 64) : ∀ {l : List Nat} {c : Nat}, small l → c < 2 ^ k → small (movedL k c l) := by
  have p64 : (18446744073709551616 : Nat) = 2 ^ (64 - k) * 2 ^ k := by rw [← Nat.pow_add, show 64 - k + k = 64 by omega]
  intro l
  induction l with
  | nil =>
    intro c _ hc x hx
    simp [movedL] at hx; subst hx
    exact Nat.lt_trans hc (by rw [show (18446744073709551616 : Nat) = 2 ^ 64 by decide]; exact Nat.pow_lt_pow_right (by decide) hk)
  | cons y l ih =>
    intro c h hc x hx
    simp only [movedL, List.mem_cons] at hx
    have hy := h y (by simp)
    rcases hx with rfl | hx
    · rw [p64, Nat.mul_mod_mul_right]
      have : y % 2 ^ (64 - k) < 2 ^ (64 - k) := Nat.mod_lt _ (Nat.pow_pos (by decide))
      calc _ < y % 2 ^ (64 - k) * 2 ^ k + 2 ^ k := by omega
        _ = (y % 2 ^ (64 - k) + 1) * 2 ^ k := by rw [Nat.add_mul, Nat.one_mul]
        _ ≤ _ := Nat.mul_le_mul_right _ this
    · refine ih (fun z hz => h z (by simp [hz])) ?_ x hx
      apply Nat.div_lt_of_lt_mul
      exact Nat.mul_lt_mul_of_pos_right hy (Nat.pow_pos (by decide))

/-- the same, its last word apart -/
def movedB (k : Nat) : Nat → List Nat → List Nat
  | _, [] => []
  | c, x :: l => ((x * 2 ^ k) % 18446744073709551616 + c) :: movedB k (x * 2 ^ k / 18446744073709551616) l
def movedC (k : Nat) : Nat → List Nat → Nat
  | c, [] => c
  | _, x :: l => movedC k (x * 2 ^ k / 18446744073709551616) l
theorem movedL_eq (k : Nat) : ∀ (l : List Nat) (c : Nat), movedL k c l = movedB k c l ++ [movedC k c l] := by
  intro l
  induction l with
  | nil => intro c; rfl
  | cons x l ih => intro c; simp [movedL, movedB, movedC, ih]
theorem movedB_len (k : Nat) (l : List Nat) (c : Nat) : (movedB k c l).length = l.length := by
  have h := movedL_len k l c
  rw [movedL_eq, List.length_append] at h
  simpa using h
theorem movedB_snoc (k : Nat) (x : Nat) : ∀ (l : List Nat) (c : Nat), movedB k c (l ++ [x]) = movedB k c l ++ [(x * 2 ^ k) % 18446744073709551616 + movedC k c l] := by
  intro l
  induction l with
  | nil => intro c; rfl
  | cons y l ih => intro c; simp [movedB, movedC, ih]
theorem movedC_snoc (k : Nat) (x : Nat) : ∀ (l : List Nat) (c : Nat), movedC k c (l ++ [x]) = x * 2 ^ k / 18446744073709551616 := by
  intro l
  induction l with
  | nil => intro c; rfl
  | cons y l ih => intro c; simp [movedC, ih]
theorem moved_lt {k x : Nat} (hx : x < 18446744073709551616) : x * 2 ^ k / 18446744073709551616 < 2 ^ k := by
  apply Nat.div_lt_of_lt_mul
  exact Nat.mul_lt_mul_of_pos_right hx (Nat.pow_pos (by decide))
theorem movedC_lt {k : Nat} : ∀ {l : List Nat} {c : Nat}, small l → c < 2 ^ k → movedC k c l < 2 ^ k := by
  intro l
  induction l with
  | nil => intro c _ hc; exact hc
  | cons x l ih => intro c h hc; exact ih (fun z hz => h z (by simp [hz])) (moved_lt (h x (by simp)))
/-- the bits of what was moved up, and what comes from below -/
theorem or_moved {k x c : Nat} (hk : k < 64) (hc : c < 2 ^ k) : c ||| (x * 2 ^ k) % 18446744073709551616 = (x * 2 ^ k) % 18446744073709551616 + c := by
  have p64 : (18446744073709551616 : Nat) = 2 ^ (64 - k) * 2 ^ k := by rw [← Nat.pow_add, show 64 - k + k = 64 by omega]
  rw [p64, Nat.mul_mod_mul_right, Nat.or_comm, Nat.mul_comm]
  exact (Nat.two_pow_add_eq_or_of_lt hc _).symm
theorem moved_div {k x : Nat} (hk : k ≤ 64) : x * 2 ^ k / 18446744073709551616 = x / 2 ^ (64 - k) := by
  have p64 : (18446744073709551616 : Nat) = 2 ^ (64 - k) * 2 ^ k := by rw [← Nat.pow_add, show 64 - k + k = 64 by omega]
  rw [p64, Nat.mul_div_mul_right _ _ (Nat.pow_pos (by decide))]

/-- so many words are there at least -/
theorem words_le : ∀ {ws : List Nat} {m : Nat}, top1 ws → wval ws < 18446744073709551616 ^ m → ws.length ≤ m := by
  intro ws
  induction ws with
  | nil => intro m _ _; exact Nat.zero_le _
  | cons x l ih =>
    intro m ht h
    cases m with
    | zero =>
      exfalso
      rw [Nat.pow_zero] at h
      rw [wval] at h
      cases l with
      | nil =>
        have := ht 0 rfl
        simp [wval] at this h
        omega
      | cons y l =>
        have hw : wval (y :: l) = 0 := by omega
        have : (y :: l).length ≤ 0 := ih (m := 0) (fun k hk => by have := ht (k + 1) (by simp [hk]); simpa using this) (by rw [hw]; decide)
        simp at this
    | succ m =>
      rw [List.length_cons]
      have : l.length ≤ m := by
        cases l with
        | nil => exact Nat.zero_le _
        | cons y l =>
          refine ih (fun k hk => by have := ht (k + 1) (by simp [hk]); simpa using this) ?_
          rw [wval, Nat.pow_succ] at h
          omega
      omega

theorem wval_range (f : Nat → Nat) (n : Nat) : wval ((List.range (n + 1)).map f) = wval ((List.range n).map f) + 18446744073709551616 ^ n * f n := by
  rw [List.range_succ, List.map_append, wval_append]
  simp [wval]
theorem wval_take (l : List Nat) (n : Nat) : wval (l.take (n + 1)) = wval (l.take n) + 18446744073709551616 ^ n * l.getD n 0 := by
  by_cases h : n < l.length
  · rw [take_succ_getD _ _ h, wval_append, List.length_take, Nat.min_eq_left (Nat.le_of_lt h)]
    simp [wval]
  · rw [List.take_of_length_le (by omega), List.take_of_length_le (by omega)]
    simp [List.getD, List.getElem?_eq_none (show l.length ≤ n by omega)]

/-- the carry into word n -/
def carryW (a b : List Nat) : Nat → Nat
  | 0 => 0
  | n + 1 => (a.getD n 0 + b.getD n 0 + carryW a b n) / 18446744073709551616
def addW (a b : List Nat) (n : Nat) : Nat := (a.getD n 0 + b.getD n 0 + carryW a b n) % 18446744073709551616

theorem small.getD {l : List Nat} (h : small l) (n : Nat) : l.getD n 0 < 18446744073709551616 := by
  by_cases hn : n < l.length
  · rw [List.getD, List.getElem?_eq_getElem hn]; exact h _ (List.getElem_mem hn)
  · simp [List.getD, List.getElem?_eq_none (show l.length ≤ n by omega)]
theorem carryW_le {a b : List Nat} (ha : small a) (hb : small b) : ∀ n, carryW a b n ≤ 1 := by
  intro n
  induction n with
  | zero => exact Nat.zero_le _
  | succ n ih =>
    have h1 := ha.getD n
    have h2 := hb.getD n
    simp only [carryW]
    omega
theorem addW_val (a b : List Nat) : ∀ n, wval ((List.range n).map (addW a b)) + 18446744073709551616 ^ n * carryW a b n = wval (a.take n) + wval (b.take n) := by
  intro n
  induction n with
  | zero => simp [wval, carryW]
  | succ n ih =>
    rw [wval_range, wval_take, wval_take]
    have := Nat.div_add_mod (a.getD n 0 + b.getD n 0 + carryW a b n) 18446744073709551616
    simp only [addW, carryW]
    rw [Nat.pow_succ]
    generalize 18446744073709551616 ^ n = P at *
    generalize (a.getD n 0 + b.getD n 0 + carryW a b n) / 18446744073709551616 = q at *
    generalize (a.getD n 0 + b.getD n 0 + carryW a b n) % 18446744073709551616 = r at *
    have e : P * (18446744073709551616 * q + r) = P * a.getD n 0 + P * b.getD n 0 + P * carryW a b n := by rw [this]; simp [Nat.mul_add]
    rw [Nat.mul_add, ← Nat.mul_assoc] at e
    omega

/-- the borrow into word n -/
def borrowW (a b : List Nat) : Nat → Nat
  | 0 => 0
  | n + 1 => if a.getD n 0 < b.getD n 0 + borrowW a b n then 1 else 0
def subW (a b : List Nat) (n : Nat) : Nat := (a.getD n 0 + 18446744073709551616 - b.getD n 0 - borrowW a b n) % 18446744073709551616
theorem borrowW_le (a b : List Nat) : ∀ n, borrowW a b n ≤ 1 := by
  intro n
  cases n with
  | zero => exact Nat.zero_le _
  | succ n => simp only [borrowW]; split <;> omega
theorem subW_val {a b : List Nat} (ha : small a) (hb : small b) : ∀ n, wval ((List.range n).map (subW a b)) + wval (b.take n) = wval (a.take n) + 18446744073709551616 ^ n * borrowW a b n := by
  intro n
  induction n with
  | zero => simp [wval, borrowW]
  | succ n ih =>
    rw [wval_range, wval_take, wval_take]
    have h1 := ha.getD n
    have h2 := hb.getD n
    have h3 := borrowW_le a b n
    have e : subW a b n + b.getD n 0 + borrowW a b n = a.getD n 0 + 18446744073709551616 * borrowW a b (n + 1) := by
      simp only [subW, borrowW]
      split <;> omega
    rw [Nat.pow_succ, Nat.mul_assoc]
    generalize 18446744073709551616 ^ n = P at *
    have e2 : P * subW a b n + P * b.getD n 0 + P * borrowW a b n = P * a.getD n 0 + P * (18446744073709551616 * borrowW a b (n + 1)) := by rw [← Nat.mul_add, ← Nat.mul_add, e, Nat.mul_add]
    omega
theorem range_small {f : Nat → Nat} (h : ∀ i, f i < 18446744073709551616) (n : Nat) : small ((List.range n).map f) := by
  intro x hx
  obtain ⟨i, _, rfl⟩ := List.mem_map.1 hx
  exact h i
theorem addW_lt (a b : List Nat) (i : Nat) : addW a b i < 18446744073709551616 := Nat.mod_lt _ (by decide)
theorem subW_lt (a b : List Nat) (i : Nat) : subW a b i < 18446744073709551616 := Nat.mod_lt _ (by decide)

theorem shorter_lt {a b : List Nat} (ha : small a) (hb : top1 b) (h : a.length < b.length) : wval a < wval b := by
  refine Nat.lt_of_lt_of_le (wval_lt ha) ?_
  apply Nat.le_of_not_lt
  intro hlt
  have := words_le hb hlt
  omega
/-- from the highest on, the first that are unlike tell -/
def cmpN (a b : List Nat) : Nat → Int
  | 0 => 0
  | n + 1 => if a.getD n 0 < b.getD n 0 then -1 else if b.getD n 0 < a.getD n 0 then 1 else cmpN a b n
theorem take_lt {l : List Nat} (h : small l) (n : Nat) : wval (l.take n) < 18446744073709551616 ^ n := by
  have := wval_lt (h.take n)
  rw [List.length_take] at this
  exact Nat.lt_of_lt_of_le this (Nat.pow_le_pow_right (by decide) (Nat.min_le_left _ _))
theorem cmpN_val {a b : List Nat} (ha : small a) (hb : small b) : ∀ n, cmpN a b n = if wval (a.take n) < wval (b.take n) then -1 else if wval (b.take n) < wval (a.take n) then 1 else 0 := by
  intro n
  induction n with
  | zero => simp [cmpN, wval]
  | succ n ih =>
    rw [wval_take, wval_take]
    have h1 := take_lt ha n
    have h2 := take_lt hb n
    simp only [cmpN]
    generalize 18446744073709551616 ^ n = P at *
    generalize a.getD n 0 = x at *
    generalize b.getD n 0 = y at *
    by_cases hxy : x < y
    · rw [if_pos hxy, if_pos]
      have : P * (x + 1) ≤ P * y := Nat.mul_le_mul_left _ hxy
      rw [Nat.mul_add] at this
      omega
    · rw [if_neg hxy]
      by_cases hyx : y < x
      · have : P * (y + 1) ≤ P * x := Nat.mul_le_mul_left _ hyx
        rw [Nat.mul_add] at this
        rw [if_pos hyx, if_neg (by omega), if_pos (by omega)]
      · obtain rfl : x = y := by omega
        rw [if_neg hyx, ih]
        simp only [Nat.add_lt_add_iff_right]
/-- less, the same, more -/
def cmpZ (m n : Nat) : Int := if m < n then -1 else if n < m then 1 else 0
end
end Go.Proofs.YtijbgbpjionfjaaGreatDoor.Am
namespace Go.Proofs.YtijbgbpjionfjaaGreatDoor.Am
section
open Go.RowKit
/-- words, as data -/
def W (ws : List Nat) : D := .sl ws.length (ws.map fun x : Nat => .int .u64 x)

/-- the words of a number -/
def wordsF : Nat → Nat → List Nat
  | 0, _ => []
  | f + 1, n => if n = 0 then [] else (n % 18446744073709551616) :: wordsF f (n / 18446744073709551616)
def words (n : Nat) : List Nat := wordsF n n

theorem wordsF_ok : ∀ (f n : Nat), n ≤ f → wval (wordsF f n) = n ∧ small (wordsF f n) ∧ top1 (wordsF f n)
  | 0, n, h => by
    obtain rfl : n = 0 := by omega
    exact ⟨rfl, by simp [small, wordsF], by intro k hk; simp [wordsF] at hk⟩
  | f + 1, n, h => by
    by_cases h0 : n = 0
    · subst h0
      simp only [wordsF, if_true]
      exact ⟨rfl, by simp [small], by intro k hk; simp at hk⟩
    · obtain ⟨h1, h2, h3⟩ := wordsF_ok f (n / 18446744073709551616) (by omega)
      simp only [wordsF, if_neg h0]
      refine ⟨by simp only [wval, h1]; omega, fun x hx => ?_, fun k hk => ?_⟩
      · rcases List.mem_cons.1 hx with rfl | hx
        · omega
        · exact h2 x hx
      · cases hl : wordsF f (n / 18446744073709551616) with
        | nil =>
          rw [hl] at h1 hk
          simp [wval] at h1 hk
          subst hk
          simp; omega
        | cons y r =>
          rw [hl] at hk h3
          simp at hk
          subst hk
          have := h3 r.length rfl
          simpa using this
theorem words_val (n : Nat) : wval (words n) = n := (wordsF_ok n n (Nat.le_refl _)).1
theorem words_small (n : Nat) : small (words n) := (wordsF_ok n n (Nat.le_refl _)).2.1
theorem words_top (n : Nat) : top1 (words n) := (wordsF_ok n n (Nat.le_refl _)).2.2
theorem words_of {ws : List Nat} (h : small ws) (ht : top1 ws) : words (wval ws) = ws := words_eq (words_small _) h (words_top _) ht (words_val _)
theorem words_nil {n : Nat} : words n = [] ↔ n = 0 := by
  constructor
  · intro h; have := words_val n; rw [h] at this; exact this.symm
  · rintro rfl; rfl

/-- a number -/
def natW (n : Nat) : D := W (words n)
theorem natW_of {ws : List Nat} (h : small ws) (ht : top1 ws) : natW (wval ws) = W ws := by rw [natW, words_of h ht]
theorem natW_zero : natW 0 = .sl 0 [] := rfl
/-- how many words -/
def size (n : Nat) : Nat := (words n).length

theorem clone64_ok (n : Nat) (l : List D) (hl : l.length = n) (hn : n ≤ 4000000000) : Eqn Tryz.prog n_slices_Clone_uint64_uint64 [.d (.sl n l)] [] (.d (.sl n l)) [] := by
  refine Eqn.pure r_slices_Clone_uint64_uint64 (plain_d _) ?_
  simp only [c_slices_Clone_uint64_uint64]
  rcases Nat.eq_zero_or_pos n with rfl | h0
  · have : l = [] := List.eq_nil_of_length_eq_zero hl
    subst this
    refine AW.empty 0 rfl ?_ ?_
    · simp
      refine G0 ?_; try with_reducible exact tt
      refine AW.cond rfl (fun h => ?_) (fun h => ?_)
      · refine G0 ?_; try with_reducible exact tt
        exact Sub1.nil
      · simp at h
    · simp
      refine G0 ?_; try with_reducible exact tt
      refine AW.cond rfl (fun h => ?_) (fun h => ?_)
      · simp at h
      · refine G0 ?_; try with_reducible exact tt
        exact Sub1.sl0
  · refine G1 h0 ?_; try with_reducible exact tt
    refine AW.cond rfl (fun h => ?_) (fun h => ?_)
    · simp at h
    · refine G0 ?_; try with_reducible exact tt
      have h1 : ¬ n = 0 := by omega
      simp [h1, hl]
      refine need.of (by omega) ?_
      refine AW.freeze 0 1 ⟨28, l.map .d⟩ l (by simp) rfl ?_
      simp
      refine G0 ?_; try with_reducible exact tt
      have : l.take n = l := List.take_of_length_le (by omega)
      simp [this]

theorem W_get {ws : List Nat} {k : Nat} (h : k < ws.length) : ws[k] = ws.getD k 0 := by simp [List.getD, h]

theorem trimmed_ok (ws : List Nat) (hs : small ws) (hn : ws.length ≤ 4000000000) : Eqn Tryz.prog n_nat_trimmed [.d (W ws)] [] (.d (.agg [natW (wval ws)])) [] := by
  refine Eqn.pure r_nat_trimmed (plain_d _) ?_
  simp only [c_nat_trimmed, W]
  refine G0 ?_; try with_reducible exact tt
  refine AW.loopT (α := Nat) 1 (fun m => [(3, .d (.int .i64 (m : Int)))]) (fun _ => []) (fun m => m ≤ ws.length ∧ trimN ws m = trimN ws ws.length) (fun m => m) ws.length ?_ ?_ ⟨Nat.le_refl _, rfl⟩ ?_ ?_ ?_
  · simp
  · simp
  · simp
  · simp
  rintro m ⟨hm, ht⟩
  simp
  have fin : ∀ k, k = trimN ws ws.length → W (ws.take k) = natW (wval ws) := by
    rintro k rfl
    have := natW_of (hs.take (trimN ws ws.length)) (trimN_top ws _ (Nat.le_refl _))
    rw [← this, trimN_val _ _ (Nat.le_refl _), List.take_length]
  cases m with
  | zero =>
    refine G0 ?_; try with_reducible exact tt
    refine AW.cond rfl (fun h => ?_) (fun h => ?_)
    · simp at h
    refine G0 ?_; try with_reducible exact tt
    refine Sub1.of ?_
    rw [← fin 0 ht]
    simp [W]
  | succ m =>
    have hm' : m < ws.length := hm
    have hp : (0 : Int) < (m : Int) + 1 := by omega
    have e : (m : Int) + 1 - 1 = m := by omega
    have ew : IntKind.i64.wrap (m : Int) = m := w64 (by omega) (by omega)
    refine G1 (fs hp (fs e (fs ew hm'))) ?_; try with_reducible exact tt
    refine AW.cond rfl (fun h => ?_) (fun h => ?_)
    · simp at h
      refine G1 (fs hp (fs e ew)) ?_; try with_reducible exact tt
      refine ⟨m, ⟨by omega, ?_⟩, ?_⟩
      · rw [← ht, trimN, if_pos]
        rw [← W_get hm']; omega
      · simp
    · simp at h
      refine G0 ?_; try with_reducible exact tt
      have hk : m + 1 = trimN ws ws.length := by
        rw [← ht, trimN, if_neg]
        rw [← W_get hm']; omega
      refine G0 ?_; try with_reducible exact tt
      refine Sub1.of ?_
      rw [← fin _ hk]
      simp [W]
      omega

theorem of_ok (ws : List Nat) (hs : small ws) (hn : ws.length ≤ 4000000000) : Eqn Tryz.prog n_nat_Of [.d (W ws)] [] (.d (.agg [natW (wval ws)])) [] := by
  refine Eqn.pure r_nat_Of (plain_d _) ?_
  simp only [c_nat_Of, W]
  refine G0 ?_; try with_reducible exact tt
  refine CallS.pu (clone64_ok _ (ws.map fun x : Nat => .int .u64 x) (by simp) hn) (R0 ?_); try with_reducible exact tt
  refine CallS.pu (trimmed_ok ws hs hn) (R0 ?_); try with_reducible exact tt

theorem zero_ok (n : Nat) : Eqn Tryz.prog n_nat_Nat_Zero [.d (.agg [natW n])] [] (.d (.bool (n == 0))) [] := by
  refine Eqn.pure r_nat_Nat_Zero (plain_d _) ?_
  simp only [c_nat_Nat_Zero, natW, W]
  refine G0 ?_; try with_reducible exact tt
  refine Sub1.bool ?_
  rw [Bool.eq_iff_iff]
  simp [words_nil]

theorem size_lt {m n : Nat} (h : size m < size n) : m < n := by
  have := shorter_lt (words_small m) (words_top n) h
  rwa [words_val, words_val] at this

theorem cmp_ok (m n : Nat) (hm : size m ≤ 1000000) (hn : size n ≤ 1000000) : Eqn Tryz.prog n_nat_Cmp [.d (.agg [natW m]), .d (.agg [natW n])] [] (.d (.int .i64 (cmpZ m n))) [] := by
  refine Eqn.pure r_nat_Cmp (plain_d _) ?_
  unfold size at hm hn
  have sa := words_small m
  have sb := words_small n
  simp only [c_nat_Cmp, natW, W]
  have hz : cmpZ m n = if (words m).length < (words n).length then -1 else if (words n).length < (words m).length then 1 else cmpN (words m) (words n) (words m).length := by
    split
    · rename_i h; rw [cmpZ, if_pos (size_lt h)]
    · split
      · rename_i h; have := size_lt h; rw [cmpZ, if_neg (by omega), if_pos this]
      · have := cmpN_val sa sb (words m).length
        rw [List.take_length, show (words m).length = (words n).length by omega, List.take_length, words_val, words_val] at this
        rw [show (words m).length = (words n).length by omega, this]
        rfl
  rw [hz]
  clear hz
  generalize words m = xs at *
  generalize words n = ys at *
  by_cases hl : xs.length = ys.length
  · refine G1 hl ?_; try with_reducible exact tt
    refine AW.cond rfl (fun h => ?_) (fun h => ?_)
    · simp [w64] at h
    refine G1 hl ?_; try with_reducible exact tt
    refine AW.loopT (α := Nat) 2 (fun m => [(6, .d (.int .i64 ((m : Int) - 1)))]) (fun _ => []) (fun m => m ≤ ys.length ∧ cmpN xs ys m = cmpN xs ys ys.length) (fun m => m) ys.length ?_ ?_ ⟨Nat.le_refl _, rfl⟩ ?_ ?_ ?_
    · simp
    · simp
    · simp [hl]
    · simp
    rintro m ⟨hm', hc⟩
    simp
    cases m with
    | zero =>
      refine G0 ?_; try with_reducible exact tt
      refine AW.cond rfl (fun h => ?_) (fun h => ?_)
      · simp at h
      refine G0 ?_; try with_reducible exact tt
      refine Sub1.int ?_
      rw [← hc]; rfl
    | succ m =>
      have h1 : m < xs.length := by omega
      have h2 : m < ys.length := hm'
      have e : (m : Int) + 1 - 1 = m := by omega
      have ew : IntKind.i64.wrap ((m : Int) - 1) = (m : Int) - 1 := w64 (by omega) (by omega)
      rw [cmpN, ← W_get h1, ← W_get h2] at hc
      refine G1 (fs e (fs h1 h2)) ?_; try with_reducible exact tt
      refine AW.cond rfl (fun h => ?_) (fun h => ?_)
      · refine G1 (fs e (fs h1 h2)) ?_; try with_reducible exact tt
        refine AW.cond rfl (fun h => ?_) (fun h => ?_)
        · simp at h
          refine G0 ?_; try with_reducible exact tt
          refine Sub1.int ?_
          rw [if_pos h] at hc
          exact hc
        · simp at h
          rw [if_neg (by omega)] at hc
          refine G0 ?_; try with_reducible exact tt
          refine AW.cond rfl (fun h => ?_) (fun h => ?_)
          · simp at h
            refine G0 ?_; try with_reducible exact tt
            refine Sub1.int ?_
            rw [if_pos h] at hc
            exact hc
          · simp at h
            rw [if_neg (by omega)] at hc
            refine G1 ew ?_; try with_reducible exact tt
            exact ⟨m, ⟨by omega, hc⟩, by simp⟩
      · simp at h
  · refine G0 ?_; try with_reducible exact tt
    refine AW.cond rfl (fun h => ?_) (fun h => ?_)
    · refine G0 ?_; try with_reducible exact tt
      refine Sub1.int ?_
      split <;> omega
    · simp at h
      omega
end
end Go.Proofs.YtijbgbpjionfjaaGreatDoor.Am
namespace Go.Proofs.YtijbgbpjionfjaaGreatDoor.Am
section
open Go.RowKit
/-- words, as cells -/
abbrev U (ws : List Nat) : List V := ws.map fun x : Nat => V.d (.int .u64 x)

theorem add64_ok (x y c s d : Nat) (hx : x < 18446744073709551616) (hy : y < 18446744073709551616) (hc : c ≤ 1) (hs : s < 18446744073709551616) (e : x + y + c = s + 18446744073709551616 * d) : Eqn Tryz.prog n_math_bits_Add64 [.d (.int .u64 x), .d (.int .u64 y), .d (.int .u64 c)] [] (.tup [.d (.int .u64 s), .d (.int .u64 d)]) [] := by
  refine Eqn.extern x_math_bits_Add64 (by kernel_rfl) (by kernel_rfl) (by kernel_rfl) (e := add64Entry) (by kernel_rfl) rfl fun m vs h => ?_
  obtain ⟨v1, r1, rfl, h1, h⟩ := V.reps_cons'.1 h
  obtain ⟨v2, r2, rfl, h2, h⟩ := V.reps_cons'.1 h
  obtain ⟨v3, r3, rfl, h3, h⟩ := V.reps_cons'.1 h
  simp at h; subst h
  rw [V.rep_int] at h1 h2 h3
  subst h1 h2 h3
  have := run_add64 (P := Tryz.prog) x y c (by omega) (by omega) (by omega) (by omega) m.w
  refine ⟨_, this, ?_⟩
  unfold V.rep
  refine ⟨[.int .u64 (((x : Int) + y + c) % 18446744073709551616), .int .u64 (((x : Int) + y + c) / 18446744073709551616)], rfl, ?_⟩
  simp only [V.reps_cons, V.rep_int, V.reps_nil, and_true]
  constructor <;> congr 1 <;> omega

theorem sub64_ok (x y c s d : Nat) (hx : x < 18446744073709551616) (hy : y < 18446744073709551616) (hc : c ≤ 1) (hs : s < 18446744073709551616) (e : x + 18446744073709551616 * d = s + y + c) : Eqn Tryz.prog n_math_bits_Sub64 [.d (.int .u64 x), .d (.int .u64 y), .d (.int .u64 c)] [] (.tup [.d (.int .u64 s), .d (.int .u64 d)]) [] := by
  refine Eqn.extern x_math_bits_Sub64 (by kernel_rfl) (by kernel_rfl) (by kernel_rfl) (e := sub64Entry) (by kernel_rfl) rfl fun m vs h => ?_
  obtain ⟨v1, r1, rfl, h1, h⟩ := V.reps_cons'.1 h
  obtain ⟨v2, r2, rfl, h2, h⟩ := V.reps_cons'.1 h
  obtain ⟨v3, r3, rfl, h3, h⟩ := V.reps_cons'.1 h
  simp at h; subst h
  rw [V.rep_int] at h1 h2 h3
  subst h1 h2 h3
  have := run_sub64 (P := Tryz.prog) x y c hc m.w
  refine ⟨_, this, ?_⟩
  unfold V.rep
  refine ⟨[.int .u64 s, .int .u64 d], ?_, by simp only [V.reps_cons, V.rep_int, V.reps_nil, and_true]⟩
  congr 4
  · omega
  · congr 2
    split <;> omega

theorem addW_eq (a b : List Nat) (i : Nat) : a.getD i 0 + b.getD i 0 + carryW a b i = addW a b i + 18446744073709551616 * carryW a b (i + 1) := by
  rw [addW, carryW]; exact (Nat.mod_add_div _ _).symm
theorem W_out {ws : List Nat} {k : Nat} (h : ¬ k < ws.length) : ws.getD k 0 = 0 := by simp [List.getD, show ws.length ≤ k by omega]
theorem plain_tup (l : List D) : (V.tup (l.map .d)).plain := by
  have h1 : V.lowl 0 (l.map V.d) = true := by induction l <;> simp_all [V.lowl, V.low]
  have h2 : ∀ θ, V.rens θ (l.map V.d) = l.map V.d := fun θ => by induction l <;> simp_all [V.rens, V.ren]
  exact ⟨by simp [V.low, h1], fun θ => by simp [V.ren, h2]⟩

/-- a row that is being filled -/
def rowV (f : Nat → D) (n i : Nat) : List V := (List.range i).map (fun k => V.d (f k)) ++ List.replicate (n - i) (.d (.int .u64 0))
@[simp] theorem rowV_length (f : Nat → D) (n i : Nat) : (rowV f n i).length = i + (n - i) := by simp [rowV]
theorem out0 (n : Nat) (f : Nat → D) : List.replicate n (V.d (.int .u64 0)) = rowV f n 0 := by simp [rowV]
theorem rowV_set {f : Nat → D} {n i : Nat} (h : i < n) : (rowV f n i).set i (.d (f i)) = rowV f n (i + 1) := by
  obtain ⟨k, rfl⟩ : ∃ k, n = i + k + 1 := ⟨n - i - 1, by omega⟩
  rw [rowV, rowV, List.set_append_right _ _ (by simp), List.range_succ, List.map_append, List.append_assoc]
  congr 1
  simp only [List.length_map, List.length_range, Nat.sub_self]
  rw [show i + k + 1 - i = k + 1 by omega, show i + k + 1 - (i + 1) = k by omega]
  simp [List.replicate_succ]
@[simp] theorem lowl_row (n : Nat) (f : Nat → D) (k i : Nat) : V.lowl n (rowV f k i) = true := by
  have h1 : ∀ l : List D, V.lowl n (l.map V.d) = true := fun l => by induction l <;> simp_all [V.lowl, V.low]
  have : rowV f k i = ((List.range i).map f ++ List.replicate (k - i) (D.int .u64 0)).map .d := by simp [rowV]
  rw [this, h1]
@[simp] theorem subs_refl (l : List V) : Subs l l ↔ True := iff_true_intro (Subs.refl l)
theorem rowV_fin {f : Nat → D} {n : Nat} {z : D} : (rowV f (n + 1) n).set n (.d z) = ((List.range n).map f ++ [z]).map .d := by
  rw [rowV, List.set_append_right _ _ (by simp)]
  simp
theorem rowV_end {f : Nat → D} {n : Nat} : rowV f n n = ((List.range n).map f).map .d := by simp [rowV]

theorem plain_tup2 (a b : D) : (V.tup [.d a, .d b]).plain := plain_tup [a, b]
theorem plain_tup3 (a b c : D) : (V.tup [.d a, .d b, .d c]).plain := plain_tup [a, b, c]

theorem add_ok (m n : Nat) (hm : size m ≤ 1000000) (hn : size n ≤ 1000000) : Eqn Tryz.prog n_nat_Add [.d (.agg [natW m]), .d (.agg [natW n])] [] (.d (.agg [natW (m + n)])) [] := by
  refine Eqn.pure r_nat_Add (plain_d _) ?_
  -- the longer one, the other one
  obtain ⟨A, B, hAB, hsA, hsB, hle, hsum, hca, hcb⟩ : ∃ A B : List Nat, (A, B) = (if (words m).length < (words n).length then (words n, words m) else (words m, words n)) ∧ small A ∧ small B ∧ B.length ≤ A.length ∧ wval A + wval B = m + n ∧ A.length ≤ 1000000 ∧ B.length ≤ 1000000 := by
    unfold size at hm hn
    by_cases h : (words m).length < (words n).length
    · exact ⟨words n, words m, by rw [if_pos h], words_small _, words_small _, by omega, by rw [words_val, words_val]; omega, by omega, by omega⟩
    · exact ⟨words m, words n, by rw [if_neg h], words_small _, words_small _, by omega, by rw [words_val, words_val], by omega, by omega⟩
  simp only [c_nat_Add, natW, W]
  generalize words m = xs at *
  generalize words n = ys at *
  unfold size at hm hn
  refine AW.seq (AW.reg mix ?_)
  (simp -implicitDefEqProofs; try simp (disch := omega) only [w64, wu64])
  refine AW.cut 3 [] [(0, ⟨t_nat_Nat, [.d (W A)]⟩), (1, ⟨t_nat_Nat, [.d (W B)]⟩)] ?_ ?_ ?_ ?_
  · simp
  · simp
  · refine G0 ?_; try with_reducible exact tt
    refine AW.cond rfl (fun h => ?_) (fun h => ?_)
    · simp at h
      rw [if_pos h] at hAB
      cases hAB
      refine G0 ?_; try with_reducible exact tt
      simp [W]
    · simp at h
      rw [if_neg (by omega)] at hAB
      cases hAB
      refine G0 ?_; try with_reducible exact tt
      simp [W]
  clear hAB hm hn
  simp [W]
  refine G0 ?_; try with_reducible exact tt

  rw [out0 _ (fun k => .int .u64 (addW A B k : Nat))]
  refine G0 ?_; try with_reducible exact tt
  refine AW.loopT (α := Nat) 4 (fun i => [(27, .d (.int .i64 (i : Int))), (6, .d (.int .u64 (carryW A B i : Nat)))]) (fun i => [(3, ⟨28, rowV (fun k => .int .u64 (addW A B k : Nat)) (A.length + 1) i⟩)]) (fun i => i ≤ A.length) (fun i => A.length - i) 0 ?_ ?_ (Nat.zero_le _) ?_ ?_ ?_
  · simp
  · simp
  · simp [carryW]
  · simp
  rintro i hi
  simp
  by_cases h : i = A.length
  · subst h
    refine G0 ?_; try with_reducible exact tt
    refine AW.cond rfl (fun h => ?_) (fun h => ?_)
    · simp at h
    refine AW.exit ?_
    (try (simp -implicitDefEqProofs; try simp (disch := omega) only [w64, wu64]))
    repeat (first | refine AW.seq ?_ | refine AW.block ?_)
    refine AW.reg mix ?_
    (simp -implicitDefEqProofs; try simp (disch := omega) only [w64, wu64])
    try refine need.of (by first | omega | kernel_rfl) ?_
    obtain ⟨ws, hl, hr, hv, hs⟩ : ∃ ws : List Nat, ws.length = A.length + 1 ∧ (rowV (fun k => .int .u64 (addW A B k : Nat)) (A.length + 1) A.length).set A.length (.d (.int .u64 (carryW A B A.length : Nat))) = U ws ∧ wval ws = m + n ∧ small ws := by
      refine ⟨(List.range A.length).map (addW A B) ++ [carryW A B A.length], by simp, by rw [rowV_fin]; simp [U], ?_, ?_⟩
      · rw [wval_append, ← hsum]
        have := addW_val A B A.length
        rw [List.take_length, List.take_of_length_le hle] at this
        simp [wval]
        rw [← this]
      · intro x hx
        rcases List.mem_append.1 hx with hx | hx
        · obtain ⟨k, -, rfl⟩ := List.mem_map.1 hx; exact addW_lt _ _ _
        · simp at hx; subst hx; have := carryW_le hsA hsB A.length; omega
    rw [hr]
    refine AW.freeze 3 1 ⟨28, _⟩ (ws.map fun x : Nat => .int .u64 x) (by rfl) (by simp) ?_
    simp [← hl, List.take_of_length_le]
    refine G0 ?_; try with_reducible exact tt
    refine CallS.pu (trimmed_ok ws hs (by omega)) (R0 ?_); try with_reducible exact tt
    refine Sub1.of ?_
    rw [hv]; rfl
  · have hi' : i < A.length := by omega
    have hp : (i : Int) < A.length := by omega
    have hc := carryW_le hsA hsB i
    have hset := rowV_set (f := fun k => .int .u64 (addW A B k : Nat)) (n := A.length + 1) (i := i) (by omega)
    have ew : IntKind.i64.wrap ((i : Int) + 1) = (i : Int) + 1 := w64 (by omega) (by omega)
    refine G1 (fs hi' hp) ?_; try with_reducible exact tt
    refine AW.cond rfl (fun h => ?_) (fun h => ?_)
    · clear h
      by_cases hb : i < B.length
      · have e : A[i] + B[i] + carryW A B i = addW A B i + 18446744073709551616 * carryW A B (i + 1) := by
          rw [← addW_eq, W_get hi', W_get hb]
        refine G1 (fs hi' (fs hp hb)) ?_; try with_reducible exact tt
        refine AW.cond rfl (fun h => ?_) (fun h => ?_)
        · clear h
          refine G1 (fs hi' (fs hp hb)) ?_; try with_reducible exact tt
          refine CallS.pu (add64_ok _ _ _ (addW A B i) (carryW A B (i + 1)) (hsA _ (List.getElem_mem _)) (hsB _ (List.getElem_mem _)) hc (addW_lt _ _ _) e) (R1 (fs hset ew) ?_); try with_reducible exact tt
          exact ⟨i + 1, by omega, by omega, by simp [wk, ew], by simp [wkH]⟩
        · simp [hb] at h
      · have e : A[i] + 0 + carryW A B i = addW A B i + 18446744073709551616 * carryW A B (i + 1) := by
          rw [← addW_eq, W_get hi', W_out hb]
        refine G1 (fs hi' (fs hp hb)) ?_; try with_reducible exact tt
        refine AW.cond rfl (fun h => ?_) (fun h => ?_)
        · simp [hb] at h
        · clear h
          refine G1 (fs hi' (fs hp hb)) ?_; try with_reducible exact tt
          refine CallS.pu (add64_ok _ 0 _ (addW A B i) (carryW A B (i + 1)) (hsA _ (List.getElem_mem _)) (by omega) hc (addW_lt _ _ _) e) (R1 (fs hset ew) ?_); try with_reducible exact tt
          exact ⟨i + 1, by omega, by omega, by simp [wk, ew], by simp [wkH]⟩
    · simp at h
end
end Go.Proofs.YtijbgbpjionfjaaGreatDoor.Am
namespace Go.Proofs.YtijbgbpjionfjaaGreatDoor.Am
section
open Go.RowKit
theorem subW_eq {a b : List Nat} (ha : small a) (hb : small b) (i : Nat) : a.getD i 0 + 18446744073709551616 * borrowW a b (i + 1) = subW a b i + b.getD i 0 + borrowW a b i := by
  have h1 := ha.getD i
  have h2 := hb.getD i
  have h3 := borrowW_le a b i
  simp only [subW, borrowW]
  split <;> omega
theorem borrow_end {a b : List Nat} (ha : small a) (hb : small b) (hl : b.length ≤ a.length) (h : wval b ≤ wval a) : wval ((List.range a.length).map (subW a b)) = wval a - wval b := by
  have h1 := subW_val ha hb a.length
  rw [List.take_length, List.take_of_length_le hl] at h1
  have h2 := borrowW_le a b a.length
  have h3 := wval_lt (range_small (subW_lt a b) a.length)
  rw [List.length_map, List.length_range] at h3
  have : borrowW a b a.length = 0 ∨ borrowW a b a.length = 1 := by omega
  rcases this with e | e
  · rw [e] at h1; omega
  · rw [e] at h1; omega
theorem size_le {m n : Nat} (h : m ≤ n) : size m ≤ size n := by
  apply Nat.le_of_not_lt
  intro hlt
  have := size_lt hlt
  omega

theorem sub_ok (m n : Nat) (hm : size m ≤ 1000000) (hle : n ≤ m) : Eqn Tryz.prog n_nat_Sub [.d (.agg [natW m]), .d (.agg [natW n])] [] (.tup [.d (.agg [natW (m - n)]), .d (.int .i64 0)]) [] := by
  refine Eqn.pure r_nat_Sub (plain_tup2 _ _) ?_
  have hs := size_le hle
  simp only [c_nat_Sub]
  refine G0 ?_; try with_reducible exact tt
  refine CallS.pu (cmp_ok m n hm (by omega)) (R0 ?_); try with_reducible exact tt
  have hc : ¬ cmpZ m n < 0 := by unfold cmpZ; split <;> (try split) <;> omega
  refine AW.cond rfl (fun h => ?_) (fun h => ?_)
  · simp [hc] at h
  clear h
  refine G0 ?_; try with_reducible exact tt
  unfold size at hm hs
  obtain ⟨A, hA⟩ : ∃ A, A = words m := ⟨_, rfl⟩
  obtain ⟨B, hB⟩ : ∃ B, B = words n := ⟨_, rfl⟩
  have hsA : small A := hA ▸ words_small m
  have hsB : small B := hB ▸ words_small n
  have hvA : wval A = m := by rw [hA, words_val]
  have hvB : wval B = n := by rw [hB, words_val]
  rw [show natW m = .sl A.length (A.map fun x : Nat => .int .u64 x) by rw [hA]; rfl, show natW n = .sl B.length (B.map fun x : Nat => .int .u64 x) by rw [hB]; rfl]
  rw [← hA, ← hB] at hs
  rw [← hA] at hm
  clear hA hB
  refine G0 ?_; try with_reducible exact tt
  rw [out0 _ (fun k => .int .u64 (subW A B k : Nat))]
  refine AW.loopT (α := Nat) 4 (fun i => [(23, .d (.int .i64 (i : Int))), (7, .d (.int .u64 (borrowW A B i : Nat)))]) (fun i => [(3, ⟨28, rowV (fun k => .int .u64 (subW A B k : Nat)) A.length i⟩)]) (fun i => i ≤ A.length) (fun i => A.length - i) 0 ?_ ?_ (Nat.zero_le _) ?_ ?_ ?_
  · simp
  · simp
  · simp [borrowW]
  · simp
  rintro i hi
  simp
  by_cases h : i = A.length
  · subst h
    refine G0 ?_; try with_reducible exact tt
    refine AW.cond rfl (fun h => ?_) (fun h => ?_)
    · simp at h
    refine AW.exit ?_
    (try (simp -implicitDefEqProofs; try simp (disch := omega) only [w64, wu64]))
    obtain ⟨ws, hl, hr, hv, hs'⟩ : ∃ ws : List Nat, ws.length = A.length ∧ rowV (fun k => .int .u64 (subW A B k : Nat)) A.length A.length = U ws ∧ wval ws = m - n ∧ small ws := by
      refine ⟨(List.range A.length).map (subW A B), by simp, by rw [rowV_end]; simp [U], ?_, range_small (subW_lt A B) _⟩
      rw [← hvA, ← hvB]
      exact borrow_end hsA hsB hs (by omega)
    rw [hr]
    refine AW.freeze 3 1 ⟨28, _⟩ (ws.map fun x : Nat => .int .u64 x) (by rfl) (by simp) ?_
    simp [← hl, List.take_of_length_le]
    refine G0 ?_; try with_reducible exact tt
    refine CallS.pu (trimmed_ok ws hs' (by omega)) (R0 ?_); try with_reducible exact tt
    refine Sub1.of ?_
    rw [hv]
  · have hi' : i < A.length := by omega
    have hp : (i : Int) < A.length := by omega
    have hc := borrowW_le A B i
    have hset := rowV_set (f := fun k => .int .u64 (subW A B k : Nat)) (n := A.length) (i := i) (by omega)
    have ew : IntKind.i64.wrap ((i : Int) + 1) = (i : Int) + 1 := w64 (by omega) (by omega)
    have e := subW_eq hsA hsB i
    refine G1 (fs hi' hp) ?_; try with_reducible exact tt
    refine AW.cond rfl (fun h => ?_) (fun h => ?_)
    · clear h
      by_cases hb : i < B.length
      · rw [← W_get hi', ← W_get hb] at e
        refine G1 (fs hi' (fs hp hb)) ?_; try with_reducible exact tt
        refine AW.cond rfl (fun h => ?_) (fun h => ?_)
        · clear h
          refine G1 (fs hi' (fs hp hb)) ?_; try with_reducible exact tt
          refine CallS.pu (sub64_ok _ _ _ (subW A B i) (borrowW A B (i + 1)) (hsA _ (List.getElem_mem _)) (hsB _ (List.getElem_mem _)) hc (subW_lt _ _ _) e) (R1 (fs hset ew) ?_); try with_reducible exact tt
          exact ⟨i + 1, by omega, by omega, by simp [wk, ew], by simp [wkH]⟩
        · simp [hb] at h
      · rw [← W_get hi', W_out hb] at e
        refine G1 (fs hi' (fs hp hb)) ?_; try with_reducible exact tt
        refine AW.cond rfl (fun h => ?_) (fun h => ?_)
        · simp [hb] at h
        · clear h
          refine G1 (fs hi' (fs hp hb)) ?_; try with_reducible exact tt
          refine CallS.pu (sub64_ok _ 0 _ (subW A B i) (borrowW A B (i + 1)) (hsA _ (List.getElem_mem _)) (by omega) hc (subW_lt _ _ _) e) (R1 (fs hset ew) ?_); try with_reducible exact tt
          exact ⟨i + 1, by omega, by omega, by simp [wk, ew], by simp [wkH]⟩
    · simp at h
end
end Go.Proofs.YtijbgbpjionfjaaGreatDoor.Am
namespace Go.Proofs.YtijbgbpjionfjaaGreatDoor.Am
section
open Go.RowKit
/-- words moved so far -/
def rowM (k : Nat) (A : List Nat) (i : Nat) : List Nat := movedL k 0 (A.take i) ++ List.replicate (A.length - i) 0
theorem rowM_length (k : Nat) (A : List Nat) (i : Nat) (h : i ≤ A.length) : (rowM k A i).length = A.length + 1 := by
  rw [rowM, List.length_append, movedL_len, List.length_take, List.length_replicate]; omega
theorem rowM_zero (k : Nat) (A : List Nat) : rowM k A 0 = List.replicate (A.length + 1) 0 := by simp [rowM, movedL, List.replicate_succ]
theorem rowM_end (k : Nat) (A : List Nat) : rowM k A A.length = movedL k 0 A := by simp [rowM]
theorem rowM_get (k : Nat) (A : List Nat) (i : Nat) (h : i < A.length) : (rowM k A i).getD i 0 = movedC k 0 (A.take i) := by
  have e : i = (movedB k 0 (A.take i)).length := by rw [movedB_len, List.length_take]; omega
  rw [rowM, movedL_eq, List.append_assoc, List.getD, List.getElem?_append_right (by omega), show i - (movedB k 0 (A.take i)).length = 0 by omega]
  rfl
theorem rowM_set (k : Nat) (A : List Nat) (i : Nat) (h : i < A.length) : ((rowM k A i).set i (A.getD i 0 * 2 ^ k % 18446744073709551616 + movedC k 0 (A.take i))).set (i + 1) (A.getD i 0 * 2 ^ k / 18446744073709551616) = rowM k A (i + 1) := by
  have e : (movedB k 0 (A.take i)).length = i := by rw [movedB_len, List.length_take]; omega
  obtain ⟨r, hr⟩ : ∃ r, A.length = i + r + 1 := ⟨A.length - i - 1, by omega⟩
  rw [rowM, rowM, movedL_eq, movedL_eq, take_succ_getD _ _ h, movedB_snoc, movedC_snoc, hr, show i + r + 1 - i = r + 1 by omega, show i + r + 1 - (i + 1) = r by omega, List.replicate_succ]
  simp only [List.append_assoc, List.cons_append, List.nil_append]
  rw [List.set_append_right _ _ (by omega), List.set_append_right _ _ (by omega), e]
  simp

def cellM (k : Nat) (A : List Nat) (i : Nat) : List V := U (rowM k A i)
@[simp] theorem lowl_U (n : Nat) (l : List Nat) : V.lowl n (U l) = true := by induction l <;> simp_all [U, V.lowl, V.low]

set_option maxHeartbeats 1000000 in
theorem moved_ok (A : List Nat) (k : Nat) (hk : k < 64) (hs : small A) (hn : A.length ≤ 1000000) : Eqn Tryz.prog n_nat_moved [.d (W A), .d (.int .i64 k)] [] (.d (W (movedL k 0 A))) [] := by
  refine Eqn.pure r_nat_moved (plain_d _) ?_
  simp only [c_nat_moved, W]
  refine G0 ?_; try with_reducible exact tt
  rw [show List.replicate (A.length + 1) (V.d (.int .u64 0)) = cellM k A 0 by rw [cellM, rowM_zero]; simp [U]]
  have hlow : ∀ i, V.lowl 1 (cellM k A i) = true := fun i => lowl_U 1 _
  refine AW.loopT (α := Nat) 1 (fun i => [(14, .d (.int .i64 (i : Int)))]) (fun i => [(0, ⟨28, cellM k A i⟩)]) (fun i => i ≤ A.length) (fun i => A.length - i) 0 ?_ ?_ (Nat.zero_le _) ?_ ?_ ?_
  · simp
  · simp
  · simp
  · simp [hlow]
  rintro i hi
  simp
  by_cases h : i = A.length
  · subst h
    refine G0 ?_; try with_reducible exact tt
    refine AW.cond rfl (fun h => ?_) (fun h => ?_)
    · simp at h
    refine AW.exit ?_
    (try (simp -implicitDefEqProofs; try simp (disch := omega) only [w64, wu64]))
    have hl : (movedL k 0 A).length = A.length + 1 := movedL_len _ _ _
    rw [cellM, rowM_end]
    generalize movedL k 0 A = ws at hl
    refine AW.freeze 0 1 ⟨28, _⟩ (ws.map fun x : Nat => .int .u64 x) (by rfl) (by simp) ?_
    simp [← hl, List.take_of_length_le]
    refine G0 ?_; try with_reducible exact tt
  · have hi' : i < A.length := by omega
    have hp : (i : Int) < A.length := by omega
    obtain ⟨c, y, u, hl, hq, hor, hw, hd, hset⟩ : ∃ c z u : Nat, (cellM k A i).length = A.length + 1 ∧ (cellM k A i)[i]? = some (.d (.int .u64 c)) ∧ bits BinOp.or IntKind.u64 (c : Int) (IntKind.u64.wrap ((A[i] : Int) * 2 ^ k)) = (z : Int) ∧
        True ∧ (A[i] : Int) / 2 ^ (64 - k) = (u : Int) ∧ ((cellM k A i).set i (.d (.int .u64 z))).set (i + 1) (.d (.int .u64 u)) = cellM k A (i + 1) := by
      have hl := rowM_length k A i hi
      have hc := movedC_lt (k := k) (l := A.take i) (c := 0) (hs.take i) (Nat.two_pow_pos k)
      have hset := rowM_set k A i hi'
      rw [← W_get hi'] at hset
      refine ⟨movedC k 0 (A.take i), A[i] * 2 ^ k % 18446744073709551616 + movedC k 0 (A.take i), A[i] * 2 ^ k / 18446744073709551616, by simp [cellM, U, hl], ?_, ?_, trivial, ?_, ?_⟩
      · have := rowM_get k A i hi'
        rw [List.getD, List.getElem?_eq_getElem (by omega)] at this
        rw [cellM, U, List.getElem?_map, List.getElem?_eq_getElem (by omega)]
        simp at this
        simp [this]
      · rw [show IntKind.u64.wrap ((A[i] : Int) * 2 ^ k) = ((A[i] * 2 ^ k % 18446744073709551616 : Nat) : Int) by rw [IntKind.wrap_u64, Int.natCast_emod, Int.natCast_mul, Int.natCast_pow]; rfl]
        rw [bits_or_u64_nat _ _ (Nat.lt_of_lt_of_le hc (by rw [show (18446744073709551616 : Nat) = 2 ^ 64 by rfl]; exact Nat.pow_le_pow_right (by decide) (by omega))) (Nat.mod_lt _ (by decide)), or_moved hk hc]
      · rw [moved_div (by omega), Int.natCast_ediv, Int.natCast_pow]; rfl
      · rw [cellM, cellM, ← hset, U, U, List.map_set, List.map_set]
    have hn : ((64 : Int) - k).toNat = 64 - k := by omega
    have e1 : IntKind.i64.wrap ((i : Int) + 1) = (i : Int) + 1 := w64 (by omega) (by omega)
    have e2 : IntKind.i64.wrap ((64 : Int) - k) = (64 : Int) - k := w64 (by omega) (by omega)
    generalize cellM k A i = cm at hl hq hset
    refine G1 (fs hi' hp) ?_; try with_reducible exact tt
    refine AW.cond rfl (fun h => ?_) (fun h => ?_)
    · clear h
      refine G1 (fs hi' (fs hp (fs hl (fs hq (fs hor (fs e1 (fs e2 (fs hn (fs hd hset))))))))) ?_; try with_reducible exact tt
      exact ⟨i + 1, by omega, by omega, by simp [wk], by simp [wkH, hlow]⟩
    · simp at h
end
end Go.Proofs.YtijbgbpjionfjaaGreatDoor.Am
namespace Go.Proofs.YtijbgbpjionfjaaGreatDoor.Am
section
open Go.RowKit
set_option maxHeartbeats 1000000 in
theorem shl_ok (a n : Nat) (ha : size a ≤ 1000000) (hn : n ≤ 8192) : Eqn Tryz.prog n_nat_Shl [.d (.agg [natW a]), .d (.int .i64 n)] [] (.tup [.d (.agg [natW (a * 2 ^ n)]), .d (.int .i64 0)]) [] := by
  refine Eqn.pure r_nat_Shl (plain_tup2 _ _) ?_
  simp only [c_nat_Shl, natW, W]
  have h1 : ¬ (n : Int) < 0 := by omega
  have h2 : ¬ (8192 : Int) < n := by omega
  refine G1 (fs h1 h2) ?_; try with_reducible exact tt
  refine AW.cond rfl (fun h => ?_) (fun h => ?_)
  · simp [h1, h2] at h
  have hq : (n : Int) / 64 = (n / 64 : Nat) := rfl
  have hr : (n : Int).tmod 64 = (n % 64 : Nat) := by rw [Int.tmod_eq_emod_of_nonneg (by omega)]; rfl
  have hd : n / 64 ≤ 128 := by omega
  have hm : n % 64 < 64 := by omega
  have hv : ∀ l : List Nat, wval l = a → wval (List.replicate (n / 64) 0 ++ movedL (n % 64) 0 l) = a * 2 ^ n := by
    intro l hl
    rw [wval_append, wval_zeros, movedL_val, List.length_replicate, hl, Nat.zero_add, Nat.add_zero]
    rw [show (18446744073709551616 : Nat) = 2 ^ 64 by rfl, ← Nat.pow_mul, Nat.mul_left_comm, ← Nat.pow_add, Nat.div_add_mod]
  replace hv := hv (words a) (words_val a)
  have hsm : small (List.replicate (n / 64) 0 ++ movedL (n % 64) 0 (words a)) := by
    intro x hx
    rcases List.mem_append.1 hx with hx | hx
    · rw [List.eq_of_mem_replicate hx]; omega
    · exact movedL_small hm (words_small a) (Nat.two_pow_pos _) x hx
  have hl := movedL_len (n % 64) (words a) 0
  generalize n / 64 = q at *
  generalize n % 64 = r at *
  unfold size at ha
  refine G1 (fs hq hr) ?_; try with_reducible exact tt
  refine CallS.pu (moved_ok (words a) r hm (words_small a) (by omega)) ?_
  (try (simp -implicitDefEqProofs [W, hl]; try simp (disch := omega) only [w64, wu64]))
  repeat (first | refine AW.seq ?_ | refine AW.block ?_ | (refine AW.reg mix ?_; simp -implicitDefEqProofs [W, hl]; try simp (disch := omega) only [w64, wu64]) | (refine need.of (by first | omega | kernel_rfl) ?_) | (refine AW.fin ?_; try simp -implicitDefEqProofs [W, hl]))
  have hlen : (List.replicate q 0 ++ movedL r 0 (words a)).length = q + ((words a).length + 1) := by simp [hl]
  have hcell : List.replicate q (V.d (.int .u64 0)) ++ List.map (V.d ∘ fun x : Nat => D.int .u64 x) (movedL r 0 (words a)) = ((List.replicate q 0 ++ movedL r 0 (words a)).map fun x : Nat => D.int .u64 x).map V.d := by simp
  rw [hcell]
  generalize List.replicate q 0 ++ movedL r 0 (words a) = ws at *
  have hlen2 : q + ((words a).length + 1) = ws.length := hlen.symm
  refine CallS.pf 3 1 ⟨28, _⟩ (ws.map fun x : Nat => .int .u64 x) (trimmed_ok ws hsm (by omega)) (by first | rfl | (simp [natW, W, hlen2, List.take_of_length_le]; done)) ?_
  (try (simp -implicitDefEqProofs [natW, W, hlen2, List.take_of_length_le]; try simp (disch := omega) only [w64, wu64]))
  repeat (first | refine AW.seq ?_ | refine AW.block ?_ | (refine AW.reg mix ?_; simp -implicitDefEqProofs [natW, W, hlen2, List.take_of_length_le]; try simp (disch := omega) only [w64, wu64]) | (refine need.of (by first | omega | kernel_rfl) ?_) | (refine AW.fin ?_; try simp -implicitDefEqProofs [natW, W, hlen2, List.take_of_length_le]))
  refine Sub1.of ?_
  rw [hv]
end
end Go.Proofs.YtijbgbpjionfjaaGreatDoor.Am
namespace Go.Proofs.YtijbgbpjionfjaaGreatDoor.Am
section
open Go.RowKit
theorem words_one {x : Nat} (h0 : 0 < x) (h : x < 18446744073709551616) : words x = [x] := by
  have := words_of (ws := [x]) (by intro y hy; simp at hy; omega) (by intro k hk; simp at hk; subst hk; simp; omega)
  simpa [wval] using this
theorem small_one {x : Nat} (h : x < 18446744073709551616) : small [x] := by intro y hy; simp at hy; omega

theorem Sub1.tup {l r : List V} (h : Subs l r) : Sub1 (.tup l) (.tup r) := fun m v k => by
  unfold V.rep at k ⊢
  obtain ⟨vs, h1, h2⟩ := k
  exact ⟨vs, h1, h m vs h2⟩
theorem Subs.cons {x y : V} {l r : List V} (h : Sub1 x y) (h' : Subs l r) : Subs (x :: l) (y :: r) := fun m vs k => by
  obtain ⟨v, r, rfl, h1, h2⟩ := V.reps_cons'.1 k
  exact V.reps_cons.2 ⟨h m v h1, h' m r h2⟩
theorem Sub1.nat0 : Sub1 (.d (.agg [.nilsl])) (.d (.agg [natW 0])) := fun m v k => by
  rw [V.rep_d] at k ⊢
  unfold D.rep at k ⊢
  obtain ⟨vs, h1, h2, h3⟩ := k
  refine ⟨vs, h1, h2, ?_⟩
  obtain ⟨u, r, rfl, h4, h5⟩ := D.reps_cons'.1 h3
  have := (V.rep_d (m := m)).1 (Sub1.nil m u (V.rep_d.2 h4))
  exact D.reps_cons.2 ⟨this, h5⟩

theorem cmpZ_lt {m n : Nat} : cmpZ m n < 0 ↔ m < n := by unfold cmpZ; split <;> (try split) <;> omega
theorem div64_small (x y : Nat) (hx : x < 18446744073709551616) (h0 : 0 < y) : Eqn Tryz.prog n_math_bits_Div64 [.d (.int .u64 0), .d (.int .u64 x), .d (.int .u64 y)] [] (.tup [.d (.int .u64 (x / y : Nat)), .d (.int .u64 (x % y : Nat))]) [] := by
  refine Eqn.pure r_math_bits_Div64 (plain_tup2 _ _) ?_
  simp only [c_math_bits_Div64]
  have h1 : ¬ (y : Int) = 0 := by omega
  have h1' : ¬ y = 0 := by omega
  have h2 : ¬ (y : Int) ≤ 0 := by omega
  refine G1 (fs h1 (fs h2 h1')) ?_; try with_reducible exact tt
  refine AW.cond rfl (fun h => ?_) (fun h => ?_)
  · simp [h1'] at h
  refine G1 (fs h1 (fs h2 h1')) ?_; try with_reducible exact tt
  refine AW.cond rfl (fun h => ?_) (fun h => ?_)
  · simp [h1', h2] at h
  refine G1 (fs h1 (fs h2 h1')) ?_; try with_reducible exact tt
  refine AW.cond rfl (fun h => ?_) (fun h => ?_)
  · have hle := Nat.div_le_self x y
    have e1 : IntKind.u64.wrap ((x : Int) / y) = (x : Int) / y := by
      rw [← Int.natCast_ediv]
      generalize x / y = q at *
      exact wu64 (by omega) (by omega)
    have e2 : (x : Int).tmod y = ((x % y : Nat) : Int) := by rw [Int.tmod_eq_emod_of_nonneg (by omega)]; rfl
    refine G1 (fs h1 (fs h2 (fs h1' (fs e1 e2)))) ?_; try with_reducible exact tt
  · simp at h

theorem split_one (x y : Nat) (hx : x < 18446744073709551616) (h0 : 0 < y) (hy : y < 18446744073709551616) : Eqn Tryz.prog n_nat_split [.d (.sl 1 [.int .u64 x]), .d (.int .u64 y)] [] (.tup [.d (.sl 1 [.int .u64 (x / y : Nat)]), .d (.int .u64 (x % y : Nat))]) [] := by
  refine Eqn.pure r_nat_split (plain_tup2 _ _) ?_
  simp only [c_nat_split]
  refine G0 ?_; try with_reducible exact tt
  refine AW.loopT (α := Nat) 1 (fun i => [(8, .d (.int .i64 ((i : Int) - 1))), (7, .d (.int .u64 (if i = 0 then (x % y : Nat) else 0)))]) (fun i => [(0, ⟨28, [.d (.int .u64 (if i = 0 then (x / y : Nat) else 0))]⟩)]) (fun i => i ≤ 1) (fun i => i) 1 ?_ ?_ (Nat.le_refl _) ?_ ?_ ?_
  · simp
  · simp
  · simp
  · simp
  rintro i hi
  simp
  cases i with
  | zero =>
    refine G0 ?_; try with_reducible exact tt
    refine AW.cond rfl (fun h => ?_) (fun h => ?_)
    · simp at h
    refine AW.exit ?_
    (try (simp -implicitDefEqProofs; try simp (disch := omega) only [w64, wu64]))
    refine AW.freeze 0 1 ⟨28, _⟩ [.int .u64 (x / y : Nat)] (by rfl) (by simp) ?_
    simp
    refine G0 ?_; try with_reducible exact tt
  | succ i =>
    obtain rfl : i = 0 := by omega
    refine G0 ?_; try with_reducible exact tt
    refine AW.cond rfl (fun h => ?_) (fun h => ?_)
    · refine G0 ?_; try with_reducible exact tt
      refine CallS.pu (div64_small x y hx h0) (R0 ?_); try with_reducible exact tt
      exact ⟨0, by omega, rfl, by simp, by simp⟩
    · simp at h
end
end Go.Proofs.YtijbgbpjionfjaaGreatDoor.Am
namespace Go.Proofs.YtijbgbpjionfjaaGreatDoor.Am
section
open Go.RowKit
theorem and32 (x : Nat) (h : x < 18446744073709551616) : bits BinOp.and IntKind.u64 (x : Int) 4294967295 = ((x % 4294967296 : Nat) : Int) := by
  have := bits_and_u64_nat x 4294967295 h (by omega)
  rw [show ((4294967295 : Nat) : Int) = 4294967295 by rfl] at this
  rw [this, show (4294967295 : Nat) = 2 ^ 32 - 1 by rfl, Nat.and_two_pow_sub_one_eq_mod]

/-- a product of two words, by halves -/
theorem mul_parts (x y : Nat) (hx : x < 18446744073709551616) (hy : y < 18446744073709551616) :
    let x0 := x % 4294967296; let x1 := x / 4294967296; let y0 := y % 4294967296; let y1 := y / 4294967296
    let w0 := x0 * y0; let t := x1 * y0 + w0 / 4294967296; let w1 := t % 4294967296 + x0 * y1
    w0 < 18446744073709551616 ∧ x1 * y0 < 18446744073709551616 ∧ t < 18446744073709551616 ∧ x0 * y1 < 18446744073709551616 ∧ w1 < 18446744073709551616 ∧ x1 * y1 < 18446744073709551616 ∧
    x1 * y1 + t / 4294967296 < 18446744073709551616 ∧ x1 * y1 + t / 4294967296 + w1 / 4294967296 < 18446744073709551616 ∧
    x * y = (x1 * y1 + t / 4294967296 + w1 / 4294967296) * 18446744073709551616 + x * y % 18446744073709551616 := by
  intro x0 x1 y0 y1 w0 t w1
  have hx0 : x0 < 4294967296 := Nat.mod_lt _ (by decide)
  have hy0 : y0 < 4294967296 := Nat.mod_lt _ (by decide)
  have hx1 : x1 < 4294967296 := by simp only [x1]; omega
  have hy1 : y1 < 4294967296 := by simp only [y1]; omega
  have ex : x = x1 * 4294967296 + x0 := by simp only [x1, x0]; omega
  have ey : y = y1 * 4294967296 + y0 := by simp only [y1, y0]; omega
  have b : ∀ {a c : Nat}, a < 4294967296 → c < 4294967296 → a * c ≤ 18446744065119617025 := fun {a c} ha hc => by
    have := Nat.mul_le_mul (show a ≤ 4294967295 by omega) (show c ≤ 4294967295 by omega)
    omega
  have b00 := b hx0 hy0
  have b10 := b hx1 hy0
  have b01 := b hx0 hy1
  have b11 := b hx1 hy1
  have exy : x * y = x1 * y1 * 18446744073709551616 + (x1 * y0 + x0 * y1) * 4294967296 + x0 * y0 := by
    rw [ex, ey]
    simp only [Nat.add_mul, Nat.mul_add]
    have e1 : x1 * 4294967296 * (y1 * 4294967296) = x1 * y1 * 18446744073709551616 := by
      rw [Nat.mul_mul_mul_comm]
    have e2 : x1 * 4294967296 * y0 = x1 * y0 * 4294967296 := by rw [Nat.mul_right_comm]
    have e3 : x0 * (y1 * 4294967296) = x0 * y1 * 4294967296 := by rw [Nat.mul_assoc]
    rw [e1, e2, e3]; omega
  have hw0 : w0 = x0 * y0 := rfl
  generalize x * y = xy at exy ⊢
  generalize x0 * y0 = a00 at *
  have ht : t = x1 * y0 + w0 / 4294967296 := rfl
  generalize x1 * y0 = a10 at *
  have hw1 : w1 = t % 4294967296 + x0 * y1 := rfl
  generalize x0 * y1 = a01 at *
  generalize x1 * y1 = a11 at *
  clear_value w0 t w1
  omega

theorem mul64_ok (x y : Nat) (hx : x < 18446744073709551616) (hy : y < 18446744073709551616) : Eqn Tryz.prog n_math_bits_Mul64 [.d (.int .u64 x), .d (.int .u64 y)] [] (.tup [.d (.int .u64 (x * y / 18446744073709551616 : Nat)), .d (.int .u64 (x * y % 18446744073709551616 : Nat))]) [] := by
  refine Eqn.pure r_math_bits_Mul64 (plain_tup2 _ _) ?_
  simp only [c_math_bits_Mul64]
  have hp := mul_parts x y hx hy
  simp only at hp
  have a1 := and32 x hx
  have a2 := and32 y hy
  have d1 : (x : Int) / 4294967296 = (x / 4294967296 : Nat) := rfl
  have d2 : (y : Int) / 4294967296 = (y / 4294967296 : Nat) := rfl
  have l1 : x % 4294967296 < 4294967296 := Nat.mod_lt _ (by decide)
  generalize x % 4294967296 = x0 at hp a1 l1
  generalize x / 4294967296 = x1 at hp d1
  generalize y % 4294967296 = y0 at hp a2
  generalize y / 4294967296 = y1 at hp d2
  obtain ⟨p1, p2, p3, p4, p5, p6, p7, p8, p9⟩ := hp
  have m1 : IntKind.u64.wrap ((x0 : Int) * y0) = (x0 * y0 : Nat) := by rw [← Int.natCast_mul]; exact wu64 (by omega) (by omega)
  have m2 : IntKind.u64.wrap ((x1 : Int) * y0) = (x1 * y0 : Nat) := by rw [← Int.natCast_mul]; exact wu64 (by omega) (by omega)
  have m3 : IntKind.u64.wrap ((x0 : Int) * y1) = (x0 * y1 : Nat) := by rw [← Int.natCast_mul]; exact wu64 (by omega) (by omega)
  have m4 : IntKind.u64.wrap ((x1 : Int) * y1) = (x1 * y1 : Nat) := by rw [← Int.natCast_mul]; exact wu64 (by omega) (by omega)
  have m5 : IntKind.u64.wrap ((x : Int) * y) = (x * y % 18446744073709551616 : Nat) := by rw [IntKind.wrap_u64, Int.natCast_emod, Int.natCast_mul]; rfl
  have lo : x * y % 18446744073709551616 < 18446744073709551616 := Nat.mod_lt _ (by decide)
  generalize x * y % 18446744073709551616 = low at *
  generalize x * y = xy at *
  generalize x0 * y0 = a00 at *
  generalize x1 * y0 = a10 at *
  generalize x0 * y1 = a01 at *
  generalize x1 * y1 = a11 at *
  have q1 : (a00 : Int) / 4294967296 = (a00 / 4294967296 : Nat) := rfl
  generalize a00 / 4294967296 = b0 at *
  have s1 : IntKind.u64.wrap ((a10 : Int) + b0) = (a10 + b0 : Nat) := wu64 (by omega) (by omega)
  have a3 := and32 (a10 + b0) p3
  have q2 : ((a10 + b0 : Nat) : Int) / 4294967296 = ((a10 + b0) / 4294967296 : Nat) := rfl
  generalize (a10 + b0) / 4294967296 = t1 at *
  generalize (a10 + b0) % 4294967296 = t0 at *
  generalize a10 + b0 = t at *
  have s2 : IntKind.u64.wrap ((t0 : Int) + a01) = (t0 + a01 : Nat) := wu64 (by omega) (by omega)
  have q3 : ((t0 + a01 : Nat) : Int) / 4294967296 = ((t0 + a01) / 4294967296 : Nat) := rfl
  generalize (t0 + a01) / 4294967296 = v1 at *
  generalize t0 + a01 = v at *
  have s3 : IntKind.u64.wrap ((a11 : Int) + t1) = (a11 + t1 : Nat) := wu64 (by omega) (by omega)
  have s4 : IntKind.u64.wrap (((a11 + t1 : Nat) : Int) + v1) = (a11 + t1 + v1 : Nat) := wu64 (by omega) (by omega)
  have fin : xy / 18446744073709551616 = a11 + t1 + v1 := by omega
  rw [fin]
  generalize a11 + t1 + v1 = hi at *
  generalize a11 + t1 = r at *
  refine G1 (fs a1 (fs a2 (fs d1 (fs d2 (fs m1 (fs m2 (fs m3 (fs m4 (fs m5 (fs q1 (fs s1 (fs a3 (fs q2 (fs s2 (fs q3 (fs s3 s4)))))))))))))))) ?_; try with_reducible exact tt
end
end Go.Proofs.YtijbgbpjionfjaaGreatDoor.Am
namespace Go.Proofs.YtijbgbpjionfjaaGreatDoor.Am
section
open Go.RowKit
theorem hmul_ok (a b : Nat) (ha : a < 18446744073709551616) (hb : b < 18446744073709551616) : Eqn Tryz.prog n_hash_Mul [.d (.int .u64 a), .d (.int .u64 b)] [] (.d (.int .u64 (a * b % hP : Nat))) [] := by
  refine Eqn.pure r_hash_Mul Plain.ok ?_
  have hm := mul64_ok (a % 2305843009213693951) (b % 2305843009213693951) (by omega) (by omega)
  obtain ⟨h1, h2, h3⟩ := hfold _ _ _ rfl rfl (hmul_lt (a := a) (b := b))
  rw [show a % 2305843009213693951 * (b % 2305843009213693951) % 2305843009213693951 = a * b % hP from (Nat.mul_mod a b 2305843009213693951).symm] at h3
  generalize a % 2305843009213693951 * (b % 2305843009213693951) / 18446744073709551616 = hi at *
  have hlo : a % 2305843009213693951 * (b % 2305843009213693951) % 18446744073709551616 < 18446744073709551616 := Nat.mod_lt _ (by decide)
  generalize a % 2305843009213693951 * (b % 2305843009213693951) % 18446744073709551616 = lo at *
  have g1 := and61 lo hlo
  have g2 := or_hi8 hi (lo / 2305843009213693952) (by omega) h1
  have g3 : IntKind.u64.wrap ((hi : Int) * 8) = ((hi * 8 : Nat) : Int) := by rw [IntKind.wrap_u64]; omega
  have g4 : (lo : Int) / 2305843009213693952 = ((lo / 2305843009213693952 : Nat) : Int) := rfl
  generalize lo / 2305843009213693952 = l3 at *
  generalize lo % 2305843009213693952 = l61 at *
  generalize a * b % hP = r at *
  simp only [c_hash_Mul]
  refine G0 ?_; try with_reducible exact tt
  replace g2 : bits BinOp.or IntKind.u64 ((hi : Int) * 8) (l3 : Int) = ((hi * 8 + l3 : Nat) : Int) := by rw [← g2]; rfl
  generalize hq : hi * 8 + l3 = q at *
  have g5 : IntKind.u64.wrap ((l61 : Int) + q) = ((l61 + q : Nat) : Int) := by rw [IntKind.wrap_u64]; omega
  refine CallS.pu (hm) (R1 (fs g1 (fs g2 (fs g3 (fs g4 g5)))) ?_); try with_reducible exact tt
  refine Sub1.int ?_
  rw [Int.tmod_eq_emod_of_nonneg (by omega)]
  omega

/-- a hash, as data -/
def hD (a b : Nat) : D := .agg [.int .u64 a, .int .u64 b]
theorem hcheck_ok (a b : Nat) (ha : a < hP) (hb : b < hP) : Eqn Tryz.prog n_hash_Hash_Check [.d (hD a b)] [] (.d (.int .i64 0)) [] := by
  refine Eqn.pure r_hash_Hash_Check Plain.ok ?_
  unfold hP at ha hb
  have h1 : ¬ (2305843009213693951 : Int) ≤ a := by omega
  have h2 : ¬ (2305843009213693951 : Int) ≤ b := by omega
  have h3 : ¬ 2305843009213693951 ≤ a := by omega
  have h4 : ¬ 2305843009213693951 ≤ b := by omega
  simp only [c_hash_Hash_Check, hD]
  refine A10 (fs h1 (fs h2 (fs h3 h4))) ?_; try with_reducible exact tt
theorem hsum_ok (a b key : Nat) (ha : a < hP) (hb : b < hP) (hk : key < 18446744073709551616) : Eqn Tryz.prog n_hash_Hash_sum [.d (hD a b), .d (.int .u64 key)] [] (.d (.int .u64 (hsum a b key : Nat))) [] := by
  refine Eqn.pure r_hash_Hash_sum Plain.ok ?_
  have h1 := hmul_ok a key (by unfold hP at ha; omega) hk
  have h2 : a * key % hP < hP := Nat.mod_lt _ (by decide)
  unfold hsum
  generalize a * key % hP = x at *
  unfold hP at *
  simp only [c_hash_Hash_sum, hD]
  have e1 : IntKind.u64.wrap ((x : Int) + b) = ((x + b : Nat) : Int) := by rw [IntKind.wrap_u64]; omega
  refine A11 e1 h1 ?_; try with_reducible exact tt
  refine Sub1.int ?_
  rw [Int.tmod_eq_emod_of_nonneg (by omega)]
theorem hof_ok (a b key cols : Nat) (ha : a < hP) (hb : b < hP) (hk : key < hP) (h1 : 1 ≤ cols) (hc : cols ≤ 64) : Eqn Tryz.prog n_hash_Hash_Of [.d (hD a b), .d (.int .u64 key), .d (.int .i64 cols)] [] (.tup [.d (.int .i64 (hsum a b key % cols : Nat)), .d (.int .i64 0)]) [] := by
  refine Eqn.pure r_hash_Hash_Of Plain.ok ?_
  have g0 := hcheck_ok a b ha hb
  have g1 := hsum_ok a b key ha hb (by unfold hP at hk; omega)
  unfold hP at hk
  have e1 : ¬ (2305843009213693951 : Int) ≤ key := by omega
  have e2 : ¬ 2305843009213693951 ≤ key := by omega
  have e3 : ¬ (cols : Int) < 1 := by omega
  have e4 : ¬ (64 : Int) < cols := by omega
  have e5 : ¬ cols < 1 := by omega
  have e6 : ¬ 64 < cols := by omega
  have e7 : IntKind.u64.wrap (cols : Int) = cols := by rw [IntKind.wrap_u64]; omega
  have e8 : IntKind.i64.wrap ((hsum a b key : Int) % cols) = ((hsum a b key % cols : Nat) : Int) := by
    rw [← Int.natCast_emod]
    have := Nat.mod_lt (hsum a b key) (show 0 < cols by omega)
    exact w64 (by omega) (by omega)
  generalize hsum a b key = x at *
  simp only [c_hash_Hash_Of, hD] at g0 g1 ⊢
  have e9 : (x : Int).tmod cols = (x : Int) % cols := by rw [Int.tmod_eq_emod_of_nonneg (by omega)]
  refine A12 (fs e1 (fs e2 (fs e3 (fs e4 (fs e5 (fs e6 (fs e7 (fs e8 e9)))))))) g0 g1 ?_; try with_reducible exact tt
end
end Go.Proofs.YtijbgbpjionfjaaGreatDoor.Am
namespace Go.Proofs.YtijbgbpjionfjaaGreatDoor.Am
section
def b2n (b : Bool) : Nat := if b then 1 else 0
@[simp] theorem b2n_le (b : Bool) : b2n b ≤ 1 := by cases b <;> decide
/-- a number of bits, the highest first -/
def numB : List Bool → Nat → Nat
  | [], n => n
  | b :: l, n => numB l (2 * n + b2n b)
theorem numB_append : ∀ (l k : List Bool) (n : Nat), numB (l ++ k) n = numB k (numB l n)
  | [], k, n => rfl
  | b :: l, k, n => numB_append l k _
theorem numB_val : ∀ (l : List Bool) (n : Nat), numB l n = n * 2 ^ l.length + numB l 0
  | [], n => by simp [numB]
  | b :: l, n => by
    rw [numB, numB_val l, numB, numB_val l (2 * 0 + b2n b), List.length_cons, Nat.pow_succ, Nat.add_mul, Nat.mul_zero, Nat.zero_add, ← Nat.add_assoc, Nat.mul_comm 2 n, Nat.mul_assoc, Nat.mul_comm 2]
theorem numB_lt : ∀ l : List Bool, numB l 0 < 2 ^ l.length
  | [] => by simp [numB]
  | b :: l => by
    rw [numB, numB_val, List.length_cons, Nat.pow_succ]
    have := numB_lt l
    have := b2n_le b
    generalize 2 ^ l.length = v at *
    cases b <;> simp [b2n] <;> omega
/-- so many bits of a number -/
def bitsW (n w : Nat) : List Bool := (List.range w).map fun i => decide (n / 2 ^ (w - 1 - i) % 2 = 1)
@[simp] theorem bitsW_len (n w : Nat) : (bitsW n w).length = w := by simp [bitsW]
theorem bitsW_succ (n w : Nat) : bitsW n (w + 1) = bitsW (n / 2) w ++ [decide (n % 2 = 1)] := by
  simp only [bitsW, List.range_succ, List.map_append, List.map_cons, List.map_nil]
  congr 1
  · apply List.map_congr_left
    intro i hi
    have := List.mem_range.1 hi
    rw [Nat.div_div_eq_div_mul, ← Nat.pow_succ', show w + 1 - 1 - i = (w - 1 - i).succ by omega]
  · simp
theorem numB_bitsW : ∀ (w n : Nat), numB (bitsW n w) 0 = n % 2 ^ w
  | 0, n => by simp [bitsW, numB, Nat.mod_one]
  | w + 1, n => by
    rw [bitsW_succ, numB_append, numB_bitsW w]
    simp only [numB]
    rw [Nat.pow_succ, Nat.mul_comm (2 ^ w) 2, Nat.mod_mul]
    have h2 : b2n (decide (n % 2 = 1)) = n % 2 := by
      rcases Nat.mod_two_eq_zero_or_one n with h | h <;> simp [h, b2n]
    rw [h2]; omega

def bit (bs : List Bool) (i : Nat) : Nat := b2n (bs.getD i false)
/-- the byte at a place -/
def byteAt (bs : List Bool) (i : Nat) : Nat := bit bs (8 * i) * 128 + bit bs (8 * i + 1) * 64 + bit bs (8 * i + 2) * 32 + bit bs (8 * i + 3) * 16 + bit bs (8 * i + 4) * 8 + bit bs (8 * i + 5) * 4 + bit bs (8 * i + 6) * 2 + bit bs (8 * i + 7)
theorem bit_le (bs : List Bool) (i : Nat) : bit bs i ≤ 1 := b2n_le _
theorem byteAt_lt (bs : List Bool) (i : Nat) : byteAt bs i < 256 := by
  unfold byteAt
  have h0 := bit_le bs (8 * i); have h1 := bit_le bs (8 * i + 1); have h2 := bit_le bs (8 * i + 2); have h3 := bit_le bs (8 * i + 3)
  have h4 := bit_le bs (8 * i + 4); have h5 := bit_le bs (8 * i + 5); have h6 := bit_le bs (8 * i + 6); have h7 := bit_le bs (8 * i + 7)
  omega
/-- bytes of bits -/
def bytesOf (bs : List Bool) : List Nat := (List.range ((bs.length + 7) / 8)).map (byteAt bs)
@[simp] theorem bytesOf_len (bs : List Bool) : (bytesOf bs).length = (bs.length + 7) / 8 := by simp [bytesOf]
theorem bit_out {bs : List Bool} {i : Nat} (h : bs.length ≤ i) : bit bs i = 0 := by
  unfold bit; rw [List.getD_eq_getElem?_getD, List.getElem?_eq_none h]; rfl
theorem bit_snoc {bs : List Bool} {b : Bool} {i : Nat} (h : i ≠ bs.length) : bit (bs ++ [b]) i = bit bs i := by
  unfold bit
  rw [List.getD_eq_getElem?_getD, List.getD_eq_getElem?_getD]
  rcases Nat.lt_or_gt_of_ne h with h' | h'
  · rw [List.getElem?_append_left h']
  · rw [List.getElem?_eq_none (by simp; omega), List.getElem?_eq_none (by omega)]
theorem bit_last {bs : List Bool} {b : Bool} : bit (bs ++ [b]) bs.length = b2n b := by
  unfold bit; rw [List.getD_eq_getElem?_getD]; simp
theorem byteAt_snoc_ne {bs : List Bool} {b : Bool} {i : Nat} (h : i ≠ bs.length / 8) : byteAt (bs ++ [b]) i = byteAt bs i := by
  unfold byteAt
  rw [bit_snoc (by omega), bit_snoc (by omega), bit_snoc (by omega), bit_snoc (by omega), bit_snoc (by omega), bit_snoc (by omega), bit_snoc (by omega), bit_snoc (by omega)]
/-- one bit more: it is added at its place, where there is none yet -/
theorem byteAt_snoc {bs : List Bool} {b : Bool} : ∃ c, byteAt bs (bs.length / 8) = c * 2 ^ (8 - bs.length % 8) ∧ byteAt (bs ++ [b]) (bs.length / 8) = c * 2 ^ (8 - bs.length % 8) + b2n b * 2 ^ (7 - bs.length % 8) := by
  have hs : ∀ k, k ≠ bs.length % 8 → k < 8 → bit (bs ++ [b]) (8 * (bs.length / 8) + k) = bit bs (8 * (bs.length / 8) + k) := fun k hk h8 => bit_snoc (by omega)
  have ho : ∀ k, bs.length % 8 ≤ k → bit bs (8 * (bs.length / 8) + k) = 0 := fun k hk => bit_out (by omega)
  have hl : bit (bs ++ [b]) (8 * (bs.length / 8) + bs.length % 8) = b2n b := by rw [show 8 * (bs.length / 8) + bs.length % 8 = bs.length by omega]; exact bit_last
  have hr : bs.length % 8 < 8 := Nat.mod_lt _ (by omega)
  unfold byteAt
  rw [show 8 * (bs.length / 8) = 8 * (bs.length / 8) + 0 by rfl]
  generalize 8 * (bs.length / 8) = q at *
  generalize bs.length % 8 = r at *
  generalize hL : bs ++ [b] = L at *
  have hr' : r = 0 ∨ r = 1 ∨ r = 2 ∨ r = 3 ∨ r = 4 ∨ r = 5 ∨ r = 6 ∨ r = 7 := by omega
  simp only [Nat.add_zero] at *
  rcases hr' with rfl | rfl | rfl | rfl | rfl | rfl | rfl | rfl
  · refine ⟨0, ?_, ?_⟩
    · have := ho 0; have := ho 1; have := ho 2; have := ho 3; have := ho 4; have := ho 5; have := ho 6; have := ho 7; simp_all
    · have := ho 0; have := ho 1; have := ho 2; have := ho 3; have := ho 4; have := ho 5; have := ho 6; have := ho 7; have := hs 1; have := hs 2; have := hs 3; have := hs 4; have := hs 5; have := hs 6; have := hs 7; simp_all
  · refine ⟨bit bs q, ?_, ?_⟩
    · have := ho 1; have := ho 2; have := ho 3; have := ho 4; have := ho 5; have := ho 6; have := ho 7; simp_all
    · have := ho 1; have := ho 2; have := ho 3; have := ho 4; have := ho 5; have := ho 6; have := ho 7; have := hs 0; have := hs 2; have := hs 3; have := hs 4; have := hs 5; have := hs 6; have := hs 7; simp_all
  · refine ⟨bit bs q * 2 + bit bs (q + 1), ?_, ?_⟩
    · have := ho 2; have := ho 3; have := ho 4; have := ho 5; have := ho 6; have := ho 7; simp_all; omega
    · have := ho 2; have := ho 3; have := ho 4; have := ho 5; have := ho 6; have := ho 7; have := hs 0; have := hs 1; have := hs 3; have := hs 4; have := hs 5; have := hs 6; have := hs 7; simp_all; omega
  · refine ⟨bit bs q * 4 + bit bs (q + 1) * 2 + bit bs (q + 2), ?_, ?_⟩
    · have := ho 3; have := ho 4; have := ho 5; have := ho 6; have := ho 7; simp_all; omega
    · have := ho 3; have := ho 4; have := ho 5; have := ho 6; have := ho 7; have := hs 0; have := hs 1; have := hs 2; have := hs 4; have := hs 5; have := hs 6; have := hs 7; simp_all; omega
  · refine ⟨bit bs q * 8 + bit bs (q + 1) * 4 + bit bs (q + 2) * 2 + bit bs (q + 3), ?_, ?_⟩
    · have := ho 4; have := ho 5; have := ho 6; have := ho 7; simp_all; omega
    · have := ho 4; have := ho 5; have := ho 6; have := ho 7; have := hs 0; have := hs 1; have := hs 2; have := hs 3; have := hs 5; have := hs 6; have := hs 7; simp_all; omega
  · refine ⟨bit bs q * 16 + bit bs (q + 1) * 8 + bit bs (q + 2) * 4 + bit bs (q + 3) * 2 + bit bs (q + 4), ?_, ?_⟩
    · have := ho 5; have := ho 6; have := ho 7; simp_all; omega
    · have := ho 5; have := ho 6; have := ho 7; have := hs 0; have := hs 1; have := hs 2; have := hs 3; have := hs 4; have := hs 6; have := hs 7; simp_all; omega
  · refine ⟨bit bs q * 32 + bit bs (q + 1) * 16 + bit bs (q + 2) * 8 + bit bs (q + 3) * 4 + bit bs (q + 4) * 2 + bit bs (q + 5), ?_, ?_⟩
    · have := ho 6; have := ho 7; simp_all; omega
    · have := ho 6; have := ho 7; have := hs 0; have := hs 1; have := hs 2; have := hs 3; have := hs 4; have := hs 5; have := hs 7; simp_all; omega
  · refine ⟨bit bs q * 64 + bit bs (q + 1) * 32 + bit bs (q + 2) * 16 + bit bs (q + 3) * 8 + bit bs (q + 4) * 4 + bit bs (q + 5) * 2 + bit bs (q + 6), ?_, ?_⟩
    · have := ho 7; simp_all; omega
    · have := ho 7; have := hs 0; have := hs 1; have := hs 2; have := hs 3; have := hs 4; have := hs 5; have := hs 6; simp_all; omega

theorem bytesOf_snoc0 {bs : List Bool} {b : Bool} (h : bs.length % 8 = 0) : bytesOf (bs ++ [b]) = bytesOf bs ++ [b2n b * 128] := by
  unfold bytesOf
  rw [List.length_append, List.length_singleton, show (bs.length + 1 + 7) / 8 = (bs.length + 7) / 8 + 1 by omega, List.range_succ, List.map_append]
  congr 1
  · apply List.map_congr_left
    intro i hi
    have := List.mem_range.1 hi
    exact byteAt_snoc_ne (by omega)
  · obtain ⟨c, h1, h2⟩ := byteAt_snoc (bs := bs) (b := b)
    have h3 : byteAt bs (bs.length / 8) = 0 := by
      unfold byteAt
      rw [bit_out (by omega), bit_out (by omega), bit_out (by omega), bit_out (by omega), bit_out (by omega), bit_out (by omega), bit_out (by omega), bit_out (by omega)]
    rw [h3, h, Nat.sub_zero] at h1
    rw [h, Nat.sub_zero, Nat.sub_zero] at h2
    rw [List.map_singleton, show (bs.length + 7) / 8 = bs.length / 8 by omega, h2, ← h1]
    simp
theorem bytesOf_snoc {bs : List Bool} {b : Bool} (h : bs.length % 8 ≠ 0) : ∃ c, (bytesOf bs).getD (bs.length / 8) 0 = c * 2 ^ (8 - bs.length % 8) ∧ bytesOf (bs ++ [b]) = (bytesOf bs).set (bs.length / 8) (c * 2 ^ (8 - bs.length % 8) + b2n b * 2 ^ (7 - bs.length % 8)) := by
  obtain ⟨c, h1, h2⟩ := byteAt_snoc (bs := bs) (b := b)
  refine ⟨c, ?_, ?_⟩
  · unfold bytesOf
    rw [List.getD_eq_getElem?_getD, List.getElem?_map, List.getElem?_range (by omega)]
    exact h1
  · apply List.ext_getElem?
    intro i
    rw [List.getElem?_set]
    unfold bytesOf
    simp only [List.getElem?_map, List.length_map, List.length_range, List.length_append, List.length_singleton]
    rw [show (bs.length + 1 + 7) / 8 = (bs.length + 7) / 8 by omega]
    by_cases hi : bs.length / 8 = i
    · subst hi
      rw [if_pos rfl, if_pos (by omega), List.getElem?_range (by omega), Option.map_some, h2]
    · rw [if_neg hi]
      by_cases hl : i < (bs.length + 7) / 8
      · rw [List.getElem?_range hl, Option.map_some, Option.map_some, byteAt_snoc_ne (fun h => hi h.symm)]
      · rw [List.getElem?_eq_none (by simp; omega)]; rfl

/-- bits of bytes -/
def bitsOf1 (x : Nat) : List Bool := bitsW x 8
def bitsOf : List Nat → List Bool
  | [] => []
  | x :: l => bitsOf1 x ++ bitsOf l
@[simp] theorem bitsOf_len : ∀ l : List Nat, (bitsOf l).length = 8 * l.length
  | [] => rfl
  | x :: l => by simp [bitsOf, bitsOf1, bitsOf_len l]; omega
theorem bitsOf_append : ∀ l k : List Nat, bitsOf (l ++ k) = bitsOf l ++ bitsOf k
  | [], k => rfl
  | x :: l, k => by simp [bitsOf, bitsOf_append l k]
theorem bitsOf_get : ∀ (l : List Nat) (i : Nat), i < 8 * l.length → (bitsOf l).getD i false = decide (l.getD (i / 8) 0 / 2 ^ (7 - i % 8) % 2 = 1)
  | [], i, h => by simp at h
  | x :: l, i, h => by
    rw [bitsOf, List.getD_eq_getElem?_getD]
    by_cases h8 : i < 8
    · rw [List.getElem?_append_left (by simp [bitsOf1]; omega), bitsOf1, bitsW, List.getElem?_map, List.getElem?_range h8, show i / 8 = 0 by omega, show i % 8 = i by omega]
      rfl
    · rw [List.getElem?_append_right (by simp [bitsOf1]; omega), ← List.getD_eq_getElem?_getD]
      have := bitsOf_get l (i - 8) (by simp at h; omega)
      simp only [bitsOf1, bitsW_len]
      rw [this, show i / 8 = (i - 8) / 8 + 1 by omega, show (i - 8) % 8 = i % 8 by omega]
      simp
theorem bitsOf_bytesOf (bs : List Bool) : (bitsOf (bytesOf bs)).take bs.length = bs := by
  apply List.ext_getElem?
  intro i
  rw [List.getElem?_take]
  by_cases h : i < bs.length
  · rw [if_pos h, List.getElem?_eq_getElem (by simp; omega), List.getElem?_eq_getElem h]
    congr 1
    have h1 := bitsOf_get (bytesOf bs) i (by simp; omega)
    rw [List.getD_eq_getElem?_getD, List.getElem?_eq_getElem (by simp; omega), Option.getD_some] at h1
    rw [h1]
    have h2 : (bytesOf bs).getD (i / 8) 0 = byteAt bs (i / 8) := by
      unfold bytesOf
      rw [List.getD_eq_getElem?_getD, List.getElem?_map, List.getElem?_range (by omega)]; rfl
    rw [h2]
    have h3 : bit bs i = b2n bs[i] := by unfold bit; rw [List.getD_eq_getElem?_getD, List.getElem?_eq_getElem h]; rfl
    have h4 : byteAt bs (i / 8) / 2 ^ (7 - i % 8) % 2 = bit bs i := by
      have e : i = 8 * (i / 8) + i % 8 := by omega
      have hr : i % 8 < 8 := Nat.mod_lt _ (by omega)
      conv => rhs; rw [e]
      unfold byteAt
      generalize i / 8 = q at *
      generalize i % 8 = r at *
      have g0 := bit_le bs (8 * q); have g1 := bit_le bs (8 * q + 1); have g2 := bit_le bs (8 * q + 2); have g3 := bit_le bs (8 * q + 3)
      have g4 := bit_le bs (8 * q + 4); have g5 := bit_le bs (8 * q + 5); have g6 := bit_le bs (8 * q + 6); have g7 := bit_le bs (8 * q + 7)
      have hr' : r = 0 ∨ r = 1 ∨ r = 2 ∨ r = 3 ∨ r = 4 ∨ r = 5 ∨ r = 6 ∨ r = 7 := by omega
      rcases hr' with rfl | rfl | rfl | rfl | rfl | rfl | rfl | rfl <;> simp only [Nat.add_zero, Nat.sub_zero, Nat.reducePow, Nat.reduceSub] <;> omega
    rw [h4, h3]
    cases bs[i] <;> rfl
  · rw [if_neg h, List.getElem?_eq_none (by omega)]
end
end Go.Proofs.YtijbgbpjionfjaaGreatDoor.Am
namespace Go.Proofs.YtijbgbpjionfjaaGreatDoor.Am
section
open Go.RowKit
/-- bytes in cells -/
def u8s (ws : List Nat) : List V := ws.map fun x : Nat => V.d (.int .u8 x)
/-- bytes, as data -/
def BY (ws : List Nat) : D := .sl ws.length (ws.map fun x : Nat => .int .u8 x)
theorem u8s_length (ws : List Nat) : (u8s ws).length = ws.length := by simp [u8s]
theorem u8s_get {ws : List Nat} {j : Nat} (h : j < ws.length) : (u8s ws)[j]? = some (.d (.int .u8 (ws.getD j 0 : Nat))) := by simp [u8s, h]
theorem u8s_set (ws : List Nat) (j v : Nat) : (u8s ws).set j (.d (.int .u8 v)) = u8s (ws.set j v) := by simp [u8s, List.map_set]
theorem u8s_snoc (ws : List Nat) (v : Nat) : u8s ws ++ [.d (.int .u8 v)] = u8s (ws ++ [v]) := by simp [u8s]
@[simp] theorem u8s_low (n : Nat) (ws : List Nat) : V.lowl n (u8s ws) = true := by induction ws <;> simp_all [u8s]
@[simp] theorem u8s_ren (θ : Nat → Nat) (ws : List Nat) : V.rens θ (u8s ws) = u8s ws := by induction ws <;> simp_all [u8s]
/-- a writer's variable, its bytes -/
def wrO (m : Nat) (bs : List Bool) : Ob := ⟨85, [.own m 1 ((bs.length + 7) / 8), .d (.int .i64 bs.length)]⟩
def wrB (bs : List Bool) : Ob := ⟨5, u8s (bytesOf bs)⟩

theorem or_u8 (x y : Nat) (hx : x < 256) (hy : y < 256) : bits BinOp.or IntKind.u8 (x : Int) (y : Int) = ((x ||| y : Nat) : Int) := by
  show IntKind.u8.wrap (((BitVec.ofInt 8 (x : Int)) ||| (BitVec.ofInt 8 (y : Int))).toNat : Int) = _
  rw [BitVec.toNat_or, BitVec.ofInt_natCast, BitVec.ofInt_natCast, BitVec.toNat_ofNat, BitVec.toNat_ofNat, Nat.mod_eq_of_lt (by omega), Nat.mod_eq_of_lt (by omega)]
  have := Nat.or_lt_two_pow (n := 8) (x := x) (y := y) hx hy
  rw [IntKind.wrap_u8]
  omega
theorem or_step {c r : Nat} (hr : r < 8) (h : c * 2 ^ (8 - r) < 256) : bits BinOp.or IntKind.u8 ((c * 2 ^ (8 - r) : Nat) : Int) ((2 ^ (7 - r) : Nat) : Int) = ((c * 2 ^ (8 - r) + 2 ^ (7 - r) : Nat) : Int) := by
  have h2 : 2 ^ (7 - r) < 2 ^ (8 - r) := Nat.pow_lt_pow_right (by omega) (by omega)
  have h3 : 2 ^ (7 - r) ≤ 2 ^ 7 := Nat.pow_le_pow_right (by omega) (by omega)
  rw [or_u8 _ _ h (by omega), Nat.mul_comm c, Nat.two_pow_add_eq_or_of_lt h2]

theorem wbit0_ok (b : Bool) : Eqn Tryz.prog n_bits_Writer_Bit [.p 0 0, .d (.bool b)] [⟨85, [.d .nilsl, .d (.int .i64 0)]⟩] (.tup []) [wrO 1 [b], wrB [b]] := by
  refine Eqn.gen [0, 2] r_bits_Writer_Bit (by simp) (by simp) (by rfl) (by decide) (by simp) (by simp [wrO, wrB, u8s_low]) ?_
  simp only [c_bits_Writer_Bit]
  have e1 : IntKind.i64.wrap 1 = 1 := w64 (by omega) (by omega)
  have e2 : bits BinOp.or IntKind.u8 0 (IntKind.u8.wrap 128) = 128 := by decide
  refine G0 ?_; try with_reducible exact tt
  refine AW.cond rfl (fun h => ?_) (fun h => ?_)
  · refine G0 ?_; try with_reducible exact tt
    cases b with
    | true =>
      refine AW.cond rfl (fun h => ?_) (fun h => ?_)
      · refine G1 (fs e1 e2) ?_; try with_reducible exact tt
        simp [wrO, wrB, u8s, bytesOf, byteAt, bit, b2n, List.range_succ]
      · simp at h
    | false =>
      refine AW.cond rfl (fun h => ?_) (fun h => ?_)
      · simp at h
      · refine G1 (fs e1 e2) ?_; try with_reducible exact tt
        simp [wrO, wrB, u8s, bytesOf, byteAt, bit, b2n, List.range_succ]
  · simp at h

theorem wbit_ok (bs : List Bool) (b : Bool) (h0 : bs ≠ []) (hn : bs.length ≤ 1000000) : EqnD Tryz.prog n_bits_Writer_Bit [.p 0 0, .d (.bool b)] [wrO 1 bs, wrB bs] (.tup []) [wrO 2 (bs ++ [b]), wrB bs, wrB (bs ++ [b])] [1] := by
  have e1 : IntKind.i64.wrap ((bs.length : Int) + 1) = (bs.length : Int) + 1 := w64 (by omega) (by omega)
  have e2 : ((bs.length : Nat) : Int).tmod 8 = ((bs.length % 8 : Nat) : Int) := by rw [Int.tmod_eq_emod_of_nonneg (by omega)]; rfl
  have e2' : ((bs.length : Nat) : Int) % 8 = ((bs.length % 8 : Nat) : Int) := rfl
  have e3 : IntKind.i64.wrap (((bs.length : Nat) : Int) / 8) = ((bs.length / 8 : Nat) : Int) := by rw [w64 (by omega) (by omega)]; rfl
  by_cases hr : bs.length % 8 = 0
  · refine Eqn.gen [0, 1, 3] r_bits_Writer_Bit (by simp) (by simp) (by rfl) (by decide) (by simp) (by simp [wrO, wrB, u8s_low]) ?_
    have hb := bytesOf_snoc0 (b := b) hr
    have hl : (bytesOf bs).length = bs.length / 8 := by rw [bytesOf_len]; omega
    simp only [c_bits_Writer_Bit, wrO, wrB, hb, List.length_append, List.length_singleton]
    rw [show (bs.length + 7) / 8 = bs.length / 8 by omega, show (bs.length + 1 + 7) / 8 = bs.length / 8 + 1 by omega]
    rw [hr] at e2 e2'
    have hg : (u8s (bytesOf bs ++ [0]))[bs.length / 8]? = some (.d (.int .u8 0)) := by rw [u8s_get (by simp; omega)]; simp [List.getD, ← hl]
    have hs : ∀ v, (u8s (bytesOf bs ++ [0])).set (bs.length / 8) (.d (.int .u8 v)) = u8s (bytesOf bs) ++ [.d (.int .u8 v)] := fun v => by simp [u8s, ← hl]
    have hu := u8s_snoc (bytesOf bs) 0
    have hu2 := u8s_snoc (bytesOf bs) (b2n b * 128)
    have hlen := u8s_length (bytesOf bs)
    rw [hl] at hlen
    generalize bytesOf bs = ws at *
    have hq : bs.length / 8 ≤ 1000000 := by omega
    generalize bs.length / 8 = q at *
    generalize bs.length = n at *
    have e4 : bits BinOp.or IntKind.u8 0 (IntKind.u8.wrap 128) = 128 := by decide
    simp at hu
    have hlen2 : (u8s (ws ++ [0])).length = q + 1 := by rw [u8s_length]; simp; omega
    refine G1 (fs e2 (fs e2' hu)) ?_; try with_reducible exact tt
    refine AW.cond rfl (fun h => ?_) (fun h => ?_)
    · refine G1 (fs e2 (fs e2' hu)) ?_; try with_reducible exact tt
      cases b with
      | true =>
        simp [b2n] at hu2
        refine AW.cond rfl (fun h => ?_) (fun h => ?_)
        · refine G1 (fs e1 (fs e2 (fs e2' (fs e3 (fs e4 (fs hg hs)))))) ?_; try with_reducible exact tt
          simp [hu2, b2n]
        · simp at h
      | false =>
        simp [b2n] at hu2
        refine AW.cond rfl (fun h => ?_) (fun h => ?_)
        · simp at h
        · refine G1 e1 ?_; try with_reducible exact tt
          simp [hu2, b2n]
    · simp at h
  · refine Eqn.gen [0, 1, 1] r_bits_Writer_Bit (by simp) (by simp) (by rfl) (by decide) (by simp) (by simp [wrO, wrB, u8s_low]) ?_
    obtain ⟨c, hc, hb⟩ := bytesOf_snoc (b := b) hr
    have hlt : c * 2 ^ (8 - bs.length % 8) < 256 := by
      rw [← hc]
      have : (bytesOf bs).getD (bs.length / 8) 0 = byteAt bs (bs.length / 8) := by
        unfold bytesOf
        rw [List.getD_eq_getElem?_getD, List.getElem?_map, List.getElem?_range (by omega)]; rfl
      rw [this]; exact byteAt_lt _ _
    have hor := or_step (r := bs.length % 8) (Nat.mod_lt _ (by omega)) hlt
    have hR : bs.length % 8 < 8 := Nat.mod_lt _ (by omega)
    have hl : (bytesOf bs).length = bs.length / 8 + 1 := by rw [bytesOf_len]; omega
    have hg := u8s_get (ws := bytesOf bs) (j := bs.length / 8) (by omega)
    rw [hc] at hg
    have hs := u8s_set (bytesOf bs) (bs.length / 8)
    have hset : c * 2 ^ (8 - bs.length % 8) = (bytesOf bs).getD (bs.length / 8) 0 := hc.symm
    have hkeep : (bytesOf bs).set (bs.length / 8) (c * 2 ^ (8 - bs.length % 8)) = bytesOf bs := by
      rw [hset]
      apply List.ext_getElem?
      intro i
      rw [List.getElem?_set]
      split
      · rename_i h; subst h
        rw [if_pos (by omega), List.getD_eq_getElem?_getD, List.getElem?_eq_getElem (by omega)]; rfl
      · rfl
    have h7 : 2 ^ (7 - bs.length % 8) ≤ 2 ^ 7 := Nat.pow_le_pow_right (by omega) (by omega)
    simp only [c_bits_Writer_Bit, wrO, wrB, hb, List.length_append, List.length_singleton]
    rw [show (bs.length + 7) / 8 = bs.length / 8 + 1 by omega, show (bs.length + 1 + 7) / 8 = bs.length / 8 + 1 by omega]
    have e5 : IntKind.i64.wrap (7 - ((bs.length % 8 : Nat) : Int)) = ((7 - bs.length % 8 : Nat) : Int) := by rw [w64 (by omega) (by omega)]; omega
    have e6 : IntKind.u8.wrap (2 ^ (7 - bs.length % 8)) = ((2 ^ (7 - bs.length % 8) : Nat) : Int) := by
      have : ((2 : Int) ^ (7 - bs.length % 8)) = ((2 ^ (7 - bs.length % 8) : Nat) : Int) := by rw [Int.natCast_pow]; rfl
      rw [IntKind.wrap_u8, this]
      exact Int.emod_eq_of_lt (Int.natCast_nonneg _) (by exact_mod_cast Nat.lt_of_le_of_lt h7 (by decide))
    have e7 : 7 - bs.length % 8 ≤ 7 := by omega
    have hlen := u8s_length (bytesOf bs)
    rw [hl] at hlen
    clear hset hc hl hb
    generalize bytesOf bs = ws at *
    generalize bs.length / 8 = q at *
    generalize bs.length % 8 = r at *
    generalize bs.length = n at *
    generalize 2 ^ (7 - r) = P at *
    generalize c * 2 ^ (8 - r) = C at *
    have hCP : C + b2n b * P = if b then C + P else C := by cases b <;> simp [b2n]
    rw [hCP]
    have hr' : ¬ (r : Int) = 0 := by omega
    refine G1 (fs e2 (fs e2' (fs hr hr'))) ?_; try with_reducible exact tt
    refine AW.cond rfl (fun h => ?_) (fun h => ?_)
    · simp [hr, hr'] at h
    · refine G0 ?_; try with_reducible exact tt
      cases b with
      | true =>
        refine AW.cond rfl (fun h => ?_) (fun h => ?_)
        · refine G1 (fs e1 (fs e2 (fs e2' (fs e3 (fs e5 (fs e6 (fs e7 (fs hg (fs hor hs))))))))) ?_; try with_reducible exact tt
          exact Subs.of (by rw [← hs]; simp)
        · simp at h
      | false =>
        refine AW.cond rfl (fun h => ?_) (fun h => ?_)
        · simp at h
        · refine G1 e1 ?_; try with_reducible exact tt
          simp [hkeep]

theorem wbytes_ok (bs : List Bool) (h0 : bs ≠ []) (hn : bs.length ≤ 1000000) : Eqn Tryz.prog n_bits_Writer_Bytes [.p 0 0] [wrO 1 bs, wrB bs] (.own 2 1 (bytesOf bs).length) [wrO 1 bs, wrB bs, wrB bs] := by
  refine Eqn.gen [0, 1, 2] r_bits_Writer_Bytes (by simp) (by simp) (by rfl) (by decide) (by simp) (by simp [wrO, wrB]) ?_
  have hl : 0 < bs.length := by cases bs with | nil => exact absurd rfl h0 | cons _ _ => simp
  simp only [c_bits_Writer_Bytes, wrO, wrB, bytesOf_len]
  have hlen := u8s_length (bytesOf bs)
  rw [bytesOf_len] at hlen
  have hq : (bs.length + 7) / 8 ≤ 1000000 := by omega
  have hset : setMany (List.replicate ((bs.length + 7) / 8) (V.d (.int .u8 0))) 0 (u8s (bytesOf bs)) = u8s (bytesOf bs) := by
    rw [setMany_eq _ _ _ (by simp [hlen])]
    simp [hlen]
  have htake : (u8s (bytesOf bs)).take ((bs.length + 7) / 8) = u8s (bytesOf bs) := List.take_of_length_le (by omega)
  have hren : ∀ θ, V.rens θ (u8s (bytesOf bs)) = u8s (bytesOf bs) := fun θ => u8s_ren θ _
  generalize u8s (bytesOf bs) = C at *
  generalize (bs.length + 7) / 8 = q at *
  generalize bs.length = n at *
  have e1 : IntKind.i64.wrap (q : Int) = q := w64 (by omega) (by omega)
  refine G1 (fs e1 (fs hset (fs htake hren))) ?_; try with_reducible exact tt

theorem bgood_ok (w : Int) : Eqn Tryz.prog n_bits_good [.d (.int .i64 w)] [] (.d (.bool (decide (0 ≤ w ∧ w ≤ 64)))) [] := by
  refine Eqn.pure r_bits_good (plain_d _) ?_
  simp only [c_bits_good]
  by_cases h : 0 ≤ w
  · refine G1 h ?_; try with_reducible exact tt
  · have h' : w < 0 := by omega
    refine G1 (fs h h') ?_; try with_reducible exact tt

/-- it fits into so many bits -/
theorem bfits_ok (n w : Nat) (hw : w ≤ 64) (h : n < 2 ^ w) : Eqn Tryz.prog n_bits_fits [.d (.int .u64 n), .d (.int .i64 w)] [] (.d (.bool true)) [] := by
  refine Eqn.pure r_bits_fits (plain_d _) ?_
  simp only [c_bits_fits]
  by_cases h64 : w = 64
  · subst h64
    refine G0 ?_; try with_reducible exact tt
  · have h1 : ¬ (w : Int) = 64 := by omega
    have h2 : ((n : Int) / 2 ^ w) = 0 := by
      have : ((2 : Int) ^ w) = ((2 ^ w : Nat) : Int) := by rw [Int.natCast_pow]; rfl
      rw [this, ← Int.natCast_ediv, Nat.div_eq_of_lt h]; rfl
    have h3 : w < 64 := by omega
    refine G1 (fs h64 (fs h1 (fs h2 h3))) ?_; try with_reducible exact tt

theorem bits_and1 (x : Nat) (hx : x < 18446744073709551616) : bits BinOp.and IntKind.u64 (x : Int) 1 = ((x % 2 : Nat) : Int) := by
  show IntKind.u64.wrap (((BitVec.ofInt 64 (x : Int)) &&& (BitVec.ofInt 64 (1 : Int))).toNat : Int) = _
  have h1 : (BitVec.ofInt 64 (1 : Int)).toNat = 1 := by decide
  rw [BitVec.toNat_and, h1, BitVec.ofInt_natCast, BitVec.toNat_ofNat, Nat.mod_eq_of_lt (by omega), Nat.and_one_is_mod, IntKind.wrap_u64]
  omega

theorem bitsW_take (n w i : Nat) (h : i < w) : (bitsW n w).take (i + 1) = (bitsW n w).take i ++ [decide (n / 2 ^ (w - 1 - i) % 2 = 1)] := by
  rw [List.take_add_one, List.getElem?_eq_getElem (by simpa using h)]
  simp [bitsW]

set_option maxHeartbeats 1000000 in
theorem wnum0_ok (n w : Nat) (h0 : 0 < w) (hw : w ≤ 64) (h : n < 2 ^ w) (hn : n < 18446744073709551616) : Eqn Tryz.prog n_bits_Writer_Num [.p 0 0, .d (.int .u64 n), .d (.int .i64 w)] [⟨85, [.d .nilsl, .d (.int .i64 0)]⟩] (.d (.int .i64 0)) [wrO 1 (bitsW n w), wrB (bitsW n w)] := by
  refine Eqn.gen [0, 1] r_bits_Writer_Num (by simp) (by simp) (by rfl) (by decide) (by simp) (by simp [wrO, wrB]) ?_
  simp only [c_bits_Writer_Num]
  have hg := bgood_ok w
  rw [show decide (0 ≤ (w : Int) ∧ (w : Int) ≤ 64) = true by simp; omega] at hg
  refine G0 ?_; try with_reducible exact tt
  refine CallS.pu (hg) (R0 ?_); try with_reducible exact tt
  refine CallS.pu (bfits_ok n w hw h) (R0 ?_); try with_reducible exact tt
  refine AW.cond rfl (fun h => ?_) (fun h => ?_)
  · simp at h
  clear h
  refine G0 ?_; try with_reducible exact tt
  refine AW.loopG (α := Nat) (fun i => [.p 0 0, .d (.int .u64 n), .d (.int .i64 w)] ++ List.replicate 3 .junk ++ [.d (.int .i64 0)] ++ List.replicate 10 .junk ++ [.d (.int .i64 w), .d (.int .i64 (i : Int))] ++ List.replicate 13 .junk) (fun i => if i = 0 then [some ⟨85, [.d .nilsl, .d (.int .i64 0)]⟩] else [some (wrO 1 ((bitsW n w).take i)), some (wrB ((bitsW n w).take i))]) (fun i => i ≤ w) (fun i => w - i) 0 ?_ (Nat.zero_le _) ?_ ?_ ?_
  · intro i hi; split <;> simp
  · simp
  · simp
  rintro i hi
  obtain ⟨W, hW⟩ : ∃ W, W = w - 1 := ⟨_, rfl⟩
  have e2 : IntKind.i64.wrap ((w : Int) - 1) = (W : Int) := by rw [w64 (by omega) (by omega)]; omega
  have hnum : i < w → ∃ (S X : Nat) (b : Bool), IntKind.i64.wrap ((W : Int) - i) = (S : Int) ∧ S = W - i ∧ (n : Int) / 2 ^ S = (X : Int) ∧ bits BinOp.and IntKind.u64 (X : Int) 1 = (X : Int) % 2 ∧ ((X : Int) % 2 == 1) = b ∧ (bitsW n w).take (i + 1) = (bitsW n w).take i ++ [b] := by
    intro h
    refine ⟨W - i, n / 2 ^ (W - i), decide (n / 2 ^ (W - i) % 2 = 1), by rw [w64 (by omega) (by omega)]; omega, rfl, ?_, ?_, ?_, by rw [hW]; exact bitsW_take n w i h⟩
    · rw [Int.natCast_ediv, Int.natCast_pow]; rfl
    · exact bits_and1 _ (Nat.lt_of_le_of_lt (Nat.div_le_self _ _) hn)
    · generalize n / 2 ^ (W - i) = z; rw [Bool.eq_iff_iff]; simp; omega
  have hend : (bitsW n w).take w = bitsW n w := List.take_of_length_le (by simp)
  have htl : ∀ k, k ≤ w → ((bitsW n w).take k).length = k := fun k h => by rw [List.length_take, bitsW_len]; omega
  have e1 : IntKind.i64.wrap ((i : Int) + 1) = ((i + 1 : Nat) : Int) := by rw [w64 (by omega) (by omega)]; omega
  by_cases hiw : i = w
  · subst hiw
    rw [if_neg (by omega), hend]
    generalize bitsW n i = bs at *
    simp [wrO, wrB]
    refine G0 ?_; try with_reducible exact tt
    refine AW.cond rfl (fun h => ?_) (fun h => ?_)
    · simp at h
    refine G0 ?_; try with_reducible exact tt
  · have hlt : i < w := by omega
    have hlt' : (i : Int) < w := by omega
    obtain ⟨S, X, b, e3, e4, e5, e6, e7, e8⟩ := hnum hlt
    have e4' : (S : Int) ≤ 64 := by omega
    have e4w : (W : Int) ≤ 64 := by omega
    by_cases hi0 : i = 0
    · subst hi0
      rw [if_pos rfl]
      rw [Nat.sub_zero] at e4
      subst e4
      simp
      refine G1 (fs hlt hlt') ?_; try with_reducible exact tt
      refine AW.cond rfl (fun h => ?_) (fun h => ?_)
      · refine G1 (fs e2 (fs e4w (fs e5 (fs e6 e7)))) ?_; try with_reducible exact tt
        simp only [Int.toNat_natCast, e5, e6, e7]
        refine CallS.g [0] (wbit0_ok b) (R0 ?_); try with_reducible exact tt
        refine ⟨1, 1, 1, by simp, by omega, by omega, ?_, ?_⟩
        · simp [swT, sw, V.ren, V.rens]
        · simp at e8
          simp [swH, sw, Ob.sw, V.ren, V.rens, e8, wrO, wrB]
      · simp [hlt'] at h
    · rw [if_neg hi0]
      have hne : (bitsW n w).take i ≠ [] := fun h => by have := htl i hi; rw [h] at this; simp at this; omega
      have hB := wbit_ok ((bitsW n w).take i) b hne (by have := htl i hi; omega)
      rw [← e8] at hB
      have hk := htl (i + 1) (by omega)
      have hk0 := htl i hi
      simp only [wrO, wrB, hk, hk0] at hB ⊢
      simp
      refine G1 (fs hlt hlt') ?_; try with_reducible exact tt
      refine AW.cond rfl (fun h => ?_) (fun h => ?_)
      · refine G1 (fs e2 (fs e3 (fs e4' (fs e5 (fs e6 e7))))) ?_; try with_reducible exact tt
        refine CallS.g [0, 1] (hB) (R1 e1 ?_); try with_reducible exact tt
        refine ⟨i + 1, 1, 2, by simp, by omega, by omega, ?_, ?_⟩
        · simp [swT, sw, V.ren, V.rens, e1]
        · have hmin : min (i + 1) w = i + 1 := Nat.min_eq_left (by omega)
          simp [swH, sw, Ob.sw, V.ren, V.rens, hk, hmin]
      · simp [hlt'] at h
end
end Go.Proofs.YtijbgbpjionfjaaGreatDoor.Am
namespace Go.Proofs.YtijbgbpjionfjaaGreatDoor.Am
section
open Go.RowKit
set_option maxHeartbeats 1000000 in
theorem wnum_ok (bs : List Bool) (n w : Nat) (hbs : bs ≠ []) (hbl : bs.length ≤ 900000) (hw : w ≤ 64) (h : n < 2 ^ w) (hn : n < 18446744073709551616) : EqnD Tryz.prog n_bits_Writer_Num [.p 0 0, .d (.int .u64 n), .d (.int .i64 w)] [wrO 1 bs, wrB bs] (.d (.int .i64 0)) [wrO 2 (bs ++ bitsW n w), wrB bs, wrB (bs ++ bitsW n w)] [1] := by
  have hg := bgood_ok w
  rw [show decide (0 ≤ (w : Int) ∧ (w : Int) ≤ 64) = true by simp; omega] at hg
  by_cases hw0 : w = 0
  · subst hw0
    refine Eqn.gen [0, 1, 1] r_bits_Writer_Num (by simp) (by simp) (by rfl) (by decide) (by simp) (by simp [wrO, wrB]) ?_
    rw [show bitsW n 0 = [] by rfl, List.append_nil]
    simp only [c_bits_Writer_Num, wrO, wrB]
    have hf := bfits_ok n 0 hw h
    simp at hg hf
    refine G0 ?_; try with_reducible exact tt
    refine CallS.pu (hg) (R0 ?_); try with_reducible exact tt
    refine CallS.pu (hf) (R0 ?_); try with_reducible exact tt
    refine AW.cond rfl (fun h => ?_) (fun h => ?_)
    · simp at h
    clear h
    refine G0 ?_; try with_reducible exact tt
    refine AW.loopT (α := Nat) 2 (fun i => [(18, .d (.int .i64 0))]) (fun i => []) (fun i => i = 0) (fun i => i) 0 ?_ ?_ rfl ?_ ?_ ?_
    · simp
    · simp
    · simp
    · simp
    rintro i rfl
    simp
    refine G0 ?_; try with_reducible exact tt
    refine AW.cond rfl (fun h => ?_) (fun h => ?_)
    · simp at h
    refine G0 ?_; try with_reducible exact tt
  have h0 : 0 < w := by omega
  refine Eqn.gen [0, 1, 2] r_bits_Writer_Num (by simp) (by simp) (by rfl) (by decide) (by simp) (by simp [wrO, wrB]) ?_
  simp only [c_bits_Writer_Num]
  refine G0 ?_; try with_reducible exact tt
  refine CallS.pu (hg) (R0 ?_); try with_reducible exact tt
  refine CallS.pu (bfits_ok n w hw h) (R0 ?_); try with_reducible exact tt
  refine AW.cond rfl (fun h => ?_) (fun h => ?_)
  · simp at h
  clear h
  refine G0 ?_; try with_reducible exact tt
  refine AW.loopG (α := Nat) (fun i => [.p 0 0, .d (.int .u64 n), .d (.int .i64 w)] ++ List.replicate 3 .junk ++ [.d (.int .i64 0)] ++ List.replicate 10 .junk ++ [.d (.int .i64 w), .d (.int .i64 (i : Int))] ++ List.replicate 13 .junk) (fun i => if i = 0 then [some (wrO 1 bs), some (wrB bs)] else [some (wrO 2 (bs ++ (bitsW n w).take i)), none, some (wrB (bs ++ (bitsW n w).take i))]) (fun i => i ≤ w) (fun i => w - i) 0 ?_ (Nat.zero_le _) ?_ ?_ ?_
  · intro i hi; split <;> simp
  · simp
  · simp [wrO, wrB]
  rintro i hi
  obtain ⟨W, hW⟩ : ∃ W, W = w - 1 := ⟨_, rfl⟩
  have e2 : IntKind.i64.wrap ((w : Int) - 1) = (W : Int) := by rw [w64 (by omega) (by omega)]; omega
  have hnum : i < w → ∃ (S X : Nat) (b : Bool), IntKind.i64.wrap ((W : Int) - i) = (S : Int) ∧ S = W - i ∧ (n : Int) / 2 ^ S = (X : Int) ∧ bits BinOp.and IntKind.u64 (X : Int) 1 = (X : Int) % 2 ∧ ((X : Int) % 2 == 1) = b ∧ bs ++ (bitsW n w).take (i + 1) = (bs ++ (bitsW n w).take i) ++ [b] := by
    intro h
    refine ⟨W - i, n / 2 ^ (W - i), decide (n / 2 ^ (W - i) % 2 = 1), by rw [w64 (by omega) (by omega)]; omega, rfl, ?_, ?_, ?_, by rw [hW, List.append_assoc]; congr 1; exact bitsW_take n w i h⟩
    · rw [Int.natCast_ediv, Int.natCast_pow]; rfl
    · exact bits_and1 _ (Nat.lt_of_le_of_lt (Nat.div_le_self _ _) hn)
    · generalize n / 2 ^ (W - i) = z; rw [Bool.eq_iff_iff]; simp; omega
  have hend : (bitsW n w).take w = bitsW n w := List.take_of_length_le (by simp)
  have htl : ∀ k, k ≤ w → (bs ++ (bitsW n w).take k).length = bs.length + k := fun k h => by rw [List.length_append, List.length_take, bitsW_len]; omega
  have e1 : IntKind.i64.wrap ((i : Int) + 1) = ((i + 1 : Nat) : Int) := by rw [w64 (by omega) (by omega)]; omega
  by_cases hiw : i = w
  · subst hiw
    rw [if_neg (by omega), hend]
    generalize bs ++ bitsW n i = cs at *
    simp [wrO, wrB]
    refine G0 ?_; try with_reducible exact tt
    refine AW.cond rfl (fun h => ?_) (fun h => ?_)
    · simp at h
    refine G0 ?_; try with_reducible exact tt
  · have hlt : i < w := by omega
    have hlt' : (i : Int) < w := by omega
    obtain ⟨S, X, b, e3, e4, e5, e6, e7, e8⟩ := hnum hlt
    have e4' : (S : Int) ≤ 64 := by omega
    have e4w : (W : Int) ≤ 64 := by omega
    have hne : bs ++ (bitsW n w).take i ≠ [] := fun h => hbs (List.append_eq_nil_iff.1 h).1
    have hB := wbit_ok (bs ++ (bitsW n w).take i) b hne (by have := htl i hi; omega)
    rw [← e8] at hB
    have hk := htl (i + 1) (by omega)
    have hk0 := htl i hi
    have hmin : min (i + 1) w = i + 1 := Nat.min_eq_left (by omega)
    generalize hX1 : bs ++ (bitsW n w).take (i + 1) = X1 at *
    by_cases hi0 : i = 0
    · subst hi0
      rw [if_pos rfl]
      rw [Nat.sub_zero] at e4
      subst e4
      simp only [List.take_zero, List.append_nil] at hB
      simp only [wrO, wrB, hk] at hB ⊢
      simp
      refine G1 (fs hlt hlt') ?_; try with_reducible exact tt
      refine AW.cond rfl (fun h => ?_) (fun h => ?_)
      · refine G1 (fs e2 (fs e4w (fs e5 (fs e6 e7)))) ?_; try with_reducible exact tt
        simp only [Int.toNat_natCast, e5, e6, e7]
        refine CallS.g [0, 1] (hB) (R1 e1 ?_); try with_reducible exact tt
        refine ⟨1, 2, 2, by simp, by omega, by omega, ?_, ?_⟩
        · simp [swT, sw, V.ren, V.rens]
        · simp at hX1
          have hmin1 : min 1 w = 1 := Nat.min_eq_left (by omega)
          simp [swH, sw, Ob.sw, V.ren, V.rens, hX1, hk, hmin1]
      · simp [hlt'] at h
    · rw [if_neg hi0]
      simp only [wrO, wrB, hk, hk0] at hB ⊢
      simp
      refine G1 (fs hlt hlt') ?_; try with_reducible exact tt
      refine AW.cond rfl (fun h => ?_) (fun h => ?_)
      · refine G1 (fs e2 (fs e3 (fs e4' (fs e5 (fs e6 e7))))) ?_; try with_reducible exact tt
        refine CallS.g [0, 2] (hB) (R1 e1 ?_); try with_reducible exact tt
        refine ⟨i + 1, 2, 3, by simp, by omega, by omega, ?_, ?_⟩
        · simp [swT, sw, V.ren, V.rens, e1]
        · simp [swH, sw, Ob.sw, V.ren, V.rens, hX1, hk, hmin]
      · simp [hlt'] at h

/-- a reader's variable -/
def rdO (ws : List Nat) (at_ : Nat) : Ob := ⟨174, [.d (BY ws), .d (.int .i64 at_)]⟩

theorem cloneY_ok (n : Nat) (l : List D) (hl : l.length = n) (hn : n ≤ 4000000) : Eqn Tryz.prog n_slices_Clone_byte_byte [.d (.sl n l)] [] (.d (.sl n l)) [] := by
  refine Eqn.pure r_slices_Clone_byte_byte (plain_d _) ?_
  simp only [c_slices_Clone_byte_byte]
  rcases Nat.eq_zero_or_pos n with rfl | h0
  · have : l = [] := List.eq_nil_of_length_eq_zero hl
    subst this
    refine AW.empty 0 rfl ?_ ?_
    · simp
      refine G0 ?_; try with_reducible exact tt
      refine AW.cond rfl (fun h => ?_) (fun h => ?_)
      · refine G0 ?_; try with_reducible exact tt
        exact Sub1.nil
      · simp at h
    · simp
      refine G0 ?_; try with_reducible exact tt
      refine AW.cond rfl (fun h => ?_) (fun h => ?_)
      · simp at h
      · refine G0 ?_; try with_reducible exact tt
        exact Sub1.sl0
  · refine G1 h0 ?_; try with_reducible exact tt
    refine AW.cond rfl (fun h => ?_) (fun h => ?_)
    · simp at h
    · refine G0 ?_; try with_reducible exact tt
      have h1 : ¬ n = 0 := by omega
      simp [h1, hl]
      refine need.of (by omega) ?_
      refine AW.freeze 0 1 ⟨5, l.map .d⟩ l (by simp) rfl ?_
      simp
      refine G0 ?_; try with_reducible exact tt
      have : l.take n = l := List.take_of_length_le (by omega)
      simp [this]

theorem bread_ok (ws : List Nat) (hn : ws.length ≤ 4000000) : Eqn Tryz.prog n_bits_Read [.d (BY ws)] [] (.p 0 0) [rdO ws 0] := by
  refine Eqn.new1 r_bits_Read ⟨rfl, fun _ => rfl⟩ ?_
  simp only [c_bits_Read, BY, rdO]
  refine G0 ?_; try with_reducible exact tt
  refine CallS.pu (cloneY_ok _ (ws.map fun x : Nat => .int .u8 x) (by simp) hn) (R0 ?_); try with_reducible exact tt

theorem rleft_ok (ws : List Nat) (a : Nat) (hn : ws.length ≤ 4000000) (ha : a ≤ 8 * ws.length) : Eqn Tryz.prog n_bits_Reader_Left [.p 0 0] [rdO ws a] (.d (.int .i64 (8 * ws.length - a : Nat))) [rdO ws a] := by
  refine Eqn.obj1 r_bits_Reader_Left (plain_d _) ⟨rfl, fun _ => rfl⟩ ?_
  simp only [c_bits_Reader_Left, BY, rdO]
  have e1 : IntKind.i64.wrap (8 * (ws.length : Int)) = 8 * (ws.length : Int) := w64 (by omega) (by omega)
  have e2 : IntKind.i64.wrap (8 * (ws.length : Int) - a) = ((8 * ws.length - a : Nat) : Int) := by rw [w64 (by omega) (by omega)]; omega
  refine G1 (fs e1 e2) ?_; try with_reducible exact tt

theorem bits_and1b (x : Nat) (hx : x < 256) : bits BinOp.and IntKind.u8 (x : Int) 1 = (x : Int) % 2 := by
  show IntKind.u8.wrap (((BitVec.ofInt 8 (x : Int)) &&& (BitVec.ofInt 8 (1 : Int))).toNat : Int) = _
  have h1 : (BitVec.ofInt 8 (1 : Int)).toNat = 1 := by decide
  rw [BitVec.toNat_and, h1, BitVec.ofInt_natCast, BitVec.toNat_ofNat, Nat.mod_eq_of_lt (by omega), Nat.and_one_is_mod, IntKind.wrap_u8]
  omega

def smallB (ws : List Nat) : Prop := ∀ x ∈ ws, x < 256
theorem rnext_ok (ws : List Nat) (a : Nat) (hs : smallB ws) (hn : ws.length ≤ 4000000) (ha : a < 8 * ws.length) : Eqn Tryz.prog n_bits_Reader_next [.p 0 0] [rdO ws a] (.d (.int .u64 (b2n ((bitsOf ws).getD a false)))) [rdO ws (a + 1)] := by
  refine Eqn.obj1 r_bits_Reader_next (plain_d _) ⟨rfl, fun _ => rfl⟩ ?_
  rw [bitsOf_get ws a ha]
  have hq : a / 8 < ws.length := by omega
  have hx : ws.getD (a / 8) 0 < 256 := by
    rw [List.getD_eq_getElem?_getD, List.getElem?_eq_getElem hq]; exact hs _ (List.getElem_mem hq)
  have hg : ∀ z : D, (ws.map fun x : Nat => D.int .u8 x)[a / 8]?.getD z = .int .u8 (ws.getD (a / 8) 0 : Nat) := fun z => by simp [hq]
  have e1 : IntKind.i64.wrap ((a : Int) / 8) = ((a / 8 : Nat) : Int) := by rw [w64 (by omega) (by omega)]; rfl
  have e2 : (a : Int).tmod 8 = ((a % 8 : Nat) : Int) := by rw [Int.tmod_eq_emod_of_nonneg (by omega)]; rfl
  have e2' : (a : Int) % 8 = ((a % 8 : Nat) : Int) := rfl
  have e3 : IntKind.i64.wrap (7 - ((a % 8 : Nat) : Int)) = ((7 - a % 8 : Nat) : Int) := by rw [w64 (by omega) (by omega)]; omega
  have e4 : ((7 - a % 8 : Nat) : Int) ≤ 8 := by omega
  have e7 : IntKind.i64.wrap ((a : Int) + 1) = ((a + 1 : Nat) : Int) := by rw [w64 (by omega) (by omega)]; omega
  simp only [c_bits_Reader_next, BY, rdO]
  generalize a % 8 = r at *
  generalize 7 - r = S at *
  generalize hb : ws.getD (a / 8) 0 = x at *
  have e5 : (x : Int) / 2 ^ S = ((x / 2 ^ S : Nat) : Int) := by rw [Int.natCast_ediv, Int.natCast_pow]; rfl
  have hxS : x / 2 ^ S < 256 := Nat.lt_of_le_of_lt (Nat.div_le_self _ _) hx
  generalize x / 2 ^ S = X at *
  have e6 := bits_and1b X hxS
  have e8 : IntKind.u64.wrap ((X : Int) % 2) = (b2n (decide (X % 2 = 1)) : Nat) := by
    rcases Nat.mod_two_eq_zero_or_one X with h | h
    · rw [show (X : Int) % 2 = 0 by omega]; simp [h, b2n]; exact wu64 (by omega) (by omega)
    · rw [show (X : Int) % 2 = 1 by omega]; simp [h, b2n]; exact wu64 (by omega) (by omega)
  generalize b2n (decide (X % 2 = 1)) = B at *
  generalize a / 8 = q at *
  have hq' : q < (ws.map fun x : Nat => D.int .u8 x).length := by simpa using hq
  generalize (ws.map fun x : Nat => D.int .u8 x) = l at *
  generalize ws.length = n at *
  refine G1 (fs e1 (fs e2 (fs e2' (fs e3 (fs e4 (fs e5 (fs e6 (fs e7 (fs e8 hg))))))))) ?_; try with_reducible exact tt
end
end Go.Proofs.YtijbgbpjionfjaaGreatDoor.Am
namespace Go.Proofs.YtijbgbpjionfjaaGreatDoor.Am
section
open Go.RowKit
theorem or_u64 (x y : Nat) (hx : x < 18446744073709551616) (hy : y < 18446744073709551616) : bits BinOp.or IntKind.u64 (x : Int) (y : Int) = ((x ||| y : Nat) : Int) := by
  show IntKind.u64.wrap (((BitVec.ofInt 64 (x : Int)) ||| (BitVec.ofInt 64 (y : Int))).toNat : Int) = _
  rw [BitVec.toNat_or, BitVec.ofInt_natCast, BitVec.ofInt_natCast, BitVec.toNat_ofNat, BitVec.toNat_ofNat, Nat.mod_eq_of_lt (by omega), Nat.mod_eq_of_lt (by omega)]
  have := Nat.or_lt_two_pow (n := 64) (x := x) (y := y) hx hy
  rw [IntKind.wrap_u64]
  omega
theorem or_two (n b : Nat) (hb : b ≤ 1) : (n * 2) ||| b = n * 2 + b := by
  have := Nat.two_pow_add_eq_or_of_lt (i := 1) (b := b) (by omega) n
  rw [Nat.pow_one, Nat.mul_comm] at this
  exact this.symm

/-- so many bits from a place on, as a number -/
def numAt (ws : List Nat) (a w : Nat) : Nat := numB (((bitsOf ws).drop a).take w) 0
theorem numAt_zero (ws : List Nat) (a : Nat) : numAt ws a 0 = 0 := by simp [numAt, numB]
theorem numAt_succ (ws : List Nat) (a i : Nat) (h : a + i < 8 * ws.length) : numAt ws a (i + 1) = 2 * numAt ws a i + b2n ((bitsOf ws).getD (a + i) false) := by
  unfold numAt
  rw [List.take_add_one, numB_append, List.getElem?_drop, List.getD_eq_getElem?_getD, List.getElem?_eq_getElem (by simpa using h)]
  rfl
theorem numAt_lt (ws : List Nat) (a w : Nat) : numAt ws a w < 2 ^ w := by
  unfold numAt
  refine Nat.lt_of_lt_of_le (numB_lt _) (Nat.pow_le_pow_right (by omega) ?_)
  rw [List.length_take]; omega

theorem rnum_ok (ws : List Nat) (a w : Nat) (hs : smallB ws) (hw : w ≤ 64) (hn : ws.length ≤ 4000000) (h : a + w ≤ 8 * ws.length) : Eqn Tryz.prog n_bits_Reader_Num [.p 0 0, .d (.int .i64 w)] [rdO ws a] (.tup [.d (.int .u64 (numAt ws a w)), .d (.int .i64 0)]) [rdO ws (a + w)] := by
  refine Eqn.obj1 r_bits_Reader_Num Plain.ok ⟨rfl, fun _ => rfl⟩ ?_
  have hg := bgood_ok w
  rw [show decide (0 ≤ (w : Int) ∧ (w : Int) ≤ 64) = true by simp; omega] at hg
  have hl := rleft_ok ws a hn (by omega)
  have hnx := fun i (hi : i < w) => rnext_ok ws (a + i) hs hn (by omega)
  obtain ⟨F, hF⟩ : ∃ F, F = a + w := ⟨_, rfl⟩
  rw [← hF]
  simp only [c_bits_Reader_Num, rdO] at hl hnx ⊢
  have hL : ¬ 8 * ws.length - a < w := by omega
  have hB := fun i (hi : i < w) => numAt_succ ws a i (by omega)
  have hlt := fun i => numAt_lt ws a i
  have hz := numAt_zero ws a
  have hbl : ∀ x, b2n ((bitsOf ws).getD x false) ≤ 1 := fun x => b2n_le _
  generalize 8 * ws.length - a = L at *
  generalize BY ws = B at *
  generalize numAt ws a = N at *
  generalize bitsOf ws = bs at *
  have h' : ¬ (L : Int) < w := by omega
  refine G0 ?_; try with_reducible exact tt
  refine CallS.pu (hg) (R0 ?_); try with_reducible exact tt
  refine AW.cond rfl (fun h => ?_) (fun h => ?_)
  · simp at h
  refine G0 ?_; try with_reducible exact tt
  refine CallS.o1 0 (hl) (R1 h' ?_); try with_reducible exact tt
  refine AW.cond rfl (fun h => ?_) (fun h => ?_)
  · simp [h'] at h
  clear h
  refine G0 ?_; try with_reducible exact tt
  refine AW.loopT (α := Nat) 1 (fun i => [(6, .d (.int .u64 (N i : Nat))), (17, .d (.int .i64 (i : Int)))]) (fun i => [(0, ⟨174, [.d B, .d (.int .i64 (a + i : Nat))]⟩)]) (fun i => i ≤ w) (fun i => w - i) 0 ?_ ?_ (Nat.zero_le _) ?_ ?_ ?_
  · simp
  · simp
  · simp [hz]
  · simp
  rintro i hi
  obtain ⟨Q, hQ⟩ : ∃ Q, Q = a + i := ⟨_, rfl⟩
  rw [← hQ]
  simp
  by_cases hiw : i = w
  · subst hiw
    obtain rfl : Q = F := by omega
    refine G0 ?_; try with_reducible exact tt
    refine AW.cond rfl (fun h => ?_) (fun h => ?_)
    · simp at h
    refine G0 ?_; try with_reducible exact tt
  · have hlt1 : i < w := by omega
    have hlt2 : (i : Int) < w := by omega
    have hb := hB i hlt1
    have hx := hnx i hlt1
    rw [← hQ] at hb hx
    have e1 : IntKind.i64.wrap ((i : Int) + 1) = ((i + 1 : Nat) : Int) := by rw [w64 (by omega) (by omega)]; omega
    have hp : (2 : Nat) ^ (i + 1) ≤ 2 ^ 64 := Nat.pow_le_pow_right (by omega) (by omega)
    have hN := hlt (i + 1)
    have hb1 := hbl Q
    generalize b2n (bs.getD Q false) = b at *
    have e2 : IntKind.u64.wrap ((N i : Int) * 2) = ((N i * 2 : Nat) : Int) := by rw [wu64 (by omega) (by omega)]; omega
    have e3 : bits BinOp.or IntKind.u64 ((N i * 2 : Nat) : Int) (b : Int) = (N (i + 1) : Nat) := by
      rw [or_u64 _ _ (by omega) (by omega), or_two _ _ hb1, hb]; omega
    have eQ : Q + 1 = a + (i + 1) := by omega
    rw [eQ] at hx
    generalize N i * 2 = N2 at *
    refine G1 (fs hlt1 hlt2) ?_; try with_reducible exact tt
    refine AW.cond rfl (fun h => ?_) (fun h => ?_)
    · refine G1 e2 ?_; try with_reducible exact tt
      refine CallS.o1 0 (hx) (R1 (fs e1 (fs e2 e3)) ?_); try with_reducible exact tt
      exact ⟨i + 1, by omega, by omega, by simp [e1, e3]; try omega⟩
    · simp [hlt2] at h
end
end Go.Proofs.YtijbgbpjionfjaaGreatDoor.Am
namespace Go.Proofs.YtijbgbpjionfjaaGreatDoor.Am
section
open Go.RowKit
/-- the number of so many coins from a place on -/
def coinsN (cs : List Bool) (p : Nat) : Nat → Nat
  | 0 => 0
  | i + 1 => 2 * coinsN cs p i + (if cs.getD (p + i) false then 1 else 0)
theorem coinsN_lt (cs : List Bool) (p : Nat) : ∀ i, coinsN cs p i < 2 ^ i
  | 0 => by simp [coinsN]
  | i + 1 => by
    have := coinsN_lt cs p i
    rw [coinsN, Nat.pow_succ]
    split <;> omega
/-- what a drawn number comes to -/
structure BR where
  e : Int
  x : Nat
  p : Nat
  d : Bool
def belowF (cs : List Bool) : Nat → Nat → BR
  | 0, _ => ⟨8, 0, cs.length, true⟩
  | f + 1, p => if p + 61 ≤ cs.length then (if coinsN cs p 61 < hP then ⟨0, coinsN cs p 61, p + 61, false⟩ else belowF cs f (p + 61)) else ⟨8, 0, cs.length, true⟩
def belowM (cs : List Bool) (p : Nat) : BR := belowF cs (cs.length + 1) p
theorem belowF_eq (cs : List Bool) : ∀ f g p, cs.length < p + f → cs.length < p + g → belowF cs f p = belowF cs g p
  | 0, 0, p, _, _ => rfl
  | 0, g + 1, p, h, _ => by rw [belowF, belowF, if_neg (by omega)]
  | f + 1, 0, p, _, h => by rw [belowF, belowF, if_neg (by omega)]
  | f + 1, g + 1, p, h, k => by
    rw [belowF, belowF]
    split
    · split
      · rfl
      · exact belowF_eq cs f g (p + 61) (by omega) (by omega)
    · rfl
theorem belowM_end {cs : List Bool} {p : Nat} (h : ¬ p + 61 ≤ cs.length) : belowM cs p = ⟨8, 0, cs.length, true⟩ := by
  unfold belowM; rw [belowF, if_neg h]
theorem belowM_is {cs : List Bool} {p : Nat} (h : p + 61 ≤ cs.length) (hx : coinsN cs p 61 < hP) : belowM cs p = ⟨0, coinsN cs p 61, p + 61, false⟩ := by
  unfold belowM; rw [belowF, if_pos h, if_pos hx]
theorem belowM_on {cs : List Bool} {p : Nat} (h : p + 61 ≤ cs.length) (hx : ¬ coinsN cs p 61 < hP) : belowM cs p = belowM cs (p + 61) := by
  conv => lhs; unfold belowM
  rw [belowF, if_pos h, if_neg hx]
  exact belowF_eq cs _ _ _ (by omega) (by omega)
theorem belowF_good (cs : List Bool) : ∀ f p, p ≤ cs.length → ((belowF cs f p).e = 0 ∧ (belowF cs f p).x < hP ∧ (belowF cs f p).p ≤ cs.length ∧ (belowF cs f p).d = false) ∨ belowF cs f p = ⟨8, 0, cs.length, true⟩
  | 0, p, _ => .inr rfl
  | f + 1, p, h => by
    rw [belowF]
    split
    · split
      · exact .inl ⟨rfl, by assumption, by assumption, rfl⟩
      · exact belowF_good cs f _ (by assumption)
    · exact .inr rfl
theorem belowM_good (cs : List Bool) (p : Nat) (h : p ≤ cs.length) : ((belowM cs p).e = 0 ∧ (belowM cs p).x < hP ∧ (belowM cs p).p ≤ cs.length ∧ (belowM cs p).d = false) ∨ belowM cs p = ⟨8, 0, cs.length, true⟩ := belowF_good cs _ p h
/-- a drawn hash -/
structure HR where
  e : Int
  a : Nat
  b : Nat
  p : Nat
  d : Bool
def drawM (cs : List Bool) (p : Nat) : HR :=
  if (belowM cs p).e = 0 then
    (if (belowM cs (belowM cs p).p).e = 0 then ⟨0, (belowM cs p).x, (belowM cs (belowM cs p).p).x, (belowM cs (belowM cs p).p).p, false⟩ else ⟨8, 0, 0, cs.length, true⟩)
  else ⟨8, 0, 0, cs.length, true⟩
theorem drawM_good (cs : List Bool) (p : Nat) (h : p ≤ cs.length) : ((drawM cs p).e = 0 ∧ (drawM cs p).a < hP ∧ (drawM cs p).b < hP ∧ (drawM cs p).p ≤ cs.length ∧ (drawM cs p).d = false) ∨ drawM cs p = ⟨8, 0, 0, cs.length, true⟩ := by
  unfold drawM
  rcases belowM_good cs p h with ⟨h1, h2, h3, h4⟩ | h1
  · rw [if_pos h1]
    rcases belowM_good cs _ h3 with ⟨g1, g2, g3, g4⟩ | g1
    · rw [if_pos g1]
      exact .inl ⟨rfl, h2, g2, g3, rfl⟩
    · rw [g1, if_neg (by simp)]; exact .inr rfl
  · rw [h1, if_neg (by simp)]; exact .inr rfl
theorem or_one (y : Nat) (h : 2 * y + 1 < 18446744073709551616) : bits BinOp.or IntKind.u64 ((2 * y : Nat) : Int) 1 = ((2 * y + 1 : Nat) : Int) := by
  have := or_u64 (2 * y) 1 (by omega) (by omega)
  rw [show ((1 : Nat) : Int) = 1 by rfl] at this
  rw [this]
  have h2 := Nat.two_pow_add_eq_or_of_lt (i := 1) (b := 1) (by omega) y
  rw [show 2 ^ 1 * y = 2 * y by omega] at h2
  rw [h2]
/-- draws of hashes, row by row -/
structure DR where
  e : Int
  l : List (Nat × Nat)
  p : Nat
  d : Bool
def drawsM (cs : List Bool) (p : Nat) : Nat → DR
  | 0 => ⟨0, [], p, false⟩
  | i + 1 => if (drawsM cs p i).e = 0 then (if (drawM cs (drawsM cs p i).p).e = 0 then ⟨0, (drawsM cs p i).l ++ [((drawM cs (drawsM cs p i).p).a, (drawM cs (drawsM cs p i).p).b)], (drawM cs (drawsM cs p i).p).p, false⟩ else ⟨8, [], cs.length, true⟩) else drawsM cs p i
theorem drawsM_good (cs : List Bool) (p : Nat) (h : p ≤ cs.length) : ∀ i, ((drawsM cs p i).e = 0 ∧ (drawsM cs p i).l.length = i ∧ (∀ x ∈ (drawsM cs p i).l, x.1 < hP ∧ x.2 < hP) ∧ (drawsM cs p i).p ≤ cs.length ∧ (drawsM cs p i).d = false) ∨ drawsM cs p i = ⟨8, [], cs.length, true⟩
  | 0 => .inl ⟨rfl, rfl, by simp [drawsM], h, rfl⟩
  | i + 1 => by
    rw [drawsM]
    rcases drawsM_good cs p h i with ⟨h1, h2, h3, h4, h5⟩ | h1
    · rw [if_pos h1]
      rcases drawM_good cs _ h4 with ⟨g1, g2, g3, g4, g5⟩ | g1
      · rw [if_pos g1]
        refine .inl ⟨rfl, by simp [h2], fun x hx => ?_, g4, rfl⟩
        rcases List.mem_append.1 hx with hx | hx
        · exact h3 x hx
        · rw [List.mem_singleton] at hx; rw [hx]; exact ⟨g2, g3⟩
      · rw [g1, if_neg (by simp)]; exact .inr rfl
    · rw [h1, if_neg (by simp)]; exact .inr rfl
theorem drawsM_stay {cs : List Bool} {p i : Nat} (h : (drawsM cs p i).e ≠ 0) : ∀ j, drawsM cs p (i + j) = drawsM cs p i
  | 0 => rfl
  | j + 1 => by rw [← Nat.add_assoc, drawsM, drawsM_stay h j, if_neg h]
end
end Go.Proofs.YtijbgbpjionfjaaGreatDoor.Am
namespace Go.Proofs.YtijbgbpjionfjaaGreatDoor.Am
section
open Go.RowKit
theorem size_one {x : Nat} (h : x < 18446744073709551616) : size x ≤ 1 := by
  rw [size]
  rcases Nat.eq_zero_or_pos x with rfl | h0
  · simp [words, wordsF]
  · rw [words_one h0 h]; simp

theorem make_ok (a : Nat) : Eqn Tryz.prog n_whole_Make [.d (.bool false), .d (.agg [natW a])] [] (.d (.agg [natW a, .bool false])) [] := by
  refine Eqn.pure r_whole_Make (plain_d _) ?_
  simp only [c_whole_Make]
  refine G0 ?_; try with_reducible exact tt

theorem abs_ok (a : Nat) (s : Bool) : Eqn Tryz.prog n_whole_Whole_Abs [.d (.agg [natW a, .bool s])] [] (.d (.agg [natW a])) [] := by
  refine Eqn.pure r_whole_Whole_Abs (plain_d _) ?_
  simp only [c_whole_Whole_Abs]
  refine G0 ?_; try with_reducible exact tt

theorem neg_ok (a : Nat) (s : Bool) : Eqn Tryz.prog n_whole_Whole_Neg [.d (.agg [natW a, .bool s])] [] (.d (.bool s)) [] := by
  refine Eqn.pure r_whole_Whole_Neg (plain_d _) ?_
  simp only [c_whole_Whole_Neg]
  refine G0 ?_; try with_reducible exact tt

theorem wholeOf_ok (n : Nat) (h : n < 9223372036854775808) : Eqn Tryz.prog n_whole_Of [.d (.int .i64 n)] [] (.d (.agg [natW n, .bool false])) [] := by
  refine Eqn.pure r_whole_Of (plain_d _) ?_
  simp only [c_whole_Of]
  have h0 : ¬ (n : Int) < 0 := by omega
  refine G0 ?_; try with_reducible exact tt
  refine AW.cond rfl (fun h => ?_) (fun h => ?_)
  · simp [h0] at h
  have e : IntKind.u64.wrap (n : Int) = n := wu64 (by omega) (by omega)
  refine G1 e ?_; try with_reducible exact tt
  refine CallS.pf 1 1 ⟨28, _⟩ [.int .u64 n] (of_ok [n] (small_one (by omega)) (by simp)) (by first | rfl | (simp; done)) (R0 ?_); try with_reducible exact tt
  refine CallS.pu (make_ok n) (R0 ?_); try with_reducible exact tt

theorem rden_ok (a d : Nat) (s : Bool) (h : size d ≤ 1000000) : Eqn Tryz.prog n_rat_Rat_Den [.d (.agg [natW a, .bool s, natW d])] [] (.d (.agg [natW (d + 1)])) [] := by
  refine Eqn.pure r_rat_Rat_Den (plain_d _) ?_
  simp only [c_rat_Rat_Den]
  refine G0 ?_; try with_reducible exact tt
  refine CallS.pf 2 1 ⟨28, _⟩ [.int .u64 (1 : Nat)] (of_ok [1] (small_one (by omega)) (by simp)) (by first | rfl | (simp; done)) (R0 ?_); try with_reducible exact tt
  refine CallS.pu (add_ok d 1 h (by have := size_one (x := 1) (by omega); omega)) (R0 ?_); try with_reducible exact tt
end
end Go.Proofs.YtijbgbpjionfjaaGreatDoor.Am
namespace Go.Proofs.YtijbgbpjionfjaaGreatDoor.Am
section
open Go.RowKit
def lit1 : ByteArray := ⟨#[48, 49, 50, 51, 52, 53, 54, 55, 56, 57, 97, 98, 99, 100, 101, 102, 103, 104, 105, 106, 107, 108, 109, 110, 111, 112, 113, 114, 115, 116, 117, 118, 119, 120, 121, 122]⟩
def lit2 : ByteArray := ⟨#[48, 48, 48, 49, 48, 50, 48, 51, 48, 52, 48, 53, 48, 54, 48, 55, 48, 56, 48, 57, 49, 48, 49, 49, 49, 50, 49, 51, 49, 52, 49, 53, 49, 54, 49, 55, 49, 56, 49, 57, 50, 48, 50, 49, 50, 50, 50, 51, 50, 52, 50, 53, 50, 54, 50, 55, 50, 56, 50, 57, 51, 48, 51, 49, 51, 50, 51, 51, 51, 52, 51, 53, 51, 54, 51, 55, 51, 56, 51, 57, 52, 48, 52, 49, 52, 50, 52, 51, 52, 52, 52, 53, 52, 54, 52, 55, 52, 56, 52, 57, 53, 48, 53, 49, 53, 50, 53, 51, 53, 52, 53, 53, 53, 54, 53, 55, 53, 56, 53, 57, 54, 48, 54, 49, 54, 50, 54, 51, 54, 52, 54, 53, 54, 54, 54, 55, 54, 56, 54, 57, 55, 48, 55, 49, 55, 50, 55, 51, 55, 52, 55, 53, 55, 54, 55, 55, 55, 56, 55, 57, 56, 48, 56, 49, 56, 50, 56, 51, 56, 52, 56, 53, 56, 54, 56, 55, 56, 56, 56, 57, 57, 48, 57, 49, 57, 50, 57, 51, 57, 52, 57, 53, 57, 54, 57, 55, 57, 56, 57, 57]⟩
theorem lit1_size : lit1.size = 36 := by kernel_rfl
theorem lit2_size : lit2.size = 200 := by kernel_rfl
/-- the text of a number below 100 -/
def smallS (n : Nat) : ByteArray := if n < 10 then lit1.extract n (n + 1) else lit2.extract (n * 2) (n * 2 + 2)

theorem small_ok (n : Nat) (h : n < 100) : Eqn Tryz.prog n_internal_strconv_small [.d (.int .i64 n)] [] (.d (.str (smallS n))) [] := by
  refine Eqn.pure r_internal_strconv_small (plain_d _) ?_
  simp only [c_internal_strconv_small]
  rw [show (⟨#[48, 49, 50, 51, 52, 53, 54, 55, 56, 57, 97, 98, 99, 100, 101, 102, 103, 104, 105, 106, 107, 108, 109, 110, 111, 112, 113, 114, 115, 116, 117, 118, 119, 120, 121, 122]⟩ : ByteArray) = lit1 from rfl, show (⟨#[48, 48, 48, 49, 48, 50, 48, 51, 48, 52, 48, 53, 48, 54, 48, 55, 48, 56, 48, 57, 49, 48, 49, 49, 49, 50, 49, 51, 49, 52, 49, 53, 49, 54, 49, 55, 49, 56, 49, 57, 50, 48, 50, 49, 50, 50, 50, 51, 50, 52, 50, 53, 50, 54, 50, 55, 50, 56, 50, 57, 51, 48, 51, 49, 51, 50, 51, 51, 51, 52, 51, 53, 51, 54, 51, 55, 51, 56, 51, 57, 52, 48, 52, 49, 52, 50, 52, 51, 52, 52, 52, 53, 52, 54, 52, 55, 52, 56, 52, 57, 53, 48, 53, 49, 53, 50, 53, 51, 53, 52, 53, 53, 53, 54, 53, 55, 53, 56, 53, 57, 54, 48, 54, 49, 54, 50, 54, 51, 54, 52, 54, 53, 54, 54, 54, 55, 54, 56, 54, 57, 55, 48, 55, 49, 55, 50, 55, 51, 55, 52, 55, 53, 55, 54, 55, 55, 55, 56, 55, 57, 56, 48, 56, 49, 56, 50, 56, 51, 56, 52, 56, 53, 56, 54, 56, 55, 56, 56, 56, 57, 57, 48, 57, 49, 57, 50, 57, 51, 57, 52, 57, 53, 57, 54, 57, 55, 57, 56, 57, 57]⟩ : ByteArray) = lit2 from rfl]
  have e1 := lit1_size
  have e2 := lit2_size
  generalize hl1 : lit1 = l1 at *
  generalize hl2 : lit2 = l2 at *
  by_cases hs : n < 10
  · have hs' : (n : Int) < 10 := by omega
    refine G1 hs' ?_; try with_reducible exact tt
    refine AW.cond rfl (fun h => ?_) (fun h => ?_)
    · have ew : IntKind.i64.wrap ((n : Int) + 1) = (n : Int) + 1 := w64 (by omega) (by omega)
      refine G1 (fs ew e1) ?_; try with_reducible exact tt
      refine Sub1.of ?_
      rw [smallS, if_pos hs, hl1]
    · simp [hs] at h
  · have hs' : ¬ (n : Int) < 10 := by omega
    refine G1 hs' ?_; try with_reducible exact tt
    refine AW.cond rfl (fun h => ?_) (fun h => ?_)
    · simp [hs] at h
    · have ew : IntKind.i64.wrap ((n : Int) * 2) = (n : Int) * 2 := w64 (by omega) (by omega)
      have ew2 : IntKind.i64.wrap ((n : Int) * 2 + 2) = (n : Int) * 2 + 2 := w64 (by omega) (by omega)
      refine G1 (fs ew (fs ew2 e2)) ?_; try with_reducible exact tt
      refine Sub1.of ?_
      rw [smallS, if_neg hs, hl2, show ((n : Int) * 2).toNat = n * 2 by omega, show ((n : Int) * 2 + 2).toNat = n * 2 + 2 by omega]

theorem smallS_size (n : Nat) : (smallS n).size ≤ 2 := by
  unfold smallS
  split <;> rw [ByteArray.size_extract] <;> omega
@[simp] theorem size_nil : ByteArray.size ⟨#[]⟩ = 0 := rfl
@[simp] theorem size_47 : ByteArray.size ⟨#[47]⟩ = 1 := rfl
theorem app_nil (s : ByteArray) : s ++ (⟨#[]⟩ : ByteArray) = s := by
  exact ByteArray.append_empty
theorem ifmt_ok (n : Nat) (h : n < 100) : Eqn Tryz.prog n_internal_strconv_FormatUint [.d (.int .u64 n), .d (.int .i64 10)] [] (.d (.str (smallS n))) [] := by
  refine Eqn.pure r_internal_strconv_FormatUint (plain_d _) ?_
  simp only [c_internal_strconv_FormatUint]
  have h1 : (n : Int) < 100 := by omega
  refine G1 h1 ?_; try with_reducible exact tt
  refine AW.cond rfl (fun h => ?_) (fun h => ?_)
  · refine G1 h1 ?_; try with_reducible exact tt
    refine AW.cond rfl (fun h => ?_) (fun h => ?_)
    · have e : IntKind.i64.wrap (n : Int) = n := w64 (by omega) (by omega)
      refine G1 e ?_; try with_reducible exact tt
      refine CallS.pu (small_ok n (by omega)) (R0 ?_); try with_reducible exact tt
    · simp [h1] at h
  · simp at h

theorem fmt_ok (n : Nat) (h : n < 100) : Eqn Tryz.prog n_strconv_FormatUint [.d (.int .u64 n), .d (.int .i64 10)] [] (.d (.str (smallS n))) [] := by
  refine Eqn.pure r_strconv_FormatUint (plain_d _) ?_
  simp only [c_strconv_FormatUint]
  refine G0 ?_; try with_reducible exact tt
  refine CallS.pu (ifmt_ok n h) (R0 ?_); try with_reducible exact tt

theorem text_ok (n : Nat) (h : n < 100) : Eqn Tryz.prog n_nat_Nat_Text [.d (.agg [natW n])] [] (.d (.str (smallS n))) [] := by
  refine Eqn.pure r_nat_Nat_Text (plain_d _) ?_
  simp only [c_nat_Nat_Text]
  refine G0 ?_; try with_reducible exact tt
  refine CallS.pu (zero_ok n) (R0 ?_); try with_reducible exact tt
  rcases Nat.eq_zero_or_pos n with rfl | h0
  · refine AW.cond rfl (fun h => ?_) (fun h => ?_)
    · refine G0 ?_; try with_reducible exact tt
      exact Sub1.of (by kernel_rfl)
    · simp at h
  have e : natW n = .sl 1 [.int .u64 n] := by rw [natW, words_one h0 (by omega)]; rfl
  have hz : ¬ n = 0 := by omega
  refine AW.cond rfl (fun h => ?_) (fun h => ?_)
  · simp [hz] at h
  refine G1 e ?_; try with_reducible exact tt
  refine AW.loopT (α := Nat) 1 (fun i => [(4, .d (if i = 0 then .sl 0 [] else .sl 1 [.int .u64 n])), (3, .d (if i = 0 then .str (smallS n) else .str ⟨#[]⟩))]) (fun i => []) (fun i => i ≤ 1) (fun i => i) 1 ?_ ?_ (Nat.le_refl _) ?_ ?_ ?_
  · simp
  · simp
  · simp
  · simp
  rintro i hi
  simp
  cases i with
  | zero =>
    refine G0 ?_; try with_reducible exact tt
    refine AW.cond rfl (fun h => ?_) (fun h => ?_)
    · simp at h
    refine G0 ?_; try with_reducible exact tt
  | succ i =>
    obtain rfl : i = 0 := by omega
    refine G0 ?_; try with_reducible exact tt
    refine AW.cond rfl (fun h => ?_) (fun h => ?_)
    · refine G0 ?_; try with_reducible exact tt
      have hs := split_one n 1000000000000000000 (by omega) (by omega) (by omega)
      rw [show n / 1000000000000000000 = 0 by omega, show n % 1000000000000000000 = n by omega] at hs
      refine CallS.pu (hs) (R0 ?_); try with_reducible exact tt
      have ht := trimmed_ok [0] (small_one (by omega)) (by simp)
      rw [show wval [0] = 0 by rfl] at ht
      refine CallS.pu (ht) (R0 ?_); try with_reducible exact tt
      refine CallS.pu (fmt_ok n (by omega)) ?_
      (try (simp -implicitDefEqProofs [natW_zero]; try simp (disch := omega) only [w64, wu64]))
      repeat (first | refine AW.seq ?_ | refine AW.block ?_ | (refine AW.reg mix ?_; simp -implicitDefEqProofs [natW_zero]; try simp (disch := omega) only [w64, wu64]) | (refine need.of (by first | omega | kernel_rfl) ?_) | (refine AW.fin ?_; try simp -implicitDefEqProofs [natW_zero]))
      refine AW.cond rfl (fun h => ?_) (fun h => ?_)
      · simp at h
      have s1 := smallS_size n
      have sn := app_nil (smallS n)
      repeat (first | refine AW.seq ?_ | refine AW.block ?_ | (refine AW.reg mix ?_; simp -implicitDefEqProofs [natW_zero, sn]; try simp (disch := omega) only [w64, wu64]) | (refine need.of (by first | omega | kernel_rfl) ?_) | (refine AW.fin ?_; try simp -implicitDefEqProofs [natW_zero, sn]))
      exact ⟨0, by omega, rfl, by simp [sn], by simp⟩
    · simp at h

theorem wtext_ok (n : Nat) (h : n < 100) : Eqn Tryz.prog n_whole_Whole_Text [.d (.agg [natW n, .bool false])] [] (.d (.str (smallS n))) [] := by
  refine Eqn.pure r_whole_Whole_Text (plain_d _) ?_
  simp only [c_whole_Whole_Text]
  refine G0 ?_; try with_reducible exact tt
  refine AW.cond rfl (fun h => ?_) (fun h => ?_)
  · simp at h
  refine G0 ?_; try with_reducible exact tt
  refine CallS.pu (text_ok n (by omega)) (R0 ?_); try with_reducible exact tt
end
end Go.Proofs.YtijbgbpjionfjaaGreatDoor.Am
namespace Go.Proofs.YtijbgbpjionfjaaGreatDoor.Am
section
open Go.RowKit
/-- coins, as data -/
def BL (cs : List Bool) : D := .sl cs.length (cs.map .bool)
/-- a tape: where it is, is it dead, its coins -/
abbrev tapeO (cs : List Bool) (p : Nat) (dead : Bool) : Ob := ⟨t_tape_Tape, [.d (.int .i64 p), .d (.bool dead), .d (BL cs)]⟩

/-- a coin: is there one, which, and what the tape is then -/
def flipB (cs : List Bool) (p : Nat) (dead : Bool) : Bool := if dead ∨ p = cs.length then false else cs.getD p false
def flipE (cs : List Bool) (p : Nat) (dead : Bool) : Int := if dead ∨ p = cs.length then 8 else 0
def flipP (cs : List Bool) (p : Nat) (dead : Bool) : Nat := if dead ∨ p = cs.length then p else p + 1
def flipD (cs : List Bool) (p : Nat) (dead : Bool) : Bool := if dead ∨ p = cs.length then true else dead

theorem cloneB_ok (n : Nat) (l : List D) (hl : l.length = n) (hn : n ≤ 4000000) : Eqn Tryz.prog n_slices_Clone_bool_bool [.d (.sl n l)] [] (.d (.sl n l)) [] := by
  refine Eqn.pure r_slices_Clone_bool_bool (plain_d _) ?_
  simp only [c_slices_Clone_bool_bool]
  rcases Nat.eq_zero_or_pos n with rfl | h0
  · have : l = [] := List.eq_nil_of_length_eq_zero hl
    subst this
    refine AW.empty 0 rfl ?_ ?_
    · simp
      refine G0 ?_; try with_reducible exact tt
      refine AW.cond rfl (fun h => ?_) (fun h => ?_)
      · refine G0 ?_; try with_reducible exact tt
        exact Sub1.nil
      · simp at h
    · simp
      refine G0 ?_; try with_reducible exact tt
      refine AW.cond rfl (fun h => ?_) (fun h => ?_)
      · simp at h
      · refine G0 ?_; try with_reducible exact tt
        exact Sub1.sl0
  · refine G1 h0 ?_; try with_reducible exact tt
    refine AW.cond rfl (fun h => ?_) (fun h => ?_)
    · simp at h
    · refine G0 ?_; try with_reducible exact tt
      have h1 : ¬ n = 0 := by omega
      simp [h1, hl]
      refine need.of (by omega) ?_
      refine AW.freeze 0 1 ⟨4, l.map .d⟩ l (by simp) rfl ?_
      simp
      refine G0 ?_; try with_reducible exact tt
      have : l.take n = l := List.take_of_length_le (by omega)
      simp [this]

theorem flip_ok (cs : List Bool) (p : Nat) (dd : Bool) (hp : p ≤ cs.length) (hn : cs.length ≤ 4000000) : Eqn Tryz.prog n_tape_Tape_Flip [.p 0 0] [tapeO cs p dd] (.tup [.d (.bool (flipB cs p dd)), .d (.int .i64 (flipE cs p dd))]) [tapeO cs (flipP cs p dd) (flipD cs p dd)] := by
  refine Eqn.obj1 r_tape_Tape_Flip (plain_tup2 _ _) ⟨rfl, fun _ => rfl⟩ ?_
  simp only [c_tape_Tape_Flip, tapeO, BL]
  cases dd with
  | true =>
    refine G0 ?_; try with_reducible exact tt
    refine AW.cond rfl (fun h => ?_) (fun h => ?_)
    · refine G0 ?_; try with_reducible exact tt
      simp [flipB, flipE, flipP, flipD]
    · simp at h
  | false =>
    by_cases h : p = cs.length
    · subst h
      refine G0 ?_; try with_reducible exact tt
      refine AW.cond rfl (fun h => ?_) (fun h => ?_)
      · refine G0 ?_; try with_reducible exact tt
        simp [flipB, flipE, flipP, flipD]
      · simp at h
    · have h1 : ¬ (p : Int) = cs.length := by omega
      have h2 : p < cs.length := by omega
      refine G1 (fs h1 h) ?_; try with_reducible exact tt
      refine AW.cond rfl (fun h => ?_) (fun h => ?_)
      · simp [h1] at h
      · have e1 : IntKind.i64.wrap ((p : Int) + 1) = (p : Int) + 1 := w64 (by omega) (by omega)
        have e2 : IntKind.i64.wrap ((p : Int) + 1 - 1) = (p : Int) := by rw [Int.add_sub_cancel]; exact w64 (by omega) (by omega)
        refine G1 (fs h1 (fs h2 (fs e1 e2))) ?_; try with_reducible exact tt
        have h4 : ¬ p = cs.length := by omega
        have h3 : cs[p]?.getD false = cs[p] := by simp [h2]
        simp [flipB, flipE, flipP, flipD, h4, h3]

/-- so many coins that are true -/
def halfR (cs : List Bool) : Nat → Nat → Bool → Bool × Int × Nat × Bool
  | 0, p, dd => (true, 0, p, dd)
  | k + 1, p, dd => if flipB cs p dd then halfR cs k (flipP cs p dd) (flipD cs p dd) else (false, flipE cs p dd, flipP cs p dd, flipD cs p dd)

theorem flipP_le {cs : List Bool} {p : Nat} {dd : Bool} (h : p ≤ cs.length) : flipP cs p dd ≤ cs.length := by
  unfold flipP; split
  · exact h
  · rename_i h'; rw [not_or] at h'; omega

theorem half_ok (cs : List Bool) (p : Nat) (dd : Bool) (k : Int) (hk : k ≤ 4000000) (hp : p ≤ cs.length) (hn : cs.length ≤ 4000000) :
    Eqn Tryz.prog n_flip_Half [.p 0 0, .d (.int .i64 k)] [tapeO cs p dd] (.tup [.d (.bool (halfR cs k.toNat p dd).1), .d (.int .i64 (halfR cs k.toNat p dd).2.1)]) [tapeO cs (halfR cs k.toNat p dd).2.2.1 (halfR cs k.toNat p dd).2.2.2] := by
  refine Eqn.obj1 r_flip_Half (plain_tup2 _ _) ⟨rfl, fun _ => rfl⟩ ?_
  simp only [c_flip_Half]
  obtain ⟨K, hK, hK2⟩ : ∃ K : Nat, K = k.toNat ∧ max 0 k = (K : Int) := ⟨k.toNat, rfl, by omega⟩
  rw [← hK]
  refine G1 hK2 ?_; try with_reducible exact tt
  refine AW.loopT (α := Nat × Nat × Bool) 1 (fun s => [(10, .d (.int .i64 (s.1 : Int)))]) (fun s => [(0, tapeO cs s.2.1 s.2.2)]) (fun s => s.1 ≤ K ∧ s.2.1 ≤ cs.length ∧ halfR cs (K - s.1) s.2.1 s.2.2 = halfR cs K p dd) (fun s => K - s.1) (0, p, dd) ?_ ?_ ⟨Nat.zero_le _, hp, rfl⟩ ?_ ?_ ?_
  · simp
  · simp
  · simp
  · simp
  rintro ⟨i, q, d⟩ ⟨hi, hq, hR⟩
  simp only at hi hq hR
  rw [← hR]
  simp [-Bool.exists_bool]
  by_cases h : i = K
  · subst h
    refine G0 ?_; try with_reducible exact tt
    refine AW.cond rfl (fun h => ?_) (fun h => ?_)
    · simp at h
    refine G0 ?_; try with_reducible exact tt
    simp [halfR]
  · have hlt : (i : Int) < K := by omega
    have hlt' : i < K := by omega
    obtain ⟨r, hr⟩ : ∃ r, K - i = r + 1 := ⟨K - i - 1, by omega⟩
    refine G1B (fs hlt hlt') ?_; try with_reducible exact tt
    refine AW.cond rfl (fun h => ?_) (fun h => ?_)
    · refine G0B ?_; try with_reducible exact tt
      refine CallS.o1 0 (flip_ok cs q d hq hn) (R0B ?_); try with_reducible exact tt
      refine AW.cond rfl (fun h => ?_) (fun h => ?_)
      · have hb : flipB cs q d = false := by simpa using h
        refine G0 ?_; try with_reducible exact tt
        simp [hr, halfR, hb]
      · have hb : flipB cs q d = true := by simpa using h
        have ew : IntKind.i64.wrap ((i : Int) + 1) = (i : Int) + 1 := w64 (by omega) (by omega)
        refine G1B ew ?_; try with_reducible exact tt
        refine ⟨i + 1, flipP cs q d, flipD cs q d, ⟨hlt', flipP_le hq, ?_⟩, by omega, by simp, by simp⟩
        rw [hr, halfR, if_pos hb, show K - (i + 1) = r by omega]
    · simp [hlt'] at h
end
end Go.Proofs.YtijbgbpjionfjaaGreatDoor.Am
namespace Go.Proofs.YtijbgbpjionfjaaGreatDoor.Am
section
/-- how many bits -/
def bitsN (n : Nat) : Nat := if n = 0 then 0 else Nat.log2 n + 1
theorem lt_bitsN (n : Nat) : n < 2 ^ bitsN n := by
  unfold bitsN
  split
  · omega
  · exact Nat.lt_log2_self
theorem bitsN_le {n k : Nat} (h : n < 2 ^ k) : bitsN n ≤ k := by
  unfold bitsN
  split
  · omega
  · rename_i h0
    have := (Nat.log2_lt h0).2 h
    omega
/-- the next block's number -/
def moreY (s t : Nat) : Nat := t + (if t / 2 ^ s * 2 ^ s < t then t / 2 ^ s + 1 else t / 2 ^ s)
def shiftY (s t : Nat) : Nat := bitsN t - 1 - 2 * s
structure Pl where
  x : Nat
  shift : Nat
  value : Nat
  reply : Nat
def nextY (s : Nat) (p : Pl) : Pl := if p.reply ≤ p.value + 2 ^ p.shift then ⟨p.x + 1, shiftY s (moreY s p.reply), p.value + 2 ^ p.shift, moreY s p.reply⟩ else ⟨p.x, p.shift, p.value + 2 ^ p.shift, p.reply⟩
def placeY (s : Nat) : Nat → Pl
  | 0 => ⟨0, 0, 0, 2 ^ (2 * s)⟩
  | k + 1 => nextY s (placeY s k)

theorem bitsN_div {n k : Nat} (h : 2 ^ k ≤ n) : bitsN n = k + bitsN (n / 2 ^ k) := by
  have hp := Nat.two_pow_pos k
  have hq : 0 < n / 2 ^ k := Nat.div_pos h hp
  have h1 := lt_bitsN (n / 2 ^ k)
  have h2 : 2 ^ (bitsN (n / 2 ^ k) - 1) ≤ n / 2 ^ k := by
    unfold bitsN
    rw [if_neg (by omega), Nat.add_sub_cancel]
    exact Nat.log2_self_le (by omega)
  have h3 : 0 < bitsN (n / 2 ^ k) := by unfold bitsN; rw [if_neg (by omega)]; omega
  apply Nat.le_antisymm
  · apply bitsN_le
    rw [Nat.pow_add, Nat.mul_comm]
    exact (Nat.div_lt_iff_lt_mul hp).1 h1
  · apply Nat.le_of_not_lt
    intro hlt
    have h4 := lt_bitsN n
    have h5 : 2 ^ bitsN n ≤ 2 ^ (k + (bitsN (n / 2 ^ k) - 1)) := Nat.pow_le_pow_right (by omega) (by omega)
    rw [Nat.pow_add] at h5
    have h6 : 2 ^ k * 2 ^ (bitsN (n / 2 ^ k) - 1) ≤ n := by
      rw [Nat.mul_comm]; exact Nat.le_trans (Nat.mul_le_mul_right _ h2) (Nat.div_mul_le_self _ _)
    omega
theorem bitsN_pos {n : Nat} (h : 0 < n) : 2 ^ (bitsN n - 1) ≤ n ∧ 0 < bitsN n := by
  unfold bitsN
  rw [if_neg (by omega), Nat.add_sub_cancel]
  exact ⟨Nat.log2_self_le (by omega), by omega⟩

theorem moreY_le {s t : Nat} (hs : 1 ≤ s) (ht : 2 ≤ t) : moreY s t ≤ 2 * t := by
  unfold moreY
  have h2 : 2 ≤ 2 ^ s := by
    calc 2 = 2 ^ 1 := by decide
      _ ≤ 2 ^ s := Nat.pow_le_pow_right (by decide) hs
  have h1 : t / 2 ^ s ≤ t / 2 := Nat.div_le_div_left h2 (by decide)
  split <;> omega

theorem placeY_le {s : Nat} (hs : 1 ≤ s) : ∀ k, 4 ≤ (placeY s k).reply ∧ (placeY s k).reply ≤ 2 ^ (2 * s + k) ∧ (placeY s k).shift ≤ 2 * s + k ∧ (placeY s k).value ≤ k * 2 ^ (2 * s + k) ∧ (placeY s k).x ≤ k := by
  intro k
  induction k with
  | zero =>
    simp only [placeY]
    have : 2 ^ 2 ≤ 2 ^ (2 * s) := Nat.pow_le_pow_right (by decide) (by omega)
    rw [Nat.add_zero]
    omega
  | succ k ih =>
    obtain ⟨h1, h2, h3, h4, h5⟩ := ih
    have hp : 2 ^ (2 * s + (k + 1)) = 2 * 2 ^ (2 * s + k) := by rw [show 2 * s + (k + 1) = 2 * s + k + 1 by omega, Nat.pow_succ]; omega
    have hm := moreY_le hs (show 2 ≤ (placeY s k).reply by omega)
    have hm4 : (placeY s k).reply ≤ moreY s (placeY s k).reply := by unfold moreY; omega
    have hsh : 2 ^ (placeY s k).shift ≤ 2 ^ (2 * s + k) := Nat.pow_le_pow_right (by decide) h3
    have hv : (placeY s k).value + 2 ^ (placeY s k).shift ≤ (k + 1) * 2 ^ (2 * s + (k + 1)) := by
      rw [hp, Nat.add_mul, Nat.one_mul, Nat.mul_left_comm]
      generalize 2 ^ (2 * s + k) = P at *
      generalize k * P = Q at *
      omega
    have hb : bitsN (moreY s (placeY s k).reply) ≤ 2 * s + (k + 1) + 1 := bitsN_le (by
      rw [Nat.pow_succ, hp]
      have : 0 < 2 ^ (2 * s + k) := Nat.pow_pos (by decide)
      omega)
    simp only [placeY, nextY]
    split
    · refine ⟨by simp only; omega, by simp only; omega, ?_, hv, by simp only; omega⟩
      simp only [shiftY]
      omega
    · refine ⟨by simp only; omega, by simp only; omega, by simp only; omega, hv, by simp only; omega⟩
end
end Go.Proofs.YtijbgbpjionfjaaGreatDoor.Am
namespace Go.Proofs.YtijbgbpjionfjaaGreatDoor.Am
section
set_option maxRecDepth 10000
/-- the half digit that is guessed is right: where the search ends -/
theorem half_end {y1 y0 u u1 q r : Nat} (e : q * y1 + r = u) (hle : q * y0 ≤ r * 4294967296 + u1) (hgt : u * 4294967296 + u1 < (q + 1) * (y1 * 4294967296 + y0)) :
    (u * 4294967296 + u1) / (y1 * 4294967296 + y0) = q := by
  have h1 : q * (y1 * 4294967296 + y0) ≤ u * 4294967296 + u1 := by
    rw [Nat.mul_add, ← Nat.mul_assoc, ← e, Nat.add_mul]
    omega
  have hpos : 0 < y1 * 4294967296 + y0 := by
    rcases Nat.eq_zero_or_pos (y1 * 4294967296 + y0) with h | h
    · rw [h] at hgt; omega
    · exact h
  exact Nat.div_eq_of_lt_le h1 hgt
theorem lin (a r u u1 b z : Nat) (e : a + r = u) (hc : r * b + u1 < z) : u * b + u1 < a * b + z := by
  subst e; rw [Nat.add_mul]; omega
/-- and where it goes on -/
theorem half_next {y1 y0 u u1 q r : Nat} (e : q * y1 + r = u) (hu : u < y1 * 4294967296 + y0) (hu1 : u1 < 4294967296) (hc : 4294967296 ≤ q ∨ r * 4294967296 + u1 < q * y0) :
    0 < q ∧ (q - 1) * y1 + (r + y1) = u ∧ u * 4294967296 + u1 < (q - 1 + 1) * (y1 * 4294967296 + y0) := by
  have hq : 0 < q := by
    rcases Nat.eq_zero_or_pos q with h | h
    · subst h; omega
    · exact h
  have e1 : (q - 1) * y1 + y1 = q * y1 := by
    obtain ⟨k, rfl⟩ : ∃ k, q = k + 1 := ⟨q - 1, by omega⟩
    rw [Nat.add_sub_cancel, Nat.add_mul, Nat.one_mul]
  have e2 : q - 1 + 1 = q := by omega
  rw [e2]
  refine ⟨hq, by omega, ?_⟩
  rcases hc with hc | hc
  · have h1 : (y1 * 4294967296 + y0) * 4294967296 ≤ (y1 * 4294967296 + y0) * q := Nat.mul_le_mul_left _ hc
    rw [Nat.mul_comm q]
    obtain ⟨p, hp⟩ : ∃ p, p = (y1 * 4294967296 + y0) * q := ⟨_, rfl⟩
    rw [← hp] at h1 ⊢
    clear hp e1
    omega
  · rw [Nat.mul_add, ← Nat.mul_assoc]
    obtain ⟨a, ha⟩ : ∃ a, a = q * y1 := ⟨_, rfl⟩
    rw [← ha] at e ⊢
    exact lin a r u u1 _ _ e hc
/-- no half digit is wrong where the rest is great -/
theorem half_break {y1 y0 u q r : Nat} (e : q * y1 + r = u) (hu : u < y1 * 4294967296 + y0) (hy0 : y0 < 4294967296) (hr : 4294967296 ≤ r) (u1 : Nat) : q * y0 ≤ r * 4294967296 + u1 := by
  have hq : q < 4294967296 := by
    apply Nat.lt_of_not_le
    intro h
    have : 4294967296 * y1 ≤ q * y1 := Nat.mul_le_mul_right y1 h
    omega
  have : q * y0 ≤ 4294967295 * 4294967295 := Nat.mul_le_mul (by omega) (by omega)
  omega
/-- the guess isn't too little -/
theorem half_first {y1 y0 u u1 : Nat} (h1 : 0 < y1) (hu1 : u1 < 4294967296) : u * 4294967296 + u1 < (u / y1 + 1) * (y1 * 4294967296 + y0) := by
  have h := Nat.lt_mul_div_succ u h1
  rw [Nat.mul_comm] at h
  have h2 : (u / y1 + 1) * (y1 * 4294967296) ≤ (u / y1 + 1) * (y1 * 4294967296 + y0) := Nat.mul_le_mul_left _ (by omega)
  rw [← Nat.mul_assoc] at h2
  generalize (u / y1 + 1) * y1 = a at *
  omega

/-- both halves: the quotient, the rest -/
theorem halves' {y a b v0 q1 q0 : Nat} (hy : 0 < y) (h1 : a / y = q1) (h0 : ((a - q1 * y) * b + v0) / y = q0) :
    (a * b + v0) / y = q1 * b + q0 ∧ (a * b + v0) % y = (a - q1 * y) * b + v0 - q0 * y := by
  have a1 := Nat.div_add_mod a y
  have b1 := Nat.mod_lt a hy
  rw [h1, Nat.mul_comm] at a1
  obtain ⟨r1, hr1⟩ : ∃ r, r = a % y := ⟨_, rfl⟩
  rw [← hr1] at a1 b1
  have e1 : a - q1 * y = r1 := by omega
  rw [e1] at h0 ⊢
  have a0 := Nat.div_add_mod (r1 * b + v0) y
  have b0 := Nat.mod_lt (r1 * b + v0) hy
  rw [h0, Nat.mul_comm] at a0
  obtain ⟨r0, hr0⟩ : ∃ r, r = (r1 * b + v0) % y := ⟨_, rfl⟩
  rw [← hr0] at a0 b0
  have e0 : r1 * b + v0 - q0 * y = r0 := by omega
  rw [e0]
  have hN : a * b + v0 = (q1 * b + q0) * y + r0 := by
    have hp : q1 * b * y = q1 * y * b := Nat.mul_right_comm _ _ _
    rw [Nat.add_mul, hp, ← a1, Nat.add_mul]
    omega
  rw [hN]
  exact ⟨by rw [Nat.mul_comm, Nat.mul_add_div hy, Nat.div_eq_of_lt b0, Nat.add_zero], by rw [Nat.mul_comm, Nat.mul_add_mod]; exact Nat.mod_eq_of_lt b0⟩

/-- shifted, it is the same -/
theorem shifted_div {n y s : Nat} : n * 2 ^ s / (y * 2 ^ s) = n / y ∧ n * 2 ^ s % (y * 2 ^ s) / 2 ^ s = n % y := by
  have hp := Nat.two_pow_pos s
  refine ⟨Nat.mul_div_mul_right _ _ hp, ?_⟩
  rw [Nat.mul_mod_mul_right, Nat.mul_div_cancel _ hp]

/-- the guess by the first words isn't too little -/
theorem digit_guess {U D B P u1 d1 : Nat} (hB : 0 < B) (hP : 0 < P) (hU : U / P = u1) (hD : d1 * P ≤ D) (hd : 0 < d1) : U / D ≤ u1 / d1 := by
  rw [Nat.le_div_iff_mul_le hd]
  have hD0 : 0 < D := Nat.lt_of_lt_of_le (Nat.mul_pos hd hP) hD
  have h1 : U / D * D ≤ U := Nat.div_mul_le_self U D
  rw [← hU, Nat.le_div_iff_mul_le hP]
  calc U / D * d1 * P = U / D * (d1 * P) := Nat.mul_assoc _ _ _
    _ ≤ U / D * D := Nat.mul_le_mul_left _ hD
    _ ≤ U := h1

/-- one too many: taken back, the digit is right, or still too much -/
theorem digit_next {U D g w P M : Nat} (hM : M = 18446744073709551616 * P) (hD : D < P) (hD0 : 0 < D) (hg : g ≤ 18446744073709551615) (hw : w < M) (e : w + g * D = U + M) :
    0 < g ∧ (M ≤ w + D → w + D - M + (g - 1) * D = U ∧ w + D - M < D ∧ U / D = g - 1 ∧ U % D = w + D - M) ∧ (w + D < M → w + D + (g - 1) * D = U + M ∧ P ≤ w + D) := by
  have hg0 : 0 < g := by
    rcases Nat.eq_zero_or_pos g with h | h
    · subst h; omega
    · exact h
  have e1 : (g - 1) * D + D = g * D := by
    obtain ⟨k, rfl⟩ : ∃ k, g = k + 1 := ⟨g - 1, by omega⟩
    rw [Nat.add_sub_cancel, Nat.add_mul, Nat.one_mul]
  have e2 : (g - 1) * D ≤ 18446744073709551614 * P := Nat.mul_le_mul (by omega) (by omega)
  obtain ⟨x, hx⟩ : ∃ x, x = (g - 1) * D := ⟨_, rfl⟩
  obtain ⟨y, hy⟩ : ∃ y, y = g * D := ⟨_, rfl⟩
  refine ⟨hg0, fun h => ?_, fun h => ?_⟩
  · have h1 : w + D - M + (g - 1) * D = U := by rw [← hx] at e1 ⊢; rw [← hy] at e e1; clear hx hy e2; omega
    have h2 : w + D - M < D := by omega
    refine ⟨h1, h2, ?_, ?_⟩
    · rw [← h1, Nat.add_mul_div_right _ _ hD0, Nat.div_eq_of_lt h2, Nat.zero_add]
    · rw [← h1, Nat.add_mul_mod_self_right]; exact Nat.mod_eq_of_lt h2
  · rw [← hx] at e1 e2 ⊢; rw [← hy] at e e1
    clear hx hy
    subst hM
    constructor
    · omega
    · omega
/-- not too much: it is right -/
theorem digit_done {U D g w : Nat} (hD0 : 0 < D) (hg : U / D ≤ g) (e : w + g * D = U) : U / D = g ∧ U % D = w := by
  have h : g ≤ U / D := by rw [Nat.le_div_iff_mul_le hD0]; omega
  have hq : U / D = g := Nat.le_antisymm hg h
  have := Nat.div_add_mod U D
  rw [hq, Nat.mul_comm] at this
  exact ⟨hq, by omega⟩

/-- words moved down by less than a word -/
def shrL (k : Nat) : List Nat → List Nat
  | [] => []
  | x :: l => (x / 2 ^ k + l.getD 0 0 * 2 ^ (64 - k) % 18446744073709551616) :: shrL k l
theorem shrL_len (k : Nat) : ∀ l, (shrL k l).length = l.length
  | [] => rfl
  | x :: l => by simp [shrL, shrL_len k l]
theorem wval_head : ∀ l : List Nat, small l → wval l % 18446744073709551616 = l.getD 0 0
  | [], _ => rfl
  | x :: l, h => by
    have := h x (by simp)
    simp only [wval, List.getD_cons_zero]
    omega
theorem shrL_val {k : Nat} (hk : k < 64) : ∀ l : List Nat, small l → wval (shrL k l) = wval l / 2 ^ k ∧ small (shrL k l)
  | [], _ => ⟨by simp [shrL, wval], by simp [shrL, small]⟩
  | x :: l, h => by
    have hl : small l := fun y hy => h y (by simp [hy])
    obtain ⟨h1, h2⟩ := shrL_val hk l hl
    have hx := h x (by simp)
    have hhd := wval_head l hl
    have hB : (18446744073709551616 : Nat) = 2 ^ k * 2 ^ (64 - k) := by rw [← Nat.pow_add, show k + (64 - k) = 64 by omega]
    have hp := Nat.two_pow_pos k
    have hp' := Nat.two_pow_pos (64 - k)
    -- the part that comes from above
    have h3 : l.getD 0 0 * 2 ^ (64 - k) % 18446744073709551616 = wval l % 2 ^ k * 2 ^ (64 - k) := by
      rw [hB, Nat.mul_mod_mul_right, ← hhd]
      congr 1
      rw [hB, Nat.mod_mul_right_mod]
    have h4 : wval (x :: l) / 2 ^ k = x / 2 ^ k + 2 ^ (64 - k) * wval l := by
      rw [wval]
      conv => lhs; rw [hB]
      rw [Nat.mul_assoc, Nat.add_mul_div_left _ _ hp]
    have h5 : 2 ^ (64 - k) * wval l = 18446744073709551616 * (wval l / 2 ^ k) + wval l % 2 ^ k * 2 ^ (64 - k) := by
      conv => lhs; rw [← Nat.div_add_mod (wval l) (2 ^ k)]
      rw [Nat.mul_add, ← Nat.mul_assoc, Nat.mul_comm (2 ^ (64 - k)) (2 ^ k), ← hB, Nat.mul_comm (2 ^ (64 - k))]
    have h6 : x / 2 ^ k < 2 ^ (64 - k) := by
      rw [Nat.div_lt_iff_lt_mul hp, Nat.mul_comm, ← hB]; exact hx
    have h7 : wval l % 2 ^ k * 2 ^ (64 - k) + 2 ^ (64 - k) ≤ 18446744073709551616 := by
      have := Nat.mul_le_mul_right (2 ^ (64 - k)) (Nat.succ_le_of_lt (Nat.mod_lt (wval l) hp))
      rw [Nat.succ_mul, ← hB] at this
      exact this
    refine ⟨?_, ?_⟩
    · rw [h4, h5, shrL, wval, h1, h3]
      omega
    · intro y hy
      rw [shrL, List.mem_cons] at hy
      rcases hy with rfl | hy
      · rw [h3]; omega
      · exact h2 y hy
theorem wval_drop : ∀ (q : Nat) (l : List Nat), small l → wval (l.drop q) = wval l / 18446744073709551616 ^ q
  | 0, l, _ => by simp
  | q + 1, [], _ => by simp [wval]
  | q + 1, x :: l, h => by
    have hx := h x (by simp)
    rw [List.drop_succ_cons, wval_drop q l (fun y hy => h y (by simp [hy])), wval, Nat.pow_succ, Nat.mul_comm (18446744073709551616 ^ q), ← Nat.div_div_eq_div_mul]
    congr 1
    omega
end
end Go.Proofs.YtijbgbpjionfjaaGreatDoor.Am
