/- Parts of the proof: CodeD1, WordsM, Nat1, Nat2, Nat3, Nat4, Nat5, Nat6, Rat1, Text1, Tape1, Float1, Flip1, Flip2, Morris1, Chain1, YuM, DivM, Nat7, Yu1, YuX. -/
import Derived.Test.YtijbgbpjionfjaaGreatDoorPc
set_option linter.unusedVariables false
set_option linter.unusedSimpArgs false
set_option maxRecDepth 100000
namespace Go.Proofs.YtijbgbpjionfjaaGreatDoor.Am
section
open Go.Proofs.YtijbgbpjionfjaaGreatDoor.Am
/-- tallymark/morris.power -/
abbrev n_morris_power : FuncId := 215
def c_morris_power : C := (.seq (.reg false [⟨some 6,.mv (.d (.bool false)),none,[]⟩,⟨some 7,.mv (.d (.int .i64 0)),none,[0]⟩]) (.seq (.reg false [⟨some 8,.mv (.t 0),none,[]⟩,⟨some 9,.mv (.t 1),none,[]⟩,⟨some 10,.conv .u64 (.t 9),none,[1]⟩,⟨some
  11,.bsl 28 1 1 [(.int .u64 0)] [(0,1,(.t 10))],none,[2]⟩,⟨some 12,.call 108 [(.t 11)],none,[3]⟩,⟨some 13,.mv (.t 1),none,[]⟩,⟨some 14,.bin .add (.t 13) (.d (.int .i64 1)),none,[5]⟩,⟨some 15,.conv .u64 (.t
  14),none,[6]⟩,⟨some 16,.bsl 28 1 1 [(.int .u64 0)] [(0,1,(.t 15))],none,[7]⟩,⟨some 17,.call 108 [(.t 16)],none,[8,4]⟩,⟨some 18,.mv (.t 2),none,[]⟩,⟨some 19,.call 220 [(.t 8),(.t 12),(.t 17),(.t
  18)],none,[0,4,9,10,9]⟩,⟨some 20,.ext (.t 19) 0,none,[11]⟩,⟨some 21,.ext (.t 19) 1,none,[11]⟩,⟨some 6,.mv (.t 20),none,[12,11,0,1,2,3,4,5,6,7,8,9,10,11,12,13]⟩,⟨some 7,.mv (.t
  21),none,[13,14,0,1,2,3,4,5,6,7,8,9,10,11,12,13,14]⟩]) .ret))
theorem r_morris_power : fnOf Tryz.prog n_morris_power = some (c_morris_power, [.t 6, .t 7], 22, false) := by kernel_rfl

/-- tallymark/rat.Make -/
abbrev n_rat_Make : FuncId := 216
def c_rat_Make : C := (.seq (.reg false [⟨some 4,.new 51 [.nilsl,(.bool false),.nilsl],none,[]⟩,⟨some 5,.mv (.d (.int .i64 0)),none,[]⟩]) (.seq (.reg false [⟨some 6,.mv (.t 0),none,[]⟩,⟨some 7,.call 57 [(.t 6)],none,[0]⟩,⟨some 8,.mv (.t
  1),none,[]⟩,⟨some 9,.call 57 [(.t 8)],none,[2,1]⟩,⟨some 10,.call 221 [(.t 7),(.t 9)],none,[1,3,3]⟩,⟨some 11,.ext (.t 10) 0,none,[4]⟩,⟨some 12,.ext (.t 10) 1,none,[4]⟩,⟨none,.store 3 (.t 4) (.t
  11),none,[5,4,0,1,2,3,4,5,6]⟩,⟨some 5,.mv (.t 12),none,[6,7,0,1,2,3,4,5,6,7]⟩]) .ret))
theorem r_rat_Make : fnOf Tryz.prog n_rat_Make = some (c_rat_Make, [.cell 4 true 3, .t 5], 13, false) := by kernel_rfl

/-- tallymark/rat.Pow -/
abbrev n_rat_Pow : FuncId := 217
def c_rat_Pow : C := (.seq (.reg false [⟨some 2,.box 51 (.t 0),none,[]⟩,⟨some 4,.new 51 [.nilsl,(.bool false),.nilsl],none,[]⟩,⟨some 5,.mv (.d (.int .i64 0)),none,[]⟩]) (.seq (.reg false [⟨some 10,.fa 0 (.t 2),none,[]⟩,⟨some 11,.load true 2
  (.t 10),none,[0]⟩,⟨some 12,.call 223 [(.t 11)],none,[1]⟩,⟨some 13,.mv (.t 1),none,[]⟩,⟨some 14,.call 222 [(.t 12),(.t 13)],none,[2,3,2]⟩,⟨some 9,.mv (.t 14),none,[4]⟩,⟨some 15,.ext (.t 9) 0,none,[5]⟩,⟨some 16,.ext (.t
  9) 1,none,[5]⟩,⟨some 6,.new 47 [.nilsl],none,[]⟩,⟨none,.store 1 (.t 6) (.t 15),none,[8,6,4,0,1,2,3,4,5,6,8]⟩,⟨some 7,.mv (.t 16),none,[7,9,0,1,2,3,4,5,6,7,8,9]⟩]) (.seq (.seq (.reg false [⟨some 17,.mv (.t
  7),none,[]⟩,⟨some 18,.bin .neq (.t 17) (.d (.int .i64 0)),none,[0]⟩]) (.cond (.t 18) (.seq (.reg false [⟨some 19,.build [.nilsl,(.bool false),.nilsl] [],none,[]⟩,⟨some 20,.mv (.t 7),none,[]⟩,⟨none,.store 3 (.t 4) (.t
  19),none,[0,0]⟩,⟨some 5,.mv (.t 20),none,[1,2,0,1,2]⟩]) .ret) .skip)) (.seq (.reg false [⟨some 22,.load true 3 (.t 2),none,[]⟩,⟨some 23,.call 60 [(.t 22)],none,[0]⟩,⟨some 24,.mv (.t 1),none,[]⟩,⟨some 25,.call 222 [(.t
  23),(.t 24)],none,[1,2,1]⟩,⟨some 21,.mv (.t 25),none,[3]⟩,⟨some 26,.ext (.t 21) 0,none,[4]⟩,⟨some 27,.ext (.t 21) 1,none,[4]⟩,⟨some 8,.new 47 [.nilsl],none,[]⟩,⟨none,.store 1 (.t 8) (.t
  26),none,[7,5,3,0,1,2,3,4,5,7]⟩,⟨some 7,.mv (.t 27),none,[6,8,0,1,2,3,4,5,6,7,8]⟩]) (.seq (.seq (.reg false [⟨some 28,.mv (.t 7),none,[]⟩,⟨some 29,.bin .neq (.t 28) (.d (.int .i64 0)),none,[0]⟩]) (.cond (.t 29) (.seq
  (.reg false [⟨some 30,.build [.nilsl,(.bool false),.nilsl] [],none,[]⟩,⟨some 31,.mv (.t 7),none,[]⟩,⟨none,.store 3 (.t 4) (.t 30),none,[0,0]⟩,⟨some 5,.mv (.t 31),none,[1,2,0,1,2]⟩]) .ret) .skip)) (.seq (.reg true [⟨some
  32,.fa 0 (.t 2),none,[]⟩,⟨some 33,.load true 2 (.t 32),none,[0]⟩,⟨some 34,.call 202 [(.t 33)],none,[1]⟩,⟨some 35,.mv (.t 34),none,[2,2]⟩,⟨some 36,.mv (.t 1),some (35,true),[3]⟩,⟨some 37,.bin .and (.t 36) (.d (.int .i64
  1)),some (35,true),[4,3]⟩,⟨some 38,.bin .eql (.t 37) (.d (.int .i64 1)),some (35,true),[5,3]⟩,⟨some 39,.pick (.t 35) (.t 38) (.d (.bool false)),none,[3,6]⟩,⟨some 40,.load true 1 (.t 6),none,[]⟩,⟨some 41,.call 106 [(.t
  39),(.t 40)],none,[7,8,3]⟩,⟨some 42,.load true 1 (.t 8),none,[]⟩,⟨some 43,.call 224 [(.t 41),(.t 42)],none,[9,10,9]⟩,⟨none,.store 3 (.t 4) (.t 43),none,[11,11,0,1,2,3,4,5,6,7,8,9,10,11]⟩,⟨some 5,.mv (.d (.int .i64
  0)),none,[12,0,1,2,3,4,5,6,7,8,9,10,11,12]⟩]) .ret))))))
theorem r_rat_Pow : fnOf Tryz.prog n_rat_Pow = some (c_rat_Pow, [.cell 4 true 3, .t 5], 44, false) := by kernel_rfl

/-- tallymark/rat.Mul -/
abbrev n_rat_Mul : FuncId := 218
def c_rat_Mul : C := (.seq (.reg false [⟨some 2,.box 51 (.t 0),none,[]⟩,⟨some 3,.box 51 (.t 1),none,[]⟩,⟨some 4,.new 51 [.nilsl,(.bool false),.nilsl],none,[]⟩]) (.seq (.reg true [⟨some 5,.fa 0 (.t 2),none,[]⟩,⟨some 6,.load true 2 (.t
  5),none,[0]⟩,⟨some 7,.fa 0 (.t 3),none,[]⟩,⟨some 8,.load true 2 (.t 7),none,[2]⟩,⟨some 9,.call 55 [(.t 6),(.t 8)],none,[1,3]⟩,⟨some 10,.load true 3 (.t 2),none,[]⟩,⟨some 11,.call 60 [(.t 10)],none,[5,4]⟩,⟨some 12,.load
  true 3 (.t 3),none,[]⟩,⟨some 13,.call 60 [(.t 12)],none,[7,6]⟩,⟨some 14,.call 107 [(.t 11),(.t 13)],none,[6,8,8]⟩,⟨some 15,.call 224 [(.t 9),(.t 14)],none,[4,9,9]⟩,⟨none,.store 3 (.t 4) (.t
  15),none,[10,10,0,1,2,3,4,5,6,7,8,9,10]⟩]) .ret))
theorem r_rat_Mul : fnOf Tryz.prog n_rat_Mul = some (c_rat_Mul, [.cell 4 true 3], 16, false) := by kernel_rfl

/-- tallymark/rat.Sub -/
abbrev n_rat_Sub : FuncId := 219
def c_rat_Sub : C := (.seq (.reg false [⟨some 2,.box 51 (.t 0),none,[]⟩,⟨some 3,.box 51 (.t 1),none,[]⟩,⟨some 4,.new 51 [.nilsl,(.bool false),.nilsl],none,[]⟩]) (.seq (.reg true [⟨some 5,.load true 3 (.t 2),none,[]⟩,⟨some 6,.fa 0 (.t
  3),none,[]⟩,⟨some 7,.load true 2 (.t 6),none,[1]⟩,⟨some 8,.call 226 [(.t 7)],none,[2]⟩,⟨some 9,.fa 2 (.t 3),none,[]⟩,⟨some 10,.load true 1 (.t 9),none,[4]⟩,⟨some 11,.build [.nilsl,(.bool false),.nilsl] [(0,2,(.t
  8)),(2,1,(.t 10))],none,[3,5]⟩,⟨some 12,.call 225 [(.t 5),(.t 11)],none,[0,6,3]⟩,⟨none,.store 3 (.t 4) (.t 12),none,[7,7,0,1,2,3,4,5,6,7]⟩]) .ret))
theorem r_rat_Sub : fnOf Tryz.prog n_rat_Sub = some (c_rat_Sub, [.cell 4 true 3], 13, false) := by kernel_rfl

/-- tallymark/flip.Power -/
abbrev n_flip_Power : FuncId := 220
def c_flip_Power : C := (.seq (.reg false [⟨some 5,.box 47 (.t 1),none,[]⟩,⟨some 6,.box 47 (.t 2),none,[]⟩,⟨some 8,.mv (.d (.bool false)),none,[]⟩,⟨some 9,.mv (.d (.int .i64 0)),none,[2]⟩]) (.seq (.seq (.reg false [⟨some 12,.load true 1 (.t
  5),none,[]⟩,⟨some 13,.load true 1 (.t 6),none,[]⟩,⟨some 14,.call 227 [(.t 12),(.t 13)],none,[0,1]⟩,⟨some 15,.un .not (.t 14),none,[2]⟩]) (.cond (.t 15) (.seq (.reg false [⟨some 8,.mv (.d (.bool false)),none,[]⟩,⟨some
  9,.mv (.d (.int .i64 2)),none,[0,0]⟩]) .ret) .skip)) (.seq (.seq (.reg false [⟨some 16,.mv (.t 3),none,[]⟩,⟨some 17,.mm true [(.d (.int .i64 0)),(.t 16)],none,[0]⟩,⟨some 18,.mv (.d (.int .i64 0)),none,[]⟩]) (.block 0
  (.loop (.seq (.reg false [⟨some 19,.bin .lss (.t 18) (.t 17),none,[]⟩]) (.seq (.cond (.t 19) .skip (.exit 0)) (.seq (.block 1 (.seq (.reg false [⟨some 21,.mv (.t 0),none,[]⟩,⟨some 22,.load true 1 (.t 5),none,[]⟩,⟨some
  23,.load true 1 (.t 6),none,[]⟩,⟨some 24,.call 228 [(.t 21),(.t 22),(.t 23)],none,[0,1,2]⟩,⟨some 20,.mv (.t 24),none,[3]⟩,⟨some 25,.ext (.t 20) 0,none,[4]⟩,⟨some 26,.ext (.t 20) 1,none,[4]⟩,⟨some 10,.mv (.t
  25),none,[5,3,0,1,2,3,4,5]⟩,⟨some 11,.mv (.t 26),none,[6,7,0,1,2,3,4,5,6,7]⟩]) (.seq (.reg false [⟨some 27,.mv (.t 10),none,[]⟩,⟨some 28,.un .not (.t 27),none,[0]⟩]) (.cond (.t 28) (.seq (.reg false [⟨some 29,.mv (.t
  11),none,[]⟩,⟨some 8,.mv (.d (.bool false)),none,[]⟩,⟨some 9,.mv (.t 29),none,[0,1,0,1]⟩]) .ret) .skip)))) (.reg false [⟨some 30,.bin .add (.t 18) (.d (.int .i64 1)),none,[]⟩,⟨some 18,.mv (.t 30),none,[0]⟩]))))))) (.seq
  (.reg false [⟨some 8,.mv (.d (.bool true)),none,[]⟩,⟨some 9,.mv (.d (.int .i64 0)),none,[0,0]⟩]) .ret))))
theorem r_flip_Power : fnOf Tryz.prog n_flip_Power = some (c_flip_Power, [.t 8, .t 9], 31, false) := by kernel_rfl

/-- tallymark/rat.Frac -/
abbrev n_rat_Frac : FuncId := 221
def c_rat_Frac : C := (.seq (.reg false [⟨some 2,.box 49 (.t 0),none,[]⟩,⟨some 3,.box 49 (.t 1),none,[]⟩,⟨some 4,.new 51 [.nilsl,(.bool false),.nilsl],none,[]⟩,⟨some 5,.mv (.d (.int .i64 0)),none,[]⟩]) (.seq (.seq (.reg false [⟨some 6,.load
  true 2 (.t 3),none,[]⟩,⟨some 7,.call 223 [(.t 6)],none,[0]⟩,⟨some 8,.call 109 [(.t 7)],none,[1,1]⟩]) (.cond (.t 8) (.seq (.reg false [⟨some 9,.build [.nilsl,(.bool false),.nilsl] [],none,[]⟩,⟨none,.store 3 (.t 4) (.t
  9),none,[0,0]⟩,⟨some 5,.mv (.d (.int .i64 7)),none,[1,0,1]⟩]) .ret) .skip)) (.seq (.reg true [⟨some 10,.load true 2 (.t 2),none,[]⟩,⟨some 11,.call 202 [(.t 10)],none,[0]⟩,⟨some 12,.load true 2 (.t 3),none,[]⟩,⟨some
  13,.call 202 [(.t 12)],none,[2,1]⟩,⟨some 14,.beq true (.t 11) (.t 13),none,[1,3]⟩,⟨some 15,.load true 2 (.t 2),none,[]⟩,⟨some 16,.call 223 [(.t 15)],none,[5,3]⟩,⟨some 17,.call 106 [(.t 14),(.t 16)],none,[4,6,6]⟩,⟨some
  18,.load true 2 (.t 3),none,[]⟩,⟨some 19,.call 223 [(.t 18)],none,[8,7]⟩,⟨some 20,.call 224 [(.t 17),(.t 19)],none,[7,9,9]⟩,⟨none,.store 3 (.t 4) (.t 20),none,[10,10,0,1,2,3,4,5,6,7,8,9,10]⟩,⟨some 5,.mv (.d (.int .i64
  0)),none,[11,0,1,2,3,4,5,6,7,8,9,10,11]⟩]) .ret)))
theorem r_rat_Frac : fnOf Tryz.prog n_rat_Frac = some (c_rat_Frac, [.cell 4 true 3, .t 5], 21, false) := by kernel_rfl

/-- tallymark/nat.Pow -/
abbrev n_nat_Pow : FuncId := 222
def c_nat_Pow : C := (.seq (.reg false [⟨some 2,.box 47 (.t 0),none,[]⟩,⟨some 4,.new 47 [.nilsl],none,[]⟩,⟨some 5,.mv (.d (.int .i64 0)),none,[]⟩]) (.seq (.block 0 (.seq (.reg false [⟨some 8,.mv (.t 1),none,[]⟩,⟨some 9,.bin .lss (.t 8) (.d
  (.int .i64 0)),none,[0]⟩,⟨some 7,.mv (.t 9),none,[1]⟩]) (.cond (.t 7) (.seq (.reg false [⟨some 10,.build [.nilsl] [],none,[]⟩,⟨none,.store 1 (.t 4) (.t 10),none,[0,0]⟩,⟨some 5,.mv (.d (.int .i64 2)),none,[1,0,1]⟩])
  .ret) (.seq (.reg false [⟨some 12,.load true 1 (.t 2),none,[]⟩,⟨some 13,.call 201 [(.t 12)],none,[0]⟩,⟨some 14,.bin .gtr (.t 13) (.d (.int .i64 1)),none,[1]⟩,⟨some 15,.mv (.t 14),none,[2,1]⟩,⟨some 16,.mv (.t 1),some
  (15,true),[3]⟩,⟨some 17,.load true 1 (.t 2),some (15,true),[3]⟩,⟨some 18,.call 201 [(.t 17)],some (15,true),[5,3,3]⟩,⟨some 19,.bin .quo (.d (.int .i64 8192)) (.t 18),some (15,true),[6,3]⟩,⟨some 20,.bin .gtr (.t 16) (.t
  19),some (15,true),[4,7,3]⟩,⟨some 21,.pick (.t 15) (.t 20) (.d (.bool false)),none,[3,8]⟩,⟨some 11,.mv (.t 21),none,[9,6]⟩]) (.cond (.t 11) (.seq (.reg false [⟨some 22,.build [.nilsl] [],none,[]⟩,⟨none,.store 1 (.t 4)
  (.t 22),none,[0,0]⟩,⟨some 5,.mv (.d (.int .i64 3)),none,[1,0,1]⟩]) .ret) .skip))))) (.seq (.reg false [⟨some 23,.bsl 28 1 1 [(.int .u64 0)] [(0,1,(.d (.int .u64 1)))],none,[]⟩,⟨some 24,.call 108 [(.t
  23)],none,[0]⟩,⟨some 6,.new 47 [.nilsl],none,[]⟩,⟨none,.store 1 (.t 6) (.t 24),none,[2,1,1,0,1,2]⟩]) (.seq (.seq (.reg false [⟨some 25,.load true 1 (.t 2),none,[]⟩,⟨some 26,.call 201 [(.t 25)],none,[0]⟩,⟨some 27,.bin
  .leq (.t 26) (.d (.int .i64 1)),none,[1]⟩]) (.cond (.t 27) (.reg false [⟨some 28,.mv (.t 1),none,[]⟩,⟨some 29,.mm false [(.t 28),(.d (.int .i64 1))],none,[0]⟩,⟨some 1,.mv (.t 29),none,[1,0,1]⟩]) .skip)) (.seq (.block 1
  (.loop (.seq (.seq (.reg false [⟨some 30,.mv (.t 1),none,[]⟩,⟨some 31,.bin .gtr (.t 30) (.d (.int .i64 0)),none,[0]⟩]) (.cond (.t 31) .skip (.exit 1))) (.seq (.block 2 (.seq (.seq (.reg false [⟨some 34,.mv (.t
  1),none,[]⟩,⟨some 35,.bin .and (.t 34) (.d (.int .i64 1)),none,[0]⟩,⟨some 36,.bin .eql (.t 35) (.d (.int .i64 1)),none,[1]⟩]) (.cond (.t 36) (.reg false [⟨some 37,.load true 1 (.t 6),none,[]⟩,⟨some 38,.load true 1 (.t
  2),none,[]⟩,⟨some 39,.call 107 [(.t 37),(.t 38)],none,[0,1]⟩,⟨none,.store 1 (.t 6) (.t 39),none,[2,2,0,1,2]⟩]) .skip)) (.reg false [⟨some 40,.load true 1 (.t 2),none,[]⟩,⟨some 41,.load true 1 (.t 2),none,[]⟩,⟨some
  42,.call 107 [(.t 40),(.t 41)],none,[0,1]⟩,⟨none,.store 1 (.t 2) (.t 42),none,[2,2,0,1,2]⟩]))) (.reg false [⟨some 32,.mv (.t 1),none,[]⟩,⟨some 33,.bin .shr (.t 32) (.d (.int .u64 1)),none,[0]⟩,⟨some 1,.mv (.t
  33),none,[1,0,1]⟩]))))) (.seq (.reg false [⟨some 43,.load true 1 (.t 6),none,[]⟩,⟨none,.store 1 (.t 4) (.t 43),none,[0,0]⟩,⟨some 5,.mv (.d (.int .i64 0)),none,[1,0,1]⟩]) .ret))))))
theorem r_nat_Pow : fnOf Tryz.prog n_nat_Pow = some (c_nat_Pow, [.cell 4 true 1, .t 5], 44, false) := by kernel_rfl

/-- (tallymark/whole.Whole).Abs -/
abbrev n_whole_Whole_Abs : FuncId := 223
def c_whole_Whole_Abs : C := (.seq (.reg false [⟨some 1,.box 49 (.t 0),none,[]⟩,⟨some 2,.new 47 [.nilsl],none,[]⟩]) (.seq (.reg false [⟨some 3,.fa 0 (.t 1),none,[]⟩,⟨some 4,.load true 1 (.t 3),none,[0]⟩,⟨none,.store 1 (.t 2) (.t 4),none,[1,0,1]⟩])
  .ret))
theorem r_whole_Whole_Abs : fnOf Tryz.prog n_whole_Whole_Abs = some (c_whole_Whole_Abs, [.cell 2 true 1], 5, false) := by kernel_rfl

/-- tallymark/rat.made -/
abbrev n_rat_made : FuncId := 224
def c_rat_made : C := (.seq (.reg false [⟨some 2,.box 49 (.t 0),none,[]⟩,⟨some 3,.box 47 (.t 1),none,[]⟩,⟨some 4,.new 51 [.nilsl,(.bool false),.nilsl],none,[]⟩]) (.seq (.reg true [⟨some 14,.load true 2 (.t 2),none,[]⟩,⟨some 15,.call 223 [(.t
  14)],none,[0]⟩,⟨some 16,.load true 1 (.t 3),none,[]⟩,⟨some 17,.call 229 [(.t 15),(.t 16)],none,[1,2,1]⟩,⟨some 5,.new 47 [.nilsl],none,[]⟩,⟨none,.store 1 (.t 5) (.t 17),none,[4,3,3,0,1,2,3,4]⟩]) (.seq (.reg true [⟨some
  19,.load true 2 (.t 2),none,[]⟩,⟨some 20,.call 223 [(.t 19)],none,[0]⟩,⟨some 21,.load true 1 (.t 5),none,[]⟩,⟨some 22,.call 230 [(.t 20),(.t 21)],none,[1,2,1]⟩,⟨some 18,.mv (.t 22),none,[3]⟩,⟨some 23,.ext (.t 18)
  0,none,[4]⟩,⟨some 24,.ext (.t 18) 1,none,[4]⟩,⟨some 25,.ext (.t 18) 2,none,[4]⟩,⟨some 6,.new 47 [.nilsl],none,[]⟩,⟨some 7,.new 47 [.nilsl],none,[]⟩,⟨none,.store 1 (.t 6) (.t
  23),none,[8,5,3,0,1,2,3,4,5,8,9]⟩,⟨none,.store 1 (.t 7) (.t 24),none,[9,6,10,0,1,2,3,4,5,6,8,9,10]⟩,⟨some 8,.mv (.t 25),none,[7,11,0,1,2,3,4,5,6,7,8,9,10,11]⟩]) (.seq (.reg false [⟨some 27,.load true 1 (.t
  3),none,[]⟩,⟨some 28,.load true 1 (.t 5),none,[]⟩,⟨some 29,.call 230 [(.t 27),(.t 28)],none,[0,1]⟩,⟨some 26,.mv (.t 29),none,[2]⟩,⟨some 30,.ext (.t 26) 0,none,[3]⟩,⟨some 31,.ext (.t 26) 1,none,[3]⟩,⟨some 32,.ext (.t 26)
  2,none,[3]⟩,⟨some 9,.new 47 [.nilsl],none,[]⟩,⟨some 10,.new 47 [.nilsl],none,[]⟩,⟨none,.store 1 (.t 9) (.t 30),none,[7,4,2,0,1,2,3,4,7,8]⟩,⟨none,.store 1 (.t 10) (.t 31),none,[8,5,9,0,1,2,3,4,5,7,8,9]⟩,⟨some 11,.mv (.t
  32),none,[6,10,0,1,2,3,4,5,6,7,8,9,10]⟩]) (.seq (.reg true [⟨some 34,.load true 1 (.t 9),none,[]⟩,⟨some 35,.bsl 28 1 1 [(.int .u64 0)] [(0,1,(.d (.int .u64 1)))],none,[]⟩,⟨some 36,.call 108 [(.t 35)],none,[1]⟩,⟨some
  37,.call 231 [(.t 34),(.t 36)],none,[0,2,2]⟩,⟨some 33,.mv (.t 37),none,[3]⟩,⟨some 38,.ext (.t 33) 0,none,[4]⟩,⟨some 39,.ext (.t 33) 1,none,[4]⟩,⟨some 12,.new 47 [.nilsl],none,[]⟩,⟨none,.store 1 (.t 12) (.t
  38),none,[7,5,3,0,1,2,3,4,5,7]⟩,⟨some 13,.mv (.t 39),none,[6,8,0,1,2,3,4,5,6,7,8]⟩]) (.seq (.reg true [⟨some 40,.load true 2 (.t 2),none,[]⟩,⟨some 41,.call 202 [(.t 40)],none,[0]⟩,⟨some 42,.load true 1 (.t
  6),none,[]⟩,⟨some 43,.call 106 [(.t 41),(.t 42)],none,[1,2,1]⟩,⟨some 44,.load true 1 (.t 12),none,[]⟩,⟨some 45,.build [.nilsl,(.bool false),.nilsl] [(0,2,(.t 43)),(2,1,(.t 44))],none,[3,4]⟩,⟨none,.store 3 (.t 4) (.t
  45),none,[5,3,0,1,2,3,4,5]⟩]) .ret))))))
theorem r_rat_made : fnOf Tryz.prog n_rat_made = some (c_rat_made, [.cell 4 true 3], 46, false) := by kernel_rfl

/-- tallymark/rat.Add -/
abbrev n_rat_Add : FuncId := 225
def c_rat_Add : C := (.seq (.reg false [⟨some 2,.box 51 (.t 0),none,[]⟩,⟨some 3,.box 51 (.t 1),none,[]⟩,⟨some 4,.new 51 [.nilsl,(.bool false),.nilsl],none,[]⟩]) (.seq (.reg true [⟨some 5,.fa 0 (.t 2),none,[]⟩,⟨some 6,.load true 2 (.t
  5),none,[0]⟩,⟨some 7,.load true 3 (.t 3),none,[]⟩,⟨some 8,.call 56 [(.t 7)],none,[2]⟩,⟨some 9,.call 55 [(.t 6),(.t 8)],none,[1,3,3]⟩,⟨some 10,.fa 0 (.t 3),none,[]⟩,⟨some 11,.load true 2 (.t 10),none,[5]⟩,⟨some 12,.load
  true 3 (.t 2),none,[]⟩,⟨some 13,.call 56 [(.t 12)],none,[7,4]⟩,⟨some 14,.call 55 [(.t 11),(.t 13)],none,[6,8,8]⟩,⟨some 15,.call 232 [(.t 9),(.t 14)],none,[4,9,9]⟩,⟨some 16,.load true 3 (.t 2),none,[]⟩,⟨some 17,.call 60
  [(.t 16)],none,[11,10]⟩,⟨some 18,.load true 3 (.t 3),none,[]⟩,⟨some 19,.call 60 [(.t 18)],none,[13,12]⟩,⟨some 20,.call 107 [(.t 17),(.t 19)],none,[12,14,14]⟩,⟨some 21,.call 224 [(.t 15),(.t
  20)],none,[10,15,15]⟩,⟨none,.store 3 (.t 4) (.t 21),none,[16,16,0,1,2,3,4,5,6,7,8,9,10,11,12,13,14,15,16]⟩]) .ret))
theorem r_rat_Add : fnOf Tryz.prog n_rat_Add = some (c_rat_Add, [.cell 4 true 3], 22, false) := by kernel_rfl

/-- tallymark/whole.Minus -/
abbrev n_whole_Minus : FuncId := 226
def c_whole_Minus : C := (.seq (.reg false [⟨some 1,.box 49 (.t 0),none,[]⟩,⟨some 2,.new 49 [.nilsl,(.bool false)],none,[]⟩]) (.seq (.reg false [⟨some 3,.fa 1 (.t 1),none,[]⟩,⟨some 4,.load false 1 (.t 3),none,[0]⟩,⟨some 5,.un .not (.t
  4),none,[1]⟩,⟨some 6,.fa 0 (.t 1),none,[]⟩,⟨some 7,.load true 1 (.t 6),none,[3]⟩,⟨some 8,.call 106 [(.t 5),(.t 7)],none,[2,4]⟩,⟨none,.store 2 (.t 2) (.t 8),none,[5,5,0,1,2,3,4,5]⟩]) .ret))
theorem r_whole_Minus : fnOf Tryz.prog n_whole_Minus = some (c_whole_Minus, [.cell 2 true 2], 9, false) := by kernel_rfl

/-- tallymark/flip.good -/
abbrev n_flip_good : FuncId := 227
def c_flip_good : C := (.seq (.reg false [⟨some 2,.box 47 (.t 0),none,[]⟩,⟨some 3,.box 47 (.t 1),none,[]⟩,⟨some 4,.mv (.d (.bool false)),none,[]⟩]) (.seq (.reg false [⟨some 5,.load true 1 (.t 3),none,[]⟩,⟨some 6,.call 109 [(.t
  5)],none,[0]⟩,⟨some 7,.un .not (.t 6),none,[1]⟩,⟨some 8,.mv (.t 7),none,[2,1]⟩,⟨some 9,.load true 1 (.t 2),some (8,true),[3]⟩,⟨some 10,.load true 1 (.t 3),some (8,true),[3]⟩,⟨some 11,.call 105 [(.t 9),(.t 10)],some
  (8,true),[4,5,3,3]⟩,⟨some 12,.bin .leq (.t 11) (.d (.int .i64 0)),some (8,true),[6,3]⟩,⟨some 13,.pick (.t 8) (.t 12) (.d (.bool false)),none,[3,7]⟩,⟨some 4,.mv (.t 13),none,[8,6,0,1,2,3,4,5,6,7,8]⟩]) .ret))
theorem r_flip_good : fnOf Tryz.prog n_flip_good = some (c_flip_good, [.t 4], 14, false) := by kernel_rfl

/-- tallymark/flip.Ratio -/
abbrev n_flip_Ratio : FuncId := 228
def c_flip_Ratio : C := (.seq (.reg false [⟨some 4,.box 47 (.t 1),none,[]⟩,⟨some 5,.box 47 (.t 2),none,[]⟩,⟨some 6,.mv (.d (.bool false)),none,[]⟩,⟨some 7,.mv (.d (.int .i64 0)),none,[2]⟩]) (.seq (.block 0 (.seq (.reg false [⟨some 15,.load
  true 1 (.t 4),none,[]⟩,⟨some 16,.load true 1 (.t 5),none,[]⟩,⟨some 17,.call 227 [(.t 15),(.t 16)],none,[0,1]⟩,⟨some 18,.un .not (.t 17),none,[2]⟩,⟨some 14,.mv (.t 18),none,[3,2]⟩]) (.cond (.t 14) (.seq (.reg false
  [⟨some 6,.mv (.d (.bool false)),none,[]⟩,⟨some 7,.mv (.d (.int .i64 2)),none,[0,0]⟩]) .ret) (.seq (.reg false [⟨some 20,.load true 1 (.t 4),none,[]⟩,⟨some 21,.call 109 [(.t 20)],none,[0]⟩,⟨some 19,.mv (.t
  21),none,[1,1]⟩]) (.cond (.t 19) (.seq (.reg false [⟨some 6,.mv (.d (.bool false)),none,[]⟩,⟨some 7,.mv (.d (.int .i64 0)),none,[0,0]⟩]) .ret) .skip))))) (.seq (.seq (.reg false [⟨some 22,.load true 1 (.t
  4),none,[]⟩,⟨some 8,.new 47 [.nilsl],none,[]⟩,⟨none,.store 1 (.t 8) (.t 22),none,[1,0,0,1]⟩]) (.block 1 (.loop (.seq (.seq (.reg false [⟨some 23,.load true 1 (.t 8),none,[]⟩,⟨some 24,.load true 1 (.t 5),none,[]⟩,⟨some
  25,.call 105 [(.t 23),(.t 24)],none,[0,1]⟩,⟨some 26,.bin .lss (.t 25) (.d (.int .i64 0)),none,[2]⟩]) (.cond (.t 26) .skip (.exit 1))) (.seq (.block 2 (.seq (.reg false [⟨some 28,.mv (.t 0),none,[]⟩,⟨some 29,.call 131
  [(.t 28)],none,[0]⟩,⟨some 27,.mv (.t 29),none,[1]⟩,⟨some 30,.ext (.t 27) 0,none,[2]⟩,⟨some 31,.ext (.t 27) 1,none,[2]⟩,⟨some 9,.mv (.t 30),none,[3,1,0,1,2,3]⟩,⟨some 10,.mv (.t 31),none,[4,5,0,1,2,3,4,5]⟩]) (.seq (.seq
  (.reg false [⟨some 32,.mv (.t 10),none,[]⟩,⟨some 33,.bin .neq (.t 32) (.d (.int .i64 0)),none,[0]⟩]) (.cond (.t 33) (.seq (.reg false [⟨some 34,.mv (.t 10),none,[]⟩,⟨some 6,.mv (.d (.bool false)),none,[]⟩,⟨some 7,.mv
  (.t 34),none,[0,1,0,1]⟩]) .ret) .skip)) (.seq (.reg false [⟨some 35,.load true 1 (.t 8),none,[]⟩,⟨some 36,.load true 1 (.t 8),none,[]⟩,⟨some 37,.call 110 [(.t 35),(.t 36)],none,[0,1]⟩,⟨none,.store 1 (.t 8) (.t
  37),none,[2,2,0,1,2]⟩]) (.seq (.reg false [⟨some 39,.load true 1 (.t 8),none,[]⟩,⟨some 40,.load true 1 (.t 5),none,[]⟩,⟨some 41,.call 231 [(.t 39),(.t 40)],none,[0,1]⟩,⟨some 38,.mv (.t 41),none,[2]⟩,⟨some 42,.ext (.t
  38) 0,none,[3]⟩,⟨some 43,.ext (.t 38) 1,none,[3]⟩,⟨some 11,.new 47 [.nilsl],none,[]⟩,⟨none,.store 1 (.t 11) (.t 42),none,[6,4,2,0,1,2,3,4,6]⟩,⟨some 12,.mv (.t 43),none,[5,7,0,1,2,3,4,5,6,7]⟩]) (.seq (.reg false [⟨some
  44,.mv (.t 12),none,[]⟩,⟨some 45,.bin .eql (.t 44) (.d (.int .i64 0)),none,[0]⟩,⟨some 13,.mv (.t 45),none,[1,0,1]⟩]) (.seq (.seq (.reg false [⟨some 46,.mv (.t 13),none,[]⟩]) (.cond (.t 46) (.reg false [⟨some 47,.load
  true 1 (.t 11),none,[]⟩,⟨none,.store 1 (.t 8) (.t 47),none,[0,0]⟩]) .skip)) (.seq (.reg false [⟨some 48,.mv (.t 9),none,[]⟩,⟨some 49,.mv (.t 13),none,[]⟩,⟨some 50,.beq true (.t 48) (.t 49),none,[0,1]⟩,⟨some 51,.mv (.t
  50),none,[2]⟩,⟨some 52,.load true 1 (.t 8),some (51,false),[3]⟩,⟨some 53,.call 109 [(.t 52)],some (51,false),[4,3,3]⟩,⟨some 54,.pick (.t 51) (.d (.bool true)) (.t 53),none,[3,5]⟩]) (.cond (.t 54) (.seq (.reg false
  [⟨some 55,.mv (.t 13),none,[]⟩,⟨some 56,.mv (.t 55),none,[0]⟩,⟨some 57,.mv (.t 9),some (56,true),[1]⟩,⟨some 58,.un .not (.t 57),some (56,true),[2,1]⟩,⟨some 59,.pick (.t 56) (.t 58) (.d (.bool false)),none,[1,3]⟩,⟨some
  6,.mv (.t 59),none,[4,1,0,1,2,3,4]⟩,⟨some 7,.mv (.d (.int .i64 0)),none,[5,0,1,2,3,4,5]⟩]) .ret) .skip))))))))) (.seq (.reg false [⟨some 60,.load true 1 (.t 8),none,[]⟩]) (.reg false [⟨some 8,.new 47
  [.nilsl],none,[]⟩,⟨none,.store 1 (.t 8) (.t 60),none,[0,0]⟩]))))))) (.seq (.reg false [⟨some 6,.mv (.d (.bool true)),none,[]⟩,⟨some 7,.mv (.d (.int .i64 0)),none,[0,0]⟩]) .ret))))
theorem r_flip_Ratio : fnOf Tryz.prog n_flip_Ratio = some (c_flip_Ratio, [.t 6, .t 7], 61, false) := by kernel_rfl

/-- tallymark/nat.Gcd -/
abbrev n_nat_Gcd : FuncId := 229
def c_nat_Gcd : C := (.seq (.reg false [⟨some 2,.box 47 (.t 0),none,[]⟩,⟨some 3,.box 47 (.t 1),none,[]⟩,⟨some 4,.new 47 [.nilsl],none,[]⟩]) (.seq (.block 0 (.loop (.seq (.seq (.reg false [⟨some 8,.load true 1 (.t 3),none,[]⟩,⟨some 9,.call
  109 [(.t 8)],none,[0]⟩,⟨some 10,.un .not (.t 9),none,[1]⟩]) (.cond (.t 10) .skip (.exit 0))) (.block 1 (.seq (.reg false [⟨some 12,.load true 1 (.t 2),none,[]⟩,⟨some 13,.load true 1 (.t 3),none,[]⟩,⟨some 14,.call 230
  [(.t 12),(.t 13)],none,[0,1]⟩,⟨some 11,.mv (.t 14),none,[2]⟩,⟨some 15,.ext (.t 11) 0,none,[3]⟩,⟨some 16,.ext (.t 11) 1,none,[3]⟩,⟨some 17,.ext (.t 11) 2,none,[3]⟩,⟨some 5,.new 47 [.nilsl],none,[]⟩,⟨some 6,.new 47
  [.nilsl],none,[]⟩,⟨none,.store 1 (.t 5) (.t 15),none,[7,4,2,0,1,2,3,4,7,8]⟩,⟨none,.store 1 (.t 6) (.t 16),none,[8,5,9,0,1,2,3,4,5,7,8,9]⟩,⟨some 7,.mv (.t 17),none,[6,10,0,1,2,3,4,5,6,7,8,9,10]⟩]) (.reg true [⟨some
  18,.load true 1 (.t 3),none,[]⟩,⟨some 19,.load true 1 (.t 6),none,[]⟩,⟨none,.store 1 (.t 2) (.t 18),none,[0,0]⟩,⟨none,.store 1 (.t 3) (.t 19),none,[1,2,0,1,2]⟩])))))) (.seq (.reg false [⟨some 20,.fa 0 (.t
  2),none,[]⟩,⟨some 21,.load false 1 (.t 20),none,[0]⟩,⟨some 22,.call 108 [(.t 21)],none,[1]⟩,⟨none,.store 1 (.t 4) (.t 22),none,[2,2,0,1,2]⟩]) .ret)))
theorem r_nat_Gcd : fnOf Tryz.prog n_nat_Gcd = some (c_nat_Gcd, [.cell 4 true 1], 23, false) := by kernel_rfl

/-- tallymark/nat.DivMod -/
abbrev n_nat_DivMod : FuncId := 230
def c_nat_DivMod : C := (.seq (.reg false [⟨some 2,.box 47 (.t 0),none,[]⟩,⟨some 3,.box 47 (.t 1),none,[]⟩,⟨some 4,.new 47 [.nilsl],none,[]⟩,⟨some 5,.new 47 [.nilsl],none,[]⟩,⟨some 6,.mv (.d (.int .i64 0)),none,[]⟩]) (.seq (.block 0 (.seq
  (.reg false [⟨some 10,.load true 1 (.t 3),none,[]⟩,⟨some 11,.call 109 [(.t 10)],none,[0]⟩,⟨some 9,.mv (.t 11),none,[1,1]⟩]) (.cond (.t 9) (.seq (.reg false [⟨some 12,.build [.nilsl] [],none,[]⟩,⟨some 13,.build [.nilsl]
  [],none,[]⟩,⟨none,.store 1 (.t 4) (.t 12),none,[0,0]⟩,⟨none,.store 1 (.t 5) (.t 13),none,[1,2,0,1,2]⟩,⟨some 6,.mv (.d (.int .i64 7)),none,[3,0,1,2,3]⟩]) .ret) (.seq (.reg false [⟨some 15,.load true 1 (.t
  2),none,[]⟩,⟨some 16,.load true 1 (.t 3),none,[]⟩,⟨some 17,.call 105 [(.t 15),(.t 16)],none,[0,1]⟩,⟨some 18,.bin .lss (.t 17) (.d (.int .i64 0)),none,[2]⟩,⟨some 14,.mv (.t 18),none,[3,2]⟩]) (.cond (.t 14) (.seq (.reg
  false [⟨some 19,.build [.nilsl] [],none,[]⟩,⟨some 20,.fa 0 (.t 2),none,[]⟩,⟨some 21,.load false 1 (.t 20),none,[1]⟩,⟨some 22,.call 108 [(.t 21)],none,[2]⟩,⟨none,.store 1 (.t 4) (.t 19),none,[0,3,0]⟩,⟨none,.store 1 (.t
  5) (.t 22),none,[3,4,0,1,2,3,4]⟩,⟨some 6,.mv (.d (.int .i64 0)),none,[5,0,1,2,3,4,5]⟩]) .ret) (.seq (.reg false [⟨some 24,.fa 0 (.t 3),none,[]⟩,⟨some 25,.load false 1 (.t 24),none,[0]⟩,⟨some 26,.len (.t
  25),none,[1]⟩,⟨some 27,.bin .eql (.t 26) (.d (.int .i64 1)),none,[2]⟩,⟨some 23,.mv (.t 27),none,[3]⟩]) (.cond (.t 23) (.seq (.reg true [⟨some 29,.fa 0 (.t 2),none,[]⟩,⟨some 30,.load false 1 (.t 29),none,[0]⟩,⟨some
  31,.fa 0 (.t 3),none,[]⟩,⟨some 32,.load false 1 (.t 31),none,[2]⟩,⟨some 33,.ix 1 (.t 32) (.d (.int .i64 0)),none,[3]⟩,⟨some 34,.load false 1 (.t 33),none,[4]⟩,⟨some 35,.call 111 [(.t 30),(.t 34)],none,[1,5]⟩,⟨some
  28,.mv (.t 35),none,[6]⟩,⟨some 36,.ext (.t 28) 0,none,[7]⟩,⟨some 37,.ext (.t 28) 1,none,[7]⟩,⟨some 7,.mv (.t 36),none,[8,6,0,1,2,3,4,5,6,7,8]⟩,⟨some 8,.mv (.t 37),none,[9,10,0,1,2,3,4,5,6,7,8,9,10]⟩]) (.seq (.reg false
  [⟨some 38,.mv (.t 7),none,[]⟩,⟨some 39,.call 112 [(.t 38)],none,[0]⟩,⟨some 40,.mv (.t 8),none,[]⟩,⟨some 41,.bsl 28 1 1 [(.int .u64 0)] [(0,1,(.t 40))],none,[2]⟩,⟨some 42,.call 108 [(.t 41)],none,[3,1]⟩,⟨none,.store 1
  (.t 4) (.t 39),none,[1,4,0,1]⟩,⟨none,.store 1 (.t 5) (.t 42),none,[4,5,0,1,2,3,4,5]⟩,⟨some 6,.mv (.d (.int .i64 0)),none,[6,0,1,2,3,4,5,6]⟩]) .ret)) .skip))))))) (.seq (.reg false [⟨some 43,.load true 1 (.t
  2),none,[]⟩,⟨some 44,.load true 1 (.t 3),none,[]⟩,⟨some 45,.call 233 [(.t 43),(.t 44)],none,[0,1]⟩,⟨some 46,.ext (.t 45) 0,none,[2]⟩,⟨some 47,.ext (.t 45) 1,none,[2]⟩,⟨some 48,.ext (.t 45) 2,none,[2]⟩,⟨none,.store 1 (.t
  4) (.t 46),none,[3,2,0,1,2,3,4,5]⟩,⟨none,.store 1 (.t 5) (.t 47),none,[4,6,0,1,2,3,4,5,6]⟩,⟨some 6,.mv (.t 48),none,[5,7,0,1,2,3,4,5,6,7]⟩]) .ret)))
theorem r_nat_DivMod : fnOf Tryz.prog n_nat_DivMod = some (c_nat_DivMod, [.cell 4 true 1, .cell 5 true 1, .t 6], 49, false) := by kernel_rfl

/-- tallymark/nat.Sub -/
abbrev n_nat_Sub : FuncId := 231
def c_nat_Sub : C := (.seq (.reg false [⟨some 2,.box 47 (.t 0),none,[]⟩,⟨some 3,.box 47 (.t 1),none,[]⟩,⟨some 4,.new 47 [.nilsl],none,[]⟩,⟨some 5,.mv (.d (.int .i64 0)),none,[]⟩]) (.seq (.seq (.reg false [⟨some 11,.load true 1 (.t
  2),none,[]⟩,⟨some 12,.load true 1 (.t 3),none,[]⟩,⟨some 13,.call 105 [(.t 11),(.t 12)],none,[0,1]⟩,⟨some 14,.bin .lss (.t 13) (.d (.int .i64 0)),none,[2]⟩]) (.cond (.t 14) (.seq (.reg false [⟨some 15,.build [.nilsl]
  [],none,[]⟩,⟨none,.store 1 (.t 4) (.t 15),none,[0,0]⟩,⟨some 5,.mv (.d (.int .i64 2)),none,[1,0,1]⟩]) .ret) .skip)) (.seq (.reg false [⟨some 16,.fa 0 (.t 2),none,[]⟩,⟨some 17,.load false 1 (.t 16),none,[0]⟩,⟨some 18,.len
  (.t 17),none,[1]⟩,⟨some 19,.mksl 28 1 8 [(.int .u64 0)] (.t 18) (.t 18),none,[2,2]⟩,⟨some 6,.mv (.t 19),none,[3,0,1,2,3]⟩]) (.seq (.reg false [⟨some 7,.mv (.d (.int .u64 0)),none,[]⟩]) (.seq (.seq (.reg false [⟨some
  20,.fa 0 (.t 2),none,[]⟩,⟨some 21,.load false 1 (.t 20),none,[0]⟩,⟨some 22,.len (.t 21),none,[1]⟩,⟨some 23,.mv (.d (.int .i64 0)),none,[]⟩]) (.block 0 (.loop (.seq (.reg false [⟨some 24,.bin .lss (.t 23) (.t
  22),none,[]⟩]) (.seq (.cond (.t 24) .skip (.exit 0)) (.seq (.block 1 (.seq (.reg false [⟨some 25,.mv (.t 23),none,[]⟩,⟨some 26,.ix 1 (.t 21) (.t 23),none,[]⟩,⟨some 27,.load false 1 (.t 26),none,[1]⟩,⟨some 8,.mv (.t
  25),none,[0,0,1,2]⟩,⟨some 9,.mv (.t 27),none,[2,3,0,1,2,3]⟩]) (.seq (.reg false [⟨some 10,.mv (.d (.int .u64 0)),none,[]⟩]) (.seq (.seq (.reg false [⟨some 28,.mv (.t 8),none,[]⟩,⟨some 29,.fa 0 (.t 3),none,[]⟩,⟨some
  30,.load false 1 (.t 29),none,[1]⟩,⟨some 31,.len (.t 30),none,[2]⟩,⟨some 32,.bin .lss (.t 28) (.t 31),none,[0,3]⟩]) (.cond (.t 32) (.reg false [⟨some 33,.fa 0 (.t 3),none,[]⟩,⟨some 34,.load false 1 (.t
  33),none,[0]⟩,⟨some 35,.mv (.t 8),none,[]⟩,⟨some 36,.ix 1 (.t 34) (.t 35),none,[1,2]⟩,⟨some 37,.load false 1 (.t 36),none,[3]⟩,⟨some 10,.mv (.t 37),none,[4,0,1,2,3,4]⟩]) .skip)) (.reg false [⟨some 39,.mv (.t
  6),none,[]⟩,⟨some 40,.mv (.t 8),none,[]⟩,⟨some 41,.mv (.t 9),none,[]⟩,⟨some 42,.mv (.t 10),none,[]⟩,⟨some 43,.mv (.t 7),none,[]⟩,⟨some 44,.call 234 [(.t 41),(.t 42),(.t 43)],none,[2,3,4]⟩,⟨some 38,.mv (.t
  44),none,[5]⟩,⟨some 45,.ext (.t 38) 0,none,[6]⟩,⟨some 46,.ext (.t 38) 1,none,[6]⟩,⟨some 47,.ix 1 (.t 39) (.t 40),none,[0,1,0,1,2,3,4,5,6,7]⟩,⟨none,.store 1 (.t 47) (.t 45),none,[9,7,5,0,1,2,3,4,5,6,7]⟩,⟨some 7,.mv (.t
  46),none,[8,10,0,1,2,3,4,5,6,7,8,9,10]⟩]))))) (.reg false [⟨some 48,.bin .add (.t 23) (.d (.int .i64 1)),none,[]⟩,⟨some 23,.mv (.t 48),none,[0]⟩]))))))) (.seq (.reg false [⟨some 49,.mv (.t 6),none,[]⟩,⟨some 50,.call 112
  [(.t 49)],none,[0]⟩,⟨none,.store 1 (.t 4) (.t 50),none,[1,1,0,1]⟩,⟨some 5,.mv (.d (.int .i64 0)),none,[2,0,1,2]⟩]) .ret))))))
theorem r_nat_Sub : fnOf Tryz.prog n_nat_Sub = some (c_nat_Sub, [.cell 4 true 1, .t 5], 51, false) := by kernel_rfl

/-- tallymark/whole.Add -/
abbrev n_whole_Add : FuncId := 232
def c_whole_Add : C := (.seq (.reg false [⟨some 2,.box 49 (.t 0),none,[]⟩,⟨some 3,.box 49 (.t 1),none,[]⟩,⟨some 4,.new 49 [.nilsl,(.bool false)],none,[]⟩]) (.seq (.seq (.reg false [⟨some 9,.fa 1 (.t 2),none,[]⟩,⟨some 10,.load false 1 (.t
  9),none,[0]⟩,⟨some 11,.fa 1 (.t 3),none,[]⟩,⟨some 12,.load false 1 (.t 11),none,[2]⟩,⟨some 13,.beq false (.t 10) (.t 12),none,[1,3]⟩]) (.cond (.t 13) (.seq (.reg true [⟨some 14,.fa 1 (.t 2),none,[]⟩,⟨some 15,.load false
  1 (.t 14),none,[0]⟩,⟨some 16,.fa 0 (.t 2),none,[]⟩,⟨some 17,.load true 1 (.t 16),none,[2]⟩,⟨some 18,.fa 0 (.t 3),none,[]⟩,⟨some 19,.load true 1 (.t 18),none,[4]⟩,⟨some 20,.call 110 [(.t 17),(.t 19)],none,[3,5]⟩,⟨some
  21,.call 106 [(.t 15),(.t 20)],none,[1,6,6]⟩,⟨none,.store 2 (.t 4) (.t 21),none,[7,7,0,1,2,3,4,5,6,7]⟩]) .ret) .skip)) (.seq (.seq (.reg false [⟨some 23,.fa 0 (.t 2),none,[]⟩,⟨some 24,.load true 1 (.t
  23),none,[0]⟩,⟨some 25,.fa 0 (.t 3),none,[]⟩,⟨some 26,.load true 1 (.t 25),none,[2]⟩,⟨some 27,.call 231 [(.t 24),(.t 26)],none,[1,3]⟩,⟨some 22,.mv (.t 27),none,[4]⟩,⟨some 28,.ext (.t 22) 0,none,[5]⟩,⟨some 29,.ext (.t
  22) 1,none,[5]⟩,⟨some 5,.new 47 [.nilsl],none,[]⟩,⟨none,.store 1 (.t 5) (.t 28),none,[8,6,4,0,1,2,3,4,5,6,8]⟩,⟨some 6,.mv (.t 29),none,[7,9,0,1,2,3,4,5,6,7,8,9]⟩]) (.seq (.reg false [⟨some 30,.mv (.t 6),none,[]⟩,⟨some
  31,.bin .eql (.t 30) (.d (.int .i64 0)),none,[0]⟩]) (.cond (.t 31) (.seq (.reg false [⟨some 32,.fa 1 (.t 2),none,[]⟩,⟨some 33,.load false 1 (.t 32),none,[0]⟩,⟨some 34,.load true 1 (.t 5),none,[]⟩,⟨some 35,.call 106 [(.t
  33),(.t 34)],none,[1,2]⟩,⟨none,.store 2 (.t 4) (.t 35),none,[3,3,0,1,2,3]⟩]) .ret) .skip))) (.seq (.reg false [⟨some 37,.fa 0 (.t 3),none,[]⟩,⟨some 38,.load true 1 (.t 37),none,[0]⟩,⟨some 39,.fa 0 (.t 2),none,[]⟩,⟨some
  40,.load true 1 (.t 39),none,[2]⟩,⟨some 41,.call 231 [(.t 38),(.t 40)],none,[1,3]⟩,⟨some 36,.mv (.t 41),none,[4]⟩,⟨some 42,.ext (.t 36) 0,none,[5]⟩,⟨some 43,.ext (.t 36) 1,none,[5]⟩,⟨some 7,.new 47
  [.nilsl],none,[]⟩,⟨none,.store 1 (.t 7) (.t 42),none,[8,6,4,0,1,2,3,4,5,6,8]⟩,⟨some 8,.mv (.t 43),none,[7,9,0,1,2,3,4,5,6,7,8,9]⟩]) (.seq (.reg false [⟨some 44,.fa 1 (.t 3),none,[]⟩,⟨some 45,.load false 1 (.t
  44),none,[0]⟩,⟨some 46,.load true 1 (.t 7),none,[]⟩,⟨some 47,.call 106 [(.t 45),(.t 46)],none,[1,2]⟩,⟨none,.store 2 (.t 4) (.t 47),none,[3,3,0,1,2,3]⟩]) .ret)))))
theorem r_whole_Add : fnOf Tryz.prog n_whole_Add = some (c_whole_Add, [.cell 4 true 2], 48, false) := by kernel_rfl

/-- tallymark/nat.long -/
abbrev n_nat_long : FuncId := 233
def c_nat_long : C := (.seq (.reg false [⟨some 2,.box 47 (.t 0),none,[]⟩,⟨some 3,.box 47 (.t 1),none,[]⟩,⟨some 4,.new 47 [.nilsl],none,[]⟩,⟨some 5,.new 47 [.nilsl],none,[]⟩,⟨some 6,.mv (.d (.int .i64 0)),none,[]⟩]) (.seq (.reg false [⟨some
  13,.fa 0 (.t 3),none,[]⟩,⟨some 14,.load false 1 (.t 13),none,[0]⟩,⟨some 15,.len (.t 14),none,[1]⟩,⟨some 7,.mv (.t 15),none,[2,0,1,2]⟩]) (.seq (.reg false [⟨some 16,.fa 0 (.t 3),none,[]⟩,⟨some 17,.load false 1 (.t
  16),none,[0]⟩,⟨some 18,.mv (.t 7),none,[]⟩,⟨some 19,.bin .sub (.t 18) (.d (.int .i64 1)),none,[2]⟩,⟨some 20,.ix 1 (.t 17) (.t 19),none,[1,3]⟩,⟨some 21,.load false 1 (.t 20),none,[4]⟩,⟨some 22,.call 167 [(.t
  21)],none,[5]⟩,⟨some 8,.mv (.t 22),none,[6,6,0,1,2,3,4,5,6]⟩]) (.seq (.reg false [⟨some 23,.fa 0 (.t 3),none,[]⟩,⟨some 24,.load false 1 (.t 23),none,[0]⟩,⟨some 25,.mv (.t 8),none,[]⟩,⟨some 26,.call 162 [(.t 24),(.t
  25)],none,[1,2]⟩,⟨some 27,.mv (.t 7),none,[]⟩,⟨some 28,.slice 1 (.t 26) none (some (.t 27)) none,none,[3,4]⟩,⟨some 9,.mv (.t 28),none,[5,3,0,1,2,3,4,5]⟩]) (.seq (.reg false [⟨some 29,.fa 0 (.t 2),none,[]⟩,⟨some 30,.load
  false 1 (.t 29),none,[0]⟩,⟨some 31,.mv (.t 8),none,[]⟩,⟨some 32,.call 162 [(.t 30),(.t 31)],none,[1,2]⟩,⟨some 10,.mv (.t 32),none,[3,3,0,1,2,3]⟩]) (.seq (.reg false [⟨some 33,.mv (.t 10),none,[]⟩,⟨some 34,.len (.t
  33),none,[0]⟩,⟨some 35,.mv (.t 7),none,[]⟩,⟨some 36,.bin .sub (.t 34) (.t 35),none,[1,2]⟩,⟨some 37,.mksl 28 1 8 [(.int .u64 0)] (.t 36) (.t 36),none,[3,3]⟩,⟨some 11,.mv (.t 37),none,[4,0,1,2,3,4]⟩]) (.seq (.seq (.reg
  false [⟨some 38,.mv (.t 11),none,[]⟩,⟨some 39,.len (.t 38),none,[0]⟩,⟨some 40,.bin .sub (.t 39) (.d (.int .i64 1)),none,[1]⟩,⟨some 12,.mv (.t 40),none,[2,0,1,2]⟩]) (.block 0 (.loop (.seq (.seq (.reg false [⟨some 41,.mv
  (.t 12),none,[]⟩,⟨some 42,.bin .geq (.t 41) (.d (.int .i64 0)),none,[0]⟩]) (.cond (.t 42) .skip (.exit 0))) (.seq (.block 1 (.reg false [⟨some 45,.mv (.t 11),none,[]⟩,⟨some 46,.mv (.t 12),none,[]⟩,⟨some 47,.mv (.t
  10),none,[]⟩,⟨some 48,.mv (.t 12),none,[]⟩,⟨some 49,.mv (.t 12),none,[]⟩,⟨some 50,.mv (.t 7),none,[]⟩,⟨some 51,.bin .add (.t 49) (.t 50),none,[4,5]⟩,⟨some 52,.bin .add (.t 51) (.d (.int .i64 1)),none,[6]⟩,⟨some
  53,.slice 1 (.t 47) (some (.t 48)) (some (.t 52)) none,none,[2,3,7]⟩,⟨some 54,.mv (.t 9),none,[]⟩,⟨some 55,.call 235 [(.t 53),(.t 54)],none,[8,9]⟩,⟨some 56,.ix 1 (.t 45) (.t
  46),none,[0,1,0,1,2,3,4,5,6,7,8,9,10]⟩,⟨none,.store 1 (.t 56) (.t 55),none,[11,10,10,0,1,2,3,4,5,6,7,8,9,10]⟩])) (.reg false [⟨some 43,.mv (.t 12),none,[]⟩,⟨some 44,.bin .sub (.t 43) (.d (.int .i64 1)),none,[0]⟩,⟨some
  12,.mv (.t 44),none,[1,0,1]⟩])))))) (.seq (.reg true [⟨some 57,.mv (.t 11),none,[]⟩,⟨some 58,.call 112 [(.t 57)],none,[0]⟩,⟨some 59,.mv (.t 10),none,[]⟩,⟨some 60,.mv (.t 7),none,[]⟩,⟨some 61,.slice 1 (.t 59) none (some
  (.t 60)) none,none,[2,3]⟩,⟨some 62,.call 112 [(.t 61)],none,[4,1]⟩,⟨some 63,.mv (.t 8),none,[]⟩,⟨some 64,.call 236 [(.t 62),(.t 63)],none,[5,6,5]⟩,⟨none,.store 1 (.t 4) (.t 58),none,[1,7,0,1]⟩,⟨none,.store 1 (.t 5) (.t
  64),none,[7,8,0,1,2,3,4,5,6,7,8]⟩,⟨some 6,.mv (.d (.int .i64 0)),none,[9,0,1,2,3,4,5,6,7,8,9]⟩]) .ret))))))))
theorem r_nat_long : fnOf Tryz.prog n_nat_long = some (c_nat_long, [.cell 4 true 1, .cell 5 true 1, .t 6], 65, false) := by kernel_rfl

/-- tallymark/nat.digit -/
abbrev n_nat_digit : FuncId := 235
def c_nat_digit : C := (.seq (.reg false [⟨some 4,.mv (.d (.int .u64 0)),none,[]⟩]) (.seq (.reg false [⟨some 11,.mv (.t 1),none,[]⟩,⟨some 12,.len (.t 11),none,[0]⟩,⟨some 5,.mv (.t 12),none,[1,0,1]⟩]) (.seq (.reg false [⟨some 6,.mv (.d (.int
  .u64 18446744073709551615)),none,[]⟩]) (.seq (.seq (.reg true [⟨some 13,.mv (.t 0),none,[]⟩,⟨some 14,.mv (.t 5),none,[]⟩,⟨some 15,.ix 1 (.t 13) (.t 14),none,[0,1]⟩,⟨some 16,.load false 1 (.t 15),none,[2]⟩,⟨some 17,.mv
  (.t 1),none,[]⟩,⟨some 18,.mv (.t 5),none,[]⟩,⟨some 19,.bin .sub (.t 18) (.d (.int .i64 1)),none,[5]⟩,⟨some 20,.ix 1 (.t 17) (.t 19),none,[4,6]⟩,⟨some 21,.load false 1 (.t 20),none,[7]⟩,⟨some 22,.bin .lss (.t 16) (.t
  21),none,[3,8]⟩]) (.cond (.t 22) (.reg true [⟨some 24,.mv (.t 0),none,[]⟩,⟨some 25,.mv (.t 5),none,[]⟩,⟨some 26,.ix 1 (.t 24) (.t 25),none,[0,1]⟩,⟨some 27,.load false 1 (.t 26),none,[2]⟩,⟨some 28,.mv (.t
  0),none,[]⟩,⟨some 29,.mv (.t 5),none,[]⟩,⟨some 30,.bin .sub (.t 29) (.d (.int .i64 1)),none,[5]⟩,⟨some 31,.ix 1 (.t 28) (.t 30),none,[4,6]⟩,⟨some 32,.load false 1 (.t 31),none,[7]⟩,⟨some 33,.mv (.t 1),none,[]⟩,⟨some
  34,.mv (.t 5),none,[]⟩,⟨some 35,.bin .sub (.t 34) (.d (.int .i64 1)),none,[10]⟩,⟨some 36,.ix 1 (.t 33) (.t 35),none,[9,11]⟩,⟨some 37,.load false 1 (.t 36),none,[12]⟩,⟨some 38,.call 151 [(.t 27),(.t 32),(.t
  37)],none,[3,8,13]⟩,⟨some 23,.mv (.t 38),none,[14]⟩,⟨some 39,.ext (.t 23) 0,none,[15]⟩,⟨some 40,.ext (.t 23) 1,none,[15]⟩,⟨some 6,.mv (.t 39),none,[16,14,0,1,2,3,4,5,6,7,8,9,10,11,12,13,14,15,16]⟩]) .skip)) (.seq (.seq
  (.reg false [⟨some 41,.mv (.t 0),none,[]⟩,⟨some 42,.mv (.t 1),none,[]⟩,⟨some 43,.mv (.t 6),none,[]⟩,⟨some 44,.call 237 [(.t 41),(.t 42),(.t 43)],none,[0,1,2]⟩,⟨some 7,.mv (.t 44),none,[3,3,0,1,2,3]⟩]) (.block 0 (.loop
  (.seq (.seq (.reg false [⟨some 45,.mv (.t 7),none,[]⟩,⟨some 46,.bin .gtr (.t 45) (.d (.int .i64 0)),none,[0]⟩]) (.cond (.t 46) .skip (.exit 0))) (.seq (.block 1 (.seq (.reg false [⟨some 49,.mv (.t 6),none,[]⟩,⟨some
  50,.bin .sub (.t 49) (.d (.int .u64 1)),none,[0]⟩,⟨some 6,.mv (.t 50),none,[1,0,1]⟩]) (.seq (.reg false [⟨some 8,.mv (.d (.int .u64 0)),none,[]⟩]) (.seq (.seq (.reg false [⟨some 51,.mv (.t 1),none,[]⟩,⟨some 52,.len (.t
  51),none,[0]⟩,⟨some 53,.mv (.d (.int .i64 0)),none,[]⟩]) (.block 2 (.loop (.seq (.reg false [⟨some 54,.bin .lss (.t 53) (.t 52),none,[]⟩]) (.seq (.cond (.t 54) .skip (.exit 2)) (.seq (.block 3 (.seq (.reg false [⟨some
  55,.mv (.t 53),none,[]⟩,⟨some 56,.ix 1 (.t 51) (.t 53),none,[]⟩,⟨some 57,.load false 1 (.t 56),none,[1]⟩,⟨some 9,.mv (.t 55),none,[0,0,1,2]⟩,⟨some 10,.mv (.t 57),none,[2,3,0,1,2,3]⟩]) (.reg false [⟨some 59,.mv (.t
  0),none,[]⟩,⟨some 60,.mv (.t 9),none,[]⟩,⟨some 61,.mv (.t 0),none,[]⟩,⟨some 62,.mv (.t 9),none,[]⟩,⟨some 63,.ix 1 (.t 61) (.t 62),none,[2,3]⟩,⟨some 64,.load false 1 (.t 63),none,[4]⟩,⟨some 65,.mv (.t 10),none,[]⟩,⟨some
  66,.mv (.t 8),none,[]⟩,⟨some 67,.call 149 [(.t 64),(.t 65),(.t 66)],none,[5,6,7]⟩,⟨some 58,.mv (.t 67),none,[8]⟩,⟨some 68,.ext (.t 58) 0,none,[9]⟩,⟨some 69,.ext (.t 58) 1,none,[9]⟩,⟨some 70,.ix 1 (.t 59) (.t
  60),none,[0,1,0,1,2,3,4,5,6,7,8,9,10]⟩,⟨none,.store 1 (.t 70) (.t 68),none,[12,10,8,0,1,2,3,4,5,6,7,8,9,10]⟩,⟨some 8,.mv (.t 69),none,[11,13,0,1,2,3,4,5,6,7,8,9,10,11,12,13]⟩]))) (.reg false [⟨some 71,.bin .add (.t 53)
  (.d (.int .i64 1)),none,[]⟩,⟨some 53,.mv (.t 71),none,[0]⟩]))))))) (.seq (.reg false [⟨some 72,.mv (.t 0),none,[]⟩,⟨some 73,.mv (.t 5),none,[]⟩,⟨some 74,.ix 1 (.t 72) (.t 73),none,[0,1]⟩,⟨some 75,.load false 1 (.t
  74),none,[2]⟩,⟨some 76,.mv (.t 8),none,[]⟩,⟨some 77,.bin .add (.t 75) (.t 76),none,[3,4]⟩,⟨some 78,.ix 1 (.t 72) (.t 73),none,[0,1,0,1,2,3,4,5]⟩,⟨none,.store 1 (.t 78) (.t 77),none,[6,5,0,1,2,3,4,5]⟩]) (.seq (.reg false
  [⟨some 79,.mv (.t 0),none,[]⟩,⟨some 80,.mv (.t 5),none,[]⟩,⟨some 81,.ix 1 (.t 79) (.t 80),none,[0,1]⟩,⟨some 82,.load false 1 (.t 81),none,[2]⟩,⟨some 83,.bin .neq (.t 82) (.d (.int .u64 0)),none,[3]⟩]) (.cond (.t 83)
  (.reg false [⟨some 84,.mv (.t 7),none,[]⟩,⟨some 85,.bin .add (.t 84) (.d (.int .i64 1)),none,[0]⟩,⟨some 7,.mv (.t 85),none,[1,0,1]⟩]) .skip))))))) (.reg false [⟨some 47,.mv (.t 7),none,[]⟩,⟨some 48,.bin .sub (.t 47) (.d
  (.int .i64 1)),none,[0]⟩,⟨some 7,.mv (.t 48),none,[1,0,1]⟩])))))) (.seq (.reg false [⟨some 86,.mv (.t 6),none,[]⟩,⟨some 4,.mv (.t 86),none,[0,0]⟩]) .ret))))))
theorem r_nat_digit : fnOf Tryz.prog n_nat_digit = some (c_nat_digit, [.t 4], 87, false) := by kernel_rfl

/-- tallymark/nat.Shr -/
abbrev n_nat_Shr : FuncId := 236
def c_nat_Shr : C := (.seq (.reg false [⟨some 2,.box 47 (.t 0),none,[]⟩,⟨some 4,.new 47 [.nilsl],none,[]⟩]) (.seq (.reg false [⟨some 8,.mv (.t 1),none,[]⟩,⟨some 9,.mm true [(.d (.int .i64 0)),(.t 8)],none,[0]⟩,⟨some 1,.mv (.t
  9),none,[1,0,1]⟩]) (.seq (.seq (.reg false [⟨some 10,.mv (.t 1),none,[]⟩,⟨some 11,.bin .quo (.t 10) (.d (.int .i64 64)),none,[0]⟩,⟨some 12,.fa 0 (.t 2),none,[]⟩,⟨some 13,.load false 1 (.t 12),none,[2]⟩,⟨some 14,.len (.t
  13),none,[3]⟩,⟨some 15,.bin .geq (.t 11) (.t 14),none,[1,4]⟩]) (.cond (.t 15) (.seq (.reg false [⟨some 16,.build [.nilsl] [],none,[]⟩,⟨none,.store 1 (.t 4) (.t 16),none,[0,0]⟩]) .ret) .skip)) (.seq (.reg false [⟨some
  17,.fa 0 (.t 2),none,[]⟩,⟨some 18,.load false 1 (.t 17),none,[0]⟩,⟨some 19,.mv (.t 1),none,[]⟩,⟨some 20,.bin .quo (.t 19) (.d (.int .i64 64)),none,[2]⟩,⟨some 21,.slice 1 (.t 18) (some (.t 20)) none
  none,none,[1,3]⟩,⟨some 22,.call 150 [(.t 21)],none,[4]⟩,⟨some 5,.mv (.t 22),none,[5,5,0,1,2,3,4,5]⟩]) (.seq (.seq (.reg false [⟨some 23,.mv (.t 1),none,[]⟩,⟨some 24,.bin .rem (.t 23) (.d (.int .i64 64)),none,[0]⟩,⟨some
  6,.mv (.d (.int .i64 0)),none,[]⟩,⟨some 7,.mv (.t 24),none,[1,2,0,1,2]⟩]) (.block 0 (.loop (.seq (.seq (.reg false [⟨some 25,.mv (.t 6),none,[]⟩,⟨some 26,.mv (.t 5),none,[]⟩,⟨some 27,.len (.t 26),none,[1]⟩,⟨some 28,.bin
  .lss (.t 25) (.t 27),none,[0,2]⟩]) (.cond (.t 28) .skip (.exit 0))) (.seq (.block 1 (.seq (.reg false [⟨some 31,.mv (.t 5),none,[]⟩,⟨some 32,.mv (.t 6),none,[]⟩,⟨some 33,.ix 1 (.t 31) (.t 32),none,[0,1]⟩,⟨some 34,.load
  false 1 (.t 33),none,[2]⟩,⟨some 35,.mv (.t 7),none,[]⟩,⟨some 36,.bin .shr (.t 34) (.t 35),none,[3,4]⟩,⟨some 37,.ix 1 (.t 31) (.t 32),none,[0,1,0,1,2,3,4,5]⟩,⟨none,.store 1 (.t 37) (.t 36),none,[6,5,0,1,2,3,4,5]⟩]) (.seq
  (.reg false [⟨some 38,.mv (.t 6),none,[]⟩,⟨some 39,.bin .add (.t 38) (.d (.int .i64 1)),none,[0]⟩,⟨some 40,.mv (.t 5),none,[]⟩,⟨some 41,.len (.t 40),none,[2]⟩,⟨some 42,.bin .lss (.t 39) (.t 41),none,[1,3]⟩]) (.cond (.t
  42) (.reg true [⟨some 43,.mv (.t 5),none,[]⟩,⟨some 44,.mv (.t 6),none,[]⟩,⟨some 45,.ix 1 (.t 43) (.t 44),none,[0,1]⟩,⟨some 46,.load false 1 (.t 45),none,[2]⟩,⟨some 47,.mv (.t 5),none,[]⟩,⟨some 48,.mv (.t
  6),none,[]⟩,⟨some 49,.bin .add (.t 48) (.d (.int .i64 1)),none,[5]⟩,⟨some 50,.ix 1 (.t 47) (.t 49),none,[4,6]⟩,⟨some 51,.load false 1 (.t 50),none,[7]⟩,⟨some 52,.mv (.t 7),none,[]⟩,⟨some 53,.bin .sub (.d (.int .i64 64))
  (.t 52),none,[9]⟩,⟨some 54,.bin .shl (.t 51) (.t 53),none,[8,10]⟩,⟨some 55,.bin .or (.t 46) (.t 54),none,[3,11]⟩,⟨some 56,.ix 1 (.t 43) (.t 44),none,[0,1,0,1,2,3,4,5,6,7,8,9,10,11,12]⟩,⟨none,.store 1 (.t 56) (.t
  55),none,[13,12,0,1,2,3,4,5,6,7,8,9,10,11,12]⟩]) .skip)))) (.reg false [⟨some 29,.mv (.t 6),none,[]⟩,⟨some 30,.bin .add (.t 29) (.d (.int .i64 1)),none,[0]⟩,⟨some 6,.mv (.t 30),none,[1,0,1]⟩])))))) (.seq (.reg false
  [⟨some 57,.mv (.t 5),none,[]⟩,⟨some 58,.call 112 [(.t 57)],none,[0]⟩,⟨none,.store 1 (.t 4) (.t 58),none,[1,1,0,1]⟩]) .ret))))))
theorem r_nat_Shr : fnOf Tryz.prog n_nat_Shr = some (c_nat_Shr, [.cell 4 true 1], 59, false) := by kernel_rfl

/-- tallymark/nat.take -/
abbrev n_nat_take : FuncId := 237
def c_nat_take : C := (.seq (.reg false [⟨some 6,.mv (.d (.int .i64 0)),none,[]⟩]) (.seq (.reg false [⟨some 7,.mv (.d (.int .u64 0)),none,[]⟩,⟨some 8,.mv (.d (.int .u64 0)),none,[0]⟩]) (.seq (.seq (.reg false [⟨some 15,.mv (.t
  1),none,[]⟩,⟨some 16,.len (.t 15),none,[0]⟩,⟨some 17,.mv (.d (.int .i64 0)),none,[]⟩]) (.block 0 (.loop (.seq (.reg false [⟨some 18,.bin .lss (.t 17) (.t 16),none,[]⟩]) (.seq (.cond (.t 18) .skip (.exit 0)) (.seq
  (.block 1 (.seq (.reg false [⟨some 19,.mv (.t 17),none,[]⟩,⟨some 20,.ix 1 (.t 15) (.t 17),none,[]⟩,⟨some 21,.load false 1 (.t 20),none,[1]⟩,⟨some 9,.mv (.t 19),none,[0,0,1,2]⟩,⟨some 10,.mv (.t 21),none,[2,3,0,1,2,3]⟩])
  (.seq (.reg false [⟨some 23,.mv (.t 10),none,[]⟩,⟨some 24,.mv (.t 2),none,[]⟩,⟨some 25,.call 148 [(.t 23),(.t 24)],none,[0,1]⟩,⟨some 22,.mv (.t 25),none,[2]⟩,⟨some 26,.ext (.t 22) 0,none,[3]⟩,⟨some 27,.ext (.t 22)
  1,none,[3]⟩,⟨some 11,.mv (.t 26),none,[4,2,0,1,2,3,4]⟩,⟨some 12,.mv (.t 27),none,[5,6,0,1,2,3,4,5,6]⟩]) (.seq (.reg false [⟨some 13,.mv (.d (.int .u64 0)),none,[]⟩]) (.seq (.reg false [⟨some 29,.mv (.t
  12),none,[]⟩,⟨some 30,.mv (.t 7),none,[]⟩,⟨some 31,.call 149 [(.t 29),(.t 30),(.d (.int .u64 0))],none,[0,1]⟩,⟨some 28,.mv (.t 31),none,[2]⟩,⟨some 32,.ext (.t 28) 0,none,[3]⟩,⟨some 33,.ext (.t 28) 1,none,[3]⟩,⟨some
  12,.mv (.t 32),none,[4,2,0,1,2,3,4]⟩,⟨some 13,.mv (.t 33),none,[5,6,0,1,2,3,4,5,6]⟩]) (.seq (.reg false [⟨some 34,.mv (.t 11),none,[]⟩,⟨some 35,.mv (.t 13),none,[]⟩,⟨some 36,.bin .add (.t 34) (.t 35),none,[0,1]⟩,⟨some
  7,.mv (.t 36),none,[2,0,1,2]⟩]) (.reg false [⟨some 38,.mv (.t 0),none,[]⟩,⟨some 39,.mv (.t 9),none,[]⟩,⟨some 40,.mv (.t 0),none,[]⟩,⟨some 41,.mv (.t 9),none,[]⟩,⟨some 42,.ix 1 (.t 40) (.t 41),none,[2,3]⟩,⟨some 43,.load
  false 1 (.t 42),none,[4]⟩,⟨some 44,.mv (.t 12),none,[]⟩,⟨some 45,.mv (.t 8),none,[]⟩,⟨some 46,.call 234 [(.t 43),(.t 44),(.t 45)],none,[5,6,7]⟩,⟨some 37,.mv (.t 46),none,[8]⟩,⟨some 47,.ext (.t 37) 0,none,[9]⟩,⟨some
  48,.ext (.t 37) 1,none,[9]⟩,⟨some 49,.ix 1 (.t 38) (.t 39),none,[0,1,0,1,2,3,4,5,6,7,8,9,10]⟩,⟨none,.store 1 (.t 49) (.t 47),none,[12,10,8,0,1,2,3,4,5,6,7,8,9,10]⟩,⟨some 8,.mv (.t
  48),none,[11,13,0,1,2,3,4,5,6,7,8,9,10,11,12,13]⟩]))))))) (.reg false [⟨some 50,.bin .add (.t 17) (.d (.int .i64 1)),none,[]⟩,⟨some 17,.mv (.t 50),none,[0]⟩]))))))) (.seq (.reg false [⟨some 51,.mv (.t 1),none,[]⟩,⟨some
  52,.len (.t 51),none,[0]⟩,⟨some 14,.mv (.t 52),none,[1,0,1]⟩]) (.seq (.reg false [⟨some 54,.mv (.t 0),none,[]⟩,⟨some 55,.mv (.t 14),none,[]⟩,⟨some 56,.mv (.t 0),none,[]⟩,⟨some 57,.mv (.t 14),none,[]⟩,⟨some 58,.ix 1 (.t
  56) (.t 57),none,[2,3]⟩,⟨some 59,.load false 1 (.t 58),none,[4]⟩,⟨some 60,.mv (.t 7),none,[]⟩,⟨some 61,.mv (.t 8),none,[]⟩,⟨some 62,.call 234 [(.t 59),(.t 60),(.t 61)],none,[5,6,7]⟩,⟨some 53,.mv (.t 62),none,[8]⟩,⟨some
  63,.ext (.t 53) 0,none,[9]⟩,⟨some 64,.ext (.t 53) 1,none,[9]⟩,⟨some 65,.ix 1 (.t 54) (.t 55),none,[0,1,0,1,2,3,4,5,6,7,8,9,10]⟩,⟨none,.store 1 (.t 65) (.t 63),none,[12,10,8,0,1,2,3,4,5,6,7,8,9,10]⟩,⟨some 8,.mv (.t
  64),none,[11,13,0,1,2,3,4,5,6,7,8,9,10,11,12,13]⟩]) (.seq (.reg false [⟨some 66,.mv (.t 8),none,[]⟩,⟨some 67,.conv .i64 (.t 66),none,[0]⟩,⟨some 6,.mv (.t 67),none,[1,0,1]⟩]) .ret))))))
theorem r_nat_take : fnOf Tryz.prog n_nat_take = some (c_nat_take, [.t 6], 68, false) := by kernel_rfl

/-- (tallymark/chain.aFloat).good -/
abbrev n_chain_aFloat_good : FuncId := 240
def c_chain_aFloat_good : C := (.seq (.reg false [⟨some 2,.mv (.d (.bool false)),none,[]⟩]) (.seq (.reg false [⟨some 3,.mv (.t 0),none,[]⟩,⟨some 4,.call 245 [(.t 3)],none,[0]⟩,⟨some 2,.mv (.t 4),none,[1,1,0,1]⟩]) .ret))
theorem r_chain_aFloat_good : fnOf Tryz.prog n_chain_aFloat_good = some (c_chain_aFloat_good, [.t 2], 5, false) := by kernel_rfl

/-- (tallymark/chain.aFloat).step -/
abbrev n_chain_aFloat_step : FuncId := 242
def c_chain_aFloat_step : C := (.seq (.reg false [⟨some 6,.mv (.d (.bool false)),none,[]⟩,⟨some 7,.mv (.d (.int .i64 0)),none,[0]⟩]) (.seq (.reg false [⟨some 8,.mv (.t 1),none,[]⟩,⟨some 9,.mv (.t 0),none,[]⟩,⟨some 10,.mv (.t 2),none,[]⟩,⟨some
  11,.call 246 [(.t 8),(.t 9),(.t 10)],none,[0,1,2]⟩,⟨some 12,.ext (.t 11) 0,none,[3]⟩,⟨some 13,.ext (.t 11) 1,none,[3]⟩,⟨some 6,.mv (.t 12),none,[4,3,0,1,2,3,4,5]⟩,⟨some 7,.mv (.t 13),none,[5,6,0,1,2,3,4,5,6]⟩]) .ret))
theorem r_chain_aFloat_step : fnOf Tryz.prog n_chain_aFloat_step = some (c_chain_aFloat_step, [.t 6, .t 7], 14, false) := by kernel_rfl

/-- (tallymark/chain.aFloat).value -/
abbrev n_chain_aFloat_value : FuncId := 243
def c_chain_aFloat_value : C := (.seq (.reg false [⟨some 4,.new 51 [.nilsl,(.bool false),.nilsl],none,[]⟩,⟨some 5,.mv (.d (.int .i64 0)),none,[]⟩]) (.seq (.reg false [⟨some 9,.mv (.t 0),none,[]⟩,⟨some 10,.mv (.t 1),none,[]⟩,⟨some 11,.call 247 [(.t
  9),(.t 10)],none,[0,1]⟩,⟨some 8,.mv (.t 11),none,[2]⟩,⟨some 12,.ext (.t 8) 0,none,[3]⟩,⟨some 13,.ext (.t 8) 1,none,[3]⟩,⟨some 6,.new 47 [.nilsl],none,[]⟩,⟨none,.store 1 (.t 6) (.t 12),none,[6,4,2,0,1,2,3,4,6]⟩,⟨some
  7,.mv (.t 13),none,[5,7,0,1,2,3,4,5,6,7]⟩]) (.seq (.reg false [⟨some 14,.load true 1 (.t 6),none,[]⟩,⟨some 15,.call 70 [(.t 14)],none,[0]⟩,⟨some 16,.mv (.t 7),none,[]⟩,⟨none,.store 3 (.t 4) (.t 15),none,[1,1,0,1]⟩,⟨some
  5,.mv (.t 16),none,[2,3,0,1,2,3]⟩]) .ret)))
theorem r_chain_aFloat_value : fnOf Tryz.prog n_chain_aFloat_value = some (c_chain_aFloat_value, [.cell 4 true 3, .t 5], 17, false) := by kernel_rfl

/-- tallymark/float.Good -/
abbrev n_float_Good : FuncId := 245
def c_float_Good : C := (.seq (.reg false [⟨some 2,.mv (.d (.bool false)),none,[]⟩]) (.seq (.reg false [⟨some 3,.mv (.t 0),none,[]⟩,⟨some 4,.bin .geq (.t 3) (.d (.int .i64 0)),none,[0]⟩,⟨some 5,.mv (.t 4),none,[1]⟩,⟨some 6,.mv (.t 0),some
  (5,true),[2]⟩,⟨some 7,.bin .leq (.t 6) (.d (.int .i64 8)),some (5,true),[3,2]⟩,⟨some 8,.pick (.t 5) (.t 7) (.d (.bool false)),none,[2,4]⟩,⟨some 2,.mv (.t 8),none,[5,2,0,1,2,3,4,5]⟩]) .ret))
theorem r_float_Good : fnOf Tryz.prog n_float_Good = some (c_float_Good, [.t 2], 9, false) := by kernel_rfl

/-- tallymark/float.Step -/
abbrev n_float_Step : FuncId := 246
def c_float_Step : C := (.seq (.reg false [⟨some 6,.mv (.d (.bool false)),none,[]⟩,⟨some 7,.mv (.d (.int .i64 0)),none,[0]⟩]) (.seq (.seq (.reg false [⟨some 11,.mv (.t 1),none,[]⟩,⟨some 12,.mv (.t 2),none,[]⟩,⟨some 13,.bsl 3 1 1 [(.int .i64
  0)] [(0,1,(.t 12))],none,[1]⟩,⟨some 14,.call 248 [(.t 11),(.t 13)],none,[0,2]⟩,⟨some 8,.mv (.t 14),none,[3,3,0,1,2,3]⟩]) (.seq (.reg false [⟨some 15,.mv (.t 8),none,[]⟩,⟨some 16,.bin .neq (.t 15) (.d (.int .i64
  0)),none,[0]⟩]) (.cond (.t 16) (.seq (.reg false [⟨some 17,.mv (.t 8),none,[]⟩,⟨some 6,.mv (.d (.bool false)),none,[]⟩,⟨some 7,.mv (.t 17),none,[0,1,0,1]⟩]) .ret) .skip))) (.seq (.reg false [⟨some 19,.mv (.t
  1),none,[]⟩,⟨some 20,.mv (.t 2),none,[]⟩,⟨some 21,.call 249 [(.t 19),(.t 20)],none,[0,1]⟩,⟨some 18,.mv (.t 21),none,[2]⟩,⟨some 22,.ext (.t 18) 0,none,[3]⟩,⟨some 23,.ext (.t 18) 1,none,[3]⟩,⟨some 9,.mv (.t
  22),none,[4,2,0,1,2,3,4]⟩,⟨some 10,.mv (.t 23),none,[5,6,0,1,2,3,4,5,6]⟩]) (.seq (.reg false [⟨some 24,.mv (.t 0),none,[]⟩,⟨some 25,.mv (.t 9),none,[]⟩,⟨some 26,.call 164 [(.t 24),(.t 25)],none,[0,1]⟩,⟨some 27,.ext (.t
  26) 0,none,[2]⟩,⟨some 28,.ext (.t 26) 1,none,[2]⟩,⟨some 6,.mv (.t 27),none,[3,2,0,1,2,3,4]⟩,⟨some 7,.mv (.t 28),none,[4,5,0,1,2,3,4,5]⟩]) .ret))))
theorem r_float_Step : fnOf Tryz.prog n_float_Step = some (c_float_Step, [.t 6, .t 7], 29, false) := by kernel_rfl

/-- tallymark/float.Value -/
abbrev n_float_Value : FuncId := 247
def c_float_Value : C := (.seq (.reg false [⟨some 4,.new 47 [.nilsl],none,[]⟩,⟨some 5,.mv (.d (.int .i64 0)),none,[]⟩]) (.seq (.seq (.reg false [⟨some 11,.mv (.t 0),none,[]⟩,⟨some 12,.mv (.t 1),none,[]⟩,⟨some 13,.bsl 3 1 1 [(.int .i64 0)]
  [(0,1,(.t 12))],none,[1]⟩,⟨some 14,.call 248 [(.t 11),(.t 13)],none,[0,2]⟩,⟨some 6,.mv (.t 14),none,[3,3,0,1,2,3]⟩]) (.seq (.reg false [⟨some 15,.mv (.t 6),none,[]⟩,⟨some 16,.bin .neq (.t 15) (.d (.int .i64
  0)),none,[0]⟩]) (.cond (.t 16) (.seq (.reg false [⟨some 17,.build [.nilsl] [],none,[]⟩,⟨some 18,.mv (.t 6),none,[]⟩,⟨none,.store 1 (.t 4) (.t 17),none,[0,0]⟩,⟨some 5,.mv (.t 18),none,[1,2,0,1,2]⟩]) .ret) .skip))) (.seq
  (.reg false [⟨some 20,.mv (.t 0),none,[]⟩,⟨some 21,.mv (.t 1),none,[]⟩,⟨some 22,.call 249 [(.t 20),(.t 21)],none,[0,1]⟩,⟨some 19,.mv (.t 22),none,[2]⟩,⟨some 23,.ext (.t 19) 0,none,[3]⟩,⟨some 24,.ext (.t 19)
  1,none,[3]⟩,⟨some 7,.mv (.t 23),none,[4,2,0,1,2,3,4]⟩,⟨some 8,.mv (.t 24),none,[5,6,0,1,2,3,4,5,6]⟩]) (.seq (.reg false [⟨some 26,.mv (.t 0),none,[]⟩,⟨some 27,.bin .shl (.d (.int .i64 1)) (.t 26),none,[0]⟩,⟨some 28,.mv
  (.t 8),none,[]⟩,⟨some 29,.bin .add (.t 27) (.t 28),none,[1,2]⟩,⟨some 30,.conv .u64 (.t 29),none,[3]⟩,⟨some 31,.bsl 28 1 1 [(.int .u64 0)] [(0,1,(.t 30))],none,[4]⟩,⟨some 32,.call 108 [(.t 31)],none,[5]⟩,⟨some 33,.mv (.t
  7),none,[]⟩,⟨some 34,.call 120 [(.t 32),(.t 33)],none,[6,7,6]⟩,⟨some 25,.mv (.t 34),none,[8]⟩,⟨some 35,.ext (.t 25) 0,none,[9]⟩,⟨some 36,.ext (.t 25) 1,none,[9]⟩,⟨some 9,.new 47 [.nilsl],none,[]⟩,⟨none,.store 1 (.t 9)
  (.t 35),none,[12,10,8,0,1,2,3,4,5,6,7,8,9,10,12]⟩,⟨some 10,.mv (.t 36),none,[11,13,0,1,2,3,4,5,6,7,8,9,10,11,12,13]⟩]) (.seq (.reg true [⟨some 37,.load true 1 (.t 9),none,[]⟩,⟨some 38,.mv (.t 0),none,[]⟩,⟨some 39,.bin
  .shl (.d (.int .u64 1)) (.t 38),none,[1]⟩,⟨some 40,.bsl 28 1 1 [(.int .u64 0)] [(0,1,(.t 39))],none,[2]⟩,⟨some 41,.call 108 [(.t 40)],none,[3]⟩,⟨some 42,.call 231 [(.t 37),(.t 41)],none,[0,4,4]⟩,⟨some 43,.ext (.t 42)
  0,none,[5]⟩,⟨some 44,.ext (.t 42) 1,none,[5]⟩,⟨none,.store 1 (.t 4) (.t 43),none,[6,5,0,1,2,3,4,5,6,7]⟩,⟨some 5,.mv (.t 44),none,[7,8,0,1,2,3,4,5,6,7,8]⟩]) .ret)))))
theorem r_float_Value : fnOf Tryz.prog n_float_Value = some (c_float_Value, [.cell 4 true 1, .t 5], 45, false) := by kernel_rfl

/-- tallymark/float.wrong -/
abbrev n_float_wrong : FuncId := 248
def c_float_wrong : C := (.seq (.reg false [⟨some 4,.mv (.d (.int .i64 0)),none,[]⟩]) (.seq (.seq (.reg false [⟨some 7,.mv (.t 0),none,[]⟩,⟨some 8,.call 245 [(.t 7)],none,[0]⟩,⟨some 9,.un .not (.t 8),none,[1]⟩]) (.cond (.t 9) (.seq (.reg false
  [⟨some 4,.mv (.d (.int .i64 10)),none,[]⟩]) .ret) .skip)) (.seq (.seq (.reg false [⟨some 10,.mv (.t 1),none,[]⟩,⟨some 11,.len (.t 10),none,[0]⟩,⟨some 12,.mv (.d (.int .i64 0)),none,[]⟩]) (.block 0 (.loop (.seq (.reg
  false [⟨some 13,.bin .lss (.t 12) (.t 11),none,[]⟩]) (.seq (.cond (.t 13) .skip (.exit 0)) (.seq (.block 1 (.seq (.reg false [⟨some 14,.ix 1 (.t 10) (.t 12),none,[]⟩,⟨some 15,.load false 1 (.t 14),none,[0]⟩,⟨some 6,.mv
  (.t 15),none,[1,0,1]⟩]) (.seq (.reg false [⟨some 16,.mv (.t 6),none,[]⟩,⟨some 17,.bin .lss (.t 16) (.d (.int .i64 0)),none,[0]⟩,⟨some 18,.mv (.t 17),none,[1]⟩,⟨some 19,.mv (.t 6),some (18,false),[2]⟩,⟨some 20,.bin .gtr
  (.t 19) (.d (.int .i64 1023)),some (18,false),[3,2]⟩,⟨some 21,.pick (.t 18) (.d (.bool true)) (.t 20),none,[2,4]⟩]) (.cond (.t 21) (.seq (.reg false [⟨some 4,.mv (.d (.int .i64 2)),none,[]⟩]) .ret) .skip)))) (.reg false
  [⟨some 22,.bin .add (.t 12) (.d (.int .i64 1)),none,[]⟩,⟨some 12,.mv (.t 22),none,[0]⟩]))))))) (.seq (.reg false [⟨some 4,.mv (.d (.int .i64 0)),none,[]⟩]) .ret))))
theorem r_float_wrong : fnOf Tryz.prog n_float_wrong = some (c_float_wrong, [.t 4], 23, false) := by kernel_rfl

/-- tallymark/float.parts -/
abbrev n_float_parts : FuncId := 249
def c_float_parts : C := (.seq (.reg false [⟨some 4,.mv (.d (.int .i64 0)),none,[]⟩,⟨some 5,.mv (.d (.int .i64 0)),none,[0]⟩]) (.seq (.reg true [⟨some 6,.mv (.t 1),none,[]⟩,⟨some 7,.mv (.t 0),none,[]⟩,⟨some 8,.bin .shr (.t 6) (.t
  7),none,[0,1]⟩,⟨some 9,.mv (.t 1),none,[]⟩,⟨some 10,.mv (.t 0),none,[]⟩,⟨some 11,.bin .shl (.d (.int .i64 1)) (.t 10),none,[4]⟩,⟨some 12,.bin .sub (.t 11) (.d (.int .i64 1)),none,[5]⟩,⟨some 13,.bin .and (.t 9) (.t
  12),none,[3,6]⟩,⟨some 4,.mv (.t 8),none,[2,0,1,2]⟩,⟨some 5,.mv (.t 13),none,[7,8,0,1,2,3,4,5,6,7,8]⟩]) .ret))
theorem r_float_parts : fnOf Tryz.prog n_float_parts = some (c_float_parts, [.t 4, .t 5], 14, false) := by kernel_rfl

/-- (tallymark/chain.aYu).good -/
abbrev n_chain_aYu_good : FuncId := 252
def c_chain_aYu_good : C := (.seq (.reg false [⟨some 2,.mv (.d (.bool false)),none,[]⟩]) (.seq (.reg false [⟨some 3,.mv (.t 0),none,[]⟩,⟨some 4,.call 257 [(.t 3)],none,[0]⟩,⟨some 2,.mv (.t 4),none,[1,1,0,1]⟩]) .ret))
theorem r_chain_aYu_good : fnOf Tryz.prog n_chain_aYu_good = some (c_chain_aYu_good, [.t 2], 5, false) := by kernel_rfl

/-- (tallymark/chain.aYu).step -/
abbrev n_chain_aYu_step : FuncId := 254
def c_chain_aYu_step : C := (.seq (.reg false [⟨some 6,.mv (.d (.bool false)),none,[]⟩,⟨some 7,.mv (.d (.int .i64 0)),none,[0]⟩]) (.seq (.reg false [⟨some 8,.mv (.t 1),none,[]⟩,⟨some 9,.mv (.t 0),none,[]⟩,⟨some 10,.mv (.t 2),none,[]⟩,⟨some
  11,.call 258 [(.t 8),(.t 9),(.t 10)],none,[0,1,2]⟩,⟨some 12,.ext (.t 11) 0,none,[3]⟩,⟨some 13,.ext (.t 11) 1,none,[3]⟩,⟨some 6,.mv (.t 12),none,[4,3,0,1,2,3,4,5]⟩,⟨some 7,.mv (.t 13),none,[5,6,0,1,2,3,4,5,6]⟩]) .ret))
theorem r_chain_aYu_step : fnOf Tryz.prog n_chain_aYu_step = some (c_chain_aYu_step, [.t 6, .t 7], 14, false) := by kernel_rfl

/-- (tallymark/chain.aYu).value -/
abbrev n_chain_aYu_value : FuncId := 255
def c_chain_aYu_value : C := (.seq (.reg false [⟨some 4,.new 51 [.nilsl,(.bool false),.nilsl],none,[]⟩,⟨some 5,.mv (.d (.int .i64 0)),none,[]⟩]) (.seq (.reg false [⟨some 9,.mv (.t 0),none,[]⟩,⟨some 10,.mv (.t 1),none,[]⟩,⟨some 11,.call 259 [(.t
  9),(.t 10)],none,[0,1]⟩,⟨some 8,.mv (.t 11),none,[2]⟩,⟨some 12,.ext (.t 8) 0,none,[3]⟩,⟨some 13,.ext (.t 8) 1,none,[3]⟩,⟨some 6,.new 303 [(.int .i64 0),(.int .i64 0),.nilsl,.nilsl],none,[]⟩,⟨none,.store 4 (.t 6) (.t
  12),none,[6,4,2,0,1,2,3,4,6]⟩,⟨some 7,.mv (.t 13),none,[5,7,0,1,2,3,4,5,6,7]⟩]) (.seq (.reg false [⟨some 14,.fa 2 (.t 6),none,[]⟩,⟨some 15,.load true 1 (.t 14),none,[0]⟩,⟨some 16,.call 70 [(.t 15)],none,[1]⟩,⟨some
  17,.mv (.t 7),none,[]⟩,⟨none,.store 3 (.t 4) (.t 16),none,[2,2,0,1,2]⟩,⟨some 5,.mv (.t 17),none,[3,4,0,1,2,3,4]⟩]) .ret)))
theorem r_chain_aYu_value : fnOf Tryz.prog n_chain_aYu_value = some (c_chain_aYu_value, [.cell 4 true 3, .t 5], 18, false) := by kernel_rfl

/-- tallymark/yu.Good -/
abbrev n_yu_Good : FuncId := 257
def c_yu_Good : C := (.seq (.reg false [⟨some 2,.mv (.d (.bool false)),none,[]⟩]) (.seq (.reg false [⟨some 3,.mv (.t 0),none,[]⟩,⟨some 4,.bin .geq (.t 3) (.d (.int .i64 1)),none,[0]⟩,⟨some 5,.mv (.t 4),none,[1]⟩,⟨some 6,.mv (.t 0),some
  (5,true),[2]⟩,⟨some 7,.bin .leq (.t 6) (.d (.int .i64 5)),some (5,true),[3,2]⟩,⟨some 8,.pick (.t 5) (.t 7) (.d (.bool false)),none,[2,4]⟩,⟨some 2,.mv (.t 8),none,[5,2,0,1,2,3,4,5]⟩]) .ret))
theorem r_yu_Good : fnOf Tryz.prog n_yu_Good = some (c_yu_Good, [.t 2], 9, false) := by kernel_rfl

/-- tallymark/yu.Step -/
abbrev n_yu_Step : FuncId := 258
def c_yu_Step : C := (.seq (.reg false [⟨some 6,.mv (.d (.bool false)),none,[]⟩,⟨some 7,.mv (.d (.int .i64 0)),none,[0]⟩]) (.seq (.reg false [⟨some 11,.mv (.t 1),none,[]⟩,⟨some 12,.mv (.t 2),none,[]⟩,⟨some 13,.call 259 [(.t 11),(.t
  12)],none,[0,1]⟩,⟨some 10,.mv (.t 13),none,[2]⟩,⟨some 14,.ext (.t 10) 0,none,[3]⟩,⟨some 15,.ext (.t 10) 1,none,[3]⟩,⟨some 8,.new 303 [(.int .i64 0),(.int .i64 0),.nilsl,.nilsl],none,[]⟩,⟨none,.store 4 (.t 8) (.t
  14),none,[6,4,2,0,1,2,3,4,6]⟩,⟨some 9,.mv (.t 15),none,[5,7,0,1,2,3,4,5,6,7]⟩]) (.seq (.seq (.reg false [⟨some 16,.mv (.t 9),none,[]⟩,⟨some 17,.bin .neq (.t 16) (.d (.int .i64 0)),none,[0]⟩]) (.cond (.t 17) (.seq (.reg
  false [⟨some 18,.mv (.t 9),none,[]⟩,⟨some 6,.mv (.d (.bool false)),none,[]⟩,⟨some 7,.mv (.t 18),none,[0,1,0,1]⟩]) .ret) .skip)) (.seq (.reg false [⟨some 19,.mv (.t 0),none,[]⟩,⟨some 20,.fa 1 (.t 8),none,[]⟩,⟨some
  21,.load false 1 (.t 20),none,[1]⟩,⟨some 22,.call 164 [(.t 19),(.t 21)],none,[0,2]⟩,⟨some 23,.ext (.t 22) 0,none,[3]⟩,⟨some 24,.ext (.t 22) 1,none,[3]⟩,⟨some 6,.mv (.t 23),none,[4,3,0,1,2,3,4,5]⟩,⟨some 7,.mv (.t
  24),none,[5,6,0,1,2,3,4,5,6]⟩]) .ret))))
theorem r_yu_Step : fnOf Tryz.prog n_yu_Step = some (c_yu_Step, [.t 6, .t 7], 25, false) := by kernel_rfl

/-- tallymark/yu.At -/
abbrev n_yu_At : FuncId := 259
def c_yu_At : C := (.seq (.reg false [⟨some 3,.box 3 (.t 1),none,[]⟩,⟨some 4,.new 303 [(.int .i64 0),(.int .i64 0),.nilsl,.nilsl],none,[]⟩,⟨some 5,.mv (.d (.int .i64 0)),none,[]⟩]) (.seq (.block 0 (.seq (.reg false [⟨some 10,.mv (.t
  0),none,[]⟩,⟨some 11,.call 257 [(.t 10)],none,[0]⟩,⟨some 12,.un .not (.t 11),none,[1]⟩,⟨some 9,.mv (.t 12),none,[2,1]⟩]) (.cond (.t 9) (.seq (.reg false [⟨some 13,.build [(.int .i64 0),(.int .i64 0),.nilsl,.nilsl]
  [],none,[]⟩,⟨none,.store 4 (.t 4) (.t 13),none,[0,0]⟩,⟨some 5,.mv (.d (.int .i64 10)),none,[1,0,1]⟩]) .ret) (.seq (.reg false [⟨some 15,.load false 1 (.t 3),none,[]⟩,⟨some 16,.bin .lss (.t 15) (.d (.int .i64
  0)),none,[0]⟩,⟨some 17,.mv (.t 16),none,[1]⟩,⟨some 18,.load false 1 (.t 3),some (17,false),[2]⟩,⟨some 19,.bin .gtr (.t 18) (.d (.int .i64 1023)),some (17,false),[3,2]⟩,⟨some 20,.pick (.t 17) (.d (.bool true)) (.t
  19),none,[2,4]⟩,⟨some 14,.mv (.t 20),none,[5,2]⟩]) (.cond (.t 14) (.seq (.reg false [⟨some 21,.build [(.int .i64 0),(.int .i64 0),.nilsl,.nilsl] [],none,[]⟩,⟨none,.store 4 (.t 4) (.t 21),none,[0,0]⟩,⟨some 5,.mv (.d
  (.int .i64 2)),none,[1,0,1]⟩]) .ret) .skip))))) (.seq (.reg false [⟨some 6,.new 303 [(.int .i64 0),(.int .i64 0),.nilsl,.nilsl],none,[]⟩]) (.seq (.seq (.reg false [⟨some 22,.mv (.t 0),none,[]⟩,⟨some 23,.call 260 [(.t
  22)],none,[0]⟩]) (.block 1 .bad)) (.seq (.reg false [⟨some 30,.load true 4 (.t 6),none,[]⟩,⟨none,.store 4 (.t 4) (.t 30),none,[0,0]⟩,⟨some 5,.mv (.d (.int .i64 0)),none,[1,0,1]⟩]) .ret)))))
theorem r_yu_At : fnOf Tryz.prog n_yu_At = some (c_yu_At, [.cell 4 true 4, .t 5], 31, false) := by kernel_rfl

/-- tallymark/yu.walk -/
abbrev n_yu_walk : FuncId := 260
def c_yu_walk : C := (.seq (.reg false [⟨some 1,.box 3 (.t 0),none,[]⟩,⟨some 2,.mv (.d .nilfn),none,[]⟩]) (.seq (.reg false [⟨some 3,.mkf (.func 261) [(.t 1)],none,[]⟩,⟨some 2,.mv (.t 3),none,[0,0]⟩]) .ret))
theorem r_yu_walk : fnOf Tryz.prog n_yu_walk = some (c_yu_walk, [.t 2], 4, false) := by kernel_rfl

/-- tallymark/yu.walk$1 -/
abbrev n_yu_walk_1 : FuncId := 261
def c_yu_walk_1 : C := (.seq (.reg false [⟨some 5,.load false 1 (.t 1),none,[]⟩,⟨some 6,.bin .mul (.d (.int .i64 2)) (.t 5),none,[0]⟩,⟨some 7,.bin .shl (.d (.int .u64 1)) (.t 6),none,[1]⟩,⟨some 8,.bsl 28 1 1 [(.int .u64 0)] [(0,1,(.t
  7))],none,[2]⟩,⟨some 9,.call 108 [(.t 8)],none,[3]⟩,⟨some 10,.build [(.int .i64 0),(.int .i64 0),.nilsl,.nilsl] [(3,1,(.t 9))],none,[4]⟩,⟨some 3,.new 303 [(.int .i64 0),(.int .i64 0),.nilsl,.nilsl],none,[]⟩,⟨none,.store
  4 (.t 3) (.t 10),none,[6,5,4,0,1,2,3,4,5,6]⟩]) (.seq (.reg false [⟨some 4,.mv (.d (.int .i64 0)),none,[]⟩]) (.block 0 (.loop (.seq (.seq (.reg false [⟨some 11,.mv (.t 4),none,[]⟩,⟨some 12,.bin .leq (.t 11) (.d (.int
  .i64 1023)),none,[0]⟩]) (.cond (.t 12) .skip (.exit 0))) (.seq (.block 1 (.seq (.seq (.reg false [⟨some 15,.mv (.t 0),none,[]⟩,⟨some 16,.mv (.t 4),none,[]⟩,⟨some 17,.load true 4 (.t 3),none,[]⟩,⟨some 18,.callv (.t 15)
  [(.t 16),(.t 17)],none,[0,1,2]⟩,⟨some 19,.un .not (.t 18),none,[3]⟩]) (.cond (.t 19) .ret .skip)) (.reg false [⟨some 20,.load true 4 (.t 3),none,[]⟩,⟨some 21,.load false 1 (.t 1),none,[]⟩,⟨some 22,.call 262 [(.t 20),(.t
  21)],none,[0,1]⟩,⟨none,.store 4 (.t 3) (.t 22),none,[2,2,0,1,2]⟩]))) (.reg false [⟨some 13,.mv (.t 4),none,[]⟩,⟨some 14,.bin .add (.t 13) (.d (.int .i64 1)),none,[0]⟩,⟨some 4,.mv (.t 14),none,[1,0,1]⟩])))))))
/-- (tallymark/yu.Place).next -/
abbrev n_yu_Place_next : FuncId := 262
def c_yu_Place_next : C := (.seq (.reg false [⟨some 2,.box 303 (.t 0),none,[]⟩,⟨some 4,.new 303 [(.int .i64 0),(.int .i64 0),.nilsl,.nilsl],none,[]⟩]) (.seq (.reg true [⟨some 8,.bsl 28 1 1 [(.int .u64 0)] [(0,1,(.d (.int .u64 1)))],none,[]⟩,⟨some
  9,.call 108 [(.t 8)],none,[0]⟩,⟨some 10,.fa 1 (.t 2),none,[]⟩,⟨some 11,.load false 1 (.t 10),none,[2]⟩,⟨some 12,.call 120 [(.t 9),(.t 11)],none,[1,3,1]⟩,⟨some 7,.mv (.t 12),none,[4]⟩,⟨some 13,.ext (.t 7)
  0,none,[5]⟩,⟨some 14,.ext (.t 7) 1,none,[5]⟩,⟨some 5,.new 47 [.nilsl],none,[]⟩,⟨none,.store 1 (.t 5) (.t 13),none,[8,6,4,0,1,2,3,4,5,6,8]⟩,⟨some 6,.mv (.t 14),none,[7,9,0,1,2,3,4,5,6,7,8,9]⟩]) (.seq (.reg false [⟨some
  15,.fa 2 (.t 2),none,[]⟩,⟨some 16,.load true 1 (.t 15),none,[0]⟩,⟨some 17,.load true 1 (.t 5),none,[]⟩,⟨some 18,.call 110 [(.t 16),(.t 17)],none,[1,2]⟩,⟨some 19,.fa 2 (.t 2),none,[0,1,2,3]⟩,⟨none,.store 1 (.t 19) (.t
  18),none,[4,3,3,0,1,2,3]⟩]) (.seq (.seq (.reg false [⟨some 20,.fa 2 (.t 2),none,[]⟩,⟨some 21,.load true 1 (.t 20),none,[0]⟩,⟨some 22,.fa 3 (.t 2),none,[]⟩,⟨some 23,.load true 1 (.t 22),none,[2]⟩,⟨some 24,.call 105 [(.t
  21),(.t 23)],none,[1,3]⟩,⟨some 25,.bin .geq (.t 24) (.d (.int .i64 0)),none,[4]⟩]) (.cond (.t 25) (.seq (.reg false [⟨some 26,.fa 0 (.t 2),none,[]⟩,⟨some 27,.load false 1 (.t 26),none,[0]⟩,⟨some 28,.bin .add (.t 27) (.d
  (.int .i64 1)),none,[1]⟩,⟨some 29,.fa 0 (.t 2),none,[0,1,2]⟩,⟨none,.store 1 (.t 29) (.t 28),none,[3,2,0,1,2]⟩]) (.seq (.reg false [⟨some 30,.mv (.t 1),none,[]⟩,⟨some 31,.fa 3 (.t 2),none,[]⟩,⟨some 32,.load true 1 (.t
  31),none,[1]⟩,⟨some 33,.call 263 [(.t 30),(.t 32)],none,[0,2]⟩,⟨some 34,.fa 3 (.t 2),none,[0,1,2,3]⟩,⟨none,.store 1 (.t 34) (.t 33),none,[4,3,3,0,1,2,3]⟩]) (.reg false [⟨some 35,.mv (.t 1),none,[]⟩,⟨some 36,.fa 3 (.t
  2),none,[]⟩,⟨some 37,.load true 1 (.t 36),none,[1]⟩,⟨some 38,.call 264 [(.t 35),(.t 37)],none,[0,2]⟩,⟨some 39,.fa 1 (.t 2),none,[0,1,2,3]⟩,⟨none,.store 1 (.t 39) (.t 38),none,[4,3,3,0,1,2,3]⟩]))) .skip)) (.seq (.reg
  false [⟨some 40,.load true 4 (.t 2),none,[]⟩,⟨none,.store 4 (.t 4) (.t 40),none,[0,0]⟩]) .ret)))))
theorem r_yu_Place_next : fnOf Tryz.prog n_yu_Place_next = some (c_yu_Place_next, [.cell 4 true 4], 41, false) := by kernel_rfl

/-- tallymark/yu.more -/
abbrev n_yu_more : FuncId := 263
def c_yu_more : C := (.seq (.reg false [⟨some 3,.box 47 (.t 1),none,[]⟩,⟨some 4,.new 47 [.nilsl],none,[]⟩]) (.seq (.reg false [⟨some 8,.load true 1 (.t 3),none,[]⟩,⟨some 9,.mv (.t 0),none,[]⟩,⟨some 10,.call 236 [(.t 8),(.t
  9)],none,[0,1]⟩,⟨some 5,.new 47 [.nilsl],none,[]⟩,⟨none,.store 1 (.t 5) (.t 10),none,[3,2,2,0,1,2,3]⟩]) (.seq (.seq (.reg false [⟨some 12,.load true 1 (.t 5),none,[]⟩,⟨some 13,.mv (.t 0),none,[]⟩,⟨some 14,.call 120 [(.t
  12),(.t 13)],none,[0,1]⟩,⟨some 11,.mv (.t 14),none,[2]⟩,⟨some 15,.ext (.t 11) 0,none,[3]⟩,⟨some 16,.ext (.t 11) 1,none,[3]⟩,⟨some 6,.new 47 [.nilsl],none,[]⟩,⟨none,.store 1 (.t 6) (.t 15),none,[6,4,2,0,1,2,3,4,6]⟩,⟨some
  7,.mv (.t 16),none,[5,7,0,1,2,3,4,5,6,7]⟩]) (.seq (.reg false [⟨some 17,.load true 1 (.t 6),none,[]⟩,⟨some 18,.load true 1 (.t 3),none,[]⟩,⟨some 19,.call 105 [(.t 17),(.t 18)],none,[0,1]⟩,⟨some 20,.bin .lss (.t 19) (.d
  (.int .i64 0)),none,[2]⟩]) (.cond (.t 20) (.reg true [⟨some 21,.load true 1 (.t 5),none,[]⟩,⟨some 22,.bsl 28 1 1 [(.int .u64 0)] [(0,1,(.d (.int .u64 1)))],none,[]⟩,⟨some 23,.call 108 [(.t 22)],none,[1]⟩,⟨some 24,.call
  110 [(.t 21),(.t 23)],none,[0,2,2]⟩,⟨none,.store 1 (.t 5) (.t 24),none,[3,3,0,1,2,3]⟩]) .skip))) (.seq (.reg false [⟨some 25,.load true 1 (.t 3),none,[]⟩,⟨some 26,.load true 1 (.t 5),none,[]⟩,⟨some 27,.call 110 [(.t
  25),(.t 26)],none,[0,1]⟩,⟨none,.store 1 (.t 4) (.t 27),none,[2,2,0,1,2]⟩]) .ret))))
theorem r_yu_more : fnOf Tryz.prog n_yu_more = some (c_yu_more, [.cell 4 true 1], 28, false) := by kernel_rfl

/-- tallymark/yu.shift -/
abbrev n_yu_shift : FuncId := 264
def c_yu_shift : C := (.seq (.reg false [⟨some 3,.box 47 (.t 1),none,[]⟩,⟨some 4,.mv (.d (.int .i64 0)),none,[]⟩]) (.seq (.reg false [⟨some 5,.load true 1 (.t 3),none,[]⟩,⟨some 6,.call 201 [(.t 5)],none,[0]⟩,⟨some 7,.bin .sub (.t 6) (.d
  (.int .i64 1)),none,[1]⟩,⟨some 8,.mv (.t 0),none,[]⟩,⟨some 9,.bin .mul (.d (.int .i64 2)) (.t 8),none,[3]⟩,⟨some 10,.bin .sub (.t 7) (.t 9),none,[2,4]⟩,⟨some 11,.mm true [(.d (.int .i64 0)),(.t 10)],none,[5]⟩,⟨some
  4,.mv (.t 11),none,[6,1,0,1,2,3,4,5,6]⟩]) .ret))
theorem r_yu_shift : fnOf Tryz.prog n_yu_shift = some (c_yu_shift, [.t 4], 12, false) := by kernel_rfl

/-- math/bits.Add64 -/
abbrev n_math_bits_Add64 : FuncId := 149
theorem x_math_bits_Add64 : Tryz.prog.funcs[n_math_bits_Add64]? = some Tryz.f149 := Tryz.func149
/-- math/bits.Sub64 -/
abbrev n_math_bits_Sub64 : FuncId := 234
theorem x_math_bits_Sub64 : Tryz.prog.funcs[n_math_bits_Sub64]? = some Tryz.f234 := Tryz.func234
end
end Go.Proofs.YtijbgbpjionfjaaGreatDoor.Am
namespace Go.Proofs.YtijbgbpjionfjaaGreatDoor.Am
section
/-- what words stand for, the lowest first -/
def wval : List Nat → Nat
  | [] => 0
  | x :: l => x + 18446744073709551616 * wval l
def small (ws : List Nat) : Prop := ∀ x ∈ ws, x < 18446744073709551616

theorem wval_append : ∀ (a b : List Nat), wval (a ++ b) = wval a + 18446744073709551616 ^ a.length * wval b := by
  intro a
  induction a with
  | nil => intro b; simp [wval]
  | cons x a ih => intro b; simp only [List.cons_append, wval, List.length_cons]; rw [ih, Nat.pow_succ, Nat.mul_add, ← Nat.mul_assoc, Nat.mul_comm 18446744073709551616 (18446744073709551616 ^ a.length)]; omega
theorem wval_zeros : ∀ n, wval (List.replicate n 0) = 0 := by
  intro n
  induction n with
  | zero => rfl
  | succ n ih => rw [List.replicate_succ, wval, ih]
theorem wval_lt : ∀ {ws : List Nat}, small ws → wval ws < 18446744073709551616 ^ ws.length := by
  intro ws
  induction ws with
  | nil => intro _; simp [wval]
  | cons x l ih =>
    intro h
    have h1 := h x (by simp)
    have h2 := ih (fun y hy => h y (by simp [hy]))
    rw [wval, List.length_cons, Nat.pow_succ]
    omega

/-- how many are left when the highest that are 0 are struck, of the first n -/
def trimN (ws : List Nat) : Nat → Nat
  | 0 => 0
  | n + 1 => if ws.getD n 0 = 0 then trimN ws n else n + 1
theorem take_succ_getD (ws : List Nat) (n : Nat) (h : n < ws.length) : ws.take (n + 1) = ws.take n ++ [ws.getD n 0] := by
  rw [List.take_add_one, List.getElem?_eq_getElem h]
  simp [List.getD, List.getElem?_eq_getElem h]
theorem trimN_val (ws : List Nat) : ∀ n, n ≤ ws.length → wval (ws.take (trimN ws n)) = wval (ws.take n) := by
  intro n
  induction n with
  | zero => intro _; rfl
  | succ n ih =>
    intro h
    unfold trimN
    split
    · rename_i h0
      rw [ih (by omega), take_succ_getD _ _ (by omega), wval_append, h0]
      simp [wval]
    · rfl
/-- the highest isn't 0 -/
def top1 (ws : List Nat) : Prop := ∀ k, ws.length = k + 1 → ws.getD k 0 ≠ 0
theorem trimN_top (ws : List Nat) : ∀ n, n ≤ ws.length → top1 (ws.take (trimN ws n)) := by
  intro n
  induction n with
  | zero => intro _ k hk; simp [trimN] at hk
  | succ n ih =>
    intro h
    unfold trimN
    split
    · exact ih (by omega)
    · rename_i h0
      intro k hk
      rw [List.length_take, Nat.min_eq_left h] at hk
      obtain rfl : n = k := by omega
      have e : (ws.take (n + 1)).getD n 0 = ws.getD n 0 := by simp [List.getD]
      rw [e]
      exact h0

theorem small.take {ws : List Nat} (h : small ws) (n : Nat) : small (ws.take n) := fun x hx => h x (List.mem_of_mem_take hx)

theorem top1_zero {ws : List Nat} (h : small ws) (ht : top1 ws) (h0 : wval ws = 0) : ws = [] := by
  rcases ws.eq_nil_or_concat with rfl | ⟨l, x, rfl⟩
  · rfl
  · exfalso
    have := ht l.length (by simp)
    simp at this
    simp [wval_append, wval] at h0
    rcases Nat.mul_eq_zero.1 h0.2 with h | h
    · exact absurd h (Nat.pos_iff_ne_zero.1 (Nat.pow_pos (by decide)))
    · exact this h

/-- words are what they stand for -/
theorem words_eq : ∀ {a b : List Nat}, small a → small b → top1 a → top1 b → wval a = wval b → a = b := by
  intro a
  induction a with
  | nil => intro b _ hb _ tb h; exact (top1_zero hb tb h.symm).symm
  | cons x a ih =>
    intro b ha hb ta tb h
    cases b with
    | nil => exact absurd (top1_zero ha ta h) (by simp)
    | cons y b =>
      have h1 := ha x (by simp)
      have h2 := hb y (by simp)
      simp only [wval] at h
      have e : x = y := by omega
      subst e
      have e2 : wval a = wval b := by omega
      have e3 : a = b := ih (fun z hz => ha z (by simp [hz])) (fun z hz => hb z (by simp [hz])) (fun k hk => by have := ta (k + 1) (by simp [hk]); simpa using this) (fun k hk => by have := tb (k + 1) (by simp [hk]); simpa using this) e2
      rw [e3]

/-- moved up by less than a word, with what comes from below -/
def movedL (k : Nat) : Nat → List Nat → List Nat
  | c, [] => [c]
  | c, x :: l => ((x * 2 ^ k) % 18446744073709551616 + c) :: movedL k (x * 2 ^ k / 18446744073709551616) l
theorem movedL_len (k : Nat) : ∀ (l : List Nat) (c : Nat), (movedL k c l).length = l.length + 1 := by
  intro l
  induction l with
  | nil => intro c; rfl
  | cons x l ih => intro c; simp [movedL, ih]
theorem movedL_val (k : Nat) : ∀ (l : List Nat) (c : Nat), wval (movedL k c l) = wval l * 2 ^ k + c := by
  intro l
  induction l with
  | nil => intro c; simp [movedL, wval]
  | cons x l ih =>
    intro c
    rw [movedL, wval, ih, wval]
    have := Nat.div_add_mod (x * 2 ^ k) 18446744073709551616
    rw [Nat.add_mul, Nat.mul_add, Nat.mul_assoc]
    omega
theorem movedL_small {k : Nat} (hk : k < 64) : ∀ {l : List Nat} {c : Nat}, small l → c < 2 ^ k → small (movedL k c l) := by
  have p64 : (18446744073709551616 : Nat) = 2 ^ (64 - k) * 2 ^ k := by rw [← Nat.pow_add, show 64 - k + k = 64 by omega]
  intro l
  induction l with
  | nil =>
    intro c _ hc x hx
    simp [movedL] at hx; subst hx
    exact Nat.lt_trans hc (by rw [show (18446744073709551616 : Nat) = 2 ^ 64 by decide]; exact Nat.pow_lt_pow_right (by decide) hk)
  | cons y l ih =>
    intro c h hc x hx
    simp only [movedL, List.mem_cons] at hx
    have hy := h y (by simp)
    rcases hx with rfl | hx
    · rw [p64, Nat.mul_mod_mul_right]
      have : y % 2 ^ (64 - k) < 2 ^ (64 - k) := Nat.mod_lt _ (Nat.pow_pos (by decide))
      calc _ < y % 2 ^ (64 - k) * 2 ^ k + 2 ^ k := by omega
        _ = (y % 2 ^ (64 - k) + 1) * 2 ^ k := by rw [Nat.add_mul, Nat.one_mul]
        _ ≤ _ := Nat.mul_le_mul_right _ this
    · refine ih (fun z hz => h z (by simp [hz])) ?_ x hx
      apply Nat.div_lt_of_lt_mul
      exact Nat.mul_lt_mul_of_pos_right hy (Nat.pow_pos (by decide))

/-- the same, its last word apart -/
def movedB (k : Nat) : Nat → List Nat → List Nat
  | _, [] => []
  | c, x :: l => ((x * 2 ^ k) % 18446744073709551616 + c) :: movedB k (x * 2 ^ k / 18446744073709551616) l
def movedC (k : Nat) : Nat → List Nat → Nat
  | c, [] => c
  | _, x :: l => movedC k (x * 2 ^ k / 18446744073709551616) l
theorem movedL_eq (k : Nat) : ∀ (l : List Nat) (c : Nat), movedL k c l = movedB k c l ++ [movedC k c l] := by
  intro l
  induction l with
  | nil => intro c; rfl
  | cons x l ih => intro c; simp [movedL, movedB, movedC, ih]
theorem movedB_len (k : Nat) (l : List Nat) (c : Nat) : (movedB k c l).length = l.length := by
  have h := movedL_len k l c
  rw [movedL_eq, List.length_append] at h
  simpa using h
theorem movedB_snoc (k : Nat) (x : Nat) : ∀ (l : List Nat) (c : Nat), movedB k c (l ++ [x]) = movedB k c l ++ [(x * 2 ^ k) % 18446744073709551616 + movedC k c l] := by
  intro l
  induction l with
  | nil => intro c; rfl
  | cons y l ih => intro c; simp [movedB, movedC, ih]
theorem movedC_snoc (k : Nat) (x : Nat) : ∀ (l : List Nat) (c : Nat), movedC k c (l ++ [x]) = x * 2 ^ k / 18446744073709551616 := by
  intro l
  induction l with
  | nil => intro c; rfl
  | cons y l ih => intro c; simp [movedC, ih]
theorem moved_lt {k x : Nat} (hx : x < 18446744073709551616) : x * 2 ^ k / 18446744073709551616 < 2 ^ k := by
  apply Nat.div_lt_of_lt_mul
  exact Nat.mul_lt_mul_of_pos_right hx (Nat.pow_pos (by decide))
theorem movedC_lt {k : Nat} : ∀ {l : List Nat} {c : Nat}, small l → c < 2 ^ k → movedC k c l < 2 ^ k := by
  intro l
  induction l with
  | nil => intro c _ hc; exact hc
  | cons x l ih => intro c h hc; exact ih (fun z hz => h z (by simp [hz])) (moved_lt (h x (by simp)))
/-- the bits of what was moved up, and what comes from below -/
theorem or_moved {k x c : Nat} (hk : k < 64) (hc : c < 2 ^ k) : c ||| (x * 2 ^ k) % 18446744073709551616 = (x * 2 ^ k) % 18446744073709551616 + c := by
  have p64 : (18446744073709551616 : Nat) = 2 ^ (64 - k) * 2 ^ k := by rw [← Nat.pow_add, show 64 - k + k = 64 by omega]
  rw [p64, Nat.mul_mod_mul_right, Nat.or_comm, Nat.mul_comm]
  exact (Nat.two_pow_add_eq_or_of_lt hc _).symm
theorem moved_div {k x : Nat} (hk : k ≤ 64) : x * 2 ^ k / 18446744073709551616 = x / 2 ^ (64 - k) := by
  have p64 : (18446744073709551616 : Nat) = 2 ^ (64 - k) * 2 ^ k := by rw [← Nat.pow_add, show 64 - k + k = 64 by omega]
  rw [p64, Nat.mul_div_mul_right _ _ (Nat.pow_pos (by decide))]

/-- so many words are there at least -/
theorem words_le : ∀ {ws : List Nat} {m : Nat}, top1 ws → wval ws < 18446744073709551616 ^ m → ws.length ≤ m := by
  intro ws
  induction ws with
  | nil => intro m _ _; exact Nat.zero_le _
  | cons x l ih =>
    intro m ht h
    cases m with
    | zero =>
      exfalso
      rw [Nat.pow_zero] at h
      rw [wval] at h
      cases l with
      | nil =>
        have := ht 0 rfl
        simp [wval] at this h
        omega
      | cons y l =>
        have hw : wval (y :: l) = 0 := by omega
        have : (y :: l).length ≤ 0 := ih (m := 0) (fun k hk => by have := ht (k + 1) (by simp [hk]); simpa using this) (by rw [hw]; decide)
        simp at this
    | succ m =>
      rw [List.length_cons]
      have : l.length ≤ m := by
        cases l with
        | nil => exact Nat.zero_le _
        | cons y l =>
          refine ih (fun k hk => by have := ht (k + 1) (by simp [hk]); simpa using this) ?_
          rw [wval, Nat.pow_succ] at h
          omega
      omega

theorem wval_range (f : Nat → Nat) (n : Nat) : wval ((List.range (n + 1)).map f) = wval ((List.range n).map f) + 18446744073709551616 ^ n * f n := by
  rw [List.range_succ, List.map_append, wval_append]
  simp [wval]
theorem wval_take (l : List Nat) (n : Nat) : wval (l.take (n + 1)) = wval (l.take n) + 18446744073709551616 ^ n * l.getD n 0 := by
  by_cases h : n < l.length
  · rw [take_succ_getD _ _ h, wval_append, List.length_take, Nat.min_eq_left (Nat.le_of_lt h)]
    simp [wval]
  · rw [List.take_of_length_le (by omega), List.take_of_length_le (by omega)]
    simp [List.getD, List.getElem?_eq_none (show l.length ≤ n by omega)]

/-- the carry into word n -/
def carryW (a b : List Nat) : Nat → Nat
  | 0 => 0
  | n + 1 => (a.getD n 0 + b.getD n 0 + carryW a b n) / 18446744073709551616
def addW (a b : List Nat) (n : Nat) : Nat := (a.getD n 0 + b.getD n 0 + carryW a b n) % 18446744073709551616

theorem small.getD {l : List Nat} (h : small l) (n : Nat) : l.getD n 0 < 18446744073709551616 := by
  by_cases hn : n < l.length
  · rw [List.getD, List.getElem?_eq_getElem hn]; exact h _ (List.getElem_mem hn)
  · simp [List.getD, List.getElem?_eq_none (show l.length ≤ n by omega)]
theorem carryW_le {a b : List Nat} (ha : small a) (hb : small b) : ∀ n, carryW a b n ≤ 1 := by
  intro n
  induction n with
  | zero => exact Nat.zero_le _
  | succ n ih =>
    have h1 := ha.getD n
    have h2 := hb.getD n
    simp only [carryW]
    omega
theorem addW_val (a b : List Nat) : ∀ n, wval ((List.range n).map (addW a b)) + 18446744073709551616 ^ n * carryW a b n = wval (a.take n) + wval (b.take n) := by
  intro n
  induction n with
  | zero => simp [wval, carryW]
  | succ n ih =>
    rw [wval_range, wval_take, wval_take]
    have := Nat.div_add_mod (a.getD n 0 + b.getD n 0 + carryW a b n) 18446744073709551616
    simp only [addW, carryW]
    rw [Nat.pow_succ]
    generalize 18446744073709551616 ^ n = P at *
    generalize (a.getD n 0 + b.getD n 0 + carryW a b n) / 18446744073709551616 = q at *
    generalize (a.getD n 0 + b.getD n 0 + carryW a b n) % 18446744073709551616 = r at *
    have e : P * (18446744073709551616 * q + r) = P * a.getD n 0 + P * b.getD n 0 + P * carryW a b n := by rw [this]; simp [Nat.mul_add]
    rw [Nat.mul_add, ← Nat.mul_assoc] at e
    omega

/-- the borrow into word n -/
def borrowW (a b : List Nat) : Nat → Nat
  | 0 => 0
  | n + 1 => if a.getD n 0 < b.getD n 0 + borrowW a b n then 1 else 0
def subW (a b : List Nat) (n : Nat) : Nat := (a.getD n 0 + 18446744073709551616 - b.getD n 0 - borrowW a b n) % 18446744073709551616
theorem borrowW_le (a b : List Nat) : ∀ n, borrowW a b n ≤ 1 := by
  intro n
  cases n with
  | zero => exact Nat.zero_le _
  | succ n => simp only [borrowW]; split <;> omega
theorem subW_val {a b : List Nat} (ha : small a) (hb : small b) : ∀ n, wval ((List.range n).map (subW a b)) + wval (b.take n) = wval (a.take n) + 18446744073709551616 ^ n * borrowW a b n := by
  intro n
  induction n with
  | zero => simp [wval, borrowW]
  | succ n ih =>
    rw [wval_range, wval_take, wval_take]
    have h1 := ha.getD n
    have h2 := hb.getD n
    have h3 := borrowW_le a b n
    have e : subW a b n + b.getD n 0 + borrowW a b n = a.getD n 0 + 18446744073709551616 * borrowW a b (n + 1) := by
      simp only [subW, borrowW]
      split <;> omega
    rw [Nat.pow_succ, Nat.mul_assoc]
    generalize 18446744073709551616 ^ n = P at *
    have e2 : P * subW a b n + P * b.getD n 0 + P * borrowW a b n = P * a.getD n 0 + P * (18446744073709551616 * borrowW a b (n + 1)) := by rw [← Nat.mul_add, ← Nat.mul_add, e, Nat.mul_add]
    omega
theorem range_small {f : Nat → Nat} (h : ∀ i, f i < 18446744073709551616) (n : Nat) : small ((List.range n).map f) := by
  intro x hx
  obtain ⟨i, _, rfl⟩ := List.mem_map.1 hx
  exact h i
theorem addW_lt (a b : List Nat) (i : Nat) : addW a b i < 18446744073709551616 := Nat.mod_lt _ (by decide)
theorem subW_lt (a b : List Nat) (i : Nat) : subW a b i < 18446744073709551616 := Nat.mod_lt _ (by decide)

theorem shorter_lt {a b : List Nat} (ha : small a) (hb : top1 b) (h : a.length < b.length) : wval a < wval b := by
  refine Nat.lt_of_lt_of_le (wval_lt ha) ?_
  apply Nat.le_of_not_lt
  intro hlt
  have := words_le hb hlt
  omega
/-- from the highest on, the first that are unlike tell -/
def cmpN (a b : List Nat) : Nat → Int
  | 0 => 0
  | n + 1 => if a.getD n 0 < b.getD n 0 then -1 else if b.getD n 0 < a.getD n 0 then 1 else cmpN a b n
theorem take_lt {l : List Nat} (h : small l) (n : Nat) : wval (l.take n) < 18446744073709551616 ^ n := by
  have := wval_lt (h.take n)
  rw [List.length_take] at this
  exact Nat.lt_of_lt_of_le this (Nat.pow_le_pow_right (by decide) (Nat.min_le_left _ _))
theorem cmpN_val {a b : List Nat} (ha : small a) (hb : small b) : ∀ n, cmpN a b n = if wval (a.take n) < wval (b.take n) then -1 else if wval (b.take n) < wval (a.take n) then 1 else 0 := by
  intro n
  induction n with
  | zero => simp [cmpN, wval]
  | succ n ih =>
    rw [wval_take, wval_take]
    have h1 := take_lt ha n
    have h2 := take_lt hb n
    simp only [cmpN]
    generalize 18446744073709551616 ^ n = P at *
    generalize a.getD n 0 = x at *
    generalize b.getD n 0 = y at *
    by_cases hxy : x < y
    · rw [if_pos hxy, if_pos]
      have : P * (x + 1) ≤ P * y := Nat.mul_le_mul_left _ hxy
      rw [Nat.mul_add] at this
      omega
    · rw [if_neg hxy]
      by_cases hyx : y < x
      · have : P * (y + 1) ≤ P * x := Nat.mul_le_mul_left _ hyx
        rw [Nat.mul_add] at this
        rw [if_pos hyx, if_neg (by omega), if_pos (by omega)]
      · obtain rfl : x = y := by omega
        rw [if_neg hyx, ih]
        simp only [Nat.add_lt_add_iff_right]
/-- less, the same, more -/
def cmpZ (m n : Nat) : Int := if m < n then -1 else if n < m then 1 else 0
end
end Go.Proofs.YtijbgbpjionfjaaGreatDoor.Am
namespace Go.Proofs.YtijbgbpjionfjaaGreatDoor.Am
section
open Go.RowKit
/-- words, as data -/
def W (ws : List Nat) : D := .sl ws.length (ws.map fun x : Nat => .int .u64 x)

/-- the words of a number -/
def wordsF : Nat → Nat → List Nat
  | 0, _ => []
  | f + 1, n => if n = 0 then [] else (n % 18446744073709551616) :: wordsF f (n / 18446744073709551616)
def words (n : Nat) : List Nat := wordsF n n

theorem wordsF_ok : ∀ (f n : Nat), n ≤ f → wval (wordsF f n) = n ∧ small (wordsF f n) ∧ top1 (wordsF f n)
  | 0, n, h => by
    obtain rfl : n = 0 := by omega
    exact ⟨rfl, by simp [small, wordsF], by intro k hk; simp [wordsF] at hk⟩
  | f + 1, n, h => by
    by_cases h0 : n = 0
    · subst h0
      simp only [wordsF, if_true]
      exact ⟨rfl, by simp [small], by intro k hk; simp at hk⟩
    · obtain ⟨h1, h2, h3⟩ := wordsF_ok f (n / 18446744073709551616) (by omega)
      simp only [wordsF, if_neg h0]
      refine ⟨by simp only [wval, h1]; omega, fun x hx => ?_, fun k hk => ?_⟩
      · rcases List.mem_cons.1 hx with rfl | hx
        · omega
        · exact h2 x hx
      · cases hl : wordsF f (n / 18446744073709551616) with
        | nil =>
          rw [hl] at h1 hk
          simp [wval] at h1 hk
          subst hk
          simp; omega
        | cons y r =>
          rw [hl] at hk h3
          simp at hk
          subst hk
          have := h3 r.length rfl
          simpa using this
theorem words_val (n : Nat) : wval (words n) = n := (wordsF_ok n n (Nat.le_refl _)).1
theorem words_small (n : Nat) : small (words n) := (wordsF_ok n n (Nat.le_refl _)).2.1
theorem words_top (n : Nat) : top1 (words n) := (wordsF_ok n n (Nat.le_refl _)).2.2
theorem words_of {ws : List Nat} (h : small ws) (ht : top1 ws) : words (wval ws) = ws := words_eq (words_small _) h (words_top _) ht (words_val _)
theorem words_nil {n : Nat} : words n = [] ↔ n = 0 := by
  constructor
  · intro h; have := words_val n; rw [h] at this; exact this.symm
  · rintro rfl; rfl

/-- a number -/
def natW (n : Nat) : D := W (words n)
theorem natW_of {ws : List Nat} (h : small ws) (ht : top1 ws) : natW (wval ws) = W ws := by rw [natW, words_of h ht]
theorem natW_zero : natW 0 = .sl 0 [] := rfl
/-- how many words -/
def size (n : Nat) : Nat := (words n).length

theorem clone64_ok (n : Nat) (l : List D) (hl : l.length = n) (hn : n ≤ 4000000000) : Eqn Tryz.prog n_slices_Clone_uint64_uint64 [.d (.sl n l)] [] (.d (.sl n l)) [] := by
  refine Eqn.pure r_slices_Clone_uint64_uint64 (plain_d _) ?_
  simp only [c_slices_Clone_uint64_uint64]
  rcases Nat.eq_zero_or_pos n with rfl | h0
  · have : l = [] := List.eq_nil_of_length_eq_zero hl
    subst this
    refine AW.empty 0 rfl ?_ ?_
    · simp
      refine G0 ?_; try with_reducible exact tt
      refine AW.cond rfl (fun h => ?_) (fun h => ?_)
      · refine G0 ?_; try with_reducible exact tt
        exact Sub1.nil
      · simp at h
    · simp
      refine G0 ?_; try with_reducible exact tt
      refine AW.cond rfl (fun h => ?_) (fun h => ?_)
      · simp at h
      · refine G0 ?_; try with_reducible exact tt
        exact Sub1.sl0
  · refine G1 h0 ?_; try with_reducible exact tt
    refine AW.cond rfl (fun h => ?_) (fun h => ?_)
    · simp at h
    · refine G0 ?_; try with_reducible exact tt
      have h1 : ¬ n = 0 := by omega
      simp [h1, hl]
      refine need.of (by omega) ?_
      refine AW.freeze 0 1 ⟨28, l.map .d⟩ l (by simp) rfl ?_
      simp
      refine G0 ?_; try with_reducible exact tt
      have : l.take n = l := List.take_of_length_le (by omega)
      simp [this]

theorem W_get {ws : List Nat} {k : Nat} (h : k < ws.length) : ws[k] = ws.getD k 0 := by simp [List.getD, h]

theorem trimmed_ok (ws : List Nat) (hs : small ws) (hn : ws.length ≤ 4000000000) : Eqn Tryz.prog n_nat_trimmed [.d (W ws)] [] (.d (.agg [natW (wval ws)])) [] := by
  refine Eqn.pure r_nat_trimmed (plain_d _) ?_
  simp only [c_nat_trimmed, W]
  refine G0 ?_; try with_reducible exact tt
  refine AW.loopT (α := Nat) 1 (fun m => [(3, .d (.int .i64 (m : Int)))]) (fun _ => []) (fun m => m ≤ ws.length ∧ trimN ws m = trimN ws ws.length) (fun m => m) ws.length ?_ ?_ ⟨Nat.le_refl _, rfl⟩ ?_ ?_ ?_
  · simp
  · simp
  · simp
  · simp
  rintro m ⟨hm, ht⟩
  simp
  have fin : ∀ k, k = trimN ws ws.length → W (ws.take k) = natW (wval ws) := by
    rintro k rfl
    have := natW_of (hs.take (trimN ws ws.length)) (trimN_top ws _ (Nat.le_refl _))
    rw [← this, trimN_val _ _ (Nat.le_refl _), List.take_length]
  cases m with
  | zero =>
    refine G0 ?_; try with_reducible exact tt
    refine AW.cond rfl (fun h => ?_) (fun h => ?_)
    · simp at h
    refine G0 ?_; try with_reducible exact tt
    refine Sub1.of ?_
    rw [← fin 0 ht]
    simp [W]
  | succ m =>
    have hm' : m < ws.length := hm
    have hp : (0 : Int) < (m : Int) + 1 := by omega
    have e : (m : Int) + 1 - 1 = m := by omega
    have ew : IntKind.i64.wrap (m : Int) = m := w64 (by omega) (by omega)
    refine G1 (fs hp (fs e (fs ew hm'))) ?_; try with_reducible exact tt
    refine AW.cond rfl (fun h => ?_) (fun h => ?_)
    · simp at h
      refine G1 (fs hp (fs e ew)) ?_; try with_reducible exact tt
      refine ⟨m, ⟨by omega, ?_⟩, ?_⟩
      · rw [← ht, trimN, if_pos]
        rw [← W_get hm']; omega
      · simp
    · simp at h
      refine G0 ?_; try with_reducible exact tt
      have hk : m + 1 = trimN ws ws.length := by
        rw [← ht, trimN, if_neg]
        rw [← W_get hm']; omega
      refine G0 ?_; try with_reducible exact tt
      refine Sub1.of ?_
      rw [← fin _ hk]
      simp [W]
      omega

theorem of_ok (ws : List Nat) (hs : small ws) (hn : ws.length ≤ 4000000000) : Eqn Tryz.prog n_nat_Of [.d (W ws)] [] (.d (.agg [natW (wval ws)])) [] := by
  refine Eqn.pure r_nat_Of (plain_d _) ?_
  simp only [c_nat_Of, W]
  refine G0 ?_; try with_reducible exact tt
  refine CallS.pu (clone64_ok _ (ws.map fun x : Nat => .int .u64 x) (by simp) hn) (R0 ?_); try with_reducible exact tt
  refine CallS.pu (trimmed_ok ws hs hn) (R0 ?_); try with_reducible exact tt

theorem zero_ok (n : Nat) : Eqn Tryz.prog n_nat_Nat_Zero [.d (.agg [natW n])] [] (.d (.bool (n == 0))) [] := by
  refine Eqn.pure r_nat_Nat_Zero (plain_d _) ?_
  simp only [c_nat_Nat_Zero, natW, W]
  refine G0 ?_; try with_reducible exact tt
  refine Sub1.bool ?_
  rw [Bool.eq_iff_iff]
  simp [words_nil]

theorem size_lt {m n : Nat} (h : size m < size n) : m < n := by
  have := shorter_lt (words_small m) (words_top n) h
  rwa [words_val, words_val] at this

theorem cmp_ok (m n : Nat) (hm : size m ≤ 1000000) (hn : size n ≤ 1000000) : Eqn Tryz.prog n_nat_Cmp [.d (.agg [natW m]), .d (.agg [natW n])] [] (.d (.int .i64 (cmpZ m n))) [] := by
  refine Eqn.pure r_nat_Cmp (plain_d _) ?_
  unfold size at hm hn
  have sa := words_small m
  have sb := words_small n
  simp only [c_nat_Cmp, natW, W]
  have hz : cmpZ m n = if (words m).length < (words n).length then -1 else if (words n).length < (words m).length then 1 else cmpN (words m) (words n) (words m).length := by
    split
    · rename_i h; rw [cmpZ, if_pos (size_lt h)]
    · split
      · rename_i h; have := size_lt h; rw [cmpZ, if_neg (by omega), if_pos this]
      · have := cmpN_val sa sb (words m).length
        rw [List.take_length, show (words m).length = (words n).length by omega, List.take_length, words_val, words_val] at this
        rw [show (words m).length = (words n).length by omega, this]
        rfl
  rw [hz]
  clear hz
  generalize words m = xs at *
  generalize words n = ys at *
  by_cases hl : xs.length = ys.length
  · refine G1 hl ?_; try with_reducible exact tt
    refine AW.cond rfl (fun h => ?_) (fun h => ?_)
    · simp [w64] at h
    refine G1 hl ?_; try with_reducible exact tt
    refine AW.loopT (α := Nat) 2 (fun m => [(6, .d (.int .i64 ((m : Int) - 1)))]) (fun _ => []) (fun m => m ≤ ys.length ∧ cmpN xs ys m = cmpN xs ys ys.length) (fun m => m) ys.length ?_ ?_ ⟨Nat.le_refl _, rfl⟩ ?_ ?_ ?_
    · simp
    · simp
    · simp [hl]
    · simp
    rintro m ⟨hm', hc⟩
    simp
    cases m with
    | zero =>
      refine G0 ?_; try with_reducible exact tt
      refine AW.cond rfl (fun h => ?_) (fun h => ?_)
      · simp at h
      refine G0 ?_; try with_reducible exact tt
      refine Sub1.int ?_
      rw [← hc]; rfl
    | succ m =>
      have h1 : m < xs.length := by omega
      have h2 : m < ys.length := hm'
      have e : (m : Int) + 1 - 1 = m := by omega
      have ew : IntKind.i64.wrap ((m : Int) - 1) = (m : Int) - 1 := w64 (by omega) (by omega)
      rw [cmpN, ← W_get h1, ← W_get h2] at hc
      refine G1 (fs e (fs h1 h2)) ?_; try with_reducible exact tt
      refine AW.cond rfl (fun h => ?_) (fun h => ?_)
      · refine G1 (fs e (fs h1 h2)) ?_; try with_reducible exact tt
        refine AW.cond rfl (fun h => ?_) (fun h => ?_)
        · simp at h
          refine G0 ?_; try with_reducible exact tt
          refine Sub1.int ?_
          rw [if_pos h] at hc
          exact hc
        · simp at h
          rw [if_neg (by omega)] at hc
          refine G0 ?_; try with_reducible exact tt
          refine AW.cond rfl (fun h => ?_) (fun h => ?_)
          · simp at h
            refine G0 ?_; try with_reducible exact tt
            refine Sub1.int ?_
            rw [if_pos h] at hc
            exact hc
          · simp at h
            rw [if_neg (by omega)] at hc
            refine G1 ew ?_; try with_reducible exact tt
            exact ⟨m, ⟨by omega, hc⟩, by simp⟩
      · simp at h
  · refine G0 ?_; try with_reducible exact tt
    refine AW.cond rfl (fun h => ?_) (fun h => ?_)
    · refine G0 ?_; try with_reducible exact tt
      refine Sub1.int ?_
      split <;> omega
    · simp at h
      omega
end
end Go.Proofs.YtijbgbpjionfjaaGreatDoor.Am
namespace Go.Proofs.YtijbgbpjionfjaaGreatDoor.Am
section
open Go.RowKit
/-- words, as cells -/
abbrev U (ws : List Nat) : List V := ws.map fun x : Nat => V.d (.int .u64 x)

theorem add64_ok (x y c s d : Nat) (hx : x < 18446744073709551616) (hy : y < 18446744073709551616) (hc : c ≤ 1) (hs : s < 18446744073709551616) (e : x + y + c = s + 18446744073709551616 * d) : Eqn Tryz.prog n_math_bits_Add64 [.d (.int .u64 x), .d (.int .u64 y), .d (.int .u64 c)] [] (.tup [.d (.int .u64 s), .d (.int .u64 d)]) [] := by
  refine Eqn.extern x_math_bits_Add64 (by kernel_rfl) (by kernel_rfl) (by kernel_rfl) (e := add64Entry) (by kernel_rfl) rfl fun m vs h => ?_
  obtain ⟨v1, r1, rfl, h1, h⟩ := V.reps_cons'.1 h
  obtain ⟨v2, r2, rfl, h2, h⟩ := V.reps_cons'.1 h
  obtain ⟨v3, r3, rfl, h3, h⟩ := V.reps_cons'.1 h
  simp at h; subst h
  rw [V.rep_int] at h1 h2 h3
  subst h1 h2 h3
  have := run_add64 (P := Tryz.prog) x y c (by omega) (by omega) (by omega) (by omega) m.w
  refine ⟨_, this, ?_⟩
  unfold V.rep
  refine ⟨[.int .u64 (((x : Int) + y + c) % 18446744073709551616), .int .u64 (((x : Int) + y + c) / 18446744073709551616)], rfl, ?_⟩
  simp only [V.reps_cons, V.rep_int, V.reps_nil, and_true]
  constructor <;> congr 1 <;> omega

theorem sub64_ok (x y c s d : Nat) (hx : x < 18446744073709551616) (hy : y < 18446744073709551616) (hc : c ≤ 1) (hs : s < 18446744073709551616) (e : x + 18446744073709551616 * d = s + y + c) : Eqn Tryz.prog n_math_bits_Sub64 [.d (.int .u64 x), .d (.int .u64 y), .d (.int .u64 c)] [] (.tup [.d (.int .u64 s), .d (.int .u64 d)]) [] := by
  refine Eqn.extern x_math_bits_Sub64 (by kernel_rfl) (by kernel_rfl) (by kernel_rfl) (e := sub64Entry) (by kernel_rfl) rfl fun m vs h => ?_
  obtain ⟨v1, r1, rfl, h1, h⟩ := V.reps_cons'.1 h
  obtain ⟨v2, r2, rfl, h2, h⟩ := V.reps_cons'.1 h
  obtain ⟨v3, r3, rfl, h3, h⟩ := V.reps_cons'.1 h
  simp at h; subst h
  rw [V.rep_int] at h1 h2 h3
  subst h1 h2 h3
  have := run_sub64 (P := Tryz.prog) x y c hc m.w
  refine ⟨_, this, ?_⟩
  unfold V.rep
  refine ⟨[.int .u64 s, .int .u64 d], ?_, by simp only [V.reps_cons, V.rep_int, V.reps_nil, and_true]⟩
  congr 4
  · omega
  · congr 2
    split <;> omega

theorem addW_eq (a b : List Nat) (i : Nat) : a.getD i 0 + b.getD i 0 + carryW a b i = addW a b i + 18446744073709551616 * carryW a b (i + 1) := by
  rw [addW, carryW]; exact (Nat.mod_add_div _ _).symm
theorem W_out {ws : List Nat} {k : Nat} (h : ¬ k < ws.length) : ws.getD k 0 = 0 := by simp [List.getD, show ws.length ≤ k by omega]
theorem plain_tup (l : List D) : (V.tup (l.map .d)).plain := by
  have h1 : V.lowl 0 (l.map V.d) = true := by induction l <;> simp_all [V.lowl, V.low]
  have h2 : ∀ θ, V.rens θ (l.map V.d) = l.map V.d := fun θ => by induction l <;> simp_all [V.rens, V.ren]
  exact ⟨by simp [V.low, h1], fun θ => by simp [V.ren, h2]⟩

/-- a row that is being filled -/
def rowV (f : Nat → D) (n i : Nat) : List V := (List.range i).map (fun k => V.d (f k)) ++ List.replicate (n - i) (.d (.int .u64 0))
@[simp] theorem rowV_length (f : Nat → D) (n i : Nat) : (rowV f n i).length = i + (n - i) := by simp [rowV]
theorem out0 (n : Nat) (f : Nat → D) : List.replicate n (V.d (.int .u64 0)) = rowV f n 0 := by simp [rowV]
theorem rowV_set {f : Nat → D} {n i : Nat} (h : i < n) : (rowV f n i).set i (.d (f i)) = rowV f n (i + 1) := by
  obtain ⟨k, rfl⟩ : ∃ k, n = i + k + 1 := ⟨n - i - 1, by omega⟩
  rw [rowV, rowV, List.set_append_right _ _ (by simp), List.range_succ, List.map_append, List.append_assoc]
  congr 1
  simp only [List.length_map, List.length_range, Nat.sub_self]
  rw [show i + k + 1 - i = k + 1 by omega, show i + k + 1 - (i + 1) = k by omega]
  simp [List.replicate_succ]
@[simp] theorem lowl_row (n : Nat) (f : Nat → D) (k i : Nat) : V.lowl n (rowV f k i) = true := by
  have h1 : ∀ l : List D, V.lowl n (l.map V.d) = true := fun l => by induction l <;> simp_all [V.lowl, V.low]
  have : rowV f k i = ((List.range i).map f ++ List.replicate (k - i) (D.int .u64 0)).map .d := by simp [rowV]
  rw [this, h1]
@[simp] theorem subs_refl (l : List V) : Subs l l ↔ True := iff_true_intro (Subs.refl l)
theorem rowV_fin {f : Nat → D} {n : Nat} {z : D} : (rowV f (n + 1) n).set n (.d z) = ((List.range n).map f ++ [z]).map .d := by
  rw [rowV, List.set_append_right _ _ (by simp)]
  simp
theorem rowV_end {f : Nat → D} {n : Nat} : rowV f n n = ((List.range n).map f).map .d := by simp [rowV]

theorem plain_tup2 (a b : D) : (V.tup [.d a, .d b]).plain := plain_tup [a, b]
theorem plain_tup3 (a b c : D) : (V.tup [.d a, .d b, .d c]).plain := plain_tup [a, b, c]

theorem add_ok (m n : Nat) (hm : size m ≤ 1000000) (hn : size n ≤ 1000000) : Eqn Tryz.prog n_nat_Add [.d (.agg [natW m]), .d (.agg [natW n])] [] (.d (.agg [natW (m + n)])) [] := by
  refine Eqn.pure r_nat_Add (plain_d _) ?_
  -- the longer one, the other one
  obtain ⟨A, B, hAB, hsA, hsB, hle, hsum, hca, hcb⟩ : ∃ A B : List Nat, (A, B) = (if (words m).length < (words n).length then (words n, words m) else (words m, words n)) ∧ small A ∧ small B ∧ B.length ≤ A.length ∧ wval A + wval B = m + n ∧ A.length ≤ 1000000 ∧ B.length ≤ 1000000 := by
    unfold size at hm hn
    by_cases h : (words m).length < (words n).length
    · exact ⟨words n, words m, by rw [if_pos h], words_small _, words_small _, by omega, by rw [words_val, words_val]; omega, by omega, by omega⟩
    · exact ⟨words m, words n, by rw [if_neg h], words_small _, words_small _, by omega, by rw [words_val, words_val], by omega, by omega⟩
  simp only [c_nat_Add, natW, W]
  generalize words m = xs at *
  generalize words n = ys at *
  unfold size at hm hn
  refine AW.seq (AW.reg mix ?_)
  (simp -implicitDefEqProofs; try simp (disch := omega) only [w64, wu64])
  refine AW.cut 3 [] [(0, ⟨t_nat_Nat, [.d (W A)]⟩), (1, ⟨t_nat_Nat, [.d (W B)]⟩)] ?_ ?_ ?_ ?_
  · simp
  · simp
  · refine G0 ?_; try with_reducible exact tt
    refine AW.cond rfl (fun h => ?_) (fun h => ?_)
    · simp at h
      rw [if_pos h] at hAB
      cases hAB
      refine G0 ?_; try with_reducible exact tt
      simp [W]
    · simp at h
      rw [if_neg (by omega)] at hAB
      cases hAB
      refine G0 ?_; try with_reducible exact tt
      simp [W]
  clear hAB hm hn
  simp [W]
  refine G0 ?_; try with_reducible exact tt

  rw [out0 _ (fun k => .int .u64 (addW A B k : Nat))]
  refine G0 ?_; try with_reducible exact tt
  refine AW.loopT (α := Nat) 4 (fun i => [(27, .d (.int .i64 (i : Int))), (6, .d (.int .u64 (carryW A B i : Nat)))]) (fun i => [(3, ⟨28, rowV (fun k => .int .u64 (addW A B k : Nat)) (A.length + 1) i⟩)]) (fun i => i ≤ A.length) (fun i => A.length - i) 0 ?_ ?_ (Nat.zero_le _) ?_ ?_ ?_
  · simp
  · simp
  · simp [carryW]
  · simp
  rintro i hi
  simp
  by_cases h : i = A.length
  · subst h
    refine G0 ?_; try with_reducible exact tt
    refine AW.cond rfl (fun h => ?_) (fun h => ?_)
    · simp at h
    refine AW.exit ?_
    (try (simp -implicitDefEqProofs; try simp (disch := omega) only [w64, wu64]))
    repeat (first | refine AW.seq ?_ | refine AW.block ?_)
    refine AW.reg mix ?_
    (simp -implicitDefEqProofs; try simp (disch := omega) only [w64, wu64])
    try refine need.of (by first | omega | kernel_rfl) ?_
    obtain ⟨ws, hl, hr, hv, hs⟩ : ∃ ws : List Nat, ws.length = A.length + 1 ∧ (rowV (fun k => .int .u64 (addW A B k : Nat)) (A.length + 1) A.length).set A.length (.d (.int .u64 (carryW A B A.length : Nat))) = U ws ∧ wval ws = m + n ∧ small ws := by
      refine ⟨(List.range A.length).map (addW A B) ++ [carryW A B A.length], by simp, by rw [rowV_fin]; simp [U], ?_, ?_⟩
      · rw [wval_append, ← hsum]
        have := addW_val A B A.length
        rw [List.take_length, List.take_of_length_le hle] at this
        simp [wval]
        rw [← this]
      · intro x hx
        rcases List.mem_append.1 hx with hx | hx
        · obtain ⟨k, -, rfl⟩ := List.mem_map.1 hx; exact addW_lt _ _ _
        · simp at hx; subst hx; have := carryW_le hsA hsB A.length; omega
    rw [hr]
    refine AW.freeze 3 1 ⟨28, _⟩ (ws.map fun x : Nat => .int .u64 x) (by rfl) (by simp) ?_
    simp [← hl, List.take_of_length_le]
    refine G0 ?_; try with_reducible exact tt
    refine CallS.pu (trimmed_ok ws hs (by omega)) (R0 ?_); try with_reducible exact tt
    refine Sub1.of ?_
    rw [hv]; rfl
  · have hi' : i < A.length := by omega
    have hp : (i : Int) < A.length := by omega
    have hc := carryW_le hsA hsB i
    have hset := rowV_set (f := fun k => .int .u64 (addW A B k : Nat)) (n := A.length + 1) (i := i) (by omega)
    have ew : IntKind.i64.wrap ((i : Int) + 1) = (i : Int) + 1 := w64 (by omega) (by omega)
    refine G1 (fs hi' hp) ?_; try with_reducible exact tt
    refine AW.cond rfl (fun h => ?_) (fun h => ?_)
    · clear h
      by_cases hb : i < B.length
      · have e : A[i] + B[i] + carryW A B i = addW A B i + 18446744073709551616 * carryW A B (i + 1) := by
          rw [← addW_eq, W_get hi', W_get hb]
        refine G1 (fs hi' (fs hp hb)) ?_; try with_reducible exact tt
        refine AW.cond rfl (fun h => ?_) (fun h => ?_)
        · clear h
          refine G1 (fs hi' (fs hp hb)) ?_; try with_reducible exact tt
          refine CallS.pu (add64_ok _ _ _ (addW A B i) (carryW A B (i + 1)) (hsA _ (List.getElem_mem _)) (hsB _ (List.getElem_mem _)) hc (addW_lt _ _ _) e) (R1 (fs hset ew) ?_); try with_reducible exact tt
          exact ⟨i + 1, by omega, by omega, by simp [wk, ew], by simp [wkH]⟩
        · simp [hb] at h
      · have e : A[i] + 0 + carryW A B i = addW A B i + 18446744073709551616 * carryW A B (i + 1) := by
          rw [← addW_eq, W_get hi', W_out hb]
        refine G1 (fs hi' (fs hp hb)) ?_; try with_reducible exact tt
        refine AW.cond rfl (fun h => ?_) (fun h => ?_)
        · simp [hb] at h
        · clear h
          refine G1 (fs hi' (fs hp hb)) ?_; try with_reducible exact tt
          refine CallS.pu (add64_ok _ 0 _ (addW A B i) (carryW A B (i + 1)) (hsA _ (List.getElem_mem _)) (by omega) hc (addW_lt _ _ _) e) (R1 (fs hset ew) ?_); try with_reducible exact tt
          exact ⟨i + 1, by omega, by omega, by simp [wk, ew], by simp [wkH]⟩
    · simp at h
end
end Go.Proofs.YtijbgbpjionfjaaGreatDoor.Am
namespace Go.Proofs.YtijbgbpjionfjaaGreatDoor.Am
section
open Go.RowKit
theorem subW_eq {a b : List Nat} (ha : small a) (hb : small b) (i : Nat) : a.getD i 0 + 18446744073709551616 * borrowW a b (i + 1) = subW a b i + b.getD i 0 + borrowW a b i := by
  have h1 := ha.getD i
  have h2 := hb.getD i
  have h3 := borrowW_le a b i
  simp only [subW, borrowW]
  split <;> omega
theorem borrow_end {a b : List Nat} (ha : small a) (hb : small b) (hl : b.length ≤ a.length) (h : wval b ≤ wval a) : wval ((List.range a.length).map (subW a b)) = wval a - wval b := by
  have h1 := subW_val ha hb a.length
  rw [List.take_length, List.take_of_length_le hl] at h1
  have h2 := borrowW_le a b a.length
  have h3 := wval_lt (range_small (subW_lt a b) a.length)
  rw [List.length_map, List.length_range] at h3
  have : borrowW a b a.length = 0 ∨ borrowW a b a.length = 1 := by omega
  rcases this with e | e
  · rw [e] at h1; omega
  · rw [e] at h1; omega
theorem size_le {m n : Nat} (h : m ≤ n) : size m ≤ size n := by
  apply Nat.le_of_not_lt
  intro hlt
  have := size_lt hlt
  omega

theorem sub_ok (m n : Nat) (hm : size m ≤ 1000000) (hle : n ≤ m) : Eqn Tryz.prog n_nat_Sub [.d (.agg [natW m]), .d (.agg [natW n])] [] (.tup [.d (.agg [natW (m - n)]), .d (.int .i64 0)]) [] := by
  refine Eqn.pure r_nat_Sub (plain_tup2 _ _) ?_
  have hs := size_le hle
  simp only [c_nat_Sub]
  refine G0 ?_; try with_reducible exact tt
  refine CallS.pu (cmp_ok m n hm (by omega)) (R0 ?_); try with_reducible exact tt
  have hc : ¬ cmpZ m n < 0 := by unfold cmpZ; split <;> (try split) <;> omega
  refine AW.cond rfl (fun h => ?_) (fun h => ?_)
  · simp [hc] at h
  clear h
  refine G0 ?_; try with_reducible exact tt
  unfold size at hm hs
  obtain ⟨A, hA⟩ : ∃ A, A = words m := ⟨_, rfl⟩
  obtain ⟨B, hB⟩ : ∃ B, B = words n := ⟨_, rfl⟩
  have hsA : small A := hA ▸ words_small m
  have hsB : small B := hB ▸ words_small n
  have hvA : wval A = m := by rw [hA, words_val]
  have hvB : wval B = n := by rw [hB, words_val]
  rw [show natW m = .sl A.length (A.map fun x : Nat => .int .u64 x) by rw [hA]; rfl, show natW n = .sl B.length (B.map fun x : Nat => .int .u64 x) by rw [hB]; rfl]
  rw [← hA, ← hB] at hs
  rw [← hA] at hm
  clear hA hB
  refine G0 ?_; try with_reducible exact tt
  rw [out0 _ (fun k => .int .u64 (subW A B k : Nat))]
  refine AW.loopT (α := Nat) 4 (fun i => [(23, .d (.int .i64 (i : Int))), (7, .d (.int .u64 (borrowW A B i : Nat)))]) (fun i => [(3, ⟨28, rowV (fun k => .int .u64 (subW A B k : Nat)) A.length i⟩)]) (fun i => i ≤ A.length) (fun i => A.length - i) 0 ?_ ?_ (Nat.zero_le _) ?_ ?_ ?_
  · simp
  · simp
  · simp [borrowW]
  · simp
  rintro i hi
  simp
  by_cases h : i = A.length
  · subst h
    refine G0 ?_; try with_reducible exact tt
    refine AW.cond rfl (fun h => ?_) (fun h => ?_)
    · simp at h
    refine AW.exit ?_
    (try (simp -implicitDefEqProofs; try simp (disch := omega) only [w64, wu64]))
    obtain ⟨ws, hl, hr, hv, hs'⟩ : ∃ ws : List Nat, ws.length = A.length ∧ rowV (fun k => .int .u64 (subW A B k : Nat)) A.length A.length = U ws ∧ wval ws = m - n ∧ small ws := by
      refine ⟨(List.range A.length).map (subW A B), by simp, by rw [rowV_end]; simp [U], ?_, range_small (subW_lt A B) _⟩
      rw [← hvA, ← hvB]
      exact borrow_end hsA hsB hs (by omega)
    rw [hr]
    refine AW.freeze 3 1 ⟨28, _⟩ (ws.map fun x : Nat => .int .u64 x) (by rfl) (by simp) ?_
    simp [← hl, List.take_of_length_le]
    refine G0 ?_; try with_reducible exact tt
    refine CallS.pu (trimmed_ok ws hs' (by omega)) (R0 ?_); try with_reducible exact tt
    refine Sub1.of ?_
    rw [hv]
  · have hi' : i < A.length := by omega
    have hp : (i : Int) < A.length := by omega
    have hc := borrowW_le A B i
    have hset := rowV_set (f := fun k => .int .u64 (subW A B k : Nat)) (n := A.length) (i := i) (by omega)
    have ew : IntKind.i64.wrap ((i : Int) + 1) = (i : Int) + 1 := w64 (by omega) (by omega)
    have e := subW_eq hsA hsB i
    refine G1 (fs hi' hp) ?_; try with_reducible exact tt
    refine AW.cond rfl (fun h => ?_) (fun h => ?_)
    · clear h
      by_cases hb : i < B.length
      · rw [← W_get hi', ← W_get hb] at e
        refine G1 (fs hi' (fs hp hb)) ?_; try with_reducible exact tt
        refine AW.cond rfl (fun h => ?_) (fun h => ?_)
        · clear h
          refine G1 (fs hi' (fs hp hb)) ?_; try with_reducible exact tt
          refine CallS.pu (sub64_ok _ _ _ (subW A B i) (borrowW A B (i + 1)) (hsA _ (List.getElem_mem _)) (hsB _ (List.getElem_mem _)) hc (subW_lt _ _ _) e) (R1 (fs hset ew) ?_); try with_reducible exact tt
          exact ⟨i + 1, by omega, by omega, by simp [wk, ew], by simp [wkH]⟩
        · simp [hb] at h
      · rw [← W_get hi', W_out hb] at e
        refine G1 (fs hi' (fs hp hb)) ?_; try with_reducible exact tt
        refine AW.cond rfl (fun h => ?_) (fun h => ?_)
        · simp [hb] at h
        · clear h
          refine G1 (fs hi' (fs hp hb)) ?_; try with_reducible exact tt
          refine CallS.pu (sub64_ok _ 0 _ (subW A B i) (borrowW A B (i + 1)) (hsA _ (List.getElem_mem _)) (by omega) hc (subW_lt _ _ _) e) (R1 (fs hset ew) ?_); try with_reducible exact tt
          exact ⟨i + 1, by omega, by omega, by simp [wk, ew], by simp [wkH]⟩
    · simp at h
end
end Go.Proofs.YtijbgbpjionfjaaGreatDoor.Am
namespace Go.Proofs.YtijbgbpjionfjaaGreatDoor.Am
section
open Go.RowKit
/-- words moved so far -/
def rowM (k : Nat) (A : List Nat) (i : Nat) : List Nat := movedL k 0 (A.take i) ++ List.replicate (A.length - i) 0
theorem rowM_length (k : Nat) (A : List Nat) (i : Nat) (h : i ≤ A.length) : (rowM k A i).length = A.length + 1 := by
  rw [rowM, List.length_append, movedL_len, List.length_take, List.length_replicate]; omega
theorem rowM_zero (k : Nat) (A : List Nat) : rowM k A 0 = List.replicate (A.length + 1) 0 := by simp [rowM, movedL, List.replicate_succ]
theorem rowM_end (k : Nat) (A : List Nat) : rowM k A A.length = movedL k 0 A := by simp [rowM]
theorem rowM_get (k : Nat) (A : List Nat) (i : Nat) (h : i < A.length) : (rowM k A i).getD i 0 = movedC k 0 (A.take i) := by
  have e : i = (movedB k 0 (A.take i)).length := by rw [movedB_len, List.length_take]; omega
  rw [rowM, movedL_eq, List.append_assoc, List.getD, List.getElem?_append_right (by omega), show i - (movedB k 0 (A.take i)).length = 0 by omega]
  rfl
theorem rowM_set (k : Nat) (A : List Nat) (i : Nat) (h : i < A.length) : ((rowM k A i).set i (A.getD i 0 * 2 ^ k % 18446744073709551616 + movedC k 0 (A.take i))).set (i + 1) (A.getD i 0 * 2 ^ k / 18446744073709551616) = rowM k A (i + 1) := by
  have e : (movedB k 0 (A.take i)).length = i := by rw [movedB_len, List.length_take]; omega
  obtain ⟨r, hr⟩ : ∃ r, A.length = i + r + 1 := ⟨A.length - i - 1, by omega⟩
  rw [rowM, rowM, movedL_eq, movedL_eq, take_succ_getD _ _ h, movedB_snoc, movedC_snoc, hr, show i + r + 1 - i = r + 1 by omega, show i + r + 1 - (i + 1) = r by omega, List.replicate_succ]
  simp only [List.append_assoc, List.cons_append, List.nil_append]
  rw [List.set_append_right _ _ (by omega), List.set_append_right _ _ (by omega), e]
  simp

def cellM (k : Nat) (A : List Nat) (i : Nat) : List V := U (rowM k A i)
@[simp] theorem lowl_U (n : Nat) (l : List Nat) : V.lowl n (U l) = true := by induction l <;> simp_all [U, V.lowl, V.low]

set_option maxHeartbeats 1000000 in
theorem moved_ok (A : List Nat) (k : Nat) (hk : k < 64) (hs : small A) (hn : A.length ≤ 1000000) : Eqn Tryz.prog n_nat_moved [.d (W A), .d (.int .i64 k)] [] (.d (W (movedL k 0 A))) [] := by
  refine Eqn.pure r_nat_moved (plain_d _) ?_
  simp only [c_nat_moved, W]
  refine G0 ?_; try with_reducible exact tt
  rw [show List.replicate (A.length + 1) (V.d (.int .u64 0)) = cellM k A 0 by rw [cellM, rowM_zero]; simp [U]]
  have hlow : ∀ i, V.lowl 1 (cellM k A i) = true := fun i => lowl_U 1 _
  refine AW.loopT (α := Nat) 1 (fun i => [(14, .d (.int .i64 (i : Int)))]) (fun i => [(0, ⟨28, cellM k A i⟩)]) (fun i => i ≤ A.length) (fun i => A.length - i) 0 ?_ ?_ (Nat.zero_le _) ?_ ?_ ?_
  · simp
  · simp
  · simp
  · simp [hlow]
  rintro i hi
  simp
  by_cases h : i = A.length
  · subst h
    refine G0 ?_; try with_reducible exact tt
    refine AW.cond rfl (fun h => ?_) (fun h => ?_)
    · simp at h
    refine AW.exit ?_
    (try (simp -implicitDefEqProofs; try simp (disch := omega) only [w64, wu64]))
    have hl : (movedL k 0 A).length = A.length + 1 := movedL_len _ _ _
    rw [cellM, rowM_end]
    generalize movedL k 0 A = ws at hl
    refine AW.freeze 0 1 ⟨28, _⟩ (ws.map fun x : Nat => .int .u64 x) (by rfl) (by simp) ?_
    simp [← hl, List.take_of_length_le]
    refine G0 ?_; try with_reducible exact tt
  · have hi' : i < A.length := by omega
    have hp : (i : Int) < A.length := by omega
    obtain ⟨c, y, u, hl, hq, hor, hw, hd, hset⟩ : ∃ c z u : Nat, (cellM k A i).length = A.length + 1 ∧ (cellM k A i)[i]? = some (.d (.int .u64 c)) ∧ bits BinOp.or IntKind.u64 (c : Int) (IntKind.u64.wrap ((A[i] : Int) * 2 ^ k)) = (z : Int) ∧
        True ∧ (A[i] : Int) / 2 ^ (64 - k) = (u : Int) ∧ ((cellM k A i).set i (.d (.int .u64 z))).set (i + 1) (.d (.int .u64 u)) = cellM k A (i + 1) := by
      have hl := rowM_length k A i hi
      have hc := movedC_lt (k := k) (l := A.take i) (c := 0) (hs.take i) (Nat.two_pow_pos k)
      have hset := rowM_set k A i hi'
      rw [← W_get hi'] at hset
      refine ⟨movedC k 0 (A.take i), A[i] * 2 ^ k % 18446744073709551616 + movedC k 0 (A.take i), A[i] * 2 ^ k / 18446744073709551616, by simp [cellM, U, hl], ?_, ?_, trivial, ?_, ?_⟩
      · have := rowM_get k A i hi'
        rw [List.getD, List.getElem?_eq_getElem (by omega)] at this
        rw [cellM, U, List.getElem?_map, List.getElem?_eq_getElem (by omega)]
        simp at this
        simp [this]
      · rw [show IntKind.u64.wrap ((A[i] : Int) * 2 ^ k) = ((A[i] * 2 ^ k % 18446744073709551616 : Nat) : Int) by rw [IntKind.wrap_u64, Int.natCast_emod, Int.natCast_mul, Int.natCast_pow]; rfl]
        rw [bits_or_u64_nat _ _ (Nat.lt_of_lt_of_le hc (by rw [show (18446744073709551616 : Nat) = 2 ^ 64 by rfl]; exact Nat.pow_le_pow_right (by decide) (by omega))) (Nat.mod_lt _ (by decide)), or_moved hk hc]
      · rw [moved_div (by omega), Int.natCast_ediv, Int.natCast_pow]; rfl
      · rw [cellM, cellM, ← hset, U, U, List.map_set, List.map_set]
    have hn : ((64 : Int) - k).toNat = 64 - k := by omega
    have e1 : IntKind.i64.wrap ((i : Int) + 1) = (i : Int) + 1 := w64 (by omega) (by omega)
    have e2 : IntKind.i64.wrap ((64 : Int) - k) = (64 : Int) - k := w64 (by omega) (by omega)
    generalize cellM k A i = cm at hl hq hset
    refine G1 (fs hi' hp) ?_; try with_reducible exact tt
    refine AW.cond rfl (fun h => ?_) (fun h => ?_)
    · clear h
      refine G1 (fs hi' (fs hp (fs hl (fs hq (fs hor (fs e1 (fs e2 (fs hn (fs hd hset))))))))) ?_; try with_reducible exact tt
      exact ⟨i + 1, by omega, by omega, by simp [wk], by simp [wkH, hlow]⟩
    · simp at h
end
end Go.Proofs.YtijbgbpjionfjaaGreatDoor.Am
namespace Go.Proofs.YtijbgbpjionfjaaGreatDoor.Am
section
open Go.RowKit
set_option maxHeartbeats 1000000 in
theorem shl_ok (a n : Nat) (ha : size a ≤ 1000000) (hn : n ≤ 8192) : Eqn Tryz.prog n_nat_Shl [.d (.agg [natW a]), .d (.int .i64 n)] [] (.tup [.d (.agg [natW (a * 2 ^ n)]), .d (.int .i64 0)]) [] := by
  refine Eqn.pure r_nat_Shl (plain_tup2 _ _) ?_
  simp only [c_nat_Shl, natW, W]
  have h1 : ¬ (n : Int) < 0 := by omega
  have h2 : ¬ (8192 : Int) < n := by omega
  refine G1 (fs h1 h2) ?_; try with_reducible exact tt
  refine AW.cond rfl (fun h => ?_) (fun h => ?_)
  · simp [h1, h2] at h
  have hq : (n : Int) / 64 = (n / 64 : Nat) := rfl
  have hr : (n : Int).tmod 64 = (n % 64 : Nat) := by rw [Int.tmod_eq_emod_of_nonneg (by omega)]; rfl
  have hd : n / 64 ≤ 128 := by omega
  have hm : n % 64 < 64 := by omega
  have hv : ∀ l : List Nat, wval l = a → wval (List.replicate (n / 64) 0 ++ movedL (n % 64) 0 l) = a * 2 ^ n := by
    intro l hl
    rw [wval_append, wval_zeros, movedL_val, List.length_replicate, hl, Nat.zero_add, Nat.add_zero]
    rw [show (18446744073709551616 : Nat) = 2 ^ 64 by rfl, ← Nat.pow_mul, Nat.mul_left_comm, ← Nat.pow_add, Nat.div_add_mod]
  replace hv := hv (words a) (words_val a)
  have hsm : small (List.replicate (n / 64) 0 ++ movedL (n % 64) 0 (words a)) := by
    intro x hx
    rcases List.mem_append.1 hx with hx | hx
    · rw [List.eq_of_mem_replicate hx]; omega
    · exact movedL_small hm (words_small a) (Nat.two_pow_pos _) x hx
  have hl := movedL_len (n % 64) (words a) 0
  generalize n / 64 = q at *
  generalize n % 64 = r at *
  unfold size at ha
  refine G1 (fs hq hr) ?_; try with_reducible exact tt
  refine CallS.pu (moved_ok (words a) r hm (words_small a) (by omega)) ?_
  (try (simp -implicitDefEqProofs [W, hl]; try simp (disch := omega) only [w64, wu64]))
  repeat (first | refine AW.seq ?_ | refine AW.block ?_ | (refine AW.reg mix ?_; simp -implicitDefEqProofs [W, hl]; try simp (disch := omega) only [w64, wu64]) | (refine need.of (by first | omega | kernel_rfl) ?_) | (refine AW.fin ?_; try simp -implicitDefEqProofs [W, hl]))
  have hlen : (List.replicate q 0 ++ movedL r 0 (words a)).length = q + ((words a).length + 1) := by simp [hl]
  have hcell : List.replicate q (V.d (.int .u64 0)) ++ List.map (V.d ∘ fun x : Nat => D.int .u64 x) (movedL r 0 (words a)) = ((List.replicate q 0 ++ movedL r 0 (words a)).map fun x : Nat => D.int .u64 x).map V.d := by simp
  rw [hcell]
  generalize List.replicate q 0 ++ movedL r 0 (words a) = ws at *
  have hlen2 : q + ((words a).length + 1) = ws.length := hlen.symm
  refine CallS.pf 3 1 ⟨28, _⟩ (ws.map fun x : Nat => .int .u64 x) (trimmed_ok ws hsm (by omega)) (by first | rfl | (simp [natW, W, hlen2, List.take_of_length_le]; done)) ?_
  (try (simp -implicitDefEqProofs [natW, W, hlen2, List.take_of_length_le]; try simp (disch := omega) only [w64, wu64]))
  repeat (first | refine AW.seq ?_ | refine AW.block ?_ | (refine AW.reg mix ?_; simp -implicitDefEqProofs [natW, W, hlen2, List.take_of_length_le]; try simp (disch := omega) only [w64, wu64]) | (refine need.of (by first | omega | kernel_rfl) ?_) | (refine AW.fin ?_; try simp -implicitDefEqProofs [natW, W, hlen2, List.take_of_length_le]))
  refine Sub1.of ?_
  rw [hv]
end
end Go.Proofs.YtijbgbpjionfjaaGreatDoor.Am
namespace Go.Proofs.YtijbgbpjionfjaaGreatDoor.Am
section
open Go.RowKit
theorem words_one {x : Nat} (h0 : 0 < x) (h : x < 18446744073709551616) : words x = [x] := by
  have := words_of (ws := [x]) (by intro y hy; simp at hy; omega) (by intro k hk; simp at hk; subst hk; simp; omega)
  simpa [wval] using this
theorem small_one {x : Nat} (h : x < 18446744073709551616) : small [x] := by intro y hy; simp at hy; omega

theorem Sub1.tup {l r : List V} (h : Subs l r) : Sub1 (.tup l) (.tup r) := fun m v k => by
  unfold V.rep at k ⊢
  obtain ⟨vs, h1, h2⟩ := k
  exact ⟨vs, h1, h m vs h2⟩
theorem Subs.cons {x y : V} {l r : List V} (h : Sub1 x y) (h' : Subs l r) : Subs (x :: l) (y :: r) := fun m vs k => by
  obtain ⟨v, r, rfl, h1, h2⟩ := V.reps_cons'.1 k
  exact V.reps_cons.2 ⟨h m v h1, h' m r h2⟩
theorem Sub1.nat0 : Sub1 (.d (.agg [.nilsl])) (.d (.agg [natW 0])) := fun m v k => by
  rw [V.rep_d] at k ⊢
  unfold D.rep at k ⊢
  obtain ⟨vs, h1, h2, h3⟩ := k
  refine ⟨vs, h1, h2, ?_⟩
  obtain ⟨u, r, rfl, h4, h5⟩ := D.reps_cons'.1 h3
  have := (V.rep_d (m := m)).1 (Sub1.nil m u (V.rep_d.2 h4))
  exact D.reps_cons.2 ⟨this, h5⟩

theorem cmpZ_lt {m n : Nat} : cmpZ m n < 0 ↔ m < n := by unfold cmpZ; split <;> (try split) <;> omega
theorem div64_small (x y : Nat) (hx : x < 18446744073709551616) (h0 : 0 < y) : Eqn Tryz.prog n_math_bits_Div64 [.d (.int .u64 0), .d (.int .u64 x), .d (.int .u64 y)] [] (.tup [.d (.int .u64 (x / y : Nat)), .d (.int .u64 (x % y : Nat))]) [] := by
  refine Eqn.pure r_math_bits_Div64 (plain_tup2 _ _) ?_
  simp only [c_math_bits_Div64]
  have h1 : ¬ (y : Int) = 0 := by omega
  have h1' : ¬ y = 0 := by omega
  have h2 : ¬ (y : Int) ≤ 0 := by omega
  refine G1 (fs h1 (fs h2 h1')) ?_; try with_reducible exact tt
  refine AW.cond rfl (fun h => ?_) (fun h => ?_)
  · simp [h1'] at h
  refine G1 (fs h1 (fs h2 h1')) ?_; try with_reducible exact tt
  refine AW.cond rfl (fun h => ?_) (fun h => ?_)
  · simp [h1', h2] at h
  refine G1 (fs h1 (fs h2 h1')) ?_; try with_reducible exact tt
  refine AW.cond rfl (fun h => ?_) (fun h => ?_)
  · have hle := Nat.div_le_self x y
    have e1 : IntKind.u64.wrap ((x : Int) / y) = (x : Int) / y := by
      rw [← Int.natCast_ediv]
      generalize x / y = q at *
      exact wu64 (by omega) (by omega)
    have e2 : (x : Int).tmod y = ((x % y : Nat) : Int) := by rw [Int.tmod_eq_emod_of_nonneg (by omega)]; rfl
    refine G1 (fs h1 (fs h2 (fs h1' (fs e1 e2)))) ?_; try with_reducible exact tt
  · simp at h

theorem split_one (x y : Nat) (hx : x < 18446744073709551616) (h0 : 0 < y) (hy : y < 18446744073709551616) : Eqn Tryz.prog n_nat_split [.d (.sl 1 [.int .u64 x]), .d (.int .u64 y)] [] (.tup [.d (.sl 1 [.int .u64 (x / y : Nat)]), .d (.int .u64 (x % y : Nat))]) [] := by
  refine Eqn.pure r_nat_split (plain_tup2 _ _) ?_
  simp only [c_nat_split]
  refine G0 ?_; try with_reducible exact tt
  refine AW.loopT (α := Nat) 1 (fun i => [(8, .d (.int .i64 ((i : Int) - 1))), (7, .d (.int .u64 (if i = 0 then (x % y : Nat) else 0)))]) (fun i => [(0, ⟨28, [.d (.int .u64 (if i = 0 then (x / y : Nat) else 0))]⟩)]) (fun i => i ≤ 1) (fun i => i) 1 ?_ ?_ (Nat.le_refl _) ?_ ?_ ?_
  · simp
  · simp
  · simp
  · simp
  rintro i hi
  simp
  cases i with
  | zero =>
    refine G0 ?_; try with_reducible exact tt
    refine AW.cond rfl (fun h => ?_) (fun h => ?_)
    · simp at h
    refine AW.exit ?_
    (try (simp -implicitDefEqProofs; try simp (disch := omega) only [w64, wu64]))
    refine AW.freeze 0 1 ⟨28, _⟩ [.int .u64 (x / y : Nat)] (by rfl) (by simp) ?_
    simp
    refine G0 ?_; try with_reducible exact tt
  | succ i =>
    obtain rfl : i = 0 := by omega
    refine G0 ?_; try with_reducible exact tt
    refine AW.cond rfl (fun h => ?_) (fun h => ?_)
    · refine G0 ?_; try with_reducible exact tt
      refine CallS.pu (div64_small x y hx h0) (R0 ?_); try with_reducible exact tt
      exact ⟨0, by omega, rfl, by simp, by simp⟩
    · simp at h
end
end Go.Proofs.YtijbgbpjionfjaaGreatDoor.Am
namespace Go.Proofs.YtijbgbpjionfjaaGreatDoor.Am
section
open Go.RowKit
theorem size_one {x : Nat} (h : x < 18446744073709551616) : size x ≤ 1 := by
  rw [size]
  rcases Nat.eq_zero_or_pos x with rfl | h0
  · simp [words, wordsF]
  · rw [words_one h0 h]; simp

theorem make_ok (a : Nat) : Eqn Tryz.prog n_whole_Make [.d (.bool false), .d (.agg [natW a])] [] (.d (.agg [natW a, .bool false])) [] := by
  refine Eqn.pure r_whole_Make (plain_d _) ?_
  simp only [c_whole_Make]
  refine G0 ?_; try with_reducible exact tt

theorem abs_ok (a : Nat) (s : Bool) : Eqn Tryz.prog n_whole_Whole_Abs [.d (.agg [natW a, .bool s])] [] (.d (.agg [natW a])) [] := by
  refine Eqn.pure r_whole_Whole_Abs (plain_d _) ?_
  simp only [c_whole_Whole_Abs]
  refine G0 ?_; try with_reducible exact tt

theorem neg_ok (a : Nat) (s : Bool) : Eqn Tryz.prog n_whole_Whole_Neg [.d (.agg [natW a, .bool s])] [] (.d (.bool s)) [] := by
  refine Eqn.pure r_whole_Whole_Neg (plain_d _) ?_
  simp only [c_whole_Whole_Neg]
  refine G0 ?_; try with_reducible exact tt

theorem wholeOf_ok (n : Nat) (h : n < 9223372036854775808) : Eqn Tryz.prog n_whole_Of [.d (.int .i64 n)] [] (.d (.agg [natW n, .bool false])) [] := by
  refine Eqn.pure r_whole_Of (plain_d _) ?_
  simp only [c_whole_Of]
  have h0 : ¬ (n : Int) < 0 := by omega
  refine G0 ?_; try with_reducible exact tt
  refine AW.cond rfl (fun h => ?_) (fun h => ?_)
  · simp [h0] at h
  have e : IntKind.u64.wrap (n : Int) = n := wu64 (by omega) (by omega)
  refine G1 e ?_; try with_reducible exact tt
  refine CallS.pf 1 1 ⟨28, _⟩ [.int .u64 n] (of_ok [n] (small_one (by omega)) (by simp)) (by first | rfl | (simp; done)) (R0 ?_); try with_reducible exact tt
  refine CallS.pu (make_ok n) (R0 ?_); try with_reducible exact tt

theorem rden_ok (a d : Nat) (s : Bool) (h : size d ≤ 1000000) : Eqn Tryz.prog n_rat_Rat_Den [.d (.agg [natW a, .bool s, natW d])] [] (.d (.agg [natW (d + 1)])) [] := by
  refine Eqn.pure r_rat_Rat_Den (plain_d _) ?_
  simp only [c_rat_Rat_Den]
  refine G0 ?_; try with_reducible exact tt
  refine CallS.pf 2 1 ⟨28, _⟩ [.int .u64 (1 : Nat)] (of_ok [1] (small_one (by omega)) (by simp)) (by first | rfl | (simp; done)) (R0 ?_); try with_reducible exact tt
  refine CallS.pu (add_ok d 1 h (by have := size_one (x := 1) (by omega); omega)) (R0 ?_); try with_reducible exact tt
end
end Go.Proofs.YtijbgbpjionfjaaGreatDoor.Am
namespace Go.Proofs.YtijbgbpjionfjaaGreatDoor.Am
section
open Go.RowKit
def lit1 : ByteArray := ⟨#[48, 49, 50, 51, 52, 53, 54, 55, 56, 57, 97, 98, 99, 100, 101, 102, 103, 104, 105, 106, 107, 108, 109, 110, 111, 112, 113, 114, 115, 116, 117, 118, 119, 120, 121, 122]⟩
def lit2 : ByteArray := ⟨#[48, 48, 48, 49, 48, 50, 48, 51, 48, 52, 48, 53, 48, 54, 48, 55, 48, 56, 48, 57, 49, 48, 49, 49, 49, 50, 49, 51, 49, 52, 49, 53, 49, 54, 49, 55, 49, 56, 49, 57, 50, 48, 50, 49, 50, 50, 50, 51, 50, 52, 50, 53, 50, 54, 50, 55, 50, 56, 50, 57, 51, 48, 51, 49, 51, 50, 51, 51, 51, 52, 51, 53, 51, 54, 51, 55, 51, 56, 51, 57, 52, 48, 52, 49, 52, 50, 52, 51, 52, 52, 52, 53, 52, 54, 52, 55, 52, 56, 52, 57, 53, 48, 53, 49, 53, 50, 53, 51, 53, 52, 53, 53, 53, 54, 53, 55, 53, 56, 53, 57, 54, 48, 54, 49, 54, 50, 54, 51, 54, 52, 54, 53, 54, 54, 54, 55, 54, 56, 54, 57, 55, 48, 55, 49, 55, 50, 55, 51, 55, 52, 55, 53, 55, 54, 55, 55, 55, 56, 55, 57, 56, 48, 56, 49, 56, 50, 56, 51, 56, 52, 56, 53, 56, 54, 56, 55, 56, 56, 56, 57, 57, 48, 57, 49, 57, 50, 57, 51, 57, 52, 57, 53, 57, 54, 57, 55, 57, 56, 57, 57]⟩
theorem lit1_size : lit1.size = 36 := by kernel_rfl
theorem lit2_size : lit2.size = 200 := by kernel_rfl
/-- the text of a number below 100 -/
def smallS (n : Nat) : ByteArray := if n < 10 then lit1.extract n (n + 1) else lit2.extract (n * 2) (n * 2 + 2)

theorem small_ok (n : Nat) (h : n < 100) : Eqn Tryz.prog n_internal_strconv_small [.d (.int .i64 n)] [] (.d (.str (smallS n))) [] := by
  refine Eqn.pure r_internal_strconv_small (plain_d _) ?_
  simp only [c_internal_strconv_small]
  rw [show (⟨#[48, 49, 50, 51, 52, 53, 54, 55, 56, 57, 97, 98, 99, 100, 101, 102, 103, 104, 105, 106, 107, 108, 109, 110, 111, 112, 113, 114, 115, 116, 117, 118, 119, 120, 121, 122]⟩ : ByteArray) = lit1 from rfl, show (⟨#[48, 48, 48, 49, 48, 50, 48, 51, 48, 52, 48, 53, 48, 54, 48, 55, 48, 56, 48, 57, 49, 48, 49, 49, 49, 50, 49, 51, 49, 52, 49, 53, 49, 54, 49, 55, 49, 56, 49, 57, 50, 48, 50, 49, 50, 50, 50, 51, 50, 52, 50, 53, 50, 54, 50, 55, 50, 56, 50, 57, 51, 48, 51, 49, 51, 50, 51, 51, 51, 52, 51, 53, 51, 54, 51, 55, 51, 56, 51, 57, 52, 48, 52, 49, 52, 50, 52, 51, 52, 52, 52, 53, 52, 54, 52, 55, 52, 56, 52, 57, 53, 48, 53, 49, 53, 50, 53, 51, 53, 52, 53, 53, 53, 54, 53, 55, 53, 56, 53, 57, 54, 48, 54, 49, 54, 50, 54, 51, 54, 52, 54, 53, 54, 54, 54, 55, 54, 56, 54, 57, 55, 48, 55, 49, 55, 50, 55, 51, 55, 52, 55, 53, 55, 54, 55, 55, 55, 56, 55, 57, 56, 48, 56, 49, 56, 50, 56, 51, 56, 52, 56, 53, 56, 54, 56, 55, 56, 56, 56, 57, 57, 48, 57, 49, 57, 50, 57, 51, 57, 52, 57, 53, 57, 54, 57, 55, 57, 56, 57, 57]⟩ : ByteArray) = lit2 from rfl]
  have e1 := lit1_size
  have e2 := lit2_size
  generalize hl1 : lit1 = l1 at *
  generalize hl2 : lit2 = l2 at *
  by_cases hs : n < 10
  · have hs' : (n : Int) < 10 := by omega
    refine G1 hs' ?_; try with_reducible exact tt
    refine AW.cond rfl (fun h => ?_) (fun h => ?_)
    · have ew : IntKind.i64.wrap ((n : Int) + 1) = (n : Int) + 1 := w64 (by omega) (by omega)
      refine G1 (fs ew e1) ?_; try with_reducible exact tt
      refine Sub1.of ?_
      rw [smallS, if_pos hs, hl1]
    · simp [hs] at h
  · have hs' : ¬ (n : Int) < 10 := by omega
    refine G1 hs' ?_; try with_reducible exact tt
    refine AW.cond rfl (fun h => ?_) (fun h => ?_)
    · simp [hs] at h
    · have ew : IntKind.i64.wrap ((n : Int) * 2) = (n : Int) * 2 := w64 (by omega) (by omega)
      have ew2 : IntKind.i64.wrap ((n : Int) * 2 + 2) = (n : Int) * 2 + 2 := w64 (by omega) (by omega)
      refine G1 (fs ew (fs ew2 e2)) ?_; try with_reducible exact tt
      refine Sub1.of ?_
      rw [smallS, if_neg hs, hl2, show ((n : Int) * 2).toNat = n * 2 by omega, show ((n : Int) * 2 + 2).toNat = n * 2 + 2 by omega]

theorem smallS_size (n : Nat) : (smallS n).size ≤ 2 := by
  unfold smallS
  split <;> rw [ByteArray.size_extract] <;> omega
@[simp] theorem size_nil : ByteArray.size ⟨#[]⟩ = 0 := rfl
@[simp] theorem size_47 : ByteArray.size ⟨#[47]⟩ = 1 := rfl
theorem app_nil (s : ByteArray) : s ++ (⟨#[]⟩ : ByteArray) = s := by
  exact ByteArray.append_empty
theorem ifmt_ok (n : Nat) (h : n < 100) : Eqn Tryz.prog n_internal_strconv_FormatUint [.d (.int .u64 n), .d (.int .i64 10)] [] (.d (.str (smallS n))) [] := by
  refine Eqn.pure r_internal_strconv_FormatUint (plain_d _) ?_
  simp only [c_internal_strconv_FormatUint]
  have h1 : (n : Int) < 100 := by omega
  refine G1 h1 ?_; try with_reducible exact tt
  refine AW.cond rfl (fun h => ?_) (fun h => ?_)
  · refine G1 h1 ?_; try with_reducible exact tt
    refine AW.cond rfl (fun h => ?_) (fun h => ?_)
    · have e : IntKind.i64.wrap (n : Int) = n := w64 (by omega) (by omega)
      refine G1 e ?_; try with_reducible exact tt
      refine CallS.pu (small_ok n (by omega)) (R0 ?_); try with_reducible exact tt
    · simp [h1] at h
  · simp at h

theorem fmt_ok (n : Nat) (h : n < 100) : Eqn Tryz.prog n_strconv_FormatUint [.d (.int .u64 n), .d (.int .i64 10)] [] (.d (.str (smallS n))) [] := by
  refine Eqn.pure r_strconv_FormatUint (plain_d _) ?_
  simp only [c_strconv_FormatUint]
  refine G0 ?_; try with_reducible exact tt
  refine CallS.pu (ifmt_ok n h) (R0 ?_); try with_reducible exact tt

theorem text_ok (n : Nat) (h : n < 100) : Eqn Tryz.prog n_nat_Nat_Text [.d (.agg [natW n])] [] (.d (.str (smallS n))) [] := by
  refine Eqn.pure r_nat_Nat_Text (plain_d _) ?_
  simp only [c_nat_Nat_Text]
  refine G0 ?_; try with_reducible exact tt
  refine CallS.pu (zero_ok n) (R0 ?_); try with_reducible exact tt
  rcases Nat.eq_zero_or_pos n with rfl | h0
  · refine AW.cond rfl (fun h => ?_) (fun h => ?_)
    · refine G0 ?_; try with_reducible exact tt
      exact Sub1.of (by kernel_rfl)
    · simp at h
  have e : natW n = .sl 1 [.int .u64 n] := by rw [natW, words_one h0 (by omega)]; rfl
  have hz : ¬ n = 0 := by omega
  refine AW.cond rfl (fun h => ?_) (fun h => ?_)
  · simp [hz] at h
  refine G1 e ?_; try with_reducible exact tt
  refine AW.loopT (α := Nat) 1 (fun i => [(4, .d (if i = 0 then .sl 0 [] else .sl 1 [.int .u64 n])), (3, .d (if i = 0 then .str (smallS n) else .str ⟨#[]⟩))]) (fun i => []) (fun i => i ≤ 1) (fun i => i) 1 ?_ ?_ (Nat.le_refl _) ?_ ?_ ?_
  · simp
  · simp
  · simp
  · simp
  rintro i hi
  simp
  cases i with
  | zero =>
    refine G0 ?_; try with_reducible exact tt
    refine AW.cond rfl (fun h => ?_) (fun h => ?_)
    · simp at h
    refine G0 ?_; try with_reducible exact tt
  | succ i =>
    obtain rfl : i = 0 := by omega
    refine G0 ?_; try with_reducible exact tt
    refine AW.cond rfl (fun h => ?_) (fun h => ?_)
    · refine G0 ?_; try with_reducible exact tt
      have hs := split_one n 1000000000000000000 (by omega) (by omega) (by omega)
      rw [show n / 1000000000000000000 = 0 by omega, show n % 1000000000000000000 = n by omega] at hs
      refine CallS.pu (hs) (R0 ?_); try with_reducible exact tt
      have ht := trimmed_ok [0] (small_one (by omega)) (by simp)
      rw [show wval [0] = 0 by rfl] at ht
      refine CallS.pu (ht) (R0 ?_); try with_reducible exact tt
      refine CallS.pu (fmt_ok n (by omega)) ?_
      (try (simp -implicitDefEqProofs [natW_zero]; try simp (disch := omega) only [w64, wu64]))
      repeat (first | refine AW.seq ?_ | refine AW.block ?_ | (refine AW.reg mix ?_; simp -implicitDefEqProofs [natW_zero]; try simp (disch := omega) only [w64, wu64]) | (refine need.of (by first | omega | kernel_rfl) ?_) | (refine AW.fin ?_; try simp -implicitDefEqProofs [natW_zero]))
      refine AW.cond rfl (fun h => ?_) (fun h => ?_)
      · simp at h
      have s1 := smallS_size n
      have sn := app_nil (smallS n)
      repeat (first | refine AW.seq ?_ | refine AW.block ?_ | (refine AW.reg mix ?_; simp -implicitDefEqProofs [natW_zero, sn]; try simp (disch := omega) only [w64, wu64]) | (refine need.of (by first | omega | kernel_rfl) ?_) | (refine AW.fin ?_; try simp -implicitDefEqProofs [natW_zero, sn]))
      exact ⟨0, by omega, rfl, by simp [sn], by simp⟩
    · simp at h

theorem wtext_ok (n : Nat) (h : n < 100) : Eqn Tryz.prog n_whole_Whole_Text [.d (.agg [natW n, .bool false])] [] (.d (.str (smallS n))) [] := by
  refine Eqn.pure r_whole_Whole_Text (plain_d _) ?_
  simp only [c_whole_Whole_Text]
  refine G0 ?_; try with_reducible exact tt
  refine AW.cond rfl (fun h => ?_) (fun h => ?_)
  · simp at h
  refine G0 ?_; try with_reducible exact tt
  refine CallS.pu (text_ok n (by omega)) (R0 ?_); try with_reducible exact tt
end
end Go.Proofs.YtijbgbpjionfjaaGreatDoor.Am
namespace Go.Proofs.YtijbgbpjionfjaaGreatDoor.Am
section
open Go.RowKit
/-- coins, as data -/
def BL (cs : List Bool) : D := .sl cs.length (cs.map .bool)
/-- a tape: where it is, is it dead, its coins -/
abbrev tapeO (cs : List Bool) (p : Nat) (dead : Bool) : Ob := ⟨t_tape_Tape, [.d (.int .i64 p), .d (.bool dead), .d (BL cs)]⟩

/-- a coin: is there one, which, and what the tape is then -/
def flipB (cs : List Bool) (p : Nat) (dead : Bool) : Bool := if dead ∨ p = cs.length then false else cs.getD p false
def flipE (cs : List Bool) (p : Nat) (dead : Bool) : Int := if dead ∨ p = cs.length then 8 else 0
def flipP (cs : List Bool) (p : Nat) (dead : Bool) : Nat := if dead ∨ p = cs.length then p else p + 1
def flipD (cs : List Bool) (p : Nat) (dead : Bool) : Bool := if dead ∨ p = cs.length then true else dead

theorem cloneB_ok (n : Nat) (l : List D) (hl : l.length = n) (hn : n ≤ 4000000) : Eqn Tryz.prog n_slices_Clone_bool_bool [.d (.sl n l)] [] (.d (.sl n l)) [] := by
  refine Eqn.pure r_slices_Clone_bool_bool (plain_d _) ?_
  simp only [c_slices_Clone_bool_bool]
  rcases Nat.eq_zero_or_pos n with rfl | h0
  · have : l = [] := List.eq_nil_of_length_eq_zero hl
    subst this
    refine AW.empty 0 rfl ?_ ?_
    · simp
      refine G0 ?_; try with_reducible exact tt
      refine AW.cond rfl (fun h => ?_) (fun h => ?_)
      · refine G0 ?_; try with_reducible exact tt
        exact Sub1.nil
      · simp at h
    · simp
      refine G0 ?_; try with_reducible exact tt
      refine AW.cond rfl (fun h => ?_) (fun h => ?_)
      · simp at h
      · refine G0 ?_; try with_reducible exact tt
        exact Sub1.sl0
  · refine G1 h0 ?_; try with_reducible exact tt
    refine AW.cond rfl (fun h => ?_) (fun h => ?_)
    · simp at h
    · refine G0 ?_; try with_reducible exact tt
      have h1 : ¬ n = 0 := by omega
      simp [h1, hl]
      refine need.of (by omega) ?_
      refine AW.freeze 0 1 ⟨4, l.map .d⟩ l (by simp) rfl ?_
      simp
      refine G0 ?_; try with_reducible exact tt
      have : l.take n = l := List.take_of_length_le (by omega)
      simp [this]

theorem flip_ok (cs : List Bool) (p : Nat) (dd : Bool) (hp : p ≤ cs.length) (hn : cs.length ≤ 4000000) : Eqn Tryz.prog n_tape_Tape_Flip [.p 0 0] [tapeO cs p dd] (.tup [.d (.bool (flipB cs p dd)), .d (.int .i64 (flipE cs p dd))]) [tapeO cs (flipP cs p dd) (flipD cs p dd)] := by
  refine Eqn.obj1 r_tape_Tape_Flip (plain_tup2 _ _) ⟨rfl, fun _ => rfl⟩ ?_
  simp only [c_tape_Tape_Flip, tapeO, BL]
  cases dd with
  | true =>
    refine G0 ?_; try with_reducible exact tt
    refine AW.cond rfl (fun h => ?_) (fun h => ?_)
    · refine G0 ?_; try with_reducible exact tt
      simp [flipB, flipE, flipP, flipD]
    · simp at h
  | false =>
    by_cases h : p = cs.length
    · subst h
      refine G0 ?_; try with_reducible exact tt
      refine AW.cond rfl (fun h => ?_) (fun h => ?_)
      · refine G0 ?_; try with_reducible exact tt
        simp [flipB, flipE, flipP, flipD]
      · simp at h
    · have h1 : ¬ (p : Int) = cs.length := by omega
      have h2 : p < cs.length := by omega
      refine G1 (fs h1 h) ?_; try with_reducible exact tt
      refine AW.cond rfl (fun h => ?_) (fun h => ?_)
      · simp [h1] at h
      · have e1 : IntKind.i64.wrap ((p : Int) + 1) = (p : Int) + 1 := w64 (by omega) (by omega)
        have e2 : IntKind.i64.wrap ((p : Int) + 1 - 1) = (p : Int) := by rw [Int.add_sub_cancel]; exact w64 (by omega) (by omega)
        refine G1 (fs h1 (fs h2 (fs e1 e2))) ?_; try with_reducible exact tt
        have h4 : ¬ p = cs.length := by omega
        have h3 : cs[p]?.getD false = cs[p] := by simp [h2]
        simp [flipB, flipE, flipP, flipD, h4, h3]

/-- so many coins that are true -/
def halfR (cs : List Bool) : Nat → Nat → Bool → Bool × Int × Nat × Bool
  | 0, p, dd => (true, 0, p, dd)
  | k + 1, p, dd => if flipB cs p dd then halfR cs k (flipP cs p dd) (flipD cs p dd) else (false, flipE cs p dd, flipP cs p dd, flipD cs p dd)

theorem flipP_le {cs : List Bool} {p : Nat} {dd : Bool} (h : p ≤ cs.length) : flipP cs p dd ≤ cs.length := by
  unfold flipP; split
  · exact h
  · rename_i h'; rw [not_or] at h'; omega

theorem half_ok (cs : List Bool) (p : Nat) (dd : Bool) (k : Int) (hk : k ≤ 4000000) (hp : p ≤ cs.length) (hn : cs.length ≤ 4000000) :
    Eqn Tryz.prog n_flip_Half [.p 0 0, .d (.int .i64 k)] [tapeO cs p dd] (.tup [.d (.bool (halfR cs k.toNat p dd).1), .d (.int .i64 (halfR cs k.toNat p dd).2.1)]) [tapeO cs (halfR cs k.toNat p dd).2.2.1 (halfR cs k.toNat p dd).2.2.2] := by
  refine Eqn.obj1 r_flip_Half (plain_tup2 _ _) ⟨rfl, fun _ => rfl⟩ ?_
  simp only [c_flip_Half]
  obtain ⟨K, hK, hK2⟩ : ∃ K : Nat, K = k.toNat ∧ max 0 k = (K : Int) := ⟨k.toNat, rfl, by omega⟩
  rw [← hK]
  refine G1 hK2 ?_; try with_reducible exact tt
  refine AW.loopT (α := Nat × Nat × Bool) 1 (fun s => [(10, .d (.int .i64 (s.1 : Int)))]) (fun s => [(0, tapeO cs s.2.1 s.2.2)]) (fun s => s.1 ≤ K ∧ s.2.1 ≤ cs.length ∧ halfR cs (K - s.1) s.2.1 s.2.2 = halfR cs K p dd) (fun s => K - s.1) (0, p, dd) ?_ ?_ ⟨Nat.zero_le _, hp, rfl⟩ ?_ ?_ ?_
  · simp
  · simp
  · simp
  · simp
  rintro ⟨i, q, d⟩ ⟨hi, hq, hR⟩
  simp only at hi hq hR
  rw [← hR]
  simp [-Bool.exists_bool]
  by_cases h : i = K
  · subst h
    refine G0 ?_; try with_reducible exact tt
    refine AW.cond rfl (fun h => ?_) (fun h => ?_)
    · simp at h
    refine G0 ?_; try with_reducible exact tt
    simp [halfR]
  · have hlt : (i : Int) < K := by omega
    have hlt' : i < K := by omega
    obtain ⟨r, hr⟩ : ∃ r, K - i = r + 1 := ⟨K - i - 1, by omega⟩
    refine G1B (fs hlt hlt') ?_; try with_reducible exact tt
    refine AW.cond rfl (fun h => ?_) (fun h => ?_)
    · refine G0B ?_; try with_reducible exact tt
      refine CallS.o1 0 (flip_ok cs q d hq hn) (R0B ?_); try with_reducible exact tt
      refine AW.cond rfl (fun h => ?_) (fun h => ?_)
      · have hb : flipB cs q d = false := by simpa using h
        refine G0 ?_; try with_reducible exact tt
        simp [hr, halfR, hb]
      · have hb : flipB cs q d = true := by simpa using h
        have ew : IntKind.i64.wrap ((i : Int) + 1) = (i : Int) + 1 := w64 (by omega) (by omega)
        refine G1B ew ?_; try with_reducible exact tt
        refine ⟨i + 1, flipP cs q d, flipD cs q d, ⟨hlt', flipP_le hq, ?_⟩, by omega, by simp, by simp⟩
        rw [hr, halfR, if_pos hb, show K - (i + 1) = r by omega]
    · simp [hlt'] at h
end
end Go.Proofs.YtijbgbpjionfjaaGreatDoor.Am
namespace Go.Proofs.YtijbgbpjionfjaaGreatDoor.Am
section
open Go.RowKit
theorem good_ok (d : Int) : Eqn Tryz.prog n_float_Good [.d (.int .i64 d)] [] (.d (.bool (decide (0 ≤ d ∧ d ≤ 8)))) [] := by
  refine Eqn.pure r_float_Good (plain_d _) ?_
  simp only [c_float_Good]
  by_cases h : 0 ≤ d
  · refine G1 h ?_; try with_reducible exact tt
  · refine G1 h ?_; try with_reducible exact tt

def okK (k : Int) : Bool := decide (0 ≤ k ∧ k ≤ 1023)
/-- what is wrong -/
def wrongZ (d : Int) (ks : List Int) : Int := if 0 ≤ d ∧ d ≤ 8 then (if ks.all okK then 0 else 2) else 10

theorem wrong_ok (d : Int) (ks : List Int) (hn : ks.length ≤ 1000000) : Eqn Tryz.prog n_float_wrong [.d (.int .i64 d), .d (.sl ks.length (ks.map fun k : Int => .int .i64 k))] [] (.d (.int .i64 (wrongZ d ks))) [] := by
  refine Eqn.pure r_float_wrong (plain_d _) ?_
  simp only [c_float_wrong]
  refine G0 ?_; try with_reducible exact tt
  refine CallS.pu (good_ok d) (R0 ?_); try with_reducible exact tt
  by_cases hd : 0 ≤ d ∧ d ≤ 8
  · refine AW.cond rfl (fun h => ?_) (fun h => ?_)
    · simp [hd] at h
    refine G0 ?_; try with_reducible exact tt
    refine AW.loopT (α := Nat) 0 (fun i => [(12, .d (.int .i64 (i : Int)))]) (fun i => []) (fun i => i ≤ ks.length ∧ (ks.take i).all okK = true) (fun i => ks.length - i) 0 ?_ ?_ ⟨Nat.zero_le _, by simp⟩ ?_ ?_ ?_
    · simp
    · simp
    · simp
    · simp
    rintro i ⟨hi, hall⟩
    simp
    by_cases h : i = ks.length
    · subst h
      rw [List.take_length] at hall
      refine G0 ?_; try with_reducible exact tt
      refine AW.cond rfl (fun h => ?_) (fun h => ?_)
      · simp at h
      refine G0 ?_; try with_reducible exact tt
      refine Sub1.int ?_
      rw [wrongZ, if_pos hd, if_pos hall]
    · have hi' : i < ks.length := by omega
      have hp : (i : Int) < ks.length := by omega
      refine G1 (fs hi' hp) ?_; try with_reducible exact tt
      refine AW.cond rfl (fun h => ?_) (fun h => ?_)
      · have hbad : okK ks[i] = false → wrongZ d ks = 2 := by
          intro hb
          rw [wrongZ, if_pos hd, if_neg]
          intro ha
          rw [List.all_eq_true] at ha
          have := ha ks[i] (List.getElem_mem _)
          rw [hb] at this; cases this
        by_cases h0 : ks[i] < 0
        · refine G1 (fs hi' (fs hp h0)) ?_; try with_reducible exact tt
          refine AW.cond rfl (fun h => ?_) (fun h => ?_)
          · refine G0 ?_; try with_reducible exact tt
            refine Sub1.int ?_
            rw [hbad (by simp [okK]; omega)]
          · simp [h0] at h
        · by_cases h1 : 1023 < ks[i]
          · refine G1 (fs hi' (fs hp (fs h0 h1))) ?_; try with_reducible exact tt
            refine AW.cond rfl (fun h => ?_) (fun h => ?_)
            · refine G0 ?_; try with_reducible exact tt
              refine Sub1.int ?_
              rw [hbad (by simp [okK]; omega)]
            · simp [h0, h1] at h
          · refine G1 (fs hi' (fs hp (fs h0 h1))) ?_; try with_reducible exact tt
            refine AW.cond rfl (fun h => ?_) (fun h => ?_)
            · simp [h0, h1] at h
            have ew : IntKind.i64.wrap ((i : Int) + 1) = (i : Int) + 1 := w64 (by omega) (by omega)
            refine G1 ew ?_; try with_reducible exact tt
            refine ⟨i + 1, ⟨by omega, ?_⟩, by omega, by simp⟩
            rw [List.take_add_one, List.getElem?_eq_getElem hi']
            intro x hx
            rcases List.mem_append.1 hx with hx | hx
            · exact List.all_eq_true.1 hall x hx
            · simp at hx
              subst hx
              simp [okK]; omega
      · simp [hi'] at h
  · refine AW.cond rfl (fun h => ?_) (fun h => ?_)
    · refine G0 ?_; try with_reducible exact tt
      refine Sub1.int ?_
      rw [wrongZ, if_neg hd]
    · simp at h
      exact absurd h hd

/-- the second part of a place -/
def partV (d k : Nat) : Int := bits .and .i64 k (IntKind.i64.wrap (IntKind.i64.wrap (2 ^ d) - 1))
theorem parts_ok (d k : Nat) (hd : d ≤ 8) (hk : k ≤ 1023) : Eqn Tryz.prog n_float_parts [.d (.int .i64 d), .d (.int .i64 k)] [] (.tup [.d (.int .i64 (k / 2 ^ d : Nat)), .d (.int .i64 (partV d k))]) [] := by
  refine Eqn.pure r_float_parts (plain_tup2 _ _) ?_
  simp only [c_float_parts]
  refine G0 ?_; try with_reducible exact tt
  exact Sub1.of rfl

theorem wrong1_ok (d k : Int) : Eqn Tryz.prog n_float_wrong [.d (.int .i64 d), .d (.sl 1 [.int .i64 k])] [] (.d (.int .i64 (wrongZ d [k]))) [] := wrong_ok d [k] (by simp)
theorem wrong_zero {d k : Int} {ks : List Int} (h : wrongZ d (k :: ks) = 0) : 0 ≤ d ∧ d ≤ 8 ∧ 0 ≤ k ∧ k ≤ 1023 := by
  unfold wrongZ at h
  split at h
  · split at h
    · rename_i h1 h2
      simp [okK] at h2
      omega
    · omega
  · omega

/-- what a step at another place is here -/
def againR (cs : List Bool) (d k j : Int) : Bool × Int × Nat × Bool := if wrongZ d [k, j] = 0 then halfR cs (k.toNat / 2 ^ d.toNat - j.toNat / 2 ^ d.toNat) 0 false else (false, wrongZ d [k, j], 0, false)

/-- a step at a place -/
def stepR (cs : List Bool) (d k : Int) : Bool × Int × Nat × Bool := if wrongZ d [k] = 0 then halfR cs (k.toNat / 2 ^ d.toNat) 0 false else (false, wrongZ d [k], 0, false)
end
end Go.Proofs.YtijbgbpjionfjaaGreatDoor.Am
namespace Go.Proofs.YtijbgbpjionfjaaGreatDoor.Am
section
open Go.RowKit
theorem sub_less (m n : Nat) (hm : size m ≤ 1000000) (hn : size n ≤ 1000000) (h : m < n) : Eqn Tryz.prog n_nat_Sub [.d (.agg [natW m]), .d (.agg [natW n])] [] (.tup [.d (.agg [.nilsl]), .d (.int .i64 2)]) [] := by
  refine Eqn.pure r_nat_Sub (plain_tup2 _ _) ?_
  simp only [c_nat_Sub]
  refine G0 ?_; try with_reducible exact tt
  refine CallS.pu (cmp_ok m n hm hn) (R0 ?_); try with_reducible exact tt
  have hc : cmpZ m n = -1 := by unfold cmpZ; rw [if_pos h]
  refine AW.cond rfl (fun h => ?_) (fun h => ?_)
  · refine G0 ?_; try with_reducible exact tt
  · simp [hc] at h

theorem fgood_ok (p q : Nat) (hp : size p ≤ 1000000) (hq : size q ≤ 1000000) : Eqn Tryz.prog n_flip_good [.d (.agg [natW p]), .d (.agg [natW q])] [] (.d (.bool (decide (0 < q ∧ p ≤ q)))) [] := by
  refine Eqn.pure r_flip_good (plain_d _) ?_
  simp only [c_flip_good]
  by_cases h : q = 0
  · subst h
    refine G0 ?_; try with_reducible exact tt
    refine CallS.pu (zero_ok 0) (R0 ?_); try with_reducible exact tt
  · have h0 : (q == 0) = false := by simpa using h
    have hc : decide (cmpZ p q ≤ 0) = decide (0 < q ∧ p ≤ q) := by
      unfold cmpZ
      split
      · simp; omega
      · split
        · simp; omega
        · simp; omega
    refine G0 ?_; try with_reducible exact tt
    refine CallS.pu (zero_ok q) (R1 (fs h0 h) ?_); try with_reducible exact tt
    refine CallS.pu (cmp_ok p q hp hq) (R1 (fs h0 h) ?_); try with_reducible exact tt
    try simp [hc]

/-- so many coins as it takes: p by q -/
def ratioR (cs : List Bool) (q : Nat) : Nat → Nat → Nat → Bool → Bool × Int × Nat × Bool
  | 0, _, p, dd => (true, 0, p, dd)
  | f + 1, r, p, dd =>
    if r < q then
      if flipE cs p dd = 0 then
        if flipB cs p dd ≠ decide (q ≤ r + r) ∨ (if q ≤ r + r then r + r - q else r + r) = 0 then (decide (q ≤ r + r) && !flipB cs p dd, 0, flipP cs p dd, flipD cs p dd)
        else ratioR cs q f (if q ≤ r + r then r + r - q else r + r) (flipP cs p dd) (flipD cs p dd)
      else (false, flipE cs p dd, flipP cs p dd, flipD cs p dd)
    else (true, 0, p, dd)
/-- of p by q -/
def ratioA (cs : List Bool) (a q : Nat) (p : Nat) (dd : Bool) : Bool × Int × Nat × Bool := if a = 0 then (false, 0, p, dd) else ratioR cs q (cs.length + 1 - p) a p dd

theorem ratio_ok (cs : List Bool) (a q p : Nat) (dd : Bool) (ha : a ≤ q) (h0 : 0 < q) (hq : q < 9223372036854775808) (hp : p ≤ cs.length) (hn : cs.length ≤ 4000000) :
    Eqn Tryz.prog n_flip_Ratio [.p 0 0, .d (.agg [natW a]), .d (.agg [natW q])] [tapeO cs p dd] (.tup [.d (.bool (ratioA cs a q p dd).1), .d (.int .i64 (ratioA cs a q p dd).2.1)]) [tapeO cs (ratioA cs a q p dd).2.2.1 (ratioA cs a q p dd).2.2.2] := by
  refine Eqn.obj1 r_flip_Ratio (plain_tup2 _ _) ⟨rfl, fun _ => rfl⟩ ?_
  simp only [c_flip_Ratio]
  have sz : ∀ {x : Nat}, x < 18446744073709551616 → size x ≤ 1000000 := fun hx => Nat.le_trans (size_one hx) (by omega)
  have hg := fgood_ok a q (sz (by omega)) (sz (by omega))
  rw [show decide (0 < q ∧ a ≤ q) = true by simp; omega] at hg
  refine G0B ?_; try with_reducible exact tt
  refine CallS.pu (hg) (R0B ?_); try with_reducible exact tt
  refine AW.cond rfl (fun h => ?_) (fun h => ?_)
  · simp at h
  clear h
  refine G0B ?_; try with_reducible exact tt
  refine CallS.pu (zero_ok a) (R0B ?_); try with_reducible exact tt
  refine AW.cond rfl (fun h => ?_) (fun h => ?_)
  · have ha0 : a = 0 := by simpa using h
    subst ha0
    refine G0B ?_; try with_reducible exact tt
    simp [ratioA]
  have ha0 : ¬ a = 0 := by simpa using h
  clear h
  rw [ratioA, if_neg ha0]
  obtain ⟨R, hR⟩ : ∃ R, R = ratioR cs q (cs.length + 1 - p) a p dd := ⟨_, rfl⟩
  rw [← hR]
  refine G0B ?_; try with_reducible exact tt
  refine AW.loopS (α := Nat × Nat × Bool) 4 3 (fun s => [(8, .p 3 0)]) (fun s => [(0, tapeO cs s.2.1 s.2.2), (3, ⟨47, [.d (natW s.1)]⟩)]) (fun s => s.1 ≤ q ∧ s.2.1 ≤ cs.length ∧ R = ratioR cs q (cs.length + 1 - s.2.1) s.1 s.2.1 s.2.2) (fun s => cs.length + 1 - s.2.1) (a, p, dd) ?_ ?_ ?_ ?_ ⟨ha, hp, hR⟩ ?_ ?_ ?_
  · simp
  · simp
  · simp
  · simp
  · simp
  · simp
  rintro ⟨r, z, d⟩ ⟨hr, hz, hR⟩
  simp only at hr hz hR
  simp [-Bool.exists_bool]
  obtain ⟨f, hf⟩ : ∃ f, cs.length + 1 - z = f + 1 := ⟨cs.length - z, by omega⟩
  rw [hf, ratioR] at hR
  refine G0B ?_; try with_reducible exact tt
  refine CallS.pu (cmp_ok r q (sz (by omega)) (sz (by omega))) (R0B ?_); try with_reducible exact tt
  refine AW.cond rfl (fun h => ?_) (fun h => ?_)
  · have hlt : r < q := by simpa [cmpZ_lt] using h
    clear h
    rw [if_pos hlt] at hR
    refine G0B ?_; try with_reducible exact tt
    refine CallS.o1 0 (flip_ok cs z d hz hn) (R0B ?_); try with_reducible exact tt
    by_cases hE : flipE cs z d = 0
    · have hE2 : flipP cs z d = z + 1 ∧ z < cs.length := by
        unfold flipE at hE
        unfold flipP
        split at hE
        · omega
        · rename_i h'
          rw [if_neg h']
          rw [not_or] at h'
          omega
      rw [if_pos hE] at hR
      have ha2 := add_ok r r (sz (by omega)) (sz (by omega))
      generalize flipB cs z d = b at *
      generalize flipD cs z d = d' at *
      rw [hE2.1] at hR ⊢
      have hz' := hE2.2
      clear hE2
      refine AW.cond rfl (fun h => ?_) (fun h => ?_)
      · simp [hE] at h
      clear h
      refine G0B ?_; try with_reducible exact tt
      refine CallS.pu (ha2) (R0B ?_); try with_reducible exact tt
      by_cases hd : q ≤ r + r
      · rw [if_pos hd, show decide (q ≤ r + r) = true by simp [hd]] at hR
        refine CallS.pu (sub_ok (r + r) q (sz (by omega)) hd) (R0B ?_); try with_reducible exact tt
        refine AW.cond rfl (fun h => ?_) (fun h => ?_)
        · clear h
          cases b with
          | true =>
            simp only [ne_eq, not_true_eq_false, not_false_eq_true, Bool.true_eq_false, Bool.false_eq_true, reduceCtorEq, false_or, true_or, if_true] at hR
            refine G0B ?_; try with_reducible exact tt
            refine CallS.pu (zero_ok (r + r - q)) (R0B ?_); try with_reducible exact tt
            by_cases hz0 : r + r - q = 0
            · rw [if_pos hz0] at hR
              refine AW.cond rfl (fun h => ?_) (fun h => ?_)
              · refine G0B ?_; try with_reducible exact tt
                simp [hR]
              · first | (simp [hz0] at h; done) | (exfalso; simp at h; omega)
            · rw [if_neg hz0] at hR
              refine AW.cond rfl (fun h => ?_) (fun h => ?_)
              · first | (simp [hz0] at h; done) | (exfalso; simp at h; omega)
              · clear h
                refine G0B ?_; try with_reducible exact tt
                refine ⟨r + r - q, z + 1, d', 5, by omega, by omega, ⟨by omega, by omega, by rw [show cs.length + 1 - (z + 1) = f by omega]; exact hR⟩, by omega, ?_⟩
                simp [swT, swH, sw, Ob.sw, V.ren, V.rens, tapeO]
          | false =>
            simp only [ne_eq, not_true_eq_false, not_false_eq_true, Bool.true_eq_false, Bool.false_eq_true, reduceCtorEq, false_or, true_or, if_true] at hR
            refine G0B ?_; try with_reducible exact tt
            refine AW.cond rfl (fun h => ?_) (fun h => ?_)
            · refine G0B ?_; try with_reducible exact tt
              simp [hR]
            · simp at h
        · simp at h
      · rw [if_neg hd, show decide (q ≤ r + r) = false by simp [hd]] at hR
        refine CallS.pu (sub_less (r + r) q (sz (by omega)) (sz (by omega)) (by omega)) (R0B ?_); try with_reducible exact tt
        refine AW.cond rfl (fun h => ?_) (fun h => ?_)
        · simp at h
        · clear h
          cases b with
          | false =>
            simp only [ne_eq, not_true_eq_false, not_false_eq_true, Bool.true_eq_false, Bool.false_eq_true, reduceCtorEq, false_or, true_or, if_true] at hR
            refine G0B ?_; try with_reducible exact tt
            refine CallS.pu (zero_ok (r + r)) (R0B ?_); try with_reducible exact tt
            by_cases hz0 : r + r = 0
            · rw [if_pos hz0] at hR
              refine AW.cond rfl (fun h => ?_) (fun h => ?_)
              · refine G0B ?_; try with_reducible exact tt
                simp [hR]
              · first | (simp [hz0] at h; done) | (exfalso; simp at h; omega)
            · rw [if_neg hz0] at hR
              refine AW.cond rfl (fun h => ?_) (fun h => ?_)
              · first | (simp [hz0] at h; done) | (exfalso; simp at h; omega)
              · clear h
                refine G0B ?_; try with_reducible exact tt
                refine ⟨r + r, z + 1, d', 5, by omega, by omega, ⟨by omega, by omega, by rw [show cs.length + 1 - (z + 1) = f by omega]; exact hR⟩, by omega, ?_⟩
                simp [swT, swH, sw, Ob.sw, V.ren, V.rens, tapeO]
          | true =>
            simp only [ne_eq, not_true_eq_false, not_false_eq_true, Bool.true_eq_false, Bool.false_eq_true, reduceCtorEq, false_or, true_or, if_true] at hR
            refine G0B ?_; try with_reducible exact tt
            refine AW.cond rfl (fun h => ?_) (fun h => ?_)
            · refine G0B ?_; try with_reducible exact tt
              simp [hR]
            · simp at h
    · rw [if_neg hE] at hR
      refine AW.cond rfl (fun h => ?_) (fun h => ?_)
      · refine G0B ?_; try with_reducible exact tt
        simp [hR]
      · simp [hE] at h
  · have hlt : ¬ r < q := by simpa [cmpZ_lt] using h
    rw [if_neg hlt] at hR
    refine AW.exit ?_
    (try (simp -implicitDefEqProofs [-Bool.exists_bool]; try simp (disch := omega) only [w64, wu64]))
    refine G0B ?_; try with_reducible exact tt
    simp [hR]
end
end Go.Proofs.YtijbgbpjionfjaaGreatDoor.Am
namespace Go.Proofs.YtijbgbpjionfjaaGreatDoor.Am
section
open Go.RowKit
theorem ratioR_le {cs : List Bool} {q : Nat} : ∀ (f r p : Nat) (dd : Bool), p ≤ cs.length → (ratioR cs q f r p dd).2.2.1 ≤ cs.length
  | 0, _, _, _, h => h
  | f + 1, r, p, dd, h => by
    rw [ratioR]
    generalize (if q ≤ r + r then r + r - q else r + r) = r3
    split
    · split
      · split
        · exact flipP_le h
        · exact ratioR_le f _ _ _ (flipP_le h)
      · exact flipP_le h
    · exact h
theorem ratioA_le {cs : List Bool} {a q p : Nat} {dd : Bool} (h : p ≤ cs.length) : (ratioA cs a q p dd).2.2.1 ≤ cs.length := by
  rw [ratioA]
  split
  · exact h
  · exact ratioR_le _ _ _ _ h

/-- so many of these -/
def powerR (cs : List Bool) (a q : Nat) : Nat → Nat → Bool → Bool × Int × Nat × Bool
  | 0, p, dd => (true, 0, p, dd)
  | k + 1, p, dd => if (ratioA cs a q p dd).1 then powerR cs a q k (ratioA cs a q p dd).2.2.1 (ratioA cs a q p dd).2.2.2 else ratioA cs a q p dd

theorem power_ok (cs : List Bool) (a q p : Nat) (dd : Bool) (k : Int) (ha : a ≤ q) (h0 : 0 < q) (hq : q < 9223372036854775808) (hk : k ≤ 4000000) (hp : p ≤ cs.length) (hn : cs.length ≤ 4000000) :
    Eqn Tryz.prog n_flip_Power [.p 0 0, .d (.agg [natW a]), .d (.agg [natW q]), .d (.int .i64 k)] [tapeO cs p dd] (.tup [.d (.bool (powerR cs a q k.toNat p dd).1), .d (.int .i64 (powerR cs a q k.toNat p dd).2.1)]) [tapeO cs (powerR cs a q k.toNat p dd).2.2.1 (powerR cs a q k.toNat p dd).2.2.2] := by
  refine Eqn.obj1 r_flip_Power (plain_tup2 _ _) ⟨rfl, fun _ => rfl⟩ ?_
  simp only [c_flip_Power]
  have sz : ∀ {x : Nat}, x < 18446744073709551616 → size x ≤ 1000000 := fun hx => Nat.le_trans (size_one hx) (by omega)
  have hg := fgood_ok a q (sz (by omega)) (sz (by omega))
  rw [show decide (0 < q ∧ a ≤ q) = true by simp; omega] at hg
  obtain ⟨K, hK, hK2⟩ : ∃ K : Nat, K = k.toNat ∧ max 0 k = (K : Int) := ⟨k.toNat, rfl, by omega⟩
  rw [← hK]
  obtain ⟨R, hR⟩ : ∃ R, R = powerR cs a q K p dd := ⟨_, rfl⟩
  rw [← hR]
  refine G0B ?_; try with_reducible exact tt
  refine CallS.pu (hg) (R0B ?_); try with_reducible exact tt
  refine AW.cond rfl (fun h => ?_) (fun h => ?_)
  · simp at h
  clear h
  refine G1B hK2 ?_; try with_reducible exact tt
  refine AW.loopT (α := Nat × Nat × Bool) 3 (fun s => [(18, .d (.int .i64 (s.1 : Int)))]) (fun s => [(0, tapeO cs s.2.1 s.2.2)]) (fun s => s.1 ≤ K ∧ s.2.1 ≤ cs.length ∧ R = powerR cs a q (K - s.1) s.2.1 s.2.2) (fun s => K - s.1) (0, p, dd) ?_ ?_ ⟨Nat.zero_le _, hp, hR⟩ ?_ ?_ ?_
  · simp
  · simp
  · simp
  · simp
  rintro ⟨i, z, d⟩ ⟨hi, hz, hR⟩
  simp only at hi hz hR
  simp [-Bool.exists_bool]
  by_cases h : i = K
  · subst h
    rw [Nat.sub_self, powerR] at hR
    refine G0B ?_; try with_reducible exact tt
    refine AW.cond rfl (fun h => ?_) (fun h => ?_)
    · simp at h
    refine AW.exit ?_
    (try (simp -implicitDefEqProofs [-Bool.exists_bool]; try simp (disch := omega) only [w64, wu64]))
    refine G0B ?_; try with_reducible exact tt
    simp [hR]
  · have hlt : (i : Int) < K := by omega
    have hlt' : i < K := by omega
    obtain ⟨r, hr⟩ : ∃ r, K - i = r + 1 := ⟨K - i - 1, by omega⟩
    rw [hr, powerR] at hR
    have hra := ratio_ok cs a q z d ha h0 hq hz hn
    have hle := ratioA_le (cs := cs) (a := a) (q := q) (dd := d) hz
    generalize ratioA cs a q z d = S at *
    obtain ⟨S1, S2, S3, S4⟩ := S
    simp only at hra hR hle
    refine G1B (fs hlt hlt') ?_; try with_reducible exact tt
    refine AW.cond rfl (fun h => ?_) (fun h => ?_)
    · clear h
      refine G0B ?_; try with_reducible exact tt
      refine CallS.o1 0 (hra) (R0B ?_); try with_reducible exact tt
      refine AW.cond rfl (fun h => ?_) (fun h => ?_)
      · have hb : S1 = false := by simpa using h
        subst hb
        refine G0B ?_; try with_reducible exact tt
        simp [hR]
      · have hb : S1 = true := by simpa using h
        subst hb
        rw [if_pos rfl] at hR
        have ew : IntKind.i64.wrap ((i : Int) + 1) = (i : Int) + 1 := w64 (by omega) (by omega)
        refine G1B ew ?_; try with_reducible exact tt
        refine ⟨i + 1, S3, S4, ⟨hlt', hle, by rw [show K - (i + 1) = r by omega]; exact hR⟩, by omega, by simp, by simp⟩
    · simp [hlt'] at h
end
end Go.Proofs.YtijbgbpjionfjaaGreatDoor.Am
namespace Go.Proofs.YtijbgbpjionfjaaGreatDoor.Am
section
open Go.RowKit
theorem mgood_ok (d : Int) : Eqn Tryz.prog n_morris_Good [.d (.int .i64 d)] [] (.d (.bool (decide (1 ≤ d ∧ d ≤ 4096)))) [] := by
  refine Eqn.pure r_morris_Good (plain_d _) ?_
  simp only [c_morris_Good]
  by_cases h : 1 ≤ d
  · refine G1 h ?_; try with_reducible exact tt
  · refine G1 h ?_; try with_reducible exact tt

/-- what is wrong -/
def wrongM (d : Int) (ks : List Int) : Int := if 1 ≤ d ∧ d ≤ 4096 then (if ks.all okK then 0 else 2) else 10

theorem mwrong_ok (d : Int) (ks : List Int) (hn : ks.length ≤ 1000000) : Eqn Tryz.prog n_morris_wrong [.d (.int .i64 d), .d (.sl ks.length (ks.map fun k : Int => .int .i64 k))] [] (.d (.int .i64 (wrongM d ks))) [] := by
  refine Eqn.pure r_morris_wrong (plain_d _) ?_
  simp only [c_morris_wrong]
  refine G0 ?_; try with_reducible exact tt
  refine CallS.pu (mgood_ok d) (R0 ?_); try with_reducible exact tt
  by_cases hd : 1 ≤ d ∧ d ≤ 4096
  · refine AW.cond rfl (fun h => ?_) (fun h => ?_)
    · simp [hd] at h
    refine G0 ?_; try with_reducible exact tt
    refine AW.loopT (α := Nat) 0 (fun i => [(12, .d (.int .i64 (i : Int)))]) (fun i => []) (fun i => i ≤ ks.length ∧ (ks.take i).all okK = true) (fun i => ks.length - i) 0 ?_ ?_ ⟨Nat.zero_le _, by simp⟩ ?_ ?_ ?_
    · simp
    · simp
    · simp
    · simp
    rintro i ⟨hi, hall⟩
    simp
    by_cases h : i = ks.length
    · subst h
      rw [List.take_length] at hall
      refine G0 ?_; try with_reducible exact tt
      refine AW.cond rfl (fun h => ?_) (fun h => ?_)
      · simp at h
      refine G0 ?_; try with_reducible exact tt
      refine Sub1.int ?_
      rw [wrongM, if_pos hd, if_pos hall]
    · have hi' : i < ks.length := by omega
      have hp : (i : Int) < ks.length := by omega
      refine G1 (fs hi' hp) ?_; try with_reducible exact tt
      refine AW.cond rfl (fun h => ?_) (fun h => ?_)
      · have hbad : okK ks[i] = false → wrongM d ks = 2 := by
          intro hb
          rw [wrongM, if_pos hd, if_neg]
          intro ha
          rw [List.all_eq_true] at ha
          have := ha ks[i] (List.getElem_mem _)
          rw [hb] at this; cases this
        by_cases h0 : ks[i] < 0
        · refine G1 (fs hi' (fs hp h0)) ?_; try with_reducible exact tt
          refine AW.cond rfl (fun h => ?_) (fun h => ?_)
          · refine G0 ?_; try with_reducible exact tt
            refine Sub1.int ?_
            rw [hbad (by simp [okK]; omega)]
          · simp [h0] at h
        · by_cases h1 : 1023 < ks[i]
          · refine G1 (fs hi' (fs hp (fs h0 h1))) ?_; try with_reducible exact tt
            refine AW.cond rfl (fun h => ?_) (fun h => ?_)
            · refine G0 ?_; try with_reducible exact tt
              refine Sub1.int ?_
              rw [hbad (by simp [okK]; omega)]
            · simp [h0, h1] at h
          · refine G1 (fs hi' (fs hp (fs h0 h1))) ?_; try with_reducible exact tt
            refine AW.cond rfl (fun h => ?_) (fun h => ?_)
            · simp [h0, h1] at h
            have ew : IntKind.i64.wrap ((i : Int) + 1) = (i : Int) + 1 := w64 (by omega) (by omega)
            refine G1 ew ?_; try with_reducible exact tt
            refine ⟨i + 1, ⟨by omega, ?_⟩, by omega, by simp⟩
            rw [List.take_add_one, List.getElem?_eq_getElem hi']
            intro x hx
            rcases List.mem_append.1 hx with hx | hx
            · exact List.all_eq_true.1 hall x hx
            · simp at hx
              subst hx
              simp [okK]; omega
      · simp [hi'] at h
  · refine AW.cond rfl (fun h => ?_) (fun h => ?_)
    · refine G0 ?_; try with_reducible exact tt
      refine Sub1.int ?_
      rw [wrongM, if_neg hd]
    · simp at h
      exact absurd h hd

theorem mwrong1_ok (d k : Int) : Eqn Tryz.prog n_morris_wrong [.d (.int .i64 d), .d (.sl 1 [.int .i64 k])] [] (.d (.int .i64 (wrongM d [k]))) [] := mwrong_ok d [k] (by simp)
theorem wrongM_zero {d k : Int} {ks : List Int} (h : wrongM d (k :: ks) = 0) : 1 ≤ d ∧ d ≤ 4096 ∧ 0 ≤ k ∧ k ≤ 1023 := by
  unfold wrongM at h
  split at h
  · split at h
    · rename_i h1 h2
      simp [okK] at h2
      omega
    · omega
  · omega

theorem wval_one (x : Nat) : wval [x] = x := by simp [wval]
theorem mpower_ok (cs : List Bool) (a : Nat) (k : Int) (p : Nat) (dd : Bool) (h1 : 1 ≤ a) (h2 : a ≤ 4096) (hk : k ≤ 4000000) (hp : p ≤ cs.length) (hn : cs.length ≤ 4000000) :
    Eqn Tryz.prog n_morris_power [.p 0 0, .d (.int .i64 a), .d (.int .i64 k)] [tapeO cs p dd] (.tup [.d (.bool (powerR cs a (a + 1) k.toNat p dd).1), .d (.int .i64 (powerR cs a (a + 1) k.toNat p dd).2.1)]) [tapeO cs (powerR cs a (a + 1) k.toNat p dd).2.2.1 (powerR cs a (a + 1) k.toNat p dd).2.2.2] := by
  refine Eqn.obj1 r_morris_power (plain_tup2 _ _) ⟨rfl, fun _ => rfl⟩ ?_
  simp only [c_morris_power]
  have hh := power_ok cs a (a + 1) p dd k (by omega) (by omega) (by omega) hk hp hn
  generalize powerR cs a (a + 1) k.toNat p dd = R at *
  obtain ⟨R1, R2, R3, R4⟩ := R
  simp only at hh ⊢
  have e1 : IntKind.u64.wrap (a : Int) = a := wu64 (by omega) (by omega)
  have e2 : IntKind.i64.wrap ((a : Int) + 1) = ((a + 1 : Nat) : Int) := w64 (by omega) (by omega)
  have e3 : IntKind.u64.wrap ((a + 1 : Nat) : Int) = ((a + 1 : Nat) : Int) := wu64 (by omega) (by omega)
  obtain ⟨b, hb⟩ : ∃ b, b = a + 1 := ⟨_, rfl⟩
  rw [← hb] at hh e2 e3
  refine G1B e1 ?_; try with_reducible exact tt
  refine CallS.pf 1 1 ⟨28, _⟩ [.int .u64 (a : Nat)] (of_ok [a] (small_one (by omega)) (by simp)) (by first | rfl | (simp [e2, e3, wval_one, -Bool.exists_bool]; done)) ?_
  (try (simp -implicitDefEqProofs [e2, e3, wval_one, -Bool.exists_bool]; try simp (disch := omega) only [w64, wu64]))
  repeat (first | refine AW.seq ?_ | refine AW.block ?_ | (refine AW.reg mix ?_; simp -implicitDefEqProofs [e2, e3, wval_one, -Bool.exists_bool]; try simp (disch := omega) only [w64, wu64]) | (refine need.of (by first | omega | kernel_rfl) ?_) | (refine AW.fin ?_; try simp -implicitDefEqProofs [e2, e3, wval_one, -Bool.exists_bool]))
  refine CallS.pf 2 1 ⟨28, _⟩ [.int .u64 (b : Nat)] (of_ok [b] (small_one (by omega)) (by simp)) (by first | rfl | (simp [wval_one, -Bool.exists_bool]; done)) ?_
  (try (simp -implicitDefEqProofs [wval_one, -Bool.exists_bool]; try simp (disch := omega) only [w64, wu64]))
  repeat (first | refine AW.seq ?_ | refine AW.block ?_ | (refine AW.reg mix ?_; simp -implicitDefEqProofs [wval_one, -Bool.exists_bool]; try simp (disch := omega) only [w64, wu64]) | (refine need.of (by first | omega | kernel_rfl) ?_) | (refine AW.fin ?_; try simp -implicitDefEqProofs [wval_one, -Bool.exists_bool]))
  refine CallS.o1 0 (hh) (R0B ?_); try with_reducible exact tt

/-- a step at a place -/
def stepM (cs : List Bool) (d k : Int) (p : Nat) (dd : Bool) : Bool × Int × Nat × Bool := if wrongM d [k] = 0 then powerR cs d.toNat (d.toNat + 1) k.toNat p dd else (false, wrongM d [k], p, dd)

theorem mstep_ok (cs : List Bool) (d k : Int) (p : Nat) (dd : Bool) (hp : p ≤ cs.length) (hn : cs.length ≤ 4000000) :
    Eqn Tryz.prog n_morris_Step [.p 0 0, .d (.int .i64 d), .d (.int .i64 k)] [tapeO cs p dd] (.tup [.d (.bool (stepM cs d k p dd).1), .d (.int .i64 (stepM cs d k p dd).2.1)]) [tapeO cs (stepM cs d k p dd).2.2.1 (stepM cs d k p dd).2.2.2] := by
  refine Eqn.obj1 r_morris_Step (plain_tup2 _ _) ⟨rfl, fun _ => rfl⟩ ?_
  simp only [c_morris_Step]
  refine G0B ?_; try with_reducible exact tt
  refine CallS.pf 1 1 ⟨3, _⟩ [.int .i64 k] (mwrong1_ok d k) (by first | rfl | (simp [-Bool.exists_bool]; done)) (R0B ?_); try with_reducible exact tt
  by_cases h : wrongM d [k] = 0
  · obtain ⟨h1, h2, h3, h4⟩ := wrongM_zero h
    obtain ⟨d, rfl⟩ : ∃ n : Nat, d = n := ⟨d.toNat, by omega⟩
    rw [stepM, if_pos h]
    have hh := mpower_ok cs d k p dd (by omega) (by omega) (by omega) hp hn
    simp only [Int.toNat_natCast]
    generalize powerR cs d (d + 1) k.toNat p dd = R at *
    obtain ⟨R1, R2, R3, R4⟩ := R
    simp only at hh ⊢
    refine AW.cond rfl (fun h => ?_) (fun h => ?_)
    · simp [*] at h
    clear h
    refine G0B ?_; try with_reducible exact tt
    refine CallS.o1 0 (hh) (R0B ?_); try with_reducible exact tt
  · rw [stepM, if_neg h]
    refine AW.cond rfl (fun h => ?_) (fun h => ?_)
    · refine G0B ?_; try with_reducible exact tt
    · simp [*] at h
end
end Go.Proofs.YtijbgbpjionfjaaGreatDoor.Am
namespace Go.Proofs.YtijbgbpjionfjaaGreatDoor.Am
section
open Go.RowKit
theorem meth_mgood : MethOK Tryz.prog 245 "tallymark/chain.good" n_chain_aMorris_good := fun v w => by kernel_rfl
theorem meth_fgood : MethOK Tryz.prog 246 "tallymark/chain.good" n_chain_aFloat_good := fun v w => by kernel_rfl
theorem meth_ygood : MethOK Tryz.prog 247 "tallymark/chain.good" n_chain_aYu_good := fun v w => by kernel_rfl
theorem meth_mstep : MethOK Tryz.prog 245 "tallymark/chain.step" n_chain_aMorris_step := fun v w => by kernel_rfl
theorem meth_fstep : MethOK Tryz.prog 246 "tallymark/chain.step" n_chain_aFloat_step := fun v w => by kernel_rfl
theorem meth_ystep : MethOK Tryz.prog 247 "tallymark/chain.step" n_chain_aYu_step := fun v w => by kernel_rfl

theorem cmgood_ok (a : Int) : Eqn Tryz.prog n_chain_aMorris_good [.d (.int .i64 a)] [] (.d (.bool (decide (1 ≤ a ∧ a ≤ 4096)))) [] := by
  refine Eqn.pure r_chain_aMorris_good (plain_d _) ?_
  simp only [c_chain_aMorris_good]
  refine G0 ?_; try with_reducible exact tt
  refine CallS.pu (mgood_ok a) (R0 ?_); try with_reducible exact tt
theorem cfgood_ok (a : Int) : Eqn Tryz.prog n_chain_aFloat_good [.d (.int .i64 a)] [] (.d (.bool (decide (0 ≤ a ∧ a ≤ 8)))) [] := by
  refine Eqn.pure r_chain_aFloat_good (plain_d _) ?_
  simp only [c_chain_aFloat_good]
  refine G0 ?_; try with_reducible exact tt
  refine CallS.pu (good_ok a) (R0 ?_); try with_reducible exact tt

/-- what a kind does -/
def kindD (k a : Int) : D := if k = 1 then .ifc 245 (.int .i64 a) else if k = 2 then .ifc 246 (.int .i64 a) else if k = 3 then .ifc 247 (.int .i64 a) else .nilifc
theorem kind_ok (k a w : Int) : Eqn Tryz.prog n_chain_Param_kind [.d (.agg [.int .i64 k, .int .i64 a, .int .i64 w])] [] (.d (kindD k a)) [] := by
  refine Eqn.pure r_chain_Param_kind (plain_d _) ?_
  simp only [c_chain_Param_kind, kindD]
  refine G0 ?_; try with_reducible exact tt
  refine AW.cond rfl (fun h => ?_) (fun h => ?_)
  · have hk : k = 1 := by simpa using h
    subst hk
    refine G0 ?_; try with_reducible exact tt
  have h1 : ¬ k = 1 := by simpa using h
  clear h
  refine G1 h1 ?_; try with_reducible exact tt
  refine AW.cond rfl (fun h => ?_) (fun h => ?_)
  · have hk : k = 2 := by simpa using h
    subst hk
    refine G0 ?_; try with_reducible exact tt
  have h2 : ¬ k = 2 := by simpa using h
  clear h
  refine G1 (fs h1 h2) ?_; try with_reducible exact tt
  refine AW.cond rfl (fun h => ?_) (fun h => ?_)
  · have hk : k = 3 := by simpa using h
    subst hk
    refine G0 ?_; try with_reducible exact tt
  have h3 : ¬ k = 3 := by simpa using h
  clear h
  refine G1 (fs h1 (fs h2 h3)) ?_; try with_reducible exact tt
end
end Go.Proofs.YtijbgbpjionfjaaGreatDoor.Am
namespace Go.Proofs.YtijbgbpjionfjaaGreatDoor.Am
section
/-- how many bits -/
def bitsN (n : Nat) : Nat := if n = 0 then 0 else Nat.log2 n + 1
theorem lt_bitsN (n : Nat) : n < 2 ^ bitsN n := by
  unfold bitsN
  split
  · omega
  · exact Nat.lt_log2_self
theorem bitsN_le {n k : Nat} (h : n < 2 ^ k) : bitsN n ≤ k := by
  unfold bitsN
  split
  · omega
  · rename_i h0
    have := (Nat.log2_lt h0).2 h
    omega
/-- the next block's number -/
def moreY (s t : Nat) : Nat := t + (if t / 2 ^ s * 2 ^ s < t then t / 2 ^ s + 1 else t / 2 ^ s)
def shiftY (s t : Nat) : Nat := bitsN t - 1 - 2 * s
structure Pl where
  x : Nat
  shift : Nat
  value : Nat
  reply : Nat
def nextY (s : Nat) (p : Pl) : Pl := if p.reply ≤ p.value + 2 ^ p.shift then ⟨p.x + 1, shiftY s (moreY s p.reply), p.value + 2 ^ p.shift, moreY s p.reply⟩ else ⟨p.x, p.shift, p.value + 2 ^ p.shift, p.reply⟩
def placeY (s : Nat) : Nat → Pl
  | 0 => ⟨0, 0, 0, 2 ^ (2 * s)⟩
  | k + 1 => nextY s (placeY s k)

theorem bitsN_div {n k : Nat} (h : 2 ^ k ≤ n) : bitsN n = k + bitsN (n / 2 ^ k) := by
  have hp := Nat.two_pow_pos k
  have hq : 0 < n / 2 ^ k := Nat.div_pos h hp
  have h1 := lt_bitsN (n / 2 ^ k)
  have h2 : 2 ^ (bitsN (n / 2 ^ k) - 1) ≤ n / 2 ^ k := by
    unfold bitsN
    rw [if_neg (by omega), Nat.add_sub_cancel]
    exact Nat.log2_self_le (by omega)
  have h3 : 0 < bitsN (n / 2 ^ k) := by unfold bitsN; rw [if_neg (by omega)]; omega
  apply Nat.le_antisymm
  · apply bitsN_le
    rw [Nat.pow_add, Nat.mul_comm]
    exact (Nat.div_lt_iff_lt_mul hp).1 h1
  · apply Nat.le_of_not_lt
    intro hlt
    have h4 := lt_bitsN n
    have h5 : 2 ^ bitsN n ≤ 2 ^ (k + (bitsN (n / 2 ^ k) - 1)) := Nat.pow_le_pow_right (by omega) (by omega)
    rw [Nat.pow_add] at h5
    have h6 : 2 ^ k * 2 ^ (bitsN (n / 2 ^ k) - 1) ≤ n := by
      rw [Nat.mul_comm]; exact Nat.le_trans (Nat.mul_le_mul_right _ h2) (Nat.div_mul_le_self _ _)
    omega
theorem bitsN_pos {n : Nat} (h : 0 < n) : 2 ^ (bitsN n - 1) ≤ n ∧ 0 < bitsN n := by
  unfold bitsN
  rw [if_neg (by omega), Nat.add_sub_cancel]
  exact ⟨Nat.log2_self_le (by omega), by omega⟩

theorem moreY_le {s t : Nat} (hs : 1 ≤ s) (ht : 2 ≤ t) : moreY s t ≤ 2 * t := by
  unfold moreY
  have h2 : 2 ≤ 2 ^ s := by
    calc 2 = 2 ^ 1 := by decide
      _ ≤ 2 ^ s := Nat.pow_le_pow_right (by decide) hs
  have h1 : t / 2 ^ s ≤ t / 2 := Nat.div_le_div_left h2 (by decide)
  split <;> omega

theorem placeY_le {s : Nat} (hs : 1 ≤ s) : ∀ k, 4 ≤ (placeY s k).reply ∧ (placeY s k).reply ≤ 2 ^ (2 * s + k) ∧ (placeY s k).shift ≤ 2 * s + k ∧ (placeY s k).value ≤ k * 2 ^ (2 * s + k) ∧ (placeY s k).x ≤ k := by
  intro k
  induction k with
  | zero =>
    simp only [placeY]
    have : 2 ^ 2 ≤ 2 ^ (2 * s) := Nat.pow_le_pow_right (by decide) (by omega)
    rw [Nat.add_zero]
    omega
  | succ k ih =>
    obtain ⟨h1, h2, h3, h4, h5⟩ := ih
    have hp : 2 ^ (2 * s + (k + 1)) = 2 * 2 ^ (2 * s + k) := by rw [show 2 * s + (k + 1) = 2 * s + k + 1 by omega, Nat.pow_succ]; omega
    have hm := moreY_le hs (show 2 ≤ (placeY s k).reply by omega)
    have hm4 : (placeY s k).reply ≤ moreY s (placeY s k).reply := by unfold moreY; omega
    have hsh : 2 ^ (placeY s k).shift ≤ 2 ^ (2 * s + k) := Nat.pow_le_pow_right (by decide) h3
    have hv : (placeY s k).value + 2 ^ (placeY s k).shift ≤ (k + 1) * 2 ^ (2 * s + (k + 1)) := by
      rw [hp, Nat.add_mul, Nat.one_mul, Nat.mul_left_comm]
      generalize 2 ^ (2 * s + k) = P at *
      generalize k * P = Q at *
      omega
    have hb : bitsN (moreY s (placeY s k).reply) ≤ 2 * s + (k + 1) + 1 := bitsN_le (by
      rw [Nat.pow_succ, hp]
      have : 0 < 2 ^ (2 * s + k) := Nat.pow_pos (by decide)
      omega)
    simp only [placeY, nextY]
    split
    · refine ⟨by simp only; omega, by simp only; omega, ?_, hv, by simp only; omega⟩
      simp only [shiftY]
      omega
    · refine ⟨by simp only; omega, by simp only; omega, by simp only; omega, hv, by simp only; omega⟩
end
end Go.Proofs.YtijbgbpjionfjaaGreatDoor.Am
namespace Go.Proofs.YtijbgbpjionfjaaGreatDoor.Am
section
set_option maxRecDepth 10000
/-- the half digit that is guessed is right: where the search ends -/
theorem half_end {y1 y0 u u1 q r : Nat} (e : q * y1 + r = u) (hle : q * y0 ≤ r * 4294967296 + u1) (hgt : u * 4294967296 + u1 < (q + 1) * (y1 * 4294967296 + y0)) :
    (u * 4294967296 + u1) / (y1 * 4294967296 + y0) = q := by
  have h1 : q * (y1 * 4294967296 + y0) ≤ u * 4294967296 + u1 := by
    rw [Nat.mul_add, ← Nat.mul_assoc, ← e, Nat.add_mul]
    omega
  have hpos : 0 < y1 * 4294967296 + y0 := by
    rcases Nat.eq_zero_or_pos (y1 * 4294967296 + y0) with h | h
    · rw [h] at hgt; omega
    · exact h
  exact Nat.div_eq_of_lt_le h1 hgt
theorem lin (a r u u1 b z : Nat) (e : a + r = u) (hc : r * b + u1 < z) : u * b + u1 < a * b + z := by
  subst e; rw [Nat.add_mul]; omega
/-- and where it goes on -/
theorem half_next {y1 y0 u u1 q r : Nat} (e : q * y1 + r = u) (hu : u < y1 * 4294967296 + y0) (hu1 : u1 < 4294967296) (hc : 4294967296 ≤ q ∨ r * 4294967296 + u1 < q * y0) :
    0 < q ∧ (q - 1) * y1 + (r + y1) = u ∧ u * 4294967296 + u1 < (q - 1 + 1) * (y1 * 4294967296 + y0) := by
  have hq : 0 < q := by
    rcases Nat.eq_zero_or_pos q with h | h
    · subst h; omega
    · exact h
  have e1 : (q - 1) * y1 + y1 = q * y1 := by
    obtain ⟨k, rfl⟩ : ∃ k, q = k + 1 := ⟨q - 1, by omega⟩
    rw [Nat.add_sub_cancel, Nat.add_mul, Nat.one_mul]
  have e2 : q - 1 + 1 = q := by omega
  rw [e2]
  refine ⟨hq, by omega, ?_⟩
  rcases hc with hc | hc
  · have h1 : (y1 * 4294967296 + y0) * 4294967296 ≤ (y1 * 4294967296 + y0) * q := Nat.mul_le_mul_left _ hc
    rw [Nat.mul_comm q]
    obtain ⟨p, hp⟩ : ∃ p, p = (y1 * 4294967296 + y0) * q := ⟨_, rfl⟩
    rw [← hp] at h1 ⊢
    clear hp e1
    omega
  · rw [Nat.mul_add, ← Nat.mul_assoc]
    obtain ⟨a, ha⟩ : ∃ a, a = q * y1 := ⟨_, rfl⟩
    rw [← ha] at e ⊢
    exact lin a r u u1 _ _ e hc
/-- no half digit is wrong where the rest is great -/
theorem half_break {y1 y0 u q r : Nat} (e : q * y1 + r = u) (hu : u < y1 * 4294967296 + y0) (hy0 : y0 < 4294967296) (hr : 4294967296 ≤ r) (u1 : Nat) : q * y0 ≤ r * 4294967296 + u1 := by
  have hq : q < 4294967296 := by
    apply Nat.lt_of_not_le
    intro h
    have : 4294967296 * y1 ≤ q * y1 := Nat.mul_le_mul_right y1 h
    omega
  have : q * y0 ≤ 4294967295 * 4294967295 := Nat.mul_le_mul (by omega) (by omega)
  omega
/-- the guess isn't too little -/
theorem half_first {y1 y0 u u1 : Nat} (h1 : 0 < y1) (hu1 : u1 < 4294967296) : u * 4294967296 + u1 < (u / y1 + 1) * (y1 * 4294967296 + y0) := by
  have h := Nat.lt_mul_div_succ u h1
  rw [Nat.mul_comm] at h
  have h2 : (u / y1 + 1) * (y1 * 4294967296) ≤ (u / y1 + 1) * (y1 * 4294967296 + y0) := Nat.mul_le_mul_left _ (by omega)
  rw [← Nat.mul_assoc] at h2
  generalize (u / y1 + 1) * y1 = a at *
  omega

/-- both halves: the quotient, the rest -/
theorem halves' {y a b v0 q1 q0 : Nat} (hy : 0 < y) (h1 : a / y = q1) (h0 : ((a - q1 * y) * b + v0) / y = q0) :
    (a * b + v0) / y = q1 * b + q0 ∧ (a * b + v0) % y = (a - q1 * y) * b + v0 - q0 * y := by
  have a1 := Nat.div_add_mod a y
  have b1 := Nat.mod_lt a hy
  rw [h1, Nat.mul_comm] at a1
  obtain ⟨r1, hr1⟩ : ∃ r, r = a % y := ⟨_, rfl⟩
  rw [← hr1] at a1 b1
  have e1 : a - q1 * y = r1 := by omega
  rw [e1] at h0 ⊢
  have a0 := Nat.div_add_mod (r1 * b + v0) y
  have b0 := Nat.mod_lt (r1 * b + v0) hy
  rw [h0, Nat.mul_comm] at a0
  obtain ⟨r0, hr0⟩ : ∃ r, r = (r1 * b + v0) % y := ⟨_, rfl⟩
  rw [← hr0] at a0 b0
  have e0 : r1 * b + v0 - q0 * y = r0 := by omega
  rw [e0]
  have hN : a * b + v0 = (q1 * b + q0) * y + r0 := by
    have hp : q1 * b * y = q1 * y * b := Nat.mul_right_comm _ _ _
    rw [Nat.add_mul, hp, ← a1, Nat.add_mul]
    omega
  rw [hN]
  exact ⟨by rw [Nat.mul_comm, Nat.mul_add_div hy, Nat.div_eq_of_lt b0, Nat.add_zero], by rw [Nat.mul_comm, Nat.mul_add_mod]; exact Nat.mod_eq_of_lt b0⟩

/-- shifted, it is the same -/
theorem shifted_div {n y s : Nat} : n * 2 ^ s / (y * 2 ^ s) = n / y ∧ n * 2 ^ s % (y * 2 ^ s) / 2 ^ s = n % y := by
  have hp := Nat.two_pow_pos s
  refine ⟨Nat.mul_div_mul_right _ _ hp, ?_⟩
  rw [Nat.mul_mod_mul_right, Nat.mul_div_cancel _ hp]

/-- the guess by the first words isn't too little -/
theorem digit_guess {U D B P u1 d1 : Nat} (hB : 0 < B) (hP : 0 < P) (hU : U / P = u1) (hD : d1 * P ≤ D) (hd : 0 < d1) : U / D ≤ u1 / d1 := by
  rw [Nat.le_div_iff_mul_le hd]
  have hD0 : 0 < D := Nat.lt_of_lt_of_le (Nat.mul_pos hd hP) hD
  have h1 : U / D * D ≤ U := Nat.div_mul_le_self U D
  rw [← hU, Nat.le_div_iff_mul_le hP]
  calc U / D * d1 * P = U / D * (d1 * P) := Nat.mul_assoc _ _ _
    _ ≤ U / D * D := Nat.mul_le_mul_left _ hD
    _ ≤ U := h1

/-- one too many: taken back, the digit is right, or still too much -/
theorem digit_next {U D g w P M : Nat} (hM : M = 18446744073709551616 * P) (hD : D < P) (hD0 : 0 < D) (hg : g ≤ 18446744073709551615) (hw : w < M) (e : w + g * D = U + M) :
    0 < g ∧ (M ≤ w + D → w + D - M + (g - 1) * D = U ∧ w + D - M < D ∧ U / D = g - 1 ∧ U % D = w + D - M) ∧ (w + D < M → w + D + (g - 1) * D = U + M ∧ P ≤ w + D) := by
  have hg0 : 0 < g := by
    rcases Nat.eq_zero_or_pos g with h | h
    · subst h; omega
    · exact h
  have e1 : (g - 1) * D + D = g * D := by
    obtain ⟨k, rfl⟩ : ∃ k, g = k + 1 := ⟨g - 1, by omega⟩
    rw [Nat.add_sub_cancel, Nat.add_mul, Nat.one_mul]
  have e2 : (g - 1) * D ≤ 18446744073709551614 * P := Nat.mul_le_mul (by omega) (by omega)
  obtain ⟨x, hx⟩ : ∃ x, x = (g - 1) * D := ⟨_, rfl⟩
  obtain ⟨y, hy⟩ : ∃ y, y = g * D := ⟨_, rfl⟩
  refine ⟨hg0, fun h => ?_, fun h => ?_⟩
  · have h1 : w + D - M + (g - 1) * D = U := by rw [← hx] at e1 ⊢; rw [← hy] at e e1; clear hx hy e2; omega
    have h2 : w + D - M < D := by omega
    refine ⟨h1, h2, ?_, ?_⟩
    · rw [← h1, Nat.add_mul_div_right _ _ hD0, Nat.div_eq_of_lt h2, Nat.zero_add]
    · rw [← h1, Nat.add_mul_mod_self_right]; exact Nat.mod_eq_of_lt h2
  · rw [← hx] at e1 e2 ⊢; rw [← hy] at e e1
    clear hx hy
    subst hM
    constructor
    · omega
    · omega
/-- not too much: it is right -/
theorem digit_done {U D g w : Nat} (hD0 : 0 < D) (hg : U / D ≤ g) (e : w + g * D = U) : U / D = g ∧ U % D = w := by
  have h : g ≤ U / D := by rw [Nat.le_div_iff_mul_le hD0]; omega
  have hq : U / D = g := Nat.le_antisymm hg h
  have := Nat.div_add_mod U D
  rw [hq, Nat.mul_comm] at this
  exact ⟨hq, by omega⟩

/-- words moved down by less than a word -/
def shrL (k : Nat) : List Nat → List Nat
  | [] => []
  | x :: l => (x / 2 ^ k + l.getD 0 0 * 2 ^ (64 - k) % 18446744073709551616) :: shrL k l
theorem shrL_len (k : Nat) : ∀ l, (shrL k l).length = l.length
  | [] => rfl
  | x :: l => by simp [shrL, shrL_len k l]
theorem wval_head : ∀ l : List Nat, small l → wval l % 18446744073709551616 = l.getD 0 0
  | [], _ => rfl
  | x :: l, h => by
    have := h x (by simp)
    simp only [wval, List.getD_cons_zero]
    omega
theorem shrL_val {k : Nat} (hk : k < 64) : ∀ l : List Nat, small l → wval (shrL k l) = wval l / 2 ^ k ∧ small (shrL k l)
  | [], _ => ⟨by simp [shrL, wval], by simp [shrL, small]⟩
  | x :: l, h => by
    have hl : small l := fun y hy => h y (by simp [hy])
    obtain ⟨h1, h2⟩ := shrL_val hk l hl
    have hx := h x (by simp)
    have hhd := wval_head l hl
    have hB : (18446744073709551616 : Nat) = 2 ^ k * 2 ^ (64 - k) := by rw [← Nat.pow_add, show k + (64 - k) = 64 by omega]
    have hp := Nat.two_pow_pos k
    have hp' := Nat.two_pow_pos (64 - k)
    -- the part that comes from above
    have h3 : l.getD 0 0 * 2 ^ (64 - k) % 18446744073709551616 = wval l % 2 ^ k * 2 ^ (64 - k) := by
      rw [hB, Nat.mul_mod_mul_right, ← hhd]
      congr 1
      rw [hB, Nat.mod_mul_right_mod]
    have h4 : wval (x :: l) / 2 ^ k = x / 2 ^ k + 2 ^ (64 - k) * wval l := by
      rw [wval]
      conv => lhs; rw [hB]
      rw [Nat.mul_assoc, Nat.add_mul_div_left _ _ hp]
    have h5 : 2 ^ (64 - k) * wval l = 18446744073709551616 * (wval l / 2 ^ k) + wval l % 2 ^ k * 2 ^ (64 - k) := by
      conv => lhs; rw [← Nat.div_add_mod (wval l) (2 ^ k)]
      rw [Nat.mul_add, ← Nat.mul_assoc, Nat.mul_comm (2 ^ (64 - k)) (2 ^ k), ← hB, Nat.mul_comm (2 ^ (64 - k))]
    have h6 : x / 2 ^ k < 2 ^ (64 - k) := by
      rw [Nat.div_lt_iff_lt_mul hp, Nat.mul_comm, ← hB]; exact hx
    have h7 : wval l % 2 ^ k * 2 ^ (64 - k) + 2 ^ (64 - k) ≤ 18446744073709551616 := by
      have := Nat.mul_le_mul_right (2 ^ (64 - k)) (Nat.succ_le_of_lt (Nat.mod_lt (wval l) hp))
      rw [Nat.succ_mul, ← hB] at this
      exact this
    refine ⟨?_, ?_⟩
    · rw [h4, h5, shrL, wval, h1, h3]
      omega
    · intro y hy
      rw [shrL, List.mem_cons] at hy
      rcases hy with rfl | hy
      · rw [h3]; omega
      · exact h2 y hy
theorem wval_drop : ∀ (q : Nat) (l : List Nat), small l → wval (l.drop q) = wval l / 18446744073709551616 ^ q
  | 0, l, _ => by simp
  | q + 1, [], _ => by simp [wval]
  | q + 1, x :: l, h => by
    have hx := h x (by simp)
    rw [List.drop_succ_cons, wval_drop q l (fun y hy => h y (by simp [hy])), wval, Nat.pow_succ, Nat.mul_comm (18446744073709551616 ^ q), ← Nat.div_div_eq_div_mul]
    congr 1
    omega
end
end Go.Proofs.YtijbgbpjionfjaaGreatDoor.Am
namespace Go.Proofs.YtijbgbpjionfjaaGreatDoor.Am
section
open Go.RowKit
theorem lenTab_ok : ∀ i : Nat, i < 256 → (([0, 1, 2, 2, 3, 3, 3, 3, 4, 4, 4, 4, 4, 4, 4, 4, 5, 5, 5, 5, 5, 5, 5, 5, 5, 5, 5, 5, 5, 5, 5, 5, 6, 6, 6, 6, 6, 6, 6, 6, 6, 6, 6, 6, 6, 6, 6, 6, 6, 6, 6, 6, 6, 6, 6, 6, 6, 6, 6, 6, 6, 6, 6, 6, 7, 7, 7, 7, 7, 7, 7, 7, 7, 7, 7, 7, 7, 7, 7, 7, 7, 7, 7, 7, 7, 7, 7, 7, 7, 7, 7, 7, 7, 7, 7, 7, 7, 7, 7, 7, 7, 7, 7, 7, 7, 7, 7, 7, 7, 7, 7, 7, 7, 7, 7, 7, 7, 7, 7, 7, 7, 7, 7, 7, 7, 7, 7, 7, 8, 8, 8, 8, 8, 8, 8, 8, 8, 8, 8, 8, 8, 8, 8, 8, 8, 8, 8, 8, 8, 8, 8, 8, 8, 8, 8, 8, 8, 8, 8, 8, 8, 8, 8, 8, 8, 8, 8, 8, 8, 8, 8, 8, 8, 8, 8, 8, 8, 8, 8, 8, 8, 8, 8, 8, 8, 8, 8, 8, 8, 8, 8, 8, 8, 8, 8, 8, 8, 8, 8, 8, 8, 8, 8, 8, 8, 8, 8, 8, 8, 8, 8, 8, 8, 8, 8, 8, 8, 8, 8, 8, 8, 8, 8, 8, 8, 8, 8, 8, 8, 8, 8, 8, 8, 8, 8, 8, 8, 8, 8, 8, 8, 8, 8, 8, 8, 8, 8, 8, 8, 8, 8, 8, 8, 8, 8, 8] : List UInt8)[i]?.getD 0).toNat = bitsN i := by
  have h : ((List.range 256).all fun i => (([0, 1, 2, 2, 3, 3, 3, 3, 4, 4, 4, 4, 4, 4, 4, 4, 5, 5, 5, 5, 5, 5, 5, 5, 5, 5, 5, 5, 5, 5, 5, 5, 6, 6, 6, 6, 6, 6, 6, 6, 6, 6, 6, 6, 6, 6, 6, 6, 6, 6, 6, 6, 6, 6, 6, 6, 6, 6, 6, 6, 6, 6, 6, 6, 7, 7, 7, 7, 7, 7, 7, 7, 7, 7, 7, 7, 7, 7, 7, 7, 7, 7, 7, 7, 7, 7, 7, 7, 7, 7, 7, 7, 7, 7, 7, 7, 7, 7, 7, 7, 7, 7, 7, 7, 7, 7, 7, 7, 7, 7, 7, 7, 7, 7, 7, 7, 7, 7, 7, 7, 7, 7, 7, 7, 7, 7, 7, 7, 8, 8, 8, 8, 8, 8, 8, 8, 8, 8, 8, 8, 8, 8, 8, 8, 8, 8, 8, 8, 8, 8, 8, 8, 8, 8, 8, 8, 8, 8, 8, 8, 8, 8, 8, 8, 8, 8, 8, 8, 8, 8, 8, 8, 8, 8, 8, 8, 8, 8, 8, 8, 8, 8, 8, 8, 8, 8, 8, 8, 8, 8, 8, 8, 8, 8, 8, 8, 8, 8, 8, 8, 8, 8, 8, 8, 8, 8, 8, 8, 8, 8, 8, 8, 8, 8, 8, 8, 8, 8, 8, 8, 8, 8, 8, 8, 8, 8, 8, 8, 8, 8, 8, 8, 8, 8, 8, 8, 8, 8, 8, 8, 8, 8, 8, 8, 8, 8, 8, 8, 8, 8, 8, 8, 8, 8, 8, 8] : List UInt8)[i]?.getD 0).toNat == bitsN i) = true := by kernel_rfl
  intro i hi
  have := List.all_eq_true.1 h i (List.mem_range.2 hi)
  exact eq_of_beq this

set_option maxHeartbeats 1000000 in
theorem len64_ok (x : Nat) (hx : x < 18446744073709551616) : Eqn Tryz.prog n_math_bits_Len64 [.d (.int .u64 x)] [] (.d (.int .i64 (bitsN x))) [] := by
  refine Eqn.pure r_math_bits_Len64 (plain_d _) ?_
  simp only [c_math_bits_Len64]
  obtain ⟨x1, n1, h1, hx1, hn1, e1⟩ : ∃ x1 n1 : Nat, (x1, n1) = (if 4294967296 ≤ x then (x / 4294967296, 32) else (x, 0)) ∧ x1 < 4294967296 ∧ n1 ≤ 32 ∧ bitsN x = n1 + bitsN x1 := by
    by_cases h : 4294967296 ≤ x
    · exact ⟨x / 4294967296, 32, by rw [if_pos h], by omega, by omega, bitsN_div (k := 32) h⟩
    · exact ⟨x, 0, by rw [if_neg h], by omega, by omega, by omega⟩
  obtain ⟨x2, n2, h2, hx2, hn2, e2⟩ : ∃ x2 n2 : Nat, (x2, n2) = (if 65536 ≤ x1 then (x1 / 65536, n1 + 16) else (x1, n1)) ∧ x2 < 65536 ∧ n2 ≤ 48 ∧ bitsN x = n2 + bitsN x2 := by
    by_cases h : 65536 ≤ x1
    · exact ⟨x1 / 65536, n1 + 16, by rw [if_pos h], by omega, by omega, by have := bitsN_div (k := 16) h; rw [e1, this]; simp; omega⟩
    · exact ⟨x1, n1, by rw [if_neg h], by omega, by omega, by omega⟩
  obtain ⟨x3, n3, h3, hx3, hn3, e3⟩ : ∃ x3 n3 : Nat, (x3, n3) = (if 256 ≤ x2 then (x2 / 256, n2 + 8) else (x2, n2)) ∧ x3 < 256 ∧ n3 ≤ 56 ∧ bitsN x = n3 + bitsN x3 := by
    by_cases h : 256 ≤ x2
    · exact ⟨x2 / 256, n2 + 8, by rw [if_pos h], by omega, by omega, by have := bitsN_div (k := 8) h; rw [e2, this]; simp; omega⟩
    · exact ⟨x2, n2, by rw [if_neg h], by omega, by omega, by omega⟩
  rw [e3]
  clear e1 e2 e3
  refine AW.seq (AW.reg mix ?_)
  (simp -implicitDefEqProofs; try simp (disch := omega) only [w64, wu64])
  refine AW.cut 0 [(0, .d (.int .u64 x1)), (2, .d (.int .i64 n1))] [] (by simp) (by simp) ?_ ?_
  · have hd : (x : Int) / 4294967296 = (x / 4294967296 : Nat) := rfl
    refine G0 ?_; try with_reducible exact tt
    refine AW.cond rfl (fun h => ?_) (fun h => ?_)
    · rw [if_pos (by simp at h; omega)] at h1
      cases h1
      generalize x / 4294967296 = q at *
      refine G1 hd ?_; try with_reducible exact tt
    · rw [if_neg (by simp at h; omega)] at h1
      cases h1
      refine G0 ?_; try with_reducible exact tt
  clear h1 hx
  simp
  refine AW.cut 0 [(0, .d (.int .u64 x2)), (2, .d (.int .i64 n2))] [] (by simp) (by simp) ?_ ?_
  · have hd : (x1 : Int) / 65536 = (x1 / 65536 : Nat) := rfl
    have ew : IntKind.i64.wrap ((n1 : Int) + 16) = ((n1 + 16 : Nat) : Int) := w64 (by omega) (by omega)
    refine G0 ?_; try with_reducible exact tt
    refine AW.cond rfl (fun h => ?_) (fun h => ?_)
    · rw [if_pos (by simp at h; omega)] at h2
      cases h2
      generalize x1 / 65536 = q at *
      refine G1 (fs hd ew) ?_; try with_reducible exact tt
    · rw [if_neg (by simp at h; omega)] at h2
      cases h2
      refine G0 ?_; try with_reducible exact tt
  clear h2 hx1 hn1
  simp
  refine AW.cut 0 [(0, .d (.int .u64 x3)), (2, .d (.int .i64 n3))] [] (by simp) (by simp) ?_ ?_
  · have hd : (x2 : Int) / 256 = (x2 / 256 : Nat) := rfl
    have ew : IntKind.i64.wrap ((n2 : Int) + 8) = ((n2 + 8 : Nat) : Int) := w64 (by omega) (by omega)
    refine G0 ?_; try with_reducible exact tt
    refine AW.cond rfl (fun h => ?_) (fun h => ?_)
    · rw [if_pos (by simp at h; omega)] at h3
      cases h3
      generalize x2 / 256 = q at *
      refine G1 (fs hd ew) ?_; try with_reducible exact tt
    · rw [if_neg (by simp at h; omega)] at h3
      cases h3
      refine G0 ?_; try with_reducible exact tt
  clear h3 hx2 hn2
  simp
  have ew1 : IntKind.u8.wrap (x3 : Int) = x3 := by rw [show IntKind.u8.wrap (x3 : Int) = (x3 : Int) % 256 from rfl]; omega
  have hb := lenTab_ok x3 hx3
  have hB : bitsN x3 ≤ 8 := bitsN_le (by omega)
  have ew2 : IntKind.i64.wrap (bitsN x3 : Int) = bitsN x3 := w64 (by omega) (by omega)
  have ew3 : IntKind.i64.wrap ((n3 : Int) + bitsN x3) = (n3 : Int) + bitsN x3 := w64 (by omega) (by omega)
  refine AW.seq (AW.reg mix ?_)
  simp [ew1, hb, ew2, ew3]
  refine need.of (Nat.lt_of_lt_of_le hx3 (by decide)) ?_
  refine G0 ?_; try with_reducible exact tt

theorem lead64_ok (x : Nat) (hx : x < 18446744073709551616) : Eqn Tryz.prog n_math_bits_LeadingZeros64 [.d (.int .u64 x)] [] (.d (.int .i64 (64 - bitsN x : Nat))) [] := by
  refine Eqn.pure r_math_bits_LeadingZeros64 (plain_d _) ?_
  simp only [c_math_bits_LeadingZeros64]
  have hB : bitsN x ≤ 64 := bitsN_le (by omega)
  refine G0 ?_; try with_reducible exact tt
  refine CallS.pu (len64_ok x hx) (R0 ?_); try with_reducible exact tt
  exact Sub1.int (by omega)

theorem wval_snoc_bits {l : List Nat} {x : Nat} (hs : small l) (h0 : 0 < x) : bitsN (wval (l ++ [x])) = 64 * l.length + bitsN x := by
  have hp : (18446744073709551616 : Nat) ^ l.length = 2 ^ (64 * l.length) := by rw [show (18446744073709551616 : Nat) = 2 ^ 64 by rfl, ← Nat.pow_mul]
  have hlt := wval_lt hs
  have hv : wval (l ++ [x]) = wval l + 2 ^ (64 * l.length) * x := by rw [wval_append, hp]; simp [wval]
  rw [hp] at hlt
  rw [hv, bitsN_div (k := 64 * l.length) (by have := Nat.le_mul_of_pos_right (2 ^ (64 * l.length)) h0; omega), Nat.add_mul_div_left _ _ (Nat.two_pow_pos _), Nat.div_eq_of_lt hlt, Nat.zero_add]

theorem bits_ok (n : Nat) (hn : size n ≤ 1000000) : Eqn Tryz.prog n_nat_Nat_Bits [.d (.agg [natW n])] [] (.d (.int .i64 (bitsN n))) [] := by
  refine Eqn.pure r_nat_Nat_Bits (plain_d _) ?_
  simp only [c_nat_Nat_Bits, natW, W]
  unfold size at hn
  have hs := words_small n
  have ht := words_top n
  have hv := words_val n
  generalize words n = ws at *
  rcases List.eq_nil_or_concat ws with rfl | ⟨l, x, rfl⟩
  · refine G0 ?_; try with_reducible exact tt
    refine AW.cond rfl (fun h => ?_) (fun h => ?_)
    · refine G0 ?_; try with_reducible exact tt
      rw [← hv]
      exact Sub1.refl _
    · simp at h
  · rw [List.concat_eq_append] at *
    have hx0 : 0 < x := by
      have := ht l.length (by simp)
      simp [List.getD] at this
      omega
    have hx : x < 18446744073709551616 := hs x (by simp)
    have hb := wval_snoc_bits (l := l) (x := x) (fun y hy => hs y (by simp [hy])) hx0
    rw [hv] at hb
    have hB : bitsN x ≤ 64 := bitsN_le (by omega)
    have hll : l.length ≤ 1000000 := by simp at hn; omega
    have e1 : IntKind.i64.wrap ((l.length : Int) + 1 - 1) = (l.length : Int) := by rw [Int.add_sub_cancel]; exact w64 (by omega) (by omega)
    have e2 : IntKind.i64.wrap ((64 : Int) * l.length) = ((64 * l.length : Nat) : Int) := w64 (by omega) (by omega)
    have e0 : IntKind.i64.wrap (l.length : Int) = (l.length : Int) := w64 (by omega) (by omega)
    have hne : ¬ (l.length : Int) + 1 = 0 := by omega
    refine G1 (fs hne (fs e1 (fs e2 e0))) ?_; try with_reducible exact tt
    refine AW.cond rfl (fun h => ?_) (fun h => ?_)
    · simp at h
      omega
    rw [hb]
    have e3 : IntKind.i64.wrap (((64 * l.length : Nat) : Int) + bitsN x) = ((64 * l.length + bitsN x : Nat) : Int) := w64 (by omega) (by omega)
    generalize 64 * l.length = q at *
    refine G1 (fs hne (fs e1 (fs e2 e0))) ?_; try with_reducible exact tt
    refine CallS.pu (len64_ok x hx) (R1 e3 ?_); try with_reducible exact tt

theorem clone64_own (n : Nat) (l : List D) (hl : l.length = n) (h0 : 0 < n) (hn : n ≤ 4000000000) : Eqn Tryz.prog n_slices_Clone_uint64_uint64 [.d (.sl n l)] [] (.own 0 1 n) [⟨28, l.map .d⟩] := by
  refine Eqn.newX r_slices_Clone_uint64_uint64 rfl (plainL_d _) (fun n => rfl) ?_
  simp only [c_slices_Clone_uint64_uint64]
  refine G1 h0 ?_; try with_reducible exact tt
  refine AW.cond rfl (fun h => ?_) (fun h => ?_)
  · simp at h
  · refine G0 ?_; try with_reducible exact tt
    have h1 : ¬ n = 0 := by omega
    simp [h1, hl]
    refine need.of (by omega) ?_
    refine G0 ?_; try with_reducible exact tt
    exact ⟨0, Sub1.refl _, _, rfl, rfl, Subs.refl _⟩

/-- words so far moved down -/
def shrI (k : Nat) (A : List Nat) (i : Nat) : List Nat := (shrL k A).take i ++ A.drop i
theorem shrL_get (k : Nat) : ∀ (A : List Nat) (i : Nat), i < A.length → (shrL k A).getD i 0 = A.getD i 0 / 2 ^ k + A.getD (i + 1) 0 * 2 ^ (64 - k) % 18446744073709551616
  | [], i, h => by simp at h
  | x :: l, 0, h => by simp [shrL]
  | x :: l, i + 1, h => by
    have := shrL_get k l i (by simpa using h)
    simpa [shrL] using this
theorem shrI_len (k : Nat) (A : List Nat) (i : Nat) (h : i ≤ A.length) : (shrI k A i).length = A.length := by
  rw [shrI, List.length_append, List.length_take, shrL_len, List.length_drop]; omega
theorem shrI_get (k : Nat) (A : List Nat) (i j : Nat) (h : i ≤ j) (hj : j < A.length) : (shrI k A i)[j]? = some (A.getD j 0) := by
  rw [shrI, List.getElem?_append_right (by rw [List.length_take, shrL_len]; omega), List.length_take, shrL_len, List.getElem?_drop, show i + (j - min i A.length) = j by omega]
  simp [List.getD, hj]
theorem shrI_set (k : Nat) (A : List Nat) (i : Nat) (h : i < A.length) (y : Nat) (hy : y = (shrL k A).getD i 0) : (shrI k A i).set i y = shrI k A (i + 1) := by
  have hi : ((shrL k A).take i).length = i := by rw [List.length_take, shrL_len]; omega
  rw [shrI, shrI, List.set_append_right _ _ (by omega), hi, Nat.sub_self, take_succ_getD _ _ (by rw [shrL_len]; exact h), ← hy, List.append_assoc]
  congr 1
  rw [List.drop_eq_getElem_cons h]
  rfl
theorem shrI_end (k : Nat) (A : List Nat) : shrI k A A.length = shrL k A := by
  rw [shrI, List.drop_length, List.append_nil, List.take_of_length_le (by rw [shrL_len]; omega)]

theorem or_shr {k x y : Nat} (hk : k < 64) (hx : x < 18446744073709551616) : x / 2 ^ k ||| (y * 2 ^ (64 - k) % 18446744073709551616) = x / 2 ^ k + y * 2 ^ (64 - k) % 18446744073709551616 := by
  have hB : (18446744073709551616 : Nat) = 2 ^ k * 2 ^ (64 - k) := by rw [← Nat.pow_add, show k + (64 - k) = 64 by omega]
  have h6 : x / 2 ^ k < 2 ^ (64 - k) := by
    rw [Nat.div_lt_iff_lt_mul (Nat.two_pow_pos k), Nat.mul_comm, ← hB]; exact hx
  have e : y * 2 ^ (64 - k) % 18446744073709551616 = 2 ^ (64 - k) * (y % 2 ^ k) := by rw [hB, Nat.mul_mod_mul_right, Nat.mul_comm]
  rw [e, Nat.or_comm, ← Nat.two_pow_add_eq_or_of_lt h6, Nat.add_comm]

set_option maxHeartbeats 2000000 in
theorem shr_ok (a n : Nat) (ha : size a ≤ 1000000) (hn : n ≤ 1000000000) : Eqn Tryz.prog n_nat_Shr [.d (.agg [natW a]), .d (.int .i64 n)] [] (.d (.agg [natW (a / 2 ^ n)])) [] := by
  refine Eqn.pure r_nat_Shr (plain_d _) ?_
  simp only [c_nat_Shr]
  rw [show natW a = .sl (words a).length ((words a).map fun x : Nat => .int .u64 x) from rfl]
  unfold size at ha
  have hs := words_small a
  have hv := words_val a
  generalize words a = ws at *
  have hm : max 0 (n : Int) = n := by omega
  have hq : (n : Int) / 64 = (n / 64 : Nat) := rfl
  have hr : (n : Int).tmod 64 = (n % 64 : Nat) := by rw [Int.tmod_eq_emod_of_nonneg (by omega)]; rfl
  have hval : wval (shrL (n % 64) (ws.drop (n / 64))) = a / 2 ^ n ∧ small (shrL (n % 64) (ws.drop (n / 64))) := by
    obtain ⟨h1, h2⟩ := shrL_val (k := n % 64) (by omega) (ws.drop (n / 64)) (fun x hx => hs x (List.mem_of_mem_drop hx))
    refine ⟨?_, h2⟩
    rw [h1, wval_drop _ _ hs, hv, show (18446744073709551616 : Nat) = 2 ^ 64 by rfl, ← Nat.pow_mul, Nat.div_div_eq_div_mul, ← Nat.pow_add, Nat.div_add_mod]
  have hmk : n % 64 < 64 := by omega
  have hqn : n / 64 ≤ n := Nat.div_le_self _ _
  generalize hk : n % 64 = k at *
  generalize n / 64 = q at *
  refine G1 (fs hm hq) ?_; try with_reducible exact tt
  refine AW.cond rfl (fun h => ?_) (fun h => ?_)
  · have hlen : ws.length ≤ q := by simp at h; omega
    refine G0 ?_; try with_reducible exact tt
    rw [List.drop_of_length_le hlen] at hval
    rw [← hval.1]
    exact Sub1.nat0
  · have hlt : q < ws.length := by simp at h; omega
    have hlt' : (q : Int) < ws.length := by omega
    have hb1 : ((ws.length : Int) - q).toNat = (ws.drop q).length := by rw [List.length_drop]; omega
    have hbp : 0 < (ws.drop q).length ∧ (ws.drop q).length ≤ 1000000 := by rw [List.length_drop]; omega
    have hsB : small (ws.drop q) := fun x hx => hs x (List.mem_of_mem_drop hx)
    have htk : (V.d (.sl ((ws.length : Int) - q).toNat (((ws.map fun x : Nat => D.int .u64 x).drop ((q : Int)).toNat).take ((ws.length : Int) - q).toNat)) : V) = .d (.sl (ws.drop q).length ((ws.drop q).map fun x : Nat => D.int .u64 x)) := by
      rw [hb1, Int.toNat_natCast, ← List.map_drop, List.take_of_length_le (by simp)]
    refine G1 (fs hm (fs hq hlt')) ?_; try with_reducible exact tt
    generalize hB : ws.drop q = B at *
    refine CallS.newX (clone64_own B.length (B.map fun x : Nat => .int .u64 x) (by simp) hbp.1 (by omega)) (plainL_d _) rfl (fun _ => rfl) (Subs.of (by rw [htk])) ?_
    rw [show ((B.map fun x : Nat => D.int .u64 x).map V.d) = U (shrI k B 0) by simp [U, shrI]]
    simp
    refine G1 hr ?_; try with_reducible exact tt
    clear htk hb1 hv hs ha hB hlt hlt'
    refine AW.loopT (α := Nat) 3 (fun i => [(6, .d (.int .i64 (i : Int)))]) (fun i => [(2, ⟨28, U (shrI k B i)⟩)]) (fun i => i ≤ B.length) (fun i => B.length - i) 0 ?_ ?_ (Nat.zero_le _) ?_ ?_ ?_
    · simp
    · simp
    · simp
    · simp
    rintro i hi
    simp
    by_cases h : i = B.length
    · subst h
      refine G0 ?_; try with_reducible exact tt
      refine AW.cond rfl (fun h => ?_) (fun h => ?_)
      · simp at h
      refine AW.exit ?_
      (try (simp -implicitDefEqProofs; try simp (disch := omega) only [w64, wu64]))
      rw [shrI_end]
      have hl : (shrL k B).length = B.length := shrL_len k B
      have hvw : natW (a / 2 ^ n) = natW (wval (shrL k B)) := by rw [hval.1]
      rw [hvw]
      have hsm := hval.2
      generalize shrL k B = r at hl hsm ⊢
      have hcell : U r = (r.map fun x : Nat => D.int .u64 x).map V.d := by simp [U]
      rw [hcell]
      refine AW.freeze 2 1 ⟨28, _⟩ (r.map fun x : Nat => .int .u64 x) (by rfl) (by rfl) ?_
      simp [← hl, List.take_of_length_le]
      refine G0 ?_; try with_reducible exact tt
      refine CallS.pu (trimmed_ok r hsm (by omega)) (R0 ?_); try with_reducible exact tt
    · have hi' : i < B.length := by omega
      have hp : (i : Int) < B.length := by omega
      have hxB : B.getD i 0 < 18446744073709551616 := hsB.getD i
      have hset : ∀ z : Nat, z = (shrL k B).getD i 0 → (U (shrI k B i)).set i (.d (.int .u64 z)) = U (shrI k B (i + 1)) := fun z hz => by
        rw [← shrI_set k B i hi' z hz, U, U, List.map_set]
      have hg := shrL_get k B i hi'
      have hl : (U (shrI k B i)).length = B.length := by simp [U, shrI_len k B i hi]
      have hq1 : (U (shrI k B i))[i]? = some (.d (.int .u64 (B.getD i 0 : Nat))) := by
        rw [U, List.getElem?_map, shrI_get k B i i (Nat.le_refl _) hi']; rfl
      have hq2 : i + 1 < B.length → (U (shrI k B i))[i + 1]? = some (.d (.int .u64 (B.getD (i + 1) 0 : Nat))) := fun h => by
        rw [U, List.getElem?_map, shrI_get k B i (i + 1) (by omega) h]; rfl
      have hor := or_shr (k := k) (x := B.getD i 0) (y := B.getD (i + 1) 0) hmk hxB
      rw [← hg] at hor
      have hu : ((B.getD i 0 : Nat) : Int) / 2 ^ k = ((B.getD i 0 / 2 ^ k : Nat) : Int) := by rw [Int.natCast_ediv, Int.natCast_pow]; rfl
      have hule : B.getD i 0 / 2 ^ k ≤ B.getD i 0 := Nat.div_le_self _ _
      have hw : IntKind.u64.wrap (((B.getD (i + 1) 0 : Nat) : Int) * 2 ^ (64 - k)) = ((B.getD (i + 1) 0 * 2 ^ (64 - k) % 18446744073709551616 : Nat) : Int) := by
        rw [IntKind.wrap_u64, Int.natCast_emod, Int.natCast_mul, Int.natCast_pow]; rfl
      have hwl : B.getD (i + 1) 0 * 2 ^ (64 - k) % 18446744073709551616 < 18446744073709551616 := Nat.mod_lt _ (by decide)
      have hlast : ¬ i + 1 < B.length → B.getD i 0 / 2 ^ k = (shrL k B).getD i 0 := fun h => by
        rw [hg, W_out h]; simp
      have hls : (shrL k B).length = B.length := shrL_len k B
      generalize B.getD i 0 / 2 ^ k = u at *
      generalize B.getD i 0 = x at *
      generalize B.getD (i + 1) 0 * 2 ^ (64 - k) % 18446744073709551616 = t at *
      generalize B.getD (i + 1) 0 = y at *
      have hb := bits_or_u64_nat u t (by omega) hwl
      rw [hor] at hb
      have hz := hset _ rfl
      generalize (shrL k B).getD i 0 = z at *
      generalize U (shrI k B i) = cm at *
      have e1 : IntKind.i64.wrap ((i : Int) + 1) = (i : Int) + 1 := w64 (by omega) (by omega)
      have e2 : IntKind.i64.wrap ((64 : Int) - k) = (64 : Int) - k := w64 (by omega) (by omega)
      have hn : ((64 : Int) - k).toNat = 64 - k := by omega
      have e3 : (((i : Int) + 1)).toNat = i + 1 := by omega
      have hkl : (k : Int) ≤ 64 := by omega
      have hg1 : ∀ h, cm[i]'h = .d (.int .u64 x) := fun h => by
        have := List.getElem?_eq_getElem h
        rw [hq1] at this
        exact (Option.some.inj this).symm
      have hg2 : ∀ h, cm[i + 1]'h = .d (.int .u64 y) := fun h => by
        have := List.getElem?_eq_getElem h
        rw [hq2 (by omega)] at this
        exact (Option.some.inj this).symm
      refine G1 (fs hi' hp) ?_; try with_reducible exact tt
      refine AW.cond rfl (fun h => ?_) (fun h => ?_)
      · by_cases hl1 : i + 1 < B.length
        · have hlp : (i : Int) + 1 < B.length := by omega
          refine G1 (fs hi' (fs hp (fs hl (fs hg1 (fs hu (fs e1 hlp)))))) ?_; try with_reducible exact tt
          refine AW.cond rfl (fun h => ?_) (fun h => ?_)
          · have hne : ¬ i = i + 1 := by omega
            have h64 : (64 - k : Int) ≤ 64 := by omega
            refine G1 (fs hi' (fs hp (fs hl (fs hg1 (fs hg2 (fs hu (fs e1 (fs hlp (fs hl1 (fs e2 (fs hn (fs e3 (fs hne (fs hw (fs hb hz))))))))))))))) ?_; try with_reducible exact tt
            exact ⟨i + 1, by omega, by omega, by simp, by simp⟩
          · simp at h
        · have hlp : ¬ (i : Int) + 1 < B.length := by omega
          refine G1 (fs hi' (fs hp (fs hl (fs hg1 (fs hu (fs e1 hlp)))))) ?_; try with_reducible exact tt
          refine AW.cond rfl (fun h => ?_) (fun h => ?_)
          · simp at h
          · have := hlast hl1
            subst this
            refine G1 e1 ?_; try with_reducible exact tt
            refine ⟨i + 1, by omega, by omega, by simp, ?_⟩
            rw [hset u rfl]
            exact Subs.refl _
      · simp at h
end
end Go.Proofs.YtijbgbpjionfjaaGreatDoor.Am
namespace Go.Proofs.YtijbgbpjionfjaaGreatDoor.Am
section
open Go.RowKit
theorem ygood_ok (s : Int) : Eqn Tryz.prog n_yu_Good [.d (.int .i64 s)] [] (.d (.bool (decide (1 ≤ s ∧ s ≤ 5)))) [] := by
  refine Eqn.pure r_yu_Good (plain_d _) ?_
  simp only [c_yu_Good]
  by_cases h : 1 ≤ s
  · refine G1 h ?_; try with_reducible exact tt
  · refine G1 h ?_; try with_reducible exact tt

theorem size_lt_two {x m : Nat} (h : x < 2 ^ (64 * m)) : size x ≤ m := by
  apply words_le (words_top x)
  rw [words_val, show (18446744073709551616 : Nat) = 2 ^ 64 by rfl, ← Nat.pow_mul]
  exact h

theorem size_add {a b m : Nat} (ha : size a ≤ m) (hb : size b ≤ m) : size (a + b) ≤ m + 1 := by
  refine size_lt_two ?_
  have h1 := wval_lt (words_small a)
  have h2 := wval_lt (words_small b)
  rw [words_val, show (18446744073709551616 : Nat) = 2 ^ 64 by rfl, ← Nat.pow_mul] at h1 h2
  have h3 : (2 : Nat) ^ (64 * (words a).length) ≤ 2 ^ (64 * m) := Nat.pow_le_pow_right (by omega) (by unfold size at ha; omega)
  have h4 : (2 : Nat) ^ (64 * (words b).length) ≤ 2 ^ (64 * m) := Nat.pow_le_pow_right (by omega) (by unfold size at hb; omega)
  have h5 : (2 : Nat) ^ (64 * (m + 1)) = 2 ^ (64 * m) * 18446744073709551616 := by rw [show 64 * (m + 1) = 64 * m + 64 by omega, Nat.pow_add]
  rw [h5]
  generalize (2 : Nat) ^ (64 * m) = z at *
  omega

theorem size_pow {x n m : Nat} (h : x < 2 ^ n) (hm : n ≤ 64 * m) : size x ≤ m :=
  size_lt_two (Nat.lt_of_lt_of_le h (Nat.pow_le_pow_right (by omega) hm))
theorem bits_size (t : Nat) : bitsN t ≤ 64 * size t := by
  apply bitsN_le
  have h1 := wval_lt (words_small t)
  rw [words_val, show (18446744073709551616 : Nat) = 2 ^ 64 by rfl, ← Nat.pow_mul] at h1
  exact h1
theorem shift_ok (s t : Nat) (hs : s ≤ 5) (ht : size t ≤ 1000) : Eqn Tryz.prog n_yu_shift [.d (.int .i64 s), .d (.agg [natW t])] [] (.d (.int .i64 (shiftY s t))) [] := by
  refine Eqn.pure r_yu_shift (plain_d _) ?_
  simp only [c_yu_shift]
  have hb := bits_size t
  refine G0 ?_; try with_reducible exact tt
  refine CallS.pu (bits_ok t (by omega)) (R0 ?_); try with_reducible exact tt
  have e1 : IntKind.i64.wrap ((bitsN t : Int) - 1) = (bitsN t : Int) - 1 := w64 (by omega) (by omega)
  have e2 : IntKind.i64.wrap (2 * (s : Int)) = 2 * (s : Int) := w64 (by omega) (by omega)
  have e3 : IntKind.i64.wrap ((bitsN t : Int) - 1 - 2 * (s : Int)) = (bitsN t : Int) - 1 - 2 * (s : Int) := w64 (by omega) (by omega)
  have e4 : max 0 ((bitsN t : Int) - 1 - 2 * (s : Int)) = (shiftY s t : Int) := by unfold shiftY; omega
  simp [e1, e2, e3, e4]

theorem more_ok (s t : Nat) (hs : s ≤ 5) (ht : size t ≤ 1000) : Eqn Tryz.prog n_yu_more [.d (.int .i64 s), .d (.agg [natW t])] [] (.d (.agg [natW (moreY s t)])) [] := by
  refine Eqn.pure r_yu_more (plain_d _) ?_
  simp only [c_yu_more]
  have hq := Nat.div_le_self t (2 ^ s)
  have hq2 := Nat.div_mul_le_self t (2 ^ s)
  have hm : moreY s t = t + (if t / 2 ^ s * 2 ^ s < t then t / 2 ^ s + 1 else t / 2 ^ s) := rfl
  rw [hm]
  have s1 := size_le hq
  have s2 := size_le hq2
  have s1' : size 1 ≤ 1 := size_one (by omega)
  refine G0 ?_; try with_reducible exact tt
  refine CallS.pu (shr_ok t s (by omega) (by omega)) (R0 ?_); try with_reducible exact tt
  refine CallS.pu (shl_ok (t / 2 ^ s) s (by omega) (by omega)) (R0 ?_); try with_reducible exact tt
  generalize hQ : t / 2 ^ s = q at *
  generalize q * 2 ^ s = b at *
  refine CallS.pu (cmp_ok b t (by omega) (by omega)) (R0 ?_); try with_reducible exact tt
  have hb : size (q + 1) ≤ 1001 := by
    have := size_add (a := q) (b := 1) (m := 1000) (by omega) (by omega)
    omega
  by_cases hlt : b < t
  · simp only [if_pos hlt]
    refine AW.cond rfl (fun h => ?_) (fun h => ?_)
    · refine G0 ?_; try with_reducible exact tt
      refine CallS.pf 4 1 ⟨28, _⟩ [.int .u64 (1 : Nat)] (of_ok [1] (small_one (by omega)) (by simp)) (by first | rfl | (simp; done)) (R0 ?_); try with_reducible exact tt
      refine CallS.pu (add_ok q 1 (by omega) (by omega)) (R0 ?_); try with_reducible exact tt
      refine CallS.pu (add_ok t (q + 1) (by omega) (by omega)) (R0 ?_); try with_reducible exact tt
    · simp [cmpZ_lt, hlt] at h
  · simp only [if_neg hlt]
    refine AW.cond rfl (fun h => ?_) (fun h => ?_)
    · simp [cmpZ_lt, hlt] at h
    · refine G0 ?_; try with_reducible exact tt
      refine CallS.pu (add_ok t q (by omega) (by omega)) (R0 ?_); try with_reducible exact tt

/-- a place, as data -/
def plD (p : Pl) : D := .agg [.int .i64 p.x, .int .i64 p.shift, natW p.value, natW p.reply]

theorem moreY_le' {s t : Nat} : moreY s t ≤ 4 * t := by
  unfold moreY
  have h1 := Nat.div_le_self t (2 ^ s)
  split
  · rename_i h
    have : 0 < t := by omega
    omega
  · omega

theorem next_ok (s : Nat) (p : Pl) (hs : s ≤ 5) (hx : p.x ≤ 100000) (h1 : p.shift ≤ 8192) (h2 : size p.value ≤ 900) (h3 : size p.reply ≤ 900) :
    Eqn Tryz.prog n_yu_Place_next [.d (plD p), .d (.int .i64 s)] [] (.d (plD (nextY s p))) [] := by
  refine Eqn.pure r_yu_Place_next (plain_d _) ?_
  obtain ⟨x, sh, v, r⟩ := p
  simp only at hx h1 h2 h3
  simp only [c_yu_Place_next, plD, nextY]
  have s1 : size 1 ≤ 1 := size_one (by omega)
  have hsz : size (1 * 2 ^ sh) ≤ 129 := size_pow (n := sh + 1) (by rw [Nat.one_mul]; exact Nat.pow_lt_pow_right (by omega) (Nat.lt_succ_self _)) (by omega)
  have hv := size_add (m := 900) h2 (by omega : size (1 * 2 ^ sh) ≤ 900)
  refine G0 ?_; try with_reducible exact tt
  refine CallS.pf 2 1 ⟨28, _⟩ [.int .u64 (1 : Nat)] (of_ok [1] (small_one (by omega)) (by simp)) (by first | rfl | (simp; done)) (R0 ?_); try with_reducible exact tt
  refine CallS.pu (shl_ok 1 sh (by omega) h1) (R0 ?_); try with_reducible exact tt
  rw [Nat.one_mul] at hsz hv
  generalize 2 ^ sh = st at *
  refine CallS.pu (add_ok v st (by omega) (by omega)) (R0 ?_); try with_reducible exact tt
  refine CallS.pu (cmp_ok (v + st) r (by omega) (by omega)) (R0 ?_); try with_reducible exact tt
  have hge : (0 ≤ cmpZ (v + st) r) ↔ r ≤ v + st := by
    unfold cmpZ; split <;> (try split) <;> omega
  by_cases hr : r ≤ v + st
  · simp only [if_pos hr]
    have ew : IntKind.i64.wrap ((x : Int) + 1) = (x : Int) + 1 := w64 (by omega) (by omega)
    refine AW.cond rfl (fun h => ?_) (fun h => ?_)
    · have hm := moreY_le' (s := s) (t := r)
      have hms := size_le hm
      have hrr := size_add h3 h3
      have hmsz : size (moreY s r) ≤ 1000 := by
        have := size_add hrr hrr
        have h4 : r + r + (r + r) = 4 * r := by omega
        rw [h4] at this
        omega
      refine G1 ew ?_; try with_reducible exact tt
      refine CallS.pu (more_ok s r hs (by omega)) (R0 ?_); try with_reducible exact tt
      refine CallS.pu (shift_ok s (moreY s r) hs hmsz) (R0 ?_); try with_reducible exact tt
    · simp [hge, hr] at h
  · simp only [if_neg hr]
    refine AW.cond rfl (fun h => ?_) (fun h => ?_)
    · simp [hge, hr] at h
    · refine G0 ?_; try with_reducible exact tt
end
end Go.Proofs.YtijbgbpjionfjaaGreatDoor.Am
namespace Go.Proofs.YtijbgbpjionfjaaGreatDoor.Am
section
open Go.RowKit
theorem walk_ok (s : Nat) : Eqn Tryz.prog n_yu_walk [.d (.int .i64 s)] [] (.fn (.func n_yu_walk_1) [.p 0 0]) [⟨3, [.d (.int .i64 s)]⟩] := by
  refine Eqn.newX r_yu_walk rfl ⟨rfl, fun _ => rfl⟩ (fun n => rfl) ?_
  simp only [c_yu_walk]
  refine G0 ?_; try with_reducible exact tt
  exact ⟨0, Sub1.refl _, _, rfl, rfl, Subs.refl _⟩

/-- the walk's code, in its pieces -/
structure WalkS where
  r0 : C
  r1 : C
  g : C
  os : List O
  call : Option (Nat × List Nat × Option Nat)
  o4 : O
  cy : X
  r5 : C
  r6 : C
  ids : Nat × Nat
  calm : Bool
  res : Nat
  nt : Nat
def callS (o : Oper) : Option (Nat × List Nat × Option Nat) := match o.op, o.guard with
  | .call c, none => match c.callee, c.args.toList with
    | .value (.tmp f), [.tmp x, .tmp y] => some (f, [x, y], o.dst)
    | _, _ => none
  | _, _ => none
def walkS (P : Program) (f : FuncId) : Option WalkS := match P.funcs[f]? with
  | some fn => match fn.body with
    | some (.seq r0 (.seq r1 (.block i0 (.loop (.seq g (.seq (.block i1 (.seq (.seq (.region _ ops false) (.cond cy .ret .skip)) r5)) r6)))))) => match ops.toList with
      | [o0, o1, o2, o3, o4] => some ⟨resolveC P r0, resolveC P r1, resolveC P g, [o0, o1, o2].map (resolveO P ops), callS o3, resolveO P ops o4, X.of cy, resolveC P r5, resolveC P r6, (i0, i1), [o0, o1, o2].all notDefer && [o4].all notDefer, fn.results.size, fn.ntmps⟩
      | _ => none
    | _ => none
  | none => none
theorem walkS_spec {P : Program} {f : FuncId} {s : WalkS} (h : walkS P f = some s) : ∃ (fn : Func) (r0 r1 g r5 r6 : Code) (i id : Nat) (ops : Array Oper) (o0 o1 o2 o3 o4 : Oper) (cy : Operand),
    P.funcs[f]? = some fn ∧ fn.body = some (.seq r0 (.seq r1 (.block s.ids.1 (.loop (.seq g (.seq (.block s.ids.2 (.seq (.seq (.region id ops false) (.cond cy .ret .skip)) r5)) r6)))))) ∧ ops.toList = [o0, o1, o2, o3, o4] ∧
    resolveC P r0 = s.r0 ∧ resolveC P r1 = s.r1 ∧ resolveC P g = s.g ∧ [o0, o1, o2].map (resolveO P ops) = s.os ∧ callS o3 = s.call ∧ resolveO P ops o4 = s.o4 ∧ X.of cy = s.cy ∧ resolveC P r5 = s.r5 ∧ resolveC P r6 = s.r6 ∧ ([o0, o1, o2].all notDefer && [o4].all notDefer) = s.calm ∧ fn.results.size = s.res ∧ fn.ntmps = s.nt := by
  unfold walkS at h
  split at h
  · rename_i fn hf
    split at h
    · rename_i r0 r1 i0 g i1 id ops cy r5 r6 hb
      split at h
      · rename_i o0 o1 o2 o3 o4 ho
        cases h
        exact ⟨fn, r0, r1, g, r5, r6, 0, id, ops, o0, o1, o2, o3, o4, cy, hf, hb, ho, rfl, rfl, rfl, rfl, rfl, rfl, rfl, rfl, rfl, rfl, rfl, rfl⟩
      · cases h
    · cases h
  · cases h
theorem callS_spec {o : Oper} {f x y : Nat} {d : Option Nat} (h : callS o = some (f, [x, y], d)) : ∃ c, o.op = .call c ∧ o.guard = none ∧ c.callee = .value (.tmp f) ∧ c.args.toList = [.tmp x, .tmp y] ∧ o.dst = d := by
  unfold callS at h
  split at h
  · rename_i c ho hg
    split at h
    · rename_i hc ha
      cases h
      exact ⟨c, ho, hg, hc, ha, rfl⟩
    · cases h
  · cases h

/-- the asker's code -/
structure AtS where
  a1 : C
  a2 : C
  a3 : C
  a4 : C
  g : X
  ps : List Nat
  asg : C
  bd : C
  a5 : List O
  id : Nat
  calm : Bool
  rs : List RV
  nt : Nat
def atS (P : Program) (f : FuncId) : Option AtS := match P.funcs[f]? with
  | some fn => match fn.body with
    | some (.seq a1 (.seq a2 (.seq a3 (.seq (.seq a4 (.block id (.rangeFunc g ps asg bd))) (.seq (.region _ ops false) .ret))))) =>
      some ⟨resolveC P a1, resolveC P a2, resolveC P a3, resolveC P a4, X.of g, ps.toList, resolveC P asg, resolveC P bd, ops.toList.map (resolveO P ops), id, Code.calm asg && (Code.calm bd && ops.toList.all notDefer), fn.results.toList.map (resolveR P), fn.ntmps⟩
    | _ => none
  | none => none
theorem atS_spec {P : Program} {f : FuncId} {s : AtS} (h : atS P f = some s) : ∃ (fn : Func) (a1 a2 a3 a4 asg bd : Code) (g : Operand) (ps : Array Nat) (id : Nat) (ops : Array Oper),
    P.funcs[f]? = some fn ∧ fn.body = some (.seq a1 (.seq a2 (.seq a3 (.seq (.seq a4 (.block s.id (.rangeFunc g ps asg bd))) (.seq (.region id ops false) .ret))))) ∧
    resolveC P a1 = s.a1 ∧ resolveC P a2 = s.a2 ∧ resolveC P a3 = s.a3 ∧ resolveC P a4 = s.a4 ∧ X.of g = s.g ∧ ps.toList = s.ps ∧ resolveC P asg = s.asg ∧ resolveC P bd = s.bd ∧ ops.toList.map (resolveO P ops) = s.a5 ∧ (Code.calm asg && (Code.calm bd && ops.toList.all notDefer)) = s.calm ∧ fn.results.toList.map (resolveR P) = s.rs ∧ fn.ntmps = s.nt := by
  unfold atS at h
  split at h
  · rename_i fn hf
    split at h
    · rename_i a1 a2 a3 a4 id g ps asg bd id' ops hb
      cases h
      exact ⟨fn, a1, a2, a3, a4, asg, bd, g, ps, id', ops, hf, hb, rfl, rfl, rfl, rfl, rfl, rfl, rfl, rfl, rfl, rfl, rfl, rfl⟩
    · cases h
  · cases h

def C.l : C → C
  | .seq a _ => a
  | c => c
def C.r : C → C
  | .seq _ b => b
  | c => c
def C.b : C → C
  | .block _ a | .loop a => a
  | c => c
def C.os : C → List O
  | .reg _ l => l
  | _ => []
/-- the assignment to the loop's variables -/
def cAsg : C := .seq (.reg false [⟨some 7, .mv (.t 24), none, []⟩]) (.reg false [⟨some 8, .new 303 [.int .i64 0, .int .i64 0, .nilsl, .nilsl], none, []⟩, ⟨none, .store 4 (.t 8) (.t 25), none, [0, 0]⟩])
/-- the loop's body -/
def cBd : C := .block 2 (.seq (.reg false [⟨some 26, .load true 4 (.t 8), none, []⟩, ⟨none, .store 4 (.t 6) (.t 26), none, [0, 0]⟩])
  (.seq (.reg false [⟨some 27, .mv (.t 7), none, []⟩, ⟨some 28, .load false 1 (.t 3), none, []⟩, ⟨some 29, .bin .eql (.t 27) (.t 28), none, [0, 1]⟩]) (.cond (.t 29) (.exit 1) .skip)))
theorem at_s : atS Tryz.prog n_yu_At = some ⟨c_yu_At.l, c_yu_At.r.l, c_yu_At.r.r.l, c_yu_At.r.r.r.l.l, .t 23, [24, 25], cAsg, cBd, c_yu_At.r.r.r.r.l.os, 1, true, [.cell 4 true 4, .t 5], 31⟩ := by kernel_rfl
abbrev cWb : C := c_yu_walk_1.r.r.b.b
theorem walk_s : walkS Tryz.prog n_yu_walk_1 = some ⟨c_yu_walk_1.l, c_yu_walk_1.r.l, cWb.l, (cWb.r.l.b.l.l.os).take 3, some (15, [16, 17], some 18), ((cWb.r.l.b.l.l.os).drop 4).headD ⟨none, .bad, none, []⟩, .t 19, cWb.r.l.b.r, cWb.r.r, (0, 1), true, 0, 23⟩ := by kernel_rfl

abbrev kO (K : Nat) : Ob := ⟨3, [.d (.int .i64 K)]⟩
abbrev plO (c : List V) : Ob := ⟨303, c⟩

def Tr (i : Nat) (p : List D) : List V := [.junk, .junk, .junk, .p 0 0, .junk, .junk, .p 2 0] ++ List.replicate 17 .junk ++ [.d (.int .i64 i), .d (.agg p)] ++ List.replicate 5 .junk

theorem asg_ok (l n K i : Nat) (c : List V) (p : List D) (hp : p.length = 4) : AWr Tryz.prog (some l) n 3 cAsg (thenQ (fun T H => T = ((Tr i p).set 7 (.d (.int .i64 i))).set 8 (.p 3 0) ∧ H = [some (kO K), none, some (plO c), some (plO (p.map .d))]) noQ) (Tr i p) [some (kO K), none, some (plO c)] := by
  obtain ⟨p1, p2, p3, p4, rfl⟩ : ∃ a b c d, p = [a, b, c, d] := by
    match p, hp with
    | [a, b, c, d], _ => exact ⟨a, b, c, d, rfl⟩
  simp only [cAsg, Tr]
  refine AWr.seq (AWr.reg ?_)
  simp
  refine AWr.reg ?_
  simp

theorem bd_ok (l n K i : Nat) (c : List V) (hc : c.length = 4) (p : List D) (hp : p.length = 4) : AWr Tryz.prog (some l) n 3 cBd (fun e T H => H = [some (kO K), none, some (plO (p.map .d)), some (plO (p.map .d))] ∧ e = if i = K then .exit 1 else .normal) (((Tr i p).set 7 (.d (.int .i64 i))).set 8 (.p 3 0)) [some (kO K), none, some (plO c), some (plO (p.map .d))] := by
  obtain ⟨p1, p2, p3, p4, rfl⟩ : ∃ a b c d, p = [a, b, c, d] := by
    match p, hp with
    | [a, b, c, d], _ => exact ⟨a, b, c, d, rfl⟩
  obtain ⟨c1, c2, c3, c4, rfl⟩ : ∃ a b c' d, c = [a, b, c', d] := by
    match c, hc with
    | [a, b, c, d], _ => exact ⟨a, b, c, d, rfl⟩
  simp only [cBd, Tr]
  refine AWr.block ?_
  refine AWr.seq (AWr.reg ?_)
  simp
  refine AWr.seq (AWr.reg ?_)
  by_cases h : i = K
  · subst h
    simp
    refine AWr.cond rfl (fun h => ?_) (fun h => ?_)
    · refine AWr.exit ?_
      simp
    · simp at h
  · have h' : ¬ (i : Int) = K := by omega
    simp [h, h']
    refine AWr.cond rfl (fun h => ?_) (fun h => ?_)
    · simp at h
      omega
    · refine AWr.skip ?_
      simp

theorem obj_rho {m : Mem} {n : Nat} {o : Ob} (h : m.obj n o) : ∃ b, m.ρ n = some b := by
  obtain ⟨b, _, _, h1, _⟩ := h; exact ⟨b, h1⟩

/-- what a round leaves behind -/
def RoundR (K i : Nat) (p : List D) (m : Mem) (l : Nat) (rec : LoopState → Option Code → Loop) (e : Ending) (w' : World) : Prop :=
  ∃ m' : Mem, m'.w = w' ∧ m'.base ∧ m'.obj 0 (kO K) ∧ m'.obj 2 (plO (p.map .d)) ∧
    if i = K then e = .returned (.bool false) ∧ (m.at (m.w.putObj l (.loop (rec .done (some (.exit 1)))))).le m' (· < 3) else e = .returned (.bool true) ∧ m.le m' (· < 3)

theorem round_ok {asg bd : Code} (hasg : resolveC Tryz.prog asg = cAsg) (hbd : resolveC Tryz.prog bd = cBd) (ca : Code.calm asg = true) (cb : Code.calm bd = true) {fn df : Nat} {tmps : Array Value} {rec : LoopState → Option Code → Loop}
    (hrec : rec = fun st pe => { state := st, pending := pe, fn, tmps, params := #[24, 25], assign := asg, body := bd, defers := df }) (n K i : Nat) (p : List D) (hp : p.length = 4) {m : Mem} {l : Nat} {c : List V} (mb : m.base) (h0 : m.obj 0 (kO K)) (h2 : m.obj 2 (plO c)) (hc : c.length = 4)
    (hinj : ∀ b, m.ρ 0 = some b → m.ρ 2 ≠ some b) (htop : ∀ n, n ≠ 0 → n ≠ 2 → m.ρ n = none) (t3 : (V.p 0 0).rep m (tmps.getD 3 undef)) (t6 : (V.p 2 0).rep m (tmps.getD 6 undef)) (hsz : tmps.size = 31) (hlo : m.loose l) (hl : m.w.heap[l]? = some (.loop (rec .ready none))) {v : Value} (hv : (V.d (.agg p)).rep m v) :
    YieldAt Fence.wide n Tryz.prog l #[.int .i64 i, v] m.w (RoundR K i p m l rec) := by
  have hy := run_yield (P := Tryz.prog) (args := #[.int .i64 i, v]) hl (by rw [hrec]; rfl)
  refine ⟨_, _, _, _, hy, ?_⟩
  have ht : ((rec .ready none).params.zip #[.int .i64 i, v]).foldl (fun tmps (t, a) => tmps.setIfInBounds t a) (rec .ready none).tmps = (tmps.setIfInBounds 24 (.int .i64 i)).setIfInBounds 25 v := by
    rw [hrec]; simp
  rw [ht, show (rec .ready none).assign = asg by rw [hrec], show (rec .ready none).body = bd by rw [hrec]]
  clear hy ht
  have sat : Sat m ⟨(tmps.setIfInBounds 24 (.int .i64 i)).setIfInBounds 25 v, []⟩ (Tr i p) [some (kO K), none, some (plO c)] := by
    refine ⟨mb, fun s => ?_, fun n ob h => ?_, fun n k b ln lk h1 h3 => ?_, fun n h => htop n (by simp at h; omega) (by simp at h; omega), by simp [Tr, hsz], rfl⟩
    · have g : ((tmps.setIfInBounds 24 (.int .i64 i)).setIfInBounds 25 v).getD s undef = if s = 25 then v else if s = 24 then .int .i64 i else tmps.getD s undef := by
        rw [Array.getD_eq_getD_getElem?, Array.getElem?_setIfInBounds]
        by_cases e1 : s = 25
        · subst e1; simp [hsz]
        · rw [if_neg (by omega), if_neg e1, Array.getElem?_setIfInBounds]
          by_cases e2 : s = 24
          · subst e2; simp [hsz]
          · rw [if_neg (by omega), if_neg e2, Array.getD_eq_getD_getElem?]
      have g2 : (Tr i p).getD s .junk = if s = 25 then .d (.agg p) else if s = 24 then .d (.int .i64 i) else if s = 3 then .p 0 0 else if s = 6 then .p 2 0 else .junk := by
        rcases Nat.lt_or_ge s 31 with hs | hs
        · have : ∀ s, s < 31 → (Tr i p).getD s .junk = if s = 25 then .d (.agg p) else if s = 24 then .d (.int .i64 i) else if s = 3 then .p 0 0 else if s = 6 then .p 2 0 else .junk := by
            intro s hs
            iterate 31 (rcases s with _ | s; · rfl)
            omega
          exact this s hs
        · rw [if_neg (by omega), if_neg (by omega), if_neg (by omega), if_neg (by omega), List.getD_eq_getElem?_getD, List.getElem?_eq_none (by simp [Tr]; omega)]; rfl
      rw [g, g2]
      split
      · exact hv
      · split
        · exact V.rep_int.2 rfl
        · split
          · rename_i e; subst e; exact t3
          · split
            · rename_i e; subst e; exact t6
            · unfold V.rep; trivial
    · rcases n with _ | _ | _ | n
      · simp at h; subst h; exact h0
      · simp at h
      · simp at h; subst h; exact h2
      · simp at h
    · have l2 : ∀ n, live [some (kO K), none, some (plO c)] n → n = 0 ∨ n = 2 := fun n h => by
        rcases n with _ | _ | _ | n
        · exact .inl rfl
        · simp [live] at h
        · exact .inr rfl
        · simp [live] at h
      rcases l2 n ln with rfl | rfl <;> rcases l2 k lk with rfl | rfl
      · rfl
      · exact (hinj b h1 h3).elim
      · exact (hinj b h3 h1).elim
      · rfl
  have htop3 : ∀ n, 3 ≤ n → m.ρ n = none := fun n h => htop n (by omega) (by omega)
  refine roundIn_of_wpIn trivial (wpIn_mono (asg_ok l n K i c p hp asg hasg ca m m _ sat (Mem.le.refl _ _) htop3 (by simp)) ?_)
  rintro e a1 w1 ⟨T1, H1, m1, rfl, hq, sat1, hle1, _⟩
  cases e with
  | normal =>
    obtain ⟨rfl, rfl⟩ := hq
    obtain ⟨lo1, hl1⟩ := hlo.keep hle1
    have hl1' := hl1.trans hl
    refine ⟨_, run_beginRound hl1' (by rw [hrec]), ?_⟩
    have nc : ∀ (r : Loop) c t f, Obj.loop r ≠ .cells c t f := by intro r c t f h; cases h
    have hle2 := hlo.le hle1 (o := .loop { rec .ready none with state := .busy }) (o' := .loop { rec .ready none with state := .busy }) hl (nc _) (nc _) (nc _) rfl
    have sat2 := lo1.sat (.loop { rec .ready none with state := .busy }) sat1
    refine wpIn_mono (bd_ok l n K i c hc p hp bd hbd cb (m.at (m.w.putObj l (.loop { rec .ready none with state := .busy }))) _ a1 sat2 hle2 htop3 (by simp)) ?_
    rintro e a3 w3 ⟨T3, H3, m3, rfl, ⟨rfl, rfl⟩, sat3, hle3, _⟩
    obtain ⟨lo3, hl3⟩ := (hlo.put (.loop { rec .ready none with state := .busy })).keep hle3
    rw [World.putObj_heap_same hlo.lt] at hl3
    have hend := fun jump => run_endRound (P := Tryz.prog) jump hl3
    have hle4 := fun o (ho : ∀ c t f, o ≠ Obj.cells c t f) => (hlo.put (.loop { rec .ready none with state := .busy })).le hle3 (o := o) (o' := o) (World.putObj_heap_same hlo.lt) (nc _) ho ho rfl
    have sat4 := fun o => lo3.sat o sat3
    by_cases hik : i = K
    · simp only [if_pos hik]
      refine ⟨_, _, hend (some (.exit 1)), ⟨_, rfl, (sat4 _).base, (sat4 _).obj 0 _ rfl, (sat4 _).obj 2 _ rfl, ?_⟩⟩
      rw [if_pos hik]
      refine ⟨rfl, ?_⟩
      have := hle4 (.loop { rec .ready none with state := .done, pending := some (.exit 1) }) (nc _)
      simp only [putObj_put] at this
      rw [hrec] at this ⊢
      exact this
    · simp only [if_neg hik]
      refine ⟨_, _, hend none, ⟨_, rfl, (sat4 _).base, (sat4 _).obj 0 _ rfl, (sat4 _).obj 2 _ rfl, ?_⟩⟩
      rw [if_neg hik]
      refine ⟨rfl, ?_⟩
      have := hle4 (.loop (rec .ready none)) (nc _)
      simp only [putObj_put, putObj_same hl] at this
      rw [hrec] at this ⊢
      exact this
  | _ => exact hq.elim
end
end Go.Proofs.YtijbgbpjionfjaaGreatDoor.Am
