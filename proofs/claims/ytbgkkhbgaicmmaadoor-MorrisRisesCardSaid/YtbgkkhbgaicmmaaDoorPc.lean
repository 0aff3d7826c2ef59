/- Parts of the proof: CodeD, WordsM, Nat1, Nat2, Nat3, Nat4, Nat5, Nat6, YuM, DivM, Nat7, Mul1, Div1. -/
import Derived.Test.YtbgkkhbgaicmmaaDoorPb
set_option linter.unusedVariables false
set_option linter.unusedSimpArgs false
set_option maxRecDepth 100000
namespace Go.Proofs.YtbgkkhbgaicmmaaDoor.Am
section
open Go.Proofs.YtbgkkhbgaicmmaaDoor.Am
theorem mix : Tryd.prog.follows .mixedOrders = true := by kernel_rfl

abbrev t_tape_Tape : Nat := 0
abbrev t_nat_Nat : Nat := 25
/-- tallymark/tallymarklaw12.MorrisRises -/
abbrev n_Tlaw12_MorrisRises : FuncId := 3
def c_Tlaw12_MorrisRises : C := (.seq (.reg false [⟨some 4,.mv (.d (.bool false)),none,[]⟩]) (.seq (.seq (.reg false [⟨some 17,.call 4 [],none,[]⟩,⟨some 18,.un .not (.t 17),none,[0]⟩]) (.cond (.t 18) (.seq (.reg false [⟨some 4,.mv (.d (.bool
  false)),none,[]⟩]) .ret) .skip)) (.seq (.reg false [⟨some 19,.mv (.t 0),none,[]⟩,⟨some 20,.bin .and (.t 19) (.d (.int .i64 63)),none,[0]⟩,⟨some 21,.bin .add (.d (.int .i64 1)) (.t 20),none,[1]⟩,⟨some 22,.mv (.t
  1),none,[]⟩,⟨some 23,.bin .and (.t 22) (.d (.int .i64 31)),none,[3]⟩,⟨some 24,.bin .add (.d (.int .i64 1)) (.t 23),none,[4]⟩,⟨some 0,.mv (.t 21),none,[2,0,1,2]⟩,⟨some 1,.mv (.t 24),none,[5,6,0,1,2,3,4,5,6]⟩]) (.seq
  (.reg false [⟨some 26,.mv (.t 0),none,[]⟩,⟨some 27,.mv (.t 1),none,[]⟩,⟨some 28,.bin .sub (.t 27) (.d (.int .i64 1)),none,[1]⟩,⟨some 29,.call 5 [(.t 26),(.t 28)],none,[0,2]⟩,⟨some 25,.mv (.t 29),none,[3]⟩,⟨some 30,.ext
  (.t 25) 0,none,[4]⟩,⟨some 31,.ext (.t 25) 1,none,[4]⟩,⟨some 5,.new 29 [.nilsl,(.bool false),.nilsl],none,[]⟩,⟨none,.store 3 (.t 5) (.t 30),none,[7,5,3,0,1,2,3,4,5,7]⟩,⟨some 6,.mv (.t 31),none,[6,8,0,1,2,3,4,5,6,7,8]⟩])
  (.seq (.reg false [⟨some 33,.mv (.t 0),none,[]⟩,⟨some 34,.mv (.t 1),none,[]⟩,⟨some 35,.call 5 [(.t 33),(.t 34)],none,[0,1]⟩,⟨some 32,.mv (.t 35),none,[2]⟩,⟨some 36,.ext (.t 32) 0,none,[3]⟩,⟨some 37,.ext (.t 32)
  1,none,[3]⟩,⟨some 7,.new 29 [.nilsl,(.bool false),.nilsl],none,[]⟩,⟨none,.store 3 (.t 7) (.t 36),none,[6,4,2,0,1,2,3,4,6]⟩,⟨some 8,.mv (.t 37),none,[5,7,0,1,2,3,4,5,6,7]⟩]) (.seq (.reg false [⟨some 39,.mv (.t
  0),none,[]⟩,⟨some 40,.mv (.t 1),none,[]⟩,⟨some 41,.bin .sub (.t 40) (.d (.int .i64 1)),none,[1]⟩,⟨some 42,.call 6 [(.t 39),(.t 41)],none,[0,2]⟩,⟨some 38,.mv (.t 42),none,[3]⟩,⟨some 43,.ext (.t 38) 0,none,[4]⟩,⟨some
  44,.ext (.t 38) 1,none,[4]⟩,⟨some 9,.new 29 [.nilsl,(.bool false),.nilsl],none,[]⟩,⟨none,.store 3 (.t 9) (.t 43),none,[7,5,3,0,1,2,3,4,5,7]⟩,⟨some 10,.mv (.t 44),none,[6,8,0,1,2,3,4,5,6,7,8]⟩]) (.seq (.reg false [⟨some
  46,.mv (.t 0),none,[]⟩,⟨some 47,.mv (.t 1),none,[]⟩,⟨some 48,.call 6 [(.t 46),(.t 47)],none,[0,1]⟩,⟨some 45,.mv (.t 48),none,[2]⟩,⟨some 49,.ext (.t 45) 0,none,[3]⟩,⟨some 50,.ext (.t 45) 1,none,[3]⟩,⟨some 11,.new 29
  [.nilsl,(.bool false),.nilsl],none,[]⟩,⟨none,.store 3 (.t 11) (.t 49),none,[6,4,2,0,1,2,3,4,6]⟩,⟨some 12,.mv (.t 50),none,[5,7,0,1,2,3,4,5,6,7]⟩]) (.seq (.reg false [⟨some 52,.mv (.t 0),none,[]⟩,⟨some 53,.mv (.t
  1),none,[]⟩,⟨some 54,.bin .add (.t 53) (.d (.int .i64 1)),none,[1]⟩,⟨some 55,.call 6 [(.t 52),(.t 54)],none,[0,2]⟩,⟨some 51,.mv (.t 55),none,[3]⟩,⟨some 56,.ext (.t 51) 0,none,[4]⟩,⟨some 57,.ext (.t 51) 1,none,[4]⟩,⟨some
  13,.new 29 [.nilsl,(.bool false),.nilsl],none,[]⟩,⟨none,.store 3 (.t 13) (.t 56),none,[7,5,3,0,1,2,3,4,5,7]⟩,⟨some 14,.mv (.t 57),none,[6,8,0,1,2,3,4,5,6,7,8]⟩]) (.seq (.reg false [⟨some 59,.mv (.t 0),none,[]⟩,⟨some
  60,.mv (.t 0),none,[]⟩,⟨some 61,.bin .add (.t 60) (.d (.int .i64 1)),none,[1]⟩,⟨some 62,.call 7 [(.t 59),(.t 61)],none,[0,2]⟩,⟨some 58,.mv (.t 62),none,[3]⟩,⟨some 63,.ext (.t 58) 0,none,[4]⟩,⟨some 64,.ext (.t 58)
  1,none,[4]⟩,⟨some 15,.new 29 [.nilsl,(.bool false),.nilsl],none,[]⟩,⟨none,.store 3 (.t 15) (.t 63),none,[7,5,3,0,1,2,3,4,5,7]⟩,⟨some 16,.mv (.t 64),none,[6,8,0,1,2,3,4,5,6,7,8]⟩]) (.seq (.reg true [⟨some 65,.mv (.t
  6),none,[]⟩,⟨some 66,.bin .eql (.t 65) (.d (.int .i64 0)),none,[0]⟩,⟨some 67,.mv (.t 66),none,[1]⟩,⟨some 68,.mv (.t 8),some (67,true),[2]⟩,⟨some 69,.bin .eql (.t 68) (.d (.int .i64 0)),some (67,true),[3,2]⟩,⟨some
  70,.pick (.t 67) (.t 69) (.d (.bool false)),none,[2,4]⟩,⟨some 71,.mv (.t 70),none,[5,2]⟩,⟨some 72,.mv (.t 10),some (71,true),[6]⟩,⟨some 73,.bin .eql (.t 72) (.d (.int .i64 0)),some (71,true),[7,6]⟩,⟨some 74,.pick (.t
  71) (.t 73) (.d (.bool false)),none,[6,8]⟩,⟨some 75,.mv (.t 74),none,[9,6]⟩,⟨some 76,.mv (.t 12),some (75,true),[10]⟩,⟨some 77,.bin .eql (.t 76) (.d (.int .i64 0)),some (75,true),[11,10]⟩,⟨some 78,.pick (.t 75) (.t 77)
  (.d (.bool false)),none,[10,12]⟩,⟨some 79,.mv (.t 78),none,[13,10]⟩,⟨some 80,.mv (.t 14),some (79,true),[14]⟩,⟨some 81,.bin .eql (.t 80) (.d (.int .i64 0)),some (79,true),[15,14]⟩,⟨some 82,.pick (.t 79) (.t 81) (.d
  (.bool false)),none,[14,16]⟩,⟨some 83,.mv (.t 82),none,[17,14]⟩,⟨some 84,.load true 3 (.t 5),some (83,true),[18]⟩,⟨some 85,.load true 3 (.t 15),some (83,true),[18]⟩,⟨some 86,.call 9 [(.t 84),(.t 85)],some
  (83,true),[19,20,18,18]⟩,⟨some 87,.load true 3 (.t 7),some (83,true),[18]⟩,⟨some 88,.call 8 [(.t 86),(.t 87)],some (83,true),[21,22,21,18]⟩,⟨some 89,.bin .eql (.t 88) (.d (.int .i64 0)),some (83,true),[23,18]⟩,⟨some
  90,.pick (.t 83) (.t 89) (.d (.bool false)),none,[18,24]⟩,⟨some 91,.mv (.t 90),none,[25,23]⟩,⟨some 92,.load true 3 (.t 9),some (91,true),[26]⟩,⟨some 93,.load true 3 (.t 11),some (91,true),[26]⟩,⟨some 94,.call 8 [(.t
  92),(.t 93)],some (91,true),[27,28,26,26]⟩,⟨some 95,.bin .lss (.t 94) (.d (.int .i64 0)),some (91,true),[29,26]⟩,⟨some 96,.pick (.t 91) (.t 95) (.d (.bool false)),none,[26,30]⟩,⟨some 97,.mv (.t 96),none,[31,29]⟩,⟨some
  98,.load true 3 (.t 13),some (97,true),[32]⟩,⟨some 99,.load true 3 (.t 11),some (97,true),[32]⟩,⟨some 100,.call 10 [(.t 98),(.t 99)],some (97,true),[33,34,32,32]⟩,⟨some 101,.load true 3 (.t 11),some
  (97,true),[32]⟩,⟨some 102,.load true 3 (.t 9),some (97,true),[32]⟩,⟨some 103,.call 10 [(.t 101),(.t 102)],some (97,true),[36,37,35,32]⟩,⟨some 104,.call 8 [(.t 100),(.t 103)],some (97,true),[35,38,38,32]⟩,⟨some 105,.bin
  .gtr (.t 104) (.d (.int .i64 0)),some (97,true),[39,32]⟩,⟨some 106,.pick (.t 97) (.t 105) (.d (.bool false)),none,[32,40]⟩,⟨some 4,.mv (.t
  106),none,[41,39,0,1,2,3,4,5,6,7,8,9,10,11,12,13,14,15,16,17,18,19,20,21,22,23,24,25,26,27,28,29,30,31,32,33,34,35,36,37,38,39,40,41]⟩]) .ret))))))))))
theorem r_Tlaw12_MorrisRises : fnOf Tryd.prog n_Tlaw12_MorrisRises = some (c_Tlaw12_MorrisRises, [.t 4], 107, false) := by kernel_rfl

/-- tallymark/tallymarklaw12.awake -/
abbrev n_Tlaw12_awake : FuncId := 4
def c_Tlaw12_awake : C := (.seq (.reg false [⟨some 0,.mv (.d (.bool false)),none,[]⟩]) (.seq (.reg false [⟨some 6,.call 6 [(.d (.int .i64 1)),(.d (.int .i64 3))],none,[]⟩,⟨some 5,.mv (.t 6),none,[0]⟩,⟨some 7,.ext (.t 5) 0,none,[1]⟩,⟨some 8,.ext
  (.t 5) 1,none,[1]⟩,⟨some 1,.new 29 [.nilsl,(.bool false),.nilsl],none,[]⟩,⟨none,.store 3 (.t 1) (.t 7),none,[4,2,0,0,1,2,4]⟩,⟨some 2,.mv (.t 8),none,[3,5,0,1,2,3,4,5]⟩]) (.seq (.reg false [⟨some 10,.call 5 [(.d (.int
  .i64 1)),(.d (.int .i64 2))],none,[]⟩,⟨some 9,.mv (.t 10),none,[0]⟩,⟨some 11,.ext (.t 9) 0,none,[1]⟩,⟨some 12,.ext (.t 9) 1,none,[1]⟩,⟨some 3,.new 29 [.nilsl,(.bool false),.nilsl],none,[]⟩,⟨none,.store 3 (.t 3) (.t
  11),none,[4,2,0,0,1,2,4]⟩,⟨some 4,.mv (.t 12),none,[3,5,0,1,2,3,4,5]⟩]) (.seq (.reg false [⟨some 13,.mv (.t 2),none,[]⟩,⟨some 14,.bin .eql (.t 13) (.d (.int .i64 0)),none,[0]⟩,⟨some 15,.mv (.t 14),none,[1]⟩,⟨some 16,.mv
  (.t 4),some (15,true),[2]⟩,⟨some 17,.bin .eql (.t 16) (.d (.int .i64 0)),some (15,true),[3,2]⟩,⟨some 18,.pick (.t 15) (.t 17) (.d (.bool false)),none,[2,4]⟩,⟨some 19,.mv (.t 18),none,[5,2]⟩,⟨some 20,.load true 3 (.t
  1),some (19,true),[6]⟩,⟨some 21,.call 11 [(.t 20)],some (19,true),[7,6,6]⟩,⟨some 22,.bin .eql (.t 21) (.d (.str ⟨#[55]⟩)),some (19,true),[8,6]⟩,⟨some 23,.pick (.t 19) (.t 22) (.d (.bool false)),none,[6,9]⟩,⟨some 24,.mv
  (.t 23),none,[10,8]⟩,⟨some 25,.load true 3 (.t 3),some (24,true),[11]⟩,⟨some 26,.call 11 [(.t 25)],some (24,true),[12,11,11]⟩,⟨some 27,.bin .eql (.t 26) (.d (.str ⟨#[49,47,52]⟩)),some (24,true),[13,11]⟩,⟨some 28,.pick
  (.t 24) (.t 27) (.d (.bool false)),none,[11,14]⟩,⟨some 29,.mv (.t 28),none,[15,13]⟩,⟨some 30,.call 12 [(.d (.int .i64 1))],some (29,true),[16,16]⟩,⟨some 31,.pick (.t 29) (.t 30) (.d (.bool false)),none,[16,17]⟩,⟨some
  0,.mv (.t 31),none,[18,17,0,1,2,3,4,5,6,7,8,9,10,11,12,13,14,15,16,17,18]⟩]) .ret))))
theorem r_Tlaw12_awake : fnOf Tryd.prog n_Tlaw12_awake = some (c_Tlaw12_awake, [.t 0], 32, false) := by kernel_rfl

/-- tallymark/morris.Chance -/
abbrev n_morris_Chance : FuncId := 5
def c_morris_Chance : C := (.seq (.reg false [⟨some 4,.new 29 [.nilsl,(.bool false),.nilsl],none,[]⟩,⟨some 5,.mv (.d (.int .i64 0)),none,[]⟩]) (.seq (.seq (.reg false [⟨some 9,.mv (.t 0),none,[]⟩,⟨some 10,.mv (.t 1),none,[]⟩,⟨some 11,.bsl 3 1 1
  [(.int .i64 0)] [(0,1,(.t 10))],none,[1]⟩,⟨some 12,.call 13 [(.t 9),(.t 11)],none,[0,2]⟩,⟨some 6,.mv (.t 12),none,[3,3,0,1,2,3]⟩]) (.seq (.reg false [⟨some 13,.mv (.t 6),none,[]⟩,⟨some 14,.bin .neq (.t 13) (.d (.int
  .i64 0)),none,[0]⟩]) (.cond (.t 14) (.seq (.reg false [⟨some 15,.build [.nilsl,(.bool false),.nilsl] [],none,[]⟩,⟨some 16,.mv (.t 6),none,[]⟩,⟨none,.store 3 (.t 4) (.t 15),none,[0,0]⟩,⟨some 5,.mv (.t
  16),none,[1,2,0,1,2]⟩]) .ret) .skip))) (.seq (.reg false [⟨some 18,.mv (.t 0),none,[]⟩,⟨some 19,.mv (.t 0),none,[]⟩,⟨some 20,.bin .add (.t 19) (.d (.int .i64 1)),none,[1]⟩,⟨some 21,.call 7 [(.t 18),(.t
  20)],none,[0,2]⟩,⟨some 17,.mv (.t 21),none,[3]⟩,⟨some 22,.ext (.t 17) 0,none,[4]⟩,⟨some 23,.ext (.t 17) 1,none,[4]⟩,⟨some 7,.new 29 [.nilsl,(.bool false),.nilsl],none,[]⟩,⟨none,.store 3 (.t 7) (.t
  22),none,[7,5,3,0,1,2,3,4,5,7]⟩,⟨some 8,.mv (.t 23),none,[6,8,0,1,2,3,4,5,6,7,8]⟩]) (.seq (.reg false [⟨some 24,.load true 3 (.t 7),none,[]⟩,⟨some 25,.mv (.t 1),none,[]⟩,⟨some 26,.call 14 [(.t 24),(.t
  25)],none,[0,1]⟩,⟨some 27,.ext (.t 26) 0,none,[2]⟩,⟨some 28,.ext (.t 26) 1,none,[2]⟩,⟨none,.store 3 (.t 4) (.t 27),none,[3,2,0,1,2,3,4]⟩,⟨some 5,.mv (.t 28),none,[4,5,0,1,2,3,4,5]⟩]) .ret))))
theorem r_morris_Chance : fnOf Tryd.prog n_morris_Chance = some (c_morris_Chance, [.cell 4 true 3, .t 5], 29, false) := by kernel_rfl

/-- tallymark/morris.Value -/
abbrev n_morris_Value : FuncId := 6
def c_morris_Value : C := (.seq (.reg false [⟨some 4,.new 29 [.nilsl,(.bool false),.nilsl],none,[]⟩,⟨some 5,.mv (.d (.int .i64 0)),none,[]⟩]) (.seq (.seq (.reg false [⟨some 11,.mv (.t 0),none,[]⟩,⟨some 12,.mv (.t 1),none,[]⟩,⟨some 13,.bsl 3 1 1
  [(.int .i64 0)] [(0,1,(.t 12))],none,[1]⟩,⟨some 14,.call 13 [(.t 11),(.t 13)],none,[0,2]⟩,⟨some 6,.mv (.t 14),none,[3,3,0,1,2,3]⟩]) (.seq (.reg false [⟨some 15,.mv (.t 6),none,[]⟩,⟨some 16,.bin .neq (.t 15) (.d (.int
  .i64 0)),none,[0]⟩]) (.cond (.t 16) (.seq (.reg false [⟨some 17,.build [.nilsl,(.bool false),.nilsl] [],none,[]⟩,⟨some 18,.mv (.t 6),none,[]⟩,⟨none,.store 3 (.t 4) (.t 17),none,[0,0]⟩,⟨some 5,.mv (.t
  18),none,[1,2,0,1,2]⟩]) .ret) .skip))) (.seq (.reg false [⟨some 20,.mv (.t 0),none,[]⟩,⟨some 21,.bin .add (.t 20) (.d (.int .i64 1)),none,[0]⟩,⟨some 22,.mv (.t 0),none,[]⟩,⟨some 23,.call 7 [(.t 21),(.t
  22)],none,[1,2]⟩,⟨some 19,.mv (.t 23),none,[3]⟩,⟨some 24,.ext (.t 19) 0,none,[4]⟩,⟨some 25,.ext (.t 19) 1,none,[4]⟩,⟨some 7,.new 29 [.nilsl,(.bool false),.nilsl],none,[]⟩,⟨none,.store 3 (.t 7) (.t
  24),none,[7,5,3,0,1,2,3,4,5,7]⟩,⟨some 8,.mv (.t 25),none,[6,8,0,1,2,3,4,5,6,7,8]⟩]) (.seq (.reg false [⟨some 27,.load true 3 (.t 7),none,[]⟩,⟨some 28,.mv (.t 1),none,[]⟩,⟨some 29,.call 14 [(.t 27),(.t
  28)],none,[0,1]⟩,⟨some 26,.mv (.t 29),none,[2]⟩,⟨some 30,.ext (.t 26) 0,none,[3]⟩,⟨some 31,.ext (.t 26) 1,none,[3]⟩,⟨some 9,.new 29 [.nilsl,(.bool false),.nilsl],none,[]⟩,⟨none,.store 3 (.t 9) (.t
  30),none,[6,4,2,0,1,2,3,4,6]⟩,⟨some 10,.mv (.t 31),none,[5,7,0,1,2,3,4,5,6,7]⟩]) (.seq (.seq (.reg false [⟨some 32,.mv (.t 10),none,[]⟩,⟨some 33,.bin .neq (.t 32) (.d (.int .i64 0)),none,[0]⟩]) (.cond (.t 33) (.seq
  (.reg false [⟨some 34,.build [.nilsl,(.bool false),.nilsl] [],none,[]⟩,⟨some 35,.mv (.t 10),none,[]⟩,⟨none,.store 3 (.t 4) (.t 34),none,[0,0]⟩,⟨some 5,.mv (.t 35),none,[1,2,0,1,2]⟩]) .ret) .skip)) (.seq (.reg true
  [⟨some 36,.mv (.t 0),none,[]⟩,⟨some 37,.call 15 [(.t 36)],none,[0]⟩,⟨some 38,.load true 3 (.t 9),none,[]⟩,⟨some 39,.call 15 [(.d (.int .i64 1))],none,[1]⟩,⟨some 40,.call 10 [(.t 38),(.t 39)],none,[2,3,3]⟩,⟨some 41,.call
  9 [(.t 37),(.t 40)],none,[1,4,4]⟩,⟨none,.store 3 (.t 4) (.t 41),none,[5,5,0,1,2,3,4,5]⟩,⟨some 5,.mv (.d (.int .i64 0)),none,[6,0,1,2,3,4,5,6]⟩]) .ret))))))
theorem r_morris_Value : fnOf Tryd.prog n_morris_Value = some (c_morris_Value, [.cell 4 true 3, .t 5], 42, false) := by kernel_rfl

/-- tallymark/rat.Make -/
abbrev n_rat_Make : FuncId := 7
def c_rat_Make : C := (.seq (.reg false [⟨some 4,.new 29 [.nilsl,(.bool false),.nilsl],none,[]⟩,⟨some 5,.mv (.d (.int .i64 0)),none,[]⟩]) (.seq (.reg false [⟨some 6,.mv (.t 0),none,[]⟩,⟨some 7,.call 17 [(.t 6)],none,[0]⟩,⟨some 8,.mv (.t
  1),none,[]⟩,⟨some 9,.call 17 [(.t 8)],none,[2,1]⟩,⟨some 10,.call 16 [(.t 7),(.t 9)],none,[1,3,3]⟩,⟨some 11,.ext (.t 10) 0,none,[4]⟩,⟨some 12,.ext (.t 10) 1,none,[4]⟩,⟨none,.store 3 (.t 4) (.t
  11),none,[5,4,0,1,2,3,4,5,6]⟩,⟨some 5,.mv (.t 12),none,[6,7,0,1,2,3,4,5,6,7]⟩]) .ret))
theorem r_rat_Make : fnOf Tryd.prog n_rat_Make = some (c_rat_Make, [.cell 4 true 3, .t 5], 13, false) := by kernel_rfl

/-- tallymark/rat.Cmp -/
abbrev n_rat_Cmp : FuncId := 8
def c_rat_Cmp : C := (.seq (.reg false [⟨some 2,.box 29 (.t 0),none,[]⟩,⟨some 3,.box 29 (.t 1),none,[]⟩,⟨some 4,.mv (.d (.int .i64 0)),none,[]⟩]) (.seq (.reg true [⟨some 5,.fa 0 (.t 2),none,[]⟩,⟨some 6,.load true 2 (.t 5),none,[0]⟩,⟨some
  7,.load true 3 (.t 3),none,[]⟩,⟨some 8,.call 20 [(.t 7)],none,[2]⟩,⟨some 9,.call 19 [(.t 6),(.t 8)],none,[1,3,3]⟩,⟨some 10,.fa 0 (.t 3),none,[]⟩,⟨some 11,.load true 2 (.t 10),none,[5]⟩,⟨some 12,.load true 3 (.t
  2),none,[]⟩,⟨some 13,.call 20 [(.t 12)],none,[7,4]⟩,⟨some 14,.call 19 [(.t 11),(.t 13)],none,[6,8,8]⟩,⟨some 15,.call 18 [(.t 9),(.t 14)],none,[4,9,9]⟩,⟨some 4,.mv (.t 15),none,[10,10,0,1,2,3,4,5,6,7,8,9,10]⟩]) .ret))
theorem r_rat_Cmp : fnOf Tryd.prog n_rat_Cmp = some (c_rat_Cmp, [.t 4], 16, false) := by kernel_rfl

/-- tallymark/rat.Mul -/
abbrev n_rat_Mul : FuncId := 9
def c_rat_Mul : C := (.seq (.reg false [⟨some 2,.box 29 (.t 0),none,[]⟩,⟨some 3,.box 29 (.t 1),none,[]⟩,⟨some 4,.new 29 [.nilsl,(.bool false),.nilsl],none,[]⟩]) (.seq (.reg true [⟨some 5,.fa 0 (.t 2),none,[]⟩,⟨some 6,.load true 2 (.t
  5),none,[0]⟩,⟨some 7,.fa 0 (.t 3),none,[]⟩,⟨some 8,.load true 2 (.t 7),none,[2]⟩,⟨some 9,.call 19 [(.t 6),(.t 8)],none,[1,3]⟩,⟨some 10,.load true 3 (.t 2),none,[]⟩,⟨some 11,.call 23 [(.t 10)],none,[5,4]⟩,⟨some 12,.load
  true 3 (.t 3),none,[]⟩,⟨some 13,.call 23 [(.t 12)],none,[7,6]⟩,⟨some 14,.call 22 [(.t 11),(.t 13)],none,[6,8,8]⟩,⟨some 15,.call 21 [(.t 9),(.t 14)],none,[4,9,9]⟩,⟨none,.store 3 (.t 4) (.t
  15),none,[10,10,0,1,2,3,4,5,6,7,8,9,10]⟩]) .ret))
theorem r_rat_Mul : fnOf Tryd.prog n_rat_Mul = some (c_rat_Mul, [.cell 4 true 3], 16, false) := by kernel_rfl

/-- tallymark/rat.Sub -/
abbrev n_rat_Sub : FuncId := 10
def c_rat_Sub : C := (.seq (.reg false [⟨some 2,.box 29 (.t 0),none,[]⟩,⟨some 3,.box 29 (.t 1),none,[]⟩,⟨some 4,.new 29 [.nilsl,(.bool false),.nilsl],none,[]⟩]) (.seq (.reg true [⟨some 5,.load true 3 (.t 2),none,[]⟩,⟨some 6,.fa 0 (.t
  3),none,[]⟩,⟨some 7,.load true 2 (.t 6),none,[1]⟩,⟨some 8,.call 25 [(.t 7)],none,[2]⟩,⟨some 9,.fa 2 (.t 3),none,[]⟩,⟨some 10,.load true 1 (.t 9),none,[4]⟩,⟨some 11,.build [.nilsl,(.bool false),.nilsl] [(0,2,(.t
  8)),(2,1,(.t 10))],none,[3,5]⟩,⟨some 12,.call 24 [(.t 5),(.t 11)],none,[0,6,3]⟩,⟨none,.store 3 (.t 4) (.t 12),none,[7,7,0,1,2,3,4,5,6,7]⟩]) .ret))
theorem r_rat_Sub : fnOf Tryd.prog n_rat_Sub = some (c_rat_Sub, [.cell 4 true 3], 13, false) := by kernel_rfl

/-- (tallymark/rat.Rat).Text -/
abbrev n_rat_Rat_Text : FuncId := 11
def c_rat_Rat_Text : C := (.seq (.reg false [⟨some 1,.box 29 (.t 0),none,[]⟩,⟨some 2,.mv (.d (.str ⟨#[]⟩)),none,[]⟩]) (.seq (.seq (.reg false [⟨some 3,.load true 3 (.t 1),none,[]⟩,⟨some 4,.call 26 [(.t 3)],none,[0]⟩]) (.cond (.t 4) (.seq (.reg
  false [⟨some 5,.fa 0 (.t 1),none,[]⟩,⟨some 6,.load true 2 (.t 5),none,[0]⟩,⟨some 7,.call 27 [(.t 6)],none,[1]⟩,⟨some 2,.mv (.t 7),none,[2,2,0,1,2]⟩]) .ret) .skip)) (.seq (.reg true [⟨some 8,.fa 0 (.t 1),none,[]⟩,⟨some
  9,.load true 2 (.t 8),none,[0]⟩,⟨some 10,.call 27 [(.t 9)],none,[1]⟩,⟨some 11,.bin .add (.t 10) (.d (.str ⟨#[47]⟩)),none,[2]⟩,⟨some 12,.load true 3 (.t 1),none,[]⟩,⟨some 13,.call 23 [(.t 12)],none,[4,2]⟩,⟨some 14,.call
  28 [(.t 13)],none,[5,5]⟩,⟨some 15,.bin .add (.t 11) (.t 14),none,[3,6]⟩,⟨some 2,.mv (.t 15),none,[7,6,0,1,2,3,4,5,6,7]⟩]) .ret)))
theorem r_rat_Rat_Text : fnOf Tryd.prog n_rat_Rat_Text = some (c_rat_Rat_Text, [.t 2], 16, false) := by kernel_rfl

/-- tallymark/morris.Good -/
abbrev n_morris_Good : FuncId := 12
def c_morris_Good : C := (.seq (.reg false [⟨some 2,.mv (.d (.bool false)),none,[]⟩]) (.seq (.reg false [⟨some 3,.mv (.t 0),none,[]⟩,⟨some 4,.bin .geq (.t 3) (.d (.int .i64 1)),none,[0]⟩,⟨some 5,.mv (.t 4),none,[1]⟩,⟨some 6,.mv (.t 0),some
  (5,true),[2]⟩,⟨some 7,.bin .leq (.t 6) (.d (.int .i64 4096)),some (5,true),[3,2]⟩,⟨some 8,.pick (.t 5) (.t 7) (.d (.bool false)),none,[2,4]⟩,⟨some 2,.mv (.t 8),none,[5,2,0,1,2,3,4,5]⟩]) .ret))
theorem r_morris_Good : fnOf Tryd.prog n_morris_Good = some (c_morris_Good, [.t 2], 9, false) := by kernel_rfl

/-- tallymark/morris.wrong -/
abbrev n_morris_wrong : FuncId := 13
def c_morris_wrong : C := (.seq (.reg false [⟨some 4,.mv (.d (.int .i64 0)),none,[]⟩]) (.seq (.seq (.reg false [⟨some 7,.mv (.t 0),none,[]⟩,⟨some 8,.call 12 [(.t 7)],none,[0]⟩,⟨some 9,.un .not (.t 8),none,[1]⟩]) (.cond (.t 9) (.seq (.reg false
  [⟨some 4,.mv (.d (.int .i64 10)),none,[]⟩]) .ret) .skip)) (.seq (.seq (.reg false [⟨some 10,.mv (.t 1),none,[]⟩,⟨some 11,.len (.t 10),none,[0]⟩,⟨some 12,.mv (.d (.int .i64 0)),none,[]⟩]) (.block 0 (.loop (.seq (.reg
  false [⟨some 13,.bin .lss (.t 12) (.t 11),none,[]⟩]) (.seq (.cond (.t 13) .skip (.exit 0)) (.seq (.block 1 (.seq (.reg false [⟨some 14,.ix 1 (.t 10) (.t 12),none,[]⟩,⟨some 15,.load false 1 (.t 14),none,[0]⟩,⟨some 6,.mv
  (.t 15),none,[1,0,1]⟩]) (.seq (.reg false [⟨some 16,.mv (.t 6),none,[]⟩,⟨some 17,.bin .lss (.t 16) (.d (.int .i64 0)),none,[0]⟩,⟨some 18,.mv (.t 17),none,[1]⟩,⟨some 19,.mv (.t 6),some (18,false),[2]⟩,⟨some 20,.bin .gtr
  (.t 19) (.d (.int .i64 1023)),some (18,false),[3,2]⟩,⟨some 21,.pick (.t 18) (.d (.bool true)) (.t 20),none,[2,4]⟩]) (.cond (.t 21) (.seq (.reg false [⟨some 4,.mv (.d (.int .i64 2)),none,[]⟩]) .ret) .skip)))) (.reg false
  [⟨some 22,.bin .add (.t 12) (.d (.int .i64 1)),none,[]⟩,⟨some 12,.mv (.t 22),none,[0]⟩]))))))) (.seq (.reg false [⟨some 4,.mv (.d (.int .i64 0)),none,[]⟩]) .ret))))
theorem r_morris_wrong : fnOf Tryd.prog n_morris_wrong = some (c_morris_wrong, [.t 4], 23, false) := by kernel_rfl

/-- tallymark/rat.Pow -/
abbrev n_rat_Pow : FuncId := 14
def c_rat_Pow : C := (.seq (.reg false [⟨some 2,.box 29 (.t 0),none,[]⟩,⟨some 4,.new 29 [.nilsl,(.bool false),.nilsl],none,[]⟩,⟨some 5,.mv (.d (.int .i64 0)),none,[]⟩]) (.seq (.reg false [⟨some 10,.fa 0 (.t 2),none,[]⟩,⟨some 11,.load true 2
  (.t 10),none,[0]⟩,⟨some 12,.call 30 [(.t 11)],none,[1]⟩,⟨some 13,.mv (.t 1),none,[]⟩,⟨some 14,.call 29 [(.t 12),(.t 13)],none,[2,3,2]⟩,⟨some 9,.mv (.t 14),none,[4]⟩,⟨some 15,.ext (.t 9) 0,none,[5]⟩,⟨some 16,.ext (.t 9)
  1,none,[5]⟩,⟨some 6,.new 25 [.nilsl],none,[]⟩,⟨none,.store 1 (.t 6) (.t 15),none,[8,6,4,0,1,2,3,4,5,6,8]⟩,⟨some 7,.mv (.t 16),none,[7,9,0,1,2,3,4,5,6,7,8,9]⟩]) (.seq (.seq (.reg false [⟨some 17,.mv (.t 7),none,[]⟩,⟨some
  18,.bin .neq (.t 17) (.d (.int .i64 0)),none,[0]⟩]) (.cond (.t 18) (.seq (.reg false [⟨some 19,.build [.nilsl,(.bool false),.nilsl] [],none,[]⟩,⟨some 20,.mv (.t 7),none,[]⟩,⟨none,.store 3 (.t 4) (.t
  19),none,[0,0]⟩,⟨some 5,.mv (.t 20),none,[1,2,0,1,2]⟩]) .ret) .skip)) (.seq (.reg false [⟨some 22,.load true 3 (.t 2),none,[]⟩,⟨some 23,.call 23 [(.t 22)],none,[0]⟩,⟨some 24,.mv (.t 1),none,[]⟩,⟨some 25,.call 29 [(.t
  23),(.t 24)],none,[1,2,1]⟩,⟨some 21,.mv (.t 25),none,[3]⟩,⟨some 26,.ext (.t 21) 0,none,[4]⟩,⟨some 27,.ext (.t 21) 1,none,[4]⟩,⟨some 8,.new 25 [.nilsl],none,[]⟩,⟨none,.store 1 (.t 8) (.t
  26),none,[7,5,3,0,1,2,3,4,5,7]⟩,⟨some 7,.mv (.t 27),none,[6,8,0,1,2,3,4,5,6,7,8]⟩]) (.seq (.seq (.reg false [⟨some 28,.mv (.t 7),none,[]⟩,⟨some 29,.bin .neq (.t 28) (.d (.int .i64 0)),none,[0]⟩]) (.cond (.t 29) (.seq
  (.reg false [⟨some 30,.build [.nilsl,(.bool false),.nilsl] [],none,[]⟩,⟨some 31,.mv (.t 7),none,[]⟩,⟨none,.store 3 (.t 4) (.t 30),none,[0,0]⟩,⟨some 5,.mv (.t 31),none,[1,2,0,1,2]⟩]) .ret) .skip)) (.seq (.reg true [⟨some
  32,.fa 0 (.t 2),none,[]⟩,⟨some 33,.load true 2 (.t 32),none,[0]⟩,⟨some 34,.call 32 [(.t 33)],none,[1]⟩,⟨some 35,.mv (.t 34),none,[2,2]⟩,⟨some 36,.mv (.t 1),some (35,true),[3]⟩,⟨some 37,.bin .and (.t 36) (.d (.int .i64
  1)),some (35,true),[4,3]⟩,⟨some 38,.bin .eql (.t 37) (.d (.int .i64 1)),some (35,true),[5,3]⟩,⟨some 39,.pick (.t 35) (.t 38) (.d (.bool false)),none,[3,6]⟩,⟨some 40,.load true 1 (.t 6),none,[]⟩,⟨some 41,.call 31 [(.t
  39),(.t 40)],none,[7,8,3]⟩,⟨some 42,.load true 1 (.t 8),none,[]⟩,⟨some 43,.call 21 [(.t 41),(.t 42)],none,[9,10,9]⟩,⟨none,.store 3 (.t 4) (.t 43),none,[11,11,0,1,2,3,4,5,6,7,8,9,10,11]⟩,⟨some 5,.mv (.d (.int .i64
  0)),none,[12,0,1,2,3,4,5,6,7,8,9,10,11,12]⟩]) .ret))))))
theorem r_rat_Pow : fnOf Tryd.prog n_rat_Pow = some (c_rat_Pow, [.cell 4 true 3, .t 5], 44, false) := by kernel_rfl

/-- tallymark/rat.Of -/
abbrev n_rat_Of : FuncId := 15
def c_rat_Of : C := (.seq (.reg false [⟨some 2,.new 29 [.nilsl,(.bool false),.nilsl],none,[]⟩]) (.seq (.reg false [⟨some 3,.mv (.t 0),none,[]⟩,⟨some 4,.call 17 [(.t 3)],none,[0]⟩,⟨some 5,.build [.nilsl,(.bool false),.nilsl] [(0,2,(.t
  4))],none,[1]⟩,⟨none,.store 3 (.t 2) (.t 5),none,[2,1,0,1,2]⟩]) .ret))
theorem r_rat_Of : fnOf Tryd.prog n_rat_Of = some (c_rat_Of, [.cell 2 true 3], 6, false) := by kernel_rfl

/-- tallymark/rat.Frac -/
abbrev n_rat_Frac : FuncId := 16
def c_rat_Frac : C := (.seq (.reg false [⟨some 2,.box 27 (.t 0),none,[]⟩,⟨some 3,.box 27 (.t 1),none,[]⟩,⟨some 4,.new 29 [.nilsl,(.bool false),.nilsl],none,[]⟩,⟨some 5,.mv (.d (.int .i64 0)),none,[]⟩]) (.seq (.seq (.reg false [⟨some 6,.load
  true 2 (.t 3),none,[]⟩,⟨some 7,.call 30 [(.t 6)],none,[0]⟩,⟨some 8,.call 33 [(.t 7)],none,[1,1]⟩]) (.cond (.t 8) (.seq (.reg false [⟨some 9,.build [.nilsl,(.bool false),.nilsl] [],none,[]⟩,⟨none,.store 3 (.t 4) (.t
  9),none,[0,0]⟩,⟨some 5,.mv (.d (.int .i64 7)),none,[1,0,1]⟩]) .ret) .skip)) (.seq (.reg true [⟨some 10,.load true 2 (.t 2),none,[]⟩,⟨some 11,.call 32 [(.t 10)],none,[0]⟩,⟨some 12,.load true 2 (.t 3),none,[]⟩,⟨some
  13,.call 32 [(.t 12)],none,[2,1]⟩,⟨some 14,.beq true (.t 11) (.t 13),none,[1,3]⟩,⟨some 15,.load true 2 (.t 2),none,[]⟩,⟨some 16,.call 30 [(.t 15)],none,[5,3]⟩,⟨some 17,.call 31 [(.t 14),(.t 16)],none,[4,6,6]⟩,⟨some
  18,.load true 2 (.t 3),none,[]⟩,⟨some 19,.call 30 [(.t 18)],none,[8,7]⟩,⟨some 20,.call 21 [(.t 17),(.t 19)],none,[7,9,9]⟩,⟨none,.store 3 (.t 4) (.t 20),none,[10,10,0,1,2,3,4,5,6,7,8,9,10]⟩,⟨some 5,.mv (.d (.int .i64
  0)),none,[11,0,1,2,3,4,5,6,7,8,9,10,11]⟩]) .ret)))
theorem r_rat_Frac : fnOf Tryd.prog n_rat_Frac = some (c_rat_Frac, [.cell 4 true 3, .t 5], 21, false) := by kernel_rfl

/-- tallymark/whole.Of -/
abbrev n_whole_Of : FuncId := 17
def c_whole_Of : C := (.seq (.reg false [⟨some 2,.new 27 [.nilsl,(.bool false)],none,[]⟩]) (.seq (.seq (.reg false [⟨some 3,.mv (.t 0),none,[]⟩,⟨some 4,.bin .lss (.t 3) (.d (.int .i64 0)),none,[0]⟩]) (.cond (.t 4) (.seq (.reg false [⟨some
  5,.mv (.t 0),none,[]⟩,⟨some 6,.conv .u64 (.t 5),none,[0]⟩,⟨some 7,.un .neg (.t 6),none,[1]⟩,⟨some 8,.bsl 55 1 1 [(.int .u64 0)] [(0,1,(.t 7))],none,[2]⟩,⟨some 9,.call 34 [(.t 8)],none,[3]⟩,⟨some 10,.call 31 [(.d (.bool
  true)),(.t 9)],none,[4,4]⟩,⟨none,.store 2 (.t 2) (.t 10),none,[5,5,0,1,2,3,4,5]⟩]) .ret) .skip)) (.seq (.reg false [⟨some 11,.mv (.t 0),none,[]⟩,⟨some 12,.conv .u64 (.t 11),none,[0]⟩,⟨some 13,.bsl 55 1 1 [(.int .u64 0)]
  [(0,1,(.t 12))],none,[1]⟩,⟨some 14,.call 34 [(.t 13)],none,[2]⟩,⟨some 15,.call 31 [(.d (.bool false)),(.t 14)],none,[3,3]⟩,⟨none,.store 2 (.t 2) (.t 15),none,[4,4,0,1,2,3,4]⟩]) .ret)))
theorem r_whole_Of : fnOf Tryd.prog n_whole_Of = some (c_whole_Of, [.cell 2 true 2], 16, false) := by kernel_rfl

/-- tallymark/whole.Cmp -/
abbrev n_whole_Cmp : FuncId := 18
def c_whole_Cmp : C := (.seq (.reg false [⟨some 2,.box 27 (.t 0),none,[]⟩,⟨some 3,.box 27 (.t 1),none,[]⟩,⟨some 4,.mv (.d (.int .i64 0)),none,[]⟩]) (.seq (.block 0 (.seq (.reg false [⟨some 6,.fa 1 (.t 2),none,[]⟩,⟨some 7,.load false 1 (.t
  6),none,[0]⟩,⟨some 8,.mv (.t 7),none,[1]⟩,⟨some 9,.fa 1 (.t 3),some (8,true),[2]⟩,⟨some 10,.load false 1 (.t 9),some (8,true),[3,2]⟩,⟨some 11,.pick (.t 8) (.t 10) (.d (.bool false)),none,[2,4]⟩,⟨some 5,.mv (.t
  11),none,[5,2]⟩]) (.cond (.t 5) (.seq (.reg false [⟨some 12,.fa 0 (.t 3),none,[]⟩,⟨some 13,.load true 1 (.t 12),none,[0]⟩,⟨some 14,.fa 0 (.t 2),none,[]⟩,⟨some 15,.load true 1 (.t 14),none,[2]⟩,⟨some 16,.call 35 [(.t
  13),(.t 15)],none,[1,3]⟩,⟨some 4,.mv (.t 16),none,[4,4,0,1,2,3,4]⟩]) .ret) (.seq (.reg false [⟨some 18,.fa 1 (.t 2),none,[]⟩,⟨some 19,.load false 1 (.t 18),none,[0]⟩,⟨some 17,.mv (.t 19),none,[1]⟩]) (.cond (.t 17) (.seq
  (.reg false [⟨some 4,.mv (.d (.int .i64 (-1))),none,[]⟩]) .ret) (.seq (.reg false [⟨some 21,.fa 1 (.t 3),none,[]⟩,⟨some 22,.load false 1 (.t 21),none,[0]⟩,⟨some 20,.mv (.t 22),none,[1]⟩]) (.cond (.t 20) (.seq (.reg
  false [⟨some 4,.mv (.d (.int .i64 1)),none,[]⟩]) .ret) .skip))))))) (.seq (.reg false [⟨some 23,.fa 0 (.t 2),none,[]⟩,⟨some 24,.load true 1 (.t 23),none,[0]⟩,⟨some 25,.fa 0 (.t 3),none,[]⟩,⟨some 26,.load true 1 (.t
  25),none,[2]⟩,⟨some 27,.call 35 [(.t 24),(.t 26)],none,[1,3]⟩,⟨some 4,.mv (.t 27),none,[4,4,0,1,2,3,4]⟩]) .ret)))
theorem r_whole_Cmp : fnOf Tryd.prog n_whole_Cmp = some (c_whole_Cmp, [.t 4], 28, false) := by kernel_rfl

/-- tallymark/whole.Mul -/
abbrev n_whole_Mul : FuncId := 19
def c_whole_Mul : C := (.seq (.reg false [⟨some 2,.box 27 (.t 0),none,[]⟩,⟨some 3,.box 27 (.t 1),none,[]⟩,⟨some 4,.new 27 [.nilsl,(.bool false)],none,[]⟩]) (.seq (.reg true [⟨some 5,.fa 1 (.t 2),none,[]⟩,⟨some 6,.load false 1 (.t
  5),none,[0]⟩,⟨some 7,.fa 1 (.t 3),none,[]⟩,⟨some 8,.load false 1 (.t 7),none,[2]⟩,⟨some 9,.beq true (.t 6) (.t 8),none,[1,3]⟩,⟨some 10,.fa 0 (.t 2),none,[]⟩,⟨some 11,.load true 1 (.t 10),none,[5]⟩,⟨some 12,.fa 0 (.t
  3),none,[]⟩,⟨some 13,.load true 1 (.t 12),none,[7]⟩,⟨some 14,.call 22 [(.t 11),(.t 13)],none,[6,8]⟩,⟨some 15,.call 31 [(.t 9),(.t 14)],none,[4,9,9]⟩,⟨none,.store 2 (.t 4) (.t 15),none,[10,10,0,1,2,3,4,5,6,7,8,9,10]⟩])
  .ret))
theorem r_whole_Mul : fnOf Tryd.prog n_whole_Mul = some (c_whole_Mul, [.cell 4 true 2], 16, false) := by kernel_rfl

/-- (tallymark/rat.Rat).den -/
abbrev n_rat_Rat_den : FuncId := 20
def c_rat_Rat_den : C := (.seq (.reg false [⟨some 1,.box 29 (.t 0),none,[]⟩,⟨some 2,.new 27 [.nilsl,(.bool false)],none,[]⟩]) (.seq (.reg false [⟨some 3,.load true 3 (.t 1),none,[]⟩,⟨some 4,.call 23 [(.t 3)],none,[0]⟩,⟨some 5,.call 31 [(.d
  (.bool false)),(.t 4)],none,[1,1]⟩,⟨none,.store 2 (.t 2) (.t 5),none,[2,2,0,1,2]⟩]) .ret))
theorem r_rat_Rat_den : fnOf Tryd.prog n_rat_Rat_den = some (c_rat_Rat_den, [.cell 2 true 2], 6, false) := by kernel_rfl

/-- tallymark/rat.made -/
abbrev n_rat_made : FuncId := 21
def c_rat_made : C := (.seq (.reg false [⟨some 2,.box 27 (.t 0),none,[]⟩,⟨some 3,.box 25 (.t 1),none,[]⟩,⟨some 4,.new 29 [.nilsl,(.bool false),.nilsl],none,[]⟩]) (.seq (.reg true [⟨some 14,.load true 2 (.t 2),none,[]⟩,⟨some 15,.call 30 [(.t
  14)],none,[0]⟩,⟨some 16,.load true 1 (.t 3),none,[]⟩,⟨some 17,.call 36 [(.t 15),(.t 16)],none,[1,2,1]⟩,⟨some 5,.new 25 [.nilsl],none,[]⟩,⟨none,.store 1 (.t 5) (.t 17),none,[4,3,3,0,1,2,3,4]⟩]) (.seq (.reg true [⟨some
  19,.load true 2 (.t 2),none,[]⟩,⟨some 20,.call 30 [(.t 19)],none,[0]⟩,⟨some 21,.load true 1 (.t 5),none,[]⟩,⟨some 22,.call 37 [(.t 20),(.t 21)],none,[1,2,1]⟩,⟨some 18,.mv (.t 22),none,[3]⟩,⟨some 23,.ext (.t 18)
  0,none,[4]⟩,⟨some 24,.ext (.t 18) 1,none,[4]⟩,⟨some 25,.ext (.t 18) 2,none,[4]⟩,⟨some 6,.new 25 [.nilsl],none,[]⟩,⟨some 7,.new 25 [.nilsl],none,[]⟩,⟨none,.store 1 (.t 6) (.t
  23),none,[8,5,3,0,1,2,3,4,5,8,9]⟩,⟨none,.store 1 (.t 7) (.t 24),none,[9,6,10,0,1,2,3,4,5,6,8,9,10]⟩,⟨some 8,.mv (.t 25),none,[7,11,0,1,2,3,4,5,6,7,8,9,10,11]⟩]) (.seq (.reg false [⟨some 27,.load true 1 (.t
  3),none,[]⟩,⟨some 28,.load true 1 (.t 5),none,[]⟩,⟨some 29,.call 37 [(.t 27),(.t 28)],none,[0,1]⟩,⟨some 26,.mv (.t 29),none,[2]⟩,⟨some 30,.ext (.t 26) 0,none,[3]⟩,⟨some 31,.ext (.t 26) 1,none,[3]⟩,⟨some 32,.ext (.t 26)
  2,none,[3]⟩,⟨some 9,.new 25 [.nilsl],none,[]⟩,⟨some 10,.new 25 [.nilsl],none,[]⟩,⟨none,.store 1 (.t 9) (.t 30),none,[7,4,2,0,1,2,3,4,7,8]⟩,⟨none,.store 1 (.t 10) (.t 31),none,[8,5,9,0,1,2,3,4,5,7,8,9]⟩,⟨some 11,.mv (.t
  32),none,[6,10,0,1,2,3,4,5,6,7,8,9,10]⟩]) (.seq (.reg true [⟨some 34,.load true 1 (.t 9),none,[]⟩,⟨some 35,.bsl 55 1 1 [(.int .u64 0)] [(0,1,(.d (.int .u64 1)))],none,[]⟩,⟨some 36,.call 34 [(.t 35)],none,[1]⟩,⟨some
  37,.call 38 [(.t 34),(.t 36)],none,[0,2,2]⟩,⟨some 33,.mv (.t 37),none,[3]⟩,⟨some 38,.ext (.t 33) 0,none,[4]⟩,⟨some 39,.ext (.t 33) 1,none,[4]⟩,⟨some 12,.new 25 [.nilsl],none,[]⟩,⟨none,.store 1 (.t 12) (.t
  38),none,[7,5,3,0,1,2,3,4,5,7]⟩,⟨some 13,.mv (.t 39),none,[6,8,0,1,2,3,4,5,6,7,8]⟩]) (.seq (.reg true [⟨some 40,.load true 2 (.t 2),none,[]⟩,⟨some 41,.call 32 [(.t 40)],none,[0]⟩,⟨some 42,.load true 1 (.t
  6),none,[]⟩,⟨some 43,.call 31 [(.t 41),(.t 42)],none,[1,2,1]⟩,⟨some 44,.load true 1 (.t 12),none,[]⟩,⟨some 45,.build [.nilsl,(.bool false),.nilsl] [(0,2,(.t 43)),(2,1,(.t 44))],none,[3,4]⟩,⟨none,.store 3 (.t 4) (.t
  45),none,[5,3,0,1,2,3,4,5]⟩]) .ret))))))
theorem r_rat_made : fnOf Tryd.prog n_rat_made = some (c_rat_made, [.cell 4 true 3], 46, false) := by kernel_rfl

/-- tallymark/nat.Mul -/
abbrev n_nat_Mul : FuncId := 22
def c_nat_Mul : C := (.seq (.reg false [⟨some 2,.box 25 (.t 0),none,[]⟩,⟨some 3,.box 25 (.t 1),none,[]⟩,⟨some 4,.new 25 [.nilsl],none,[]⟩]) (.seq (.reg false [⟨some 14,.fa 0 (.t 2),none,[]⟩,⟨some 15,.load false 1 (.t 14),none,[0]⟩,⟨some
  16,.len (.t 15),none,[1]⟩,⟨some 17,.fa 0 (.t 3),none,[]⟩,⟨some 18,.load false 1 (.t 17),none,[3]⟩,⟨some 19,.len (.t 18),none,[4]⟩,⟨some 20,.bin .add (.t 16) (.t 19),none,[2,5]⟩,⟨some 21,.mksl 55 1 8 [(.int .u64 0)] (.t
  20) (.t 20),none,[6,6]⟩,⟨some 5,.mv (.t 21),none,[7,0,1,2,3,4,5,6,7]⟩]) (.seq (.seq (.reg false [⟨some 22,.fa 0 (.t 2),none,[]⟩,⟨some 23,.load false 1 (.t 22),none,[0]⟩,⟨some 24,.len (.t 23),none,[1]⟩,⟨some 25,.mv (.d
  (.int .i64 0)),none,[]⟩]) (.block 0 (.loop (.seq (.reg false [⟨some 26,.bin .lss (.t 25) (.t 24),none,[]⟩]) (.seq (.cond (.t 26) .skip (.exit 0)) (.seq (.block 1 (.seq (.reg false [⟨some 27,.mv (.t 25),none,[]⟩,⟨some
  28,.ix 1 (.t 23) (.t 25),none,[]⟩,⟨some 29,.load false 1 (.t 28),none,[1]⟩,⟨some 6,.mv (.t 27),none,[0,0,1,2]⟩,⟨some 7,.mv (.t 29),none,[2,3,0,1,2,3]⟩]) (.seq (.reg false [⟨some 8,.mv (.d (.int .u64 0)),none,[]⟩]) (.seq
  (.seq (.reg false [⟨some 30,.fa 0 (.t 3),none,[]⟩,⟨some 31,.load false 1 (.t 30),none,[0]⟩,⟨some 32,.len (.t 31),none,[1]⟩,⟨some 33,.mv (.d (.int .i64 0)),none,[]⟩]) (.block 2 (.loop (.seq (.reg false [⟨some 34,.bin
  .lss (.t 33) (.t 32),none,[]⟩]) (.seq (.cond (.t 34) .skip (.exit 2)) (.seq (.block 3 (.seq (.reg false [⟨some 35,.mv (.t 33),none,[]⟩,⟨some 36,.ix 1 (.t 31) (.t 33),none,[]⟩,⟨some 37,.load false 1 (.t
  36),none,[1]⟩,⟨some 9,.mv (.t 35),none,[0,0,1,2]⟩,⟨some 10,.mv (.t 37),none,[2,3,0,1,2,3]⟩]) (.seq (.reg false [⟨some 39,.mv (.t 7),none,[]⟩,⟨some 40,.mv (.t 10),none,[]⟩,⟨some 41,.call 39 [(.t 39),(.t
  40)],none,[0,1]⟩,⟨some 38,.mv (.t 41),none,[2]⟩,⟨some 42,.ext (.t 38) 0,none,[3]⟩,⟨some 43,.ext (.t 38) 1,none,[3]⟩,⟨some 11,.mv (.t 42),none,[4,2,0,1,2,3,4]⟩,⟨some 12,.mv (.t 43),none,[5,6,0,1,2,3,4,5,6]⟩]) (.seq (.reg
  false [⟨some 13,.mv (.d (.int .u64 0)),none,[]⟩]) (.seq (.reg false [⟨some 45,.mv (.t 12),none,[]⟩,⟨some 46,.mv (.t 5),none,[]⟩,⟨some 47,.mv (.t 6),none,[]⟩,⟨some 48,.mv (.t 9),none,[]⟩,⟨some 49,.bin .add (.t 47) (.t
  48),none,[2,3]⟩,⟨some 50,.ix 1 (.t 46) (.t 49),none,[1,4]⟩,⟨some 51,.load false 1 (.t 50),none,[5]⟩,⟨some 52,.call 40 [(.t 45),(.t 51),(.d (.int .u64 0))],none,[0,6]⟩,⟨some 44,.mv (.t 52),none,[7]⟩,⟨some 53,.ext (.t 44)
  0,none,[8]⟩,⟨some 54,.ext (.t 44) 1,none,[8]⟩,⟨some 12,.mv (.t 53),none,[9,7,0,1,2,3,4,5,6,7,8,9]⟩,⟨some 13,.mv (.t 54),none,[10,11,0,1,2,3,4,5,6,7,8,9,10,11]⟩]) (.seq (.reg false [⟨some 55,.mv (.t 11),none,[]⟩,⟨some
  56,.mv (.t 13),none,[]⟩,⟨some 57,.bin .add (.t 55) (.t 56),none,[0,1]⟩,⟨some 11,.mv (.t 57),none,[2,0,1,2]⟩]) (.seq (.reg false [⟨some 59,.mv (.t 12),none,[]⟩,⟨some 60,.mv (.t 8),none,[]⟩,⟨some 61,.call 40 [(.t 59),(.t
  60),(.d (.int .u64 0))],none,[0,1]⟩,⟨some 58,.mv (.t 61),none,[2]⟩,⟨some 62,.ext (.t 58) 0,none,[3]⟩,⟨some 63,.ext (.t 58) 1,none,[3]⟩,⟨some 12,.mv (.t 62),none,[4,2,0,1,2,3,4]⟩,⟨some 13,.mv (.t
  63),none,[5,6,0,1,2,3,4,5,6]⟩]) (.reg false [⟨some 64,.mv (.t 5),none,[]⟩,⟨some 65,.mv (.t 6),none,[]⟩,⟨some 66,.mv (.t 9),none,[]⟩,⟨some 67,.bin .add (.t 65) (.t 66),none,[1,2]⟩,⟨some 68,.mv (.t 12),none,[]⟩,⟨some
  69,.mv (.t 11),none,[]⟩,⟨some 70,.mv (.t 13),none,[]⟩,⟨some 71,.bin .add (.t 69) (.t 70),none,[5,6]⟩,⟨some 72,.ix 1 (.t 64) (.t 67),none,[0,3,0,1,2,3,4]⟩,⟨none,.store 1 (.t 72) (.t 68),none,[8,4,0,1,2,3,4]⟩,⟨some 8,.mv
  (.t 71),none,[7,9,0,1,2,3,4,5,6,7,8,9]⟩])))))))) (.reg false [⟨some 73,.bin .add (.t 33) (.d (.int .i64 1)),none,[]⟩,⟨some 33,.mv (.t 73),none,[0]⟩]))))))) (.reg false [⟨some 74,.mv (.t 5),none,[]⟩,⟨some 75,.mv (.t
  6),none,[]⟩,⟨some 76,.fa 0 (.t 3),none,[]⟩,⟨some 77,.load false 1 (.t 76),none,[2]⟩,⟨some 78,.len (.t 77),none,[3]⟩,⟨some 79,.bin .add (.t 75) (.t 78),none,[1,4]⟩,⟨some 80,.mv (.t 8),none,[]⟩,⟨some 81,.ix 1 (.t 74) (.t
  79),none,[0,5,0,1,2,3,4,5,6]⟩,⟨none,.store 1 (.t 81) (.t 80),none,[7,6,0,1,2,3,4,5,6]⟩]))))) (.reg false [⟨some 82,.bin .add (.t 25) (.d (.int .i64 1)),none,[]⟩,⟨some 25,.mv (.t 82),none,[0]⟩]))))))) (.seq (.reg false
  [⟨some 83,.mv (.t 5),none,[]⟩,⟨some 84,.call 41 [(.t 83)],none,[0]⟩,⟨none,.store 1 (.t 4) (.t 84),none,[1,1,0,1]⟩]) .ret))))
theorem r_nat_Mul : fnOf Tryd.prog n_nat_Mul = some (c_nat_Mul, [.cell 4 true 1], 85, false) := by kernel_rfl

/-- (tallymark/rat.Rat).Den -/
abbrev n_rat_Rat_Den : FuncId := 23
def c_rat_Rat_Den : C := (.seq (.reg false [⟨some 1,.box 29 (.t 0),none,[]⟩,⟨some 2,.new 25 [.nilsl],none,[]⟩]) (.seq (.reg true [⟨some 3,.fa 2 (.t 1),none,[]⟩,⟨some 4,.load true 1 (.t 3),none,[0]⟩,⟨some 5,.bsl 55 1 1 [(.int .u64 0)] [(0,1,(.d
  (.int .u64 1)))],none,[]⟩,⟨some 6,.call 34 [(.t 5)],none,[2]⟩,⟨some 7,.call 42 [(.t 4),(.t 6)],none,[1,3,3]⟩,⟨none,.store 1 (.t 2) (.t 7),none,[4,4,0,1,2,3,4]⟩]) .ret))
theorem r_rat_Rat_Den : fnOf Tryd.prog n_rat_Rat_Den = some (c_rat_Rat_Den, [.cell 2 true 1], 8, false) := by kernel_rfl

/-- tallymark/rat.Add -/
abbrev n_rat_Add : FuncId := 24
def c_rat_Add : C := (.seq (.reg false [⟨some 2,.box 29 (.t 0),none,[]⟩,⟨some 3,.box 29 (.t 1),none,[]⟩,⟨some 4,.new 29 [.nilsl,(.bool false),.nilsl],none,[]⟩]) (.seq (.reg true [⟨some 5,.fa 0 (.t 2),none,[]⟩,⟨some 6,.load true 2 (.t
  5),none,[0]⟩,⟨some 7,.load true 3 (.t 3),none,[]⟩,⟨some 8,.call 20 [(.t 7)],none,[2]⟩,⟨some 9,.call 19 [(.t 6),(.t 8)],none,[1,3,3]⟩,⟨some 10,.fa 0 (.t 3),none,[]⟩,⟨some 11,.load true 2 (.t 10),none,[5]⟩,⟨some 12,.load
  true 3 (.t 2),none,[]⟩,⟨some 13,.call 20 [(.t 12)],none,[7,4]⟩,⟨some 14,.call 19 [(.t 11),(.t 13)],none,[6,8,8]⟩,⟨some 15,.call 43 [(.t 9),(.t 14)],none,[4,9,9]⟩,⟨some 16,.load true 3 (.t 2),none,[]⟩,⟨some 17,.call 23
  [(.t 16)],none,[11,10]⟩,⟨some 18,.load true 3 (.t 3),none,[]⟩,⟨some 19,.call 23 [(.t 18)],none,[13,12]⟩,⟨some 20,.call 22 [(.t 17),(.t 19)],none,[12,14,14]⟩,⟨some 21,.call 21 [(.t 15),(.t
  20)],none,[10,15,15]⟩,⟨none,.store 3 (.t 4) (.t 21),none,[16,16,0,1,2,3,4,5,6,7,8,9,10,11,12,13,14,15,16]⟩]) .ret))
theorem r_rat_Add : fnOf Tryd.prog n_rat_Add = some (c_rat_Add, [.cell 4 true 3], 22, false) := by kernel_rfl

/-- tallymark/whole.Minus -/
abbrev n_whole_Minus : FuncId := 25
def c_whole_Minus : C := (.seq (.reg false [⟨some 1,.box 27 (.t 0),none,[]⟩,⟨some 2,.new 27 [.nilsl,(.bool false)],none,[]⟩]) (.seq (.reg false [⟨some 3,.fa 1 (.t 1),none,[]⟩,⟨some 4,.load false 1 (.t 3),none,[0]⟩,⟨some 5,.un .not (.t
  4),none,[1]⟩,⟨some 6,.fa 0 (.t 1),none,[]⟩,⟨some 7,.load true 1 (.t 6),none,[3]⟩,⟨some 8,.call 31 [(.t 5),(.t 7)],none,[2,4]⟩,⟨none,.store 2 (.t 2) (.t 8),none,[5,5,0,1,2,3,4,5]⟩]) .ret))
theorem r_whole_Minus : fnOf Tryd.prog n_whole_Minus = some (c_whole_Minus, [.cell 2 true 2], 9, false) := by kernel_rfl

/-- (tallymark/rat.Rat).Whole -/
abbrev n_rat_Rat_Whole : FuncId := 26
def c_rat_Rat_Whole : C := (.seq (.reg false [⟨some 1,.box 29 (.t 0),none,[]⟩,⟨some 2,.mv (.d (.bool false)),none,[]⟩]) (.seq (.reg false [⟨some 3,.fa 2 (.t 1),none,[]⟩,⟨some 4,.load true 1 (.t 3),none,[0]⟩,⟨some 5,.call 33 [(.t
  4)],none,[1]⟩,⟨some 2,.mv (.t 5),none,[2,2,0,1,2]⟩]) .ret))
theorem r_rat_Rat_Whole : fnOf Tryd.prog n_rat_Rat_Whole = some (c_rat_Rat_Whole, [.t 2], 6, false) := by kernel_rfl

/-- (tallymark/whole.Whole).Text -/
abbrev n_whole_Whole_Text : FuncId := 27
def c_whole_Whole_Text : C := (.seq (.reg false [⟨some 1,.box 27 (.t 0),none,[]⟩,⟨some 2,.mv (.d (.str ⟨#[]⟩)),none,[]⟩]) (.seq (.seq (.reg false [⟨some 3,.fa 1 (.t 1),none,[]⟩,⟨some 4,.load false 1 (.t 3),none,[0]⟩]) (.cond (.t 4) (.seq (.reg false
  [⟨some 5,.fa 0 (.t 1),none,[]⟩,⟨some 6,.load true 1 (.t 5),none,[0]⟩,⟨some 7,.call 28 [(.t 6)],none,[1]⟩,⟨some 8,.bin .add (.d (.str ⟨#[45]⟩)) (.t 7),none,[2]⟩,⟨some 2,.mv (.t 8),none,[3,2,0,1,2,3]⟩]) .ret) .skip))
  (.seq (.reg false [⟨some 9,.fa 0 (.t 1),none,[]⟩,⟨some 10,.load true 1 (.t 9),none,[0]⟩,⟨some 11,.call 28 [(.t 10)],none,[1]⟩,⟨some 2,.mv (.t 11),none,[2,2,0,1,2]⟩]) .ret)))
theorem r_whole_Whole_Text : fnOf Tryd.prog n_whole_Whole_Text = some (c_whole_Whole_Text, [.t 2], 12, false) := by kernel_rfl

/-- (tallymark/nat.Nat).Text -/
abbrev n_nat_Nat_Text : FuncId := 28
def c_nat_Nat_Text : C := (.seq (.reg false [⟨some 1,.box 25 (.t 0),none,[]⟩,⟨some 2,.mv (.d (.str ⟨#[]⟩)),none,[]⟩]) (.seq (.seq (.reg false [⟨some 8,.load true 1 (.t 1),none,[]⟩,⟨some 9,.call 33 [(.t 8)],none,[0]⟩]) (.cond (.t 9) (.seq (.reg
  false [⟨some 2,.mv (.d (.str ⟨#[48]⟩)),none,[]⟩]) .ret) .skip)) (.seq (.reg false [⟨some 3,.mv (.d (.str ⟨#[]⟩)),none,[]⟩]) (.seq (.seq (.reg false [⟨some 10,.fa 0 (.t 1),none,[]⟩,⟨some 11,.load false 1 (.t
  10),none,[0]⟩,⟨some 4,.mv (.t 11),none,[1,0,1]⟩]) (.block 0 (.loop (.seq (.seq (.reg false [⟨some 12,.mv (.t 4),none,[]⟩,⟨some 13,.len (.t 12),none,[0]⟩,⟨some 14,.bin .gtr (.t 13) (.d (.int .i64 0)),none,[1]⟩]) (.cond
  (.t 14) .skip (.exit 0))) (.block 1 (.seq (.reg false [⟨some 16,.mv (.t 4),none,[]⟩,⟨some 17,.call 44 [(.t 16),(.d (.int .u64 1000000000000000000))],none,[0]⟩,⟨some 15,.mv (.t 17),none,[1]⟩,⟨some 18,.ext (.t 15)
  0,none,[2]⟩,⟨some 19,.ext (.t 15) 1,none,[2]⟩,⟨some 5,.mv (.t 18),none,[3,1,0,1,2,3]⟩,⟨some 6,.mv (.t 19),none,[4,5,0,1,2,3,4,5]⟩]) (.seq (.reg false [⟨some 20,.mv (.t 5),none,[]⟩,⟨some 21,.call 41 [(.t
  20)],none,[0]⟩,⟨some 22,.fld false 0 1 (.t 21),none,[1]⟩,⟨some 4,.mv (.t 22),none,[2,1,0,1,2]⟩]) (.seq (.reg false [⟨some 23,.mv (.t 6),none,[]⟩,⟨some 24,.call 45 [(.t 23),(.d (.int .i64 10))],none,[0]⟩,⟨some 7,.mv (.t
  24),none,[1,1,0,1]⟩]) (.seq (.seq (.reg false [⟨some 25,.mv (.t 4),none,[]⟩,⟨some 26,.len (.t 25),none,[0]⟩,⟨some 27,.bin .gtr (.t 26) (.d (.int .i64 0)),none,[1]⟩]) (.cond (.t 27) (.reg false [⟨some 28,.mv (.t
  7),none,[]⟩,⟨some 29,.lens (.t 28),none,[0]⟩,⟨some 30,.bin .sub (.d (.int .i64 18)) (.t 29),none,[1]⟩,⟨some 31,.call 46 [(.d (.str ⟨#[48]⟩)),(.t 30)],none,[2]⟩,⟨some 32,.mv (.t 7),none,[]⟩,⟨some 33,.bin .add (.t 31) (.t
  32),none,[3,4]⟩,⟨some 7,.mv (.t 33),none,[5,3,0,1,2,3,4,5]⟩]) .skip)) (.reg false [⟨some 34,.mv (.t 7),none,[]⟩,⟨some 35,.mv (.t 3),none,[]⟩,⟨some 36,.bin .add (.t 34) (.t 35),none,[0,1]⟩,⟨some 3,.mv (.t
  36),none,[2,0,1,2]⟩])))))))))) (.seq (.reg false [⟨some 37,.mv (.t 3),none,[]⟩,⟨some 2,.mv (.t 37),none,[0,0]⟩]) .ret)))))
theorem r_nat_Nat_Text : fnOf Tryd.prog n_nat_Nat_Text = some (c_nat_Nat_Text, [.t 2], 38, false) := by kernel_rfl

/-- tallymark/nat.Pow -/
abbrev n_nat_Pow : FuncId := 29
def c_nat_Pow : C := (.seq (.reg false [⟨some 2,.box 25 (.t 0),none,[]⟩,⟨some 4,.new 25 [.nilsl],none,[]⟩,⟨some 5,.mv (.d (.int .i64 0)),none,[]⟩]) (.seq (.block 0 (.seq (.reg false [⟨some 8,.mv (.t 1),none,[]⟩,⟨some 9,.bin .lss (.t 8) (.d
  (.int .i64 0)),none,[0]⟩,⟨some 7,.mv (.t 9),none,[1]⟩]) (.cond (.t 7) (.seq (.reg false [⟨some 10,.build [.nilsl] [],none,[]⟩,⟨none,.store 1 (.t 4) (.t 10),none,[0,0]⟩,⟨some 5,.mv (.d (.int .i64 2)),none,[1,0,1]⟩])
  .ret) (.seq (.reg false [⟨some 12,.load true 1 (.t 2),none,[]⟩,⟨some 13,.call 47 [(.t 12)],none,[0]⟩,⟨some 14,.bin .gtr (.t 13) (.d (.int .i64 1)),none,[1]⟩,⟨some 15,.mv (.t 14),none,[2,1]⟩,⟨some 16,.mv (.t 1),some
  (15,true),[3]⟩,⟨some 17,.load true 1 (.t 2),some (15,true),[3]⟩,⟨some 18,.call 47 [(.t 17)],some (15,true),[5,3,3]⟩,⟨some 19,.bin .quo (.d (.int .i64 8192)) (.t 18),some (15,true),[6,3]⟩,⟨some 20,.bin .gtr (.t 16) (.t
  19),some (15,true),[4,7,3]⟩,⟨some 21,.pick (.t 15) (.t 20) (.d (.bool false)),none,[3,8]⟩,⟨some 11,.mv (.t 21),none,[9,6]⟩]) (.cond (.t 11) (.seq (.reg false [⟨some 22,.build [.nilsl] [],none,[]⟩,⟨none,.store 1 (.t 4)
  (.t 22),none,[0,0]⟩,⟨some 5,.mv (.d (.int .i64 3)),none,[1,0,1]⟩]) .ret) .skip))))) (.seq (.reg false [⟨some 23,.bsl 55 1 1 [(.int .u64 0)] [(0,1,(.d (.int .u64 1)))],none,[]⟩,⟨some 24,.call 34 [(.t 23)],none,[0]⟩,⟨some
  6,.new 25 [.nilsl],none,[]⟩,⟨none,.store 1 (.t 6) (.t 24),none,[2,1,1,0,1,2]⟩]) (.seq (.seq (.reg false [⟨some 25,.load true 1 (.t 2),none,[]⟩,⟨some 26,.call 47 [(.t 25)],none,[0]⟩,⟨some 27,.bin .leq (.t 26) (.d (.int
  .i64 1)),none,[1]⟩]) (.cond (.t 27) (.reg false [⟨some 28,.mv (.t 1),none,[]⟩,⟨some 29,.mm false [(.t 28),(.d (.int .i64 1))],none,[0]⟩,⟨some 1,.mv (.t 29),none,[1,0,1]⟩]) .skip)) (.seq (.block 1 (.loop (.seq (.seq
  (.reg false [⟨some 30,.mv (.t 1),none,[]⟩,⟨some 31,.bin .gtr (.t 30) (.d (.int .i64 0)),none,[0]⟩]) (.cond (.t 31) .skip (.exit 1))) (.seq (.block 2 (.seq (.seq (.reg false [⟨some 34,.mv (.t 1),none,[]⟩,⟨some 35,.bin
  .and (.t 34) (.d (.int .i64 1)),none,[0]⟩,⟨some 36,.bin .eql (.t 35) (.d (.int .i64 1)),none,[1]⟩]) (.cond (.t 36) (.reg false [⟨some 37,.load true 1 (.t 6),none,[]⟩,⟨some 38,.load true 1 (.t 2),none,[]⟩,⟨some 39,.call
  22 [(.t 37),(.t 38)],none,[0,1]⟩,⟨none,.store 1 (.t 6) (.t 39),none,[2,2,0,1,2]⟩]) .skip)) (.reg false [⟨some 40,.load true 1 (.t 2),none,[]⟩,⟨some 41,.load true 1 (.t 2),none,[]⟩,⟨some 42,.call 22 [(.t 40),(.t
  41)],none,[0,1]⟩,⟨none,.store 1 (.t 2) (.t 42),none,[2,2,0,1,2]⟩]))) (.reg false [⟨some 32,.mv (.t 1),none,[]⟩,⟨some 33,.bin .shr (.t 32) (.d (.int .u64 1)),none,[0]⟩,⟨some 1,.mv (.t 33),none,[1,0,1]⟩]))))) (.seq (.reg
  false [⟨some 43,.load true 1 (.t 6),none,[]⟩,⟨none,.store 1 (.t 4) (.t 43),none,[0,0]⟩,⟨some 5,.mv (.d (.int .i64 0)),none,[1,0,1]⟩]) .ret))))))
theorem r_nat_Pow : fnOf Tryd.prog n_nat_Pow = some (c_nat_Pow, [.cell 4 true 1, .t 5], 44, false) := by kernel_rfl

/-- (tallymark/whole.Whole).Abs -/
abbrev n_whole_Whole_Abs : FuncId := 30
def c_whole_Whole_Abs : C := (.seq (.reg false [⟨some 1,.box 27 (.t 0),none,[]⟩,⟨some 2,.new 25 [.nilsl],none,[]⟩]) (.seq (.reg false [⟨some 3,.fa 0 (.t 1),none,[]⟩,⟨some 4,.load true 1 (.t 3),none,[0]⟩,⟨none,.store 1 (.t 2) (.t 4),none,[1,0,1]⟩])
  .ret))
theorem r_whole_Whole_Abs : fnOf Tryd.prog n_whole_Whole_Abs = some (c_whole_Whole_Abs, [.cell 2 true 1], 5, false) := by kernel_rfl

/-- tallymark/whole.Make -/
abbrev n_whole_Make : FuncId := 31
def c_whole_Make : C := (.seq (.reg false [⟨some 3,.box 25 (.t 1),none,[]⟩,⟨some 4,.new 27 [.nilsl,(.bool false)],none,[]⟩]) (.seq (.reg true [⟨some 5,.load true 1 (.t 3),none,[]⟩,⟨some 6,.mv (.t 0),none,[]⟩,⟨some 7,.mv (.t 6),none,[1]⟩,⟨some
  8,.load true 1 (.t 3),some (7,true),[2]⟩,⟨some 9,.call 33 [(.t 8)],some (7,true),[3,2,2]⟩,⟨some 10,.un .not (.t 9),some (7,true),[4,2]⟩,⟨some 11,.pick (.t 7) (.t 10) (.d (.bool false)),none,[2,5]⟩,⟨some 12,.build
  [.nilsl,(.bool false)] [(0,1,(.t 5)),(1,1,(.t 11))],none,[0,6]⟩,⟨none,.store 2 (.t 4) (.t 12),none,[7,4,0,1,2,3,4,5,6,7]⟩]) .ret))
theorem r_whole_Make : fnOf Tryd.prog n_whole_Make = some (c_whole_Make, [.cell 4 true 2], 13, false) := by kernel_rfl

/-- (tallymark/whole.Whole).Neg -/
abbrev n_whole_Whole_Neg : FuncId := 32
def c_whole_Whole_Neg : C := (.seq (.reg false [⟨some 1,.box 27 (.t 0),none,[]⟩,⟨some 2,.mv (.d (.bool false)),none,[]⟩]) (.seq (.reg false [⟨some 3,.fa 1 (.t 1),none,[]⟩,⟨some 4,.load false 1 (.t 3),none,[0]⟩,⟨some 2,.mv (.t 4),none,[1,0,1]⟩])
  .ret))
theorem r_whole_Whole_Neg : fnOf Tryd.prog n_whole_Whole_Neg = some (c_whole_Whole_Neg, [.t 2], 5, false) := by kernel_rfl

/-- (tallymark/nat.Nat).Zero -/
abbrev n_nat_Nat_Zero : FuncId := 33
def c_nat_Nat_Zero : C := (.seq (.reg false [⟨some 1,.box 25 (.t 0),none,[]⟩,⟨some 2,.mv (.d (.bool false)),none,[]⟩]) (.seq (.reg false [⟨some 3,.fa 0 (.t 1),none,[]⟩,⟨some 4,.load false 1 (.t 3),none,[0]⟩,⟨some 5,.len (.t 4),none,[1]⟩,⟨some
  6,.bin .eql (.t 5) (.d (.int .i64 0)),none,[2]⟩,⟨some 2,.mv (.t 6),none,[3,0,1,2,3]⟩]) .ret))
theorem r_nat_Nat_Zero : fnOf Tryd.prog n_nat_Nat_Zero = some (c_nat_Nat_Zero, [.t 2], 7, false) := by kernel_rfl

/-- tallymark/nat.Of -/
abbrev n_nat_Of : FuncId := 34
def c_nat_Of : C := (.seq (.reg false [⟨some 2,.new 25 [.nilsl],none,[]⟩]) (.seq (.reg false [⟨some 3,.mv (.t 0),none,[]⟩,⟨some 4,.call 48 [(.t 3)],none,[0]⟩,⟨some 5,.call 41 [(.t 4)],none,[1,1]⟩,⟨none,.store 1 (.t 2) (.t
  5),none,[2,2,0,1,2]⟩]) .ret))
theorem r_nat_Of : fnOf Tryd.prog n_nat_Of = some (c_nat_Of, [.cell 2 true 1], 6, false) := by kernel_rfl

/-- tallymark/nat.Cmp -/
abbrev n_nat_Cmp : FuncId := 35
def c_nat_Cmp : C := (.seq (.reg false [⟨some 2,.box 25 (.t 0),none,[]⟩,⟨some 3,.box 25 (.t 1),none,[]⟩,⟨some 4,.mv (.d (.int .i64 0)),none,[]⟩]) (.seq (.seq (.reg false [⟨some 9,.fa 0 (.t 2),none,[]⟩,⟨some 10,.load false 1 (.t
  9),none,[0]⟩,⟨some 11,.len (.t 10),none,[1]⟩,⟨some 12,.fa 0 (.t 3),none,[]⟩,⟨some 13,.load false 1 (.t 12),none,[3]⟩,⟨some 14,.len (.t 13),none,[4]⟩,⟨some 15,.bin .sub (.t 11) (.t 14),none,[2,5]⟩,⟨some 5,.mv (.t
  15),none,[6,0,1,2,3,4,5,6]⟩]) (.seq (.reg false [⟨some 16,.mv (.t 5),none,[]⟩,⟨some 17,.bin .neq (.t 16) (.d (.int .i64 0)),none,[0]⟩]) (.cond (.t 17) (.seq (.reg false [⟨some 18,.mv (.t 5),none,[]⟩,⟨some 19,.mm false
  [(.t 18),(.d (.int .i64 1))],none,[0]⟩,⟨some 20,.mm true [(.d (.int .i64 (-1))),(.t 19)],none,[1]⟩,⟨some 4,.mv (.t 20),none,[2,0,1,2]⟩]) .ret) .skip))) (.seq (.seq (.reg false [⟨some 21,.fa 0 (.t 2),none,[]⟩,⟨some
  22,.load false 1 (.t 21),none,[0]⟩,⟨some 23,.len (.t 22),none,[1]⟩,⟨some 24,.bin .sub (.t 23) (.d (.int .i64 1)),none,[2]⟩,⟨some 6,.mv (.t 24),none,[3,0,1,2,3]⟩]) (.block 0 (.loop (.seq (.seq (.reg false [⟨some 25,.mv
  (.t 6),none,[]⟩,⟨some 26,.bin .geq (.t 25) (.d (.int .i64 0)),none,[0]⟩]) (.cond (.t 26) .skip (.exit 0))) (.seq (.block 1 (.seq (.reg true [⟨some 29,.fa 0 (.t 2),none,[]⟩,⟨some 30,.load false 1 (.t 29),none,[0]⟩,⟨some
  31,.mv (.t 6),none,[]⟩,⟨some 32,.ix 1 (.t 30) (.t 31),none,[1,2]⟩,⟨some 33,.load false 1 (.t 32),none,[3]⟩,⟨some 34,.fa 0 (.t 3),none,[]⟩,⟨some 35,.load false 1 (.t 34),none,[5]⟩,⟨some 36,.mv (.t 6),none,[]⟩,⟨some
  37,.ix 1 (.t 35) (.t 36),none,[6,7]⟩,⟨some 38,.load false 1 (.t 37),none,[8]⟩,⟨some 7,.mv (.t 33),none,[4,0,1,2,3,4]⟩,⟨some 8,.mv (.t 38),none,[9,10,0,1,2,3,4,5,6,7,8,9,10]⟩]) (.block 2 (.seq (.reg false [⟨some 40,.mv
  (.t 7),none,[]⟩,⟨some 41,.mv (.t 8),none,[]⟩,⟨some 42,.bin .lss (.t 40) (.t 41),none,[0,1]⟩,⟨some 39,.mv (.t 42),none,[2]⟩]) (.cond (.t 39) (.seq (.reg false [⟨some 4,.mv (.d (.int .i64 (-1))),none,[]⟩]) .ret) (.seq
  (.reg false [⟨some 44,.mv (.t 7),none,[]⟩,⟨some 45,.mv (.t 8),none,[]⟩,⟨some 46,.bin .gtr (.t 44) (.t 45),none,[0,1]⟩,⟨some 43,.mv (.t 46),none,[2]⟩]) (.cond (.t 43) (.seq (.reg false [⟨some 4,.mv (.d (.int .i64
  1)),none,[]⟩]) .ret) .skip))))))) (.reg false [⟨some 27,.mv (.t 6),none,[]⟩,⟨some 28,.bin .sub (.t 27) (.d (.int .i64 1)),none,[0]⟩,⟨some 6,.mv (.t 28),none,[1,0,1]⟩])))))) (.seq (.reg false [⟨some 4,.mv (.d (.int .i64
  0)),none,[]⟩]) .ret))))
theorem r_nat_Cmp : fnOf Tryd.prog n_nat_Cmp = some (c_nat_Cmp, [.t 4], 47, false) := by kernel_rfl

/-- tallymark/nat.Gcd -/
abbrev n_nat_Gcd : FuncId := 36
def c_nat_Gcd : C := (.seq (.reg false [⟨some 2,.box 25 (.t 0),none,[]⟩,⟨some 3,.box 25 (.t 1),none,[]⟩,⟨some 4,.new 25 [.nilsl],none,[]⟩]) (.seq (.block 0 (.loop (.seq (.seq (.reg false [⟨some 8,.load true 1 (.t 3),none,[]⟩,⟨some 9,.call
  33 [(.t 8)],none,[0]⟩,⟨some 10,.un .not (.t 9),none,[1]⟩]) (.cond (.t 10) .skip (.exit 0))) (.block 1 (.seq (.reg false [⟨some 12,.load true 1 (.t 2),none,[]⟩,⟨some 13,.load true 1 (.t 3),none,[]⟩,⟨some 14,.call 37 [(.t
  12),(.t 13)],none,[0,1]⟩,⟨some 11,.mv (.t 14),none,[2]⟩,⟨some 15,.ext (.t 11) 0,none,[3]⟩,⟨some 16,.ext (.t 11) 1,none,[3]⟩,⟨some 17,.ext (.t 11) 2,none,[3]⟩,⟨some 5,.new 25 [.nilsl],none,[]⟩,⟨some 6,.new 25
  [.nilsl],none,[]⟩,⟨none,.store 1 (.t 5) (.t 15),none,[7,4,2,0,1,2,3,4,7,8]⟩,⟨none,.store 1 (.t 6) (.t 16),none,[8,5,9,0,1,2,3,4,5,7,8,9]⟩,⟨some 7,.mv (.t 17),none,[6,10,0,1,2,3,4,5,6,7,8,9,10]⟩]) (.reg true [⟨some
  18,.load true 1 (.t 3),none,[]⟩,⟨some 19,.load true 1 (.t 6),none,[]⟩,⟨none,.store 1 (.t 2) (.t 18),none,[0,0]⟩,⟨none,.store 1 (.t 3) (.t 19),none,[1,2,0,1,2]⟩])))))) (.seq (.reg false [⟨some 20,.fa 0 (.t
  2),none,[]⟩,⟨some 21,.load false 1 (.t 20),none,[0]⟩,⟨some 22,.call 34 [(.t 21)],none,[1]⟩,⟨none,.store 1 (.t 4) (.t 22),none,[2,2,0,1,2]⟩]) .ret)))
theorem r_nat_Gcd : fnOf Tryd.prog n_nat_Gcd = some (c_nat_Gcd, [.cell 4 true 1], 23, false) := by kernel_rfl

/-- tallymark/nat.DivMod -/
abbrev n_nat_DivMod : FuncId := 37
def c_nat_DivMod : C := (.seq (.reg false [⟨some 2,.box 25 (.t 0),none,[]⟩,⟨some 3,.box 25 (.t 1),none,[]⟩,⟨some 4,.new 25 [.nilsl],none,[]⟩,⟨some 5,.new 25 [.nilsl],none,[]⟩,⟨some 6,.mv (.d (.int .i64 0)),none,[]⟩]) (.seq (.block 0 (.seq
  (.reg false [⟨some 10,.load true 1 (.t 3),none,[]⟩,⟨some 11,.call 33 [(.t 10)],none,[0]⟩,⟨some 9,.mv (.t 11),none,[1,1]⟩]) (.cond (.t 9) (.seq (.reg false [⟨some 12,.build [.nilsl] [],none,[]⟩,⟨some 13,.build [.nilsl]
  [],none,[]⟩,⟨none,.store 1 (.t 4) (.t 12),none,[0,0]⟩,⟨none,.store 1 (.t 5) (.t 13),none,[1,2,0,1,2]⟩,⟨some 6,.mv (.d (.int .i64 7)),none,[3,0,1,2,3]⟩]) .ret) (.seq (.reg false [⟨some 15,.load true 1 (.t
  2),none,[]⟩,⟨some 16,.load true 1 (.t 3),none,[]⟩,⟨some 17,.call 35 [(.t 15),(.t 16)],none,[0,1]⟩,⟨some 18,.bin .lss (.t 17) (.d (.int .i64 0)),none,[2]⟩,⟨some 14,.mv (.t 18),none,[3,2]⟩]) (.cond (.t 14) (.seq (.reg
  false [⟨some 19,.build [.nilsl] [],none,[]⟩,⟨some 20,.fa 0 (.t 2),none,[]⟩,⟨some 21,.load false 1 (.t 20),none,[1]⟩,⟨some 22,.call 34 [(.t 21)],none,[2]⟩,⟨none,.store 1 (.t 4) (.t 19),none,[0,3,0]⟩,⟨none,.store 1 (.t 5)
  (.t 22),none,[3,4,0,1,2,3,4]⟩,⟨some 6,.mv (.d (.int .i64 0)),none,[5,0,1,2,3,4,5]⟩]) .ret) (.seq (.reg false [⟨some 24,.fa 0 (.t 3),none,[]⟩,⟨some 25,.load false 1 (.t 24),none,[0]⟩,⟨some 26,.len (.t 25),none,[1]⟩,⟨some
  27,.bin .eql (.t 26) (.d (.int .i64 1)),none,[2]⟩,⟨some 23,.mv (.t 27),none,[3]⟩]) (.cond (.t 23) (.seq (.reg true [⟨some 29,.fa 0 (.t 2),none,[]⟩,⟨some 30,.load false 1 (.t 29),none,[0]⟩,⟨some 31,.fa 0 (.t
  3),none,[]⟩,⟨some 32,.load false 1 (.t 31),none,[2]⟩,⟨some 33,.ix 1 (.t 32) (.d (.int .i64 0)),none,[3]⟩,⟨some 34,.load false 1 (.t 33),none,[4]⟩,⟨some 35,.call 44 [(.t 30),(.t 34)],none,[1,5]⟩,⟨some 28,.mv (.t
  35),none,[6]⟩,⟨some 36,.ext (.t 28) 0,none,[7]⟩,⟨some 37,.ext (.t 28) 1,none,[7]⟩,⟨some 7,.mv (.t 36),none,[8,6,0,1,2,3,4,5,6,7,8]⟩,⟨some 8,.mv (.t 37),none,[9,10,0,1,2,3,4,5,6,7,8,9,10]⟩]) (.seq (.reg false [⟨some
  38,.mv (.t 7),none,[]⟩,⟨some 39,.call 41 [(.t 38)],none,[0]⟩,⟨some 40,.mv (.t 8),none,[]⟩,⟨some 41,.bsl 55 1 1 [(.int .u64 0)] [(0,1,(.t 40))],none,[2]⟩,⟨some 42,.call 34 [(.t 41)],none,[3,1]⟩,⟨none,.store 1 (.t 4) (.t
  39),none,[1,4,0,1]⟩,⟨none,.store 1 (.t 5) (.t 42),none,[4,5,0,1,2,3,4,5]⟩,⟨some 6,.mv (.d (.int .i64 0)),none,[6,0,1,2,3,4,5,6]⟩]) .ret)) .skip))))))) (.seq (.reg false [⟨some 43,.load true 1 (.t 2),none,[]⟩,⟨some
  44,.load true 1 (.t 3),none,[]⟩,⟨some 45,.call 49 [(.t 43),(.t 44)],none,[0,1]⟩,⟨some 46,.ext (.t 45) 0,none,[2]⟩,⟨some 47,.ext (.t 45) 1,none,[2]⟩,⟨some 48,.ext (.t 45) 2,none,[2]⟩,⟨none,.store 1 (.t 4) (.t
  46),none,[3,2,0,1,2,3,4,5]⟩,⟨none,.store 1 (.t 5) (.t 47),none,[4,6,0,1,2,3,4,5,6]⟩,⟨some 6,.mv (.t 48),none,[5,7,0,1,2,3,4,5,6,7]⟩]) .ret)))
theorem r_nat_DivMod : fnOf Tryd.prog n_nat_DivMod = some (c_nat_DivMod, [.cell 4 true 1, .cell 5 true 1, .t 6], 49, false) := by kernel_rfl

/-- tallymark/nat.Sub -/
abbrev n_nat_Sub : FuncId := 38
def c_nat_Sub : C := (.seq (.reg false [⟨some 2,.box 25 (.t 0),none,[]⟩,⟨some 3,.box 25 (.t 1),none,[]⟩,⟨some 4,.new 25 [.nilsl],none,[]⟩,⟨some 5,.mv (.d (.int .i64 0)),none,[]⟩]) (.seq (.seq (.reg false [⟨some 11,.load true 1 (.t
  2),none,[]⟩,⟨some 12,.load true 1 (.t 3),none,[]⟩,⟨some 13,.call 35 [(.t 11),(.t 12)],none,[0,1]⟩,⟨some 14,.bin .lss (.t 13) (.d (.int .i64 0)),none,[2]⟩]) (.cond (.t 14) (.seq (.reg false [⟨some 15,.build [.nilsl]
  [],none,[]⟩,⟨none,.store 1 (.t 4) (.t 15),none,[0,0]⟩,⟨some 5,.mv (.d (.int .i64 2)),none,[1,0,1]⟩]) .ret) .skip)) (.seq (.reg false [⟨some 16,.fa 0 (.t 2),none,[]⟩,⟨some 17,.load false 1 (.t 16),none,[0]⟩,⟨some 18,.len
  (.t 17),none,[1]⟩,⟨some 19,.mksl 55 1 8 [(.int .u64 0)] (.t 18) (.t 18),none,[2,2]⟩,⟨some 6,.mv (.t 19),none,[3,0,1,2,3]⟩]) (.seq (.reg false [⟨some 7,.mv (.d (.int .u64 0)),none,[]⟩]) (.seq (.seq (.reg false [⟨some
  20,.fa 0 (.t 2),none,[]⟩,⟨some 21,.load false 1 (.t 20),none,[0]⟩,⟨some 22,.len (.t 21),none,[1]⟩,⟨some 23,.mv (.d (.int .i64 0)),none,[]⟩]) (.block 0 (.loop (.seq (.reg false [⟨some 24,.bin .lss (.t 23) (.t
  22),none,[]⟩]) (.seq (.cond (.t 24) .skip (.exit 0)) (.seq (.block 1 (.seq (.reg false [⟨some 25,.mv (.t 23),none,[]⟩,⟨some 26,.ix 1 (.t 21) (.t 23),none,[]⟩,⟨some 27,.load false 1 (.t 26),none,[1]⟩,⟨some 8,.mv (.t
  25),none,[0,0,1,2]⟩,⟨some 9,.mv (.t 27),none,[2,3,0,1,2,3]⟩]) (.seq (.reg false [⟨some 10,.mv (.d (.int .u64 0)),none,[]⟩]) (.seq (.seq (.reg false [⟨some 28,.mv (.t 8),none,[]⟩,⟨some 29,.fa 0 (.t 3),none,[]⟩,⟨some
  30,.load false 1 (.t 29),none,[1]⟩,⟨some 31,.len (.t 30),none,[2]⟩,⟨some 32,.bin .lss (.t 28) (.t 31),none,[0,3]⟩]) (.cond (.t 32) (.reg false [⟨some 33,.fa 0 (.t 3),none,[]⟩,⟨some 34,.load false 1 (.t
  33),none,[0]⟩,⟨some 35,.mv (.t 8),none,[]⟩,⟨some 36,.ix 1 (.t 34) (.t 35),none,[1,2]⟩,⟨some 37,.load false 1 (.t 36),none,[3]⟩,⟨some 10,.mv (.t 37),none,[4,0,1,2,3,4]⟩]) .skip)) (.reg false [⟨some 39,.mv (.t
  6),none,[]⟩,⟨some 40,.mv (.t 8),none,[]⟩,⟨some 41,.mv (.t 9),none,[]⟩,⟨some 42,.mv (.t 10),none,[]⟩,⟨some 43,.mv (.t 7),none,[]⟩,⟨some 44,.call 50 [(.t 41),(.t 42),(.t 43)],none,[2,3,4]⟩,⟨some 38,.mv (.t
  44),none,[5]⟩,⟨some 45,.ext (.t 38) 0,none,[6]⟩,⟨some 46,.ext (.t 38) 1,none,[6]⟩,⟨some 47,.ix 1 (.t 39) (.t 40),none,[0,1,0,1,2,3,4,5,6,7]⟩,⟨none,.store 1 (.t 47) (.t 45),none,[9,7,5,0,1,2,3,4,5,6,7]⟩,⟨some 7,.mv (.t
  46),none,[8,10,0,1,2,3,4,5,6,7,8,9,10]⟩]))))) (.reg false [⟨some 48,.bin .add (.t 23) (.d (.int .i64 1)),none,[]⟩,⟨some 23,.mv (.t 48),none,[0]⟩]))))))) (.seq (.reg false [⟨some 49,.mv (.t 6),none,[]⟩,⟨some 50,.call 41
  [(.t 49)],none,[0]⟩,⟨none,.store 1 (.t 4) (.t 50),none,[1,1,0,1]⟩,⟨some 5,.mv (.d (.int .i64 0)),none,[2,0,1,2]⟩]) .ret))))))
theorem r_nat_Sub : fnOf Tryd.prog n_nat_Sub = some (c_nat_Sub, [.cell 4 true 1, .t 5], 51, false) := by kernel_rfl

/-- math/bits.Mul64 -/
abbrev n_math_bits_Mul64 : FuncId := 39
def c_math_bits_Mul64 : C := (.seq (.reg false [⟨some 4,.mv (.d (.int .u64 0)),none,[]⟩,⟨some 5,.mv (.d (.int .u64 0)),none,[0]⟩]) (.seq (.reg false [⟨some 14,.mv (.t 0),none,[]⟩,⟨some 15,.bin .and (.t 14) (.d (.int .u64
  4294967295)),none,[0]⟩,⟨some 6,.mv (.t 15),none,[1,0,1]⟩]) (.seq (.reg false [⟨some 16,.mv (.t 0),none,[]⟩,⟨some 17,.bin .shr (.t 16) (.d (.int .u64 32)),none,[0]⟩,⟨some 7,.mv (.t 17),none,[1,0,1]⟩]) (.seq (.reg false
  [⟨some 18,.mv (.t 1),none,[]⟩,⟨some 19,.bin .and (.t 18) (.d (.int .u64 4294967295)),none,[0]⟩,⟨some 8,.mv (.t 19),none,[1,0,1]⟩]) (.seq (.reg false [⟨some 20,.mv (.t 1),none,[]⟩,⟨some 21,.bin .shr (.t 20) (.d (.int
  .u64 32)),none,[0]⟩,⟨some 9,.mv (.t 21),none,[1,0,1]⟩]) (.seq (.reg false [⟨some 22,.mv (.t 6),none,[]⟩,⟨some 23,.mv (.t 8),none,[]⟩,⟨some 24,.bin .mul (.t 22) (.t 23),none,[0,1]⟩,⟨some 10,.mv (.t 24),none,[2,0,1,2]⟩])
  (.seq (.reg false [⟨some 25,.mv (.t 7),none,[]⟩,⟨some 26,.mv (.t 8),none,[]⟩,⟨some 27,.bin .mul (.t 25) (.t 26),none,[0,1]⟩,⟨some 28,.mv (.t 10),none,[]⟩,⟨some 29,.bin .shr (.t 28) (.d (.int .u64 32)),none,[3]⟩,⟨some
  30,.bin .add (.t 27) (.t 29),none,[2,4]⟩,⟨some 11,.mv (.t 30),none,[5,0,1,2,3,4,5]⟩]) (.seq (.reg false [⟨some 31,.mv (.t 11),none,[]⟩,⟨some 32,.bin .and (.t 31) (.d (.int .u64 4294967295)),none,[0]⟩,⟨some 12,.mv (.t
  32),none,[1,0,1]⟩]) (.seq (.reg false [⟨some 33,.mv (.t 11),none,[]⟩,⟨some 34,.bin .shr (.t 33) (.d (.int .u64 32)),none,[0]⟩,⟨some 13,.mv (.t 34),none,[1,0,1]⟩]) (.seq (.reg false [⟨some 35,.mv (.t 12),none,[]⟩,⟨some
  36,.mv (.t 6),none,[]⟩,⟨some 37,.mv (.t 9),none,[]⟩,⟨some 38,.bin .mul (.t 36) (.t 37),none,[1,2]⟩,⟨some 39,.bin .add (.t 35) (.t 38),none,[0,3]⟩,⟨some 12,.mv (.t 39),none,[4,0,1,2,3,4]⟩]) (.seq (.reg false [⟨some
  40,.mv (.t 7),none,[]⟩,⟨some 41,.mv (.t 9),none,[]⟩,⟨some 42,.bin .mul (.t 40) (.t 41),none,[0,1]⟩,⟨some 43,.mv (.t 13),none,[]⟩,⟨some 44,.bin .add (.t 42) (.t 43),none,[2,3]⟩,⟨some 45,.mv (.t 12),none,[]⟩,⟨some 46,.bin
  .shr (.t 45) (.d (.int .u64 32)),none,[5]⟩,⟨some 47,.bin .add (.t 44) (.t 46),none,[4,6]⟩,⟨some 4,.mv (.t 47),none,[7,0,1,2,3,4,5,6,7]⟩]) (.seq (.reg false [⟨some 48,.mv (.t 0),none,[]⟩,⟨some 49,.mv (.t
  1),none,[]⟩,⟨some 50,.bin .mul (.t 48) (.t 49),none,[0,1]⟩,⟨some 5,.mv (.t 50),none,[2,0,1,2]⟩]) .ret))))))))))))
theorem r_math_bits_Mul64 : fnOf Tryd.prog n_math_bits_Mul64 = some (c_math_bits_Mul64, [.t 4, .t 5], 51, false) := by kernel_rfl

/-- math/bits.Add64 -/
abbrev n_math_bits_Add64 : FuncId := 40
theorem x_math_bits_Add64 : Tryd.prog.funcs[n_math_bits_Add64]? = some Tryd.f40 := Tryd.func40
/-- tallymark/nat.trimmed -/
abbrev n_nat_trimmed : FuncId := 41
def c_nat_trimmed : C := (.seq (.reg false [⟨some 2,.new 25 [.nilsl],none,[]⟩]) (.seq (.reg false [⟨some 4,.mv (.t 0),none,[]⟩,⟨some 5,.len (.t 4),none,[0]⟩,⟨some 3,.mv (.t 5),none,[1,0,1]⟩]) (.seq (.block 0 (.loop (.seq (.seq (.reg false
  [⟨some 6,.mv (.t 3),none,[]⟩,⟨some 7,.bin .gtr (.t 6) (.d (.int .i64 0)),none,[0]⟩,⟨some 8,.mv (.t 7),none,[1]⟩,⟨some 9,.mv (.t 0),some (8,true),[2]⟩,⟨some 10,.mv (.t 3),some (8,true),[2]⟩,⟨some 11,.bin .sub (.t 10) (.d
  (.int .i64 1)),some (8,true),[4,2]⟩,⟨some 12,.ix 1 (.t 9) (.t 11),some (8,true),[3,5,2]⟩,⟨some 13,.load false 1 (.t 12),some (8,true),[6,2]⟩,⟨some 14,.bin .eql (.t 13) (.d (.int .u64 0)),some (8,true),[7,2]⟩,⟨some
  15,.pick (.t 8) (.t 14) (.d (.bool false)),none,[2,8]⟩]) (.cond (.t 15) .skip (.exit 0))) (.block 1 (.reg false [⟨some 16,.mv (.t 3),none,[]⟩,⟨some 17,.bin .sub (.t 16) (.d (.int .i64 1)),none,[0]⟩,⟨some 3,.mv (.t
  17),none,[1,0,1]⟩]))))) (.seq (.reg false [⟨some 18,.mv (.t 0),none,[]⟩,⟨some 19,.mv (.t 3),none,[]⟩,⟨some 20,.slice 1 (.t 18) none (some (.t 19)) none,none,[0,1]⟩,⟨some 21,.build [.nilsl] [(0,1,(.t
  20))],none,[2]⟩,⟨none,.store 1 (.t 2) (.t 21),none,[3,0,1,2,3]⟩]) .ret))))
theorem r_nat_trimmed : fnOf Tryd.prog n_nat_trimmed = some (c_nat_trimmed, [.cell 2 true 1], 22, false) := by kernel_rfl

/-- tallymark/nat.Add -/
abbrev n_nat_Add : FuncId := 42
def c_nat_Add : C := (.seq (.reg false [⟨some 2,.box 25 (.t 0),none,[]⟩,⟨some 3,.box 25 (.t 1),none,[]⟩,⟨some 4,.new 25 [.nilsl],none,[]⟩]) (.seq (.seq (.reg false [⟨some 10,.fa 0 (.t 2),none,[]⟩,⟨some 11,.load false 1 (.t
  10),none,[0]⟩,⟨some 12,.len (.t 11),none,[1]⟩,⟨some 13,.fa 0 (.t 3),none,[]⟩,⟨some 14,.load false 1 (.t 13),none,[3]⟩,⟨some 15,.len (.t 14),none,[4]⟩,⟨some 16,.bin .lss (.t 12) (.t 15),none,[2,5]⟩]) (.cond (.t 16) (.reg
  false [⟨some 17,.load true 1 (.t 3),none,[]⟩,⟨some 18,.load true 1 (.t 2),none,[]⟩,⟨none,.store 1 (.t 2) (.t 17),none,[0,0,1]⟩,⟨none,.store 1 (.t 3) (.t 18),none,[1,2,0,1,2]⟩]) .skip)) (.seq (.reg false [⟨some 19,.fa 0
  (.t 2),none,[]⟩,⟨some 20,.load false 1 (.t 19),none,[0]⟩,⟨some 21,.len (.t 20),none,[1]⟩,⟨some 22,.bin .add (.t 21) (.d (.int .i64 1)),none,[2]⟩,⟨some 23,.mksl 55 1 8 [(.int .u64 0)] (.t 22) (.t 22),none,[3,3]⟩,⟨some
  5,.mv (.t 23),none,[4,0,1,2,3,4]⟩]) (.seq (.reg false [⟨some 6,.mv (.d (.int .u64 0)),none,[]⟩]) (.seq (.seq (.reg false [⟨some 24,.fa 0 (.t 2),none,[]⟩,⟨some 25,.load false 1 (.t 24),none,[0]⟩,⟨some 26,.len (.t
  25),none,[1]⟩,⟨some 27,.mv (.d (.int .i64 0)),none,[]⟩]) (.block 0 (.loop (.seq (.reg false [⟨some 28,.bin .lss (.t 27) (.t 26),none,[]⟩]) (.seq (.cond (.t 28) .skip (.exit 0)) (.seq (.block 1 (.seq (.reg false [⟨some
  29,.mv (.t 27),none,[]⟩,⟨some 30,.ix 1 (.t 25) (.t 27),none,[]⟩,⟨some 31,.load false 1 (.t 30),none,[1]⟩,⟨some 7,.mv (.t 29),none,[0,0,1,2]⟩,⟨some 8,.mv (.t 31),none,[2,3,0,1,2,3]⟩]) (.seq (.reg false [⟨some 9,.mv (.d
  (.int .u64 0)),none,[]⟩]) (.seq (.seq (.reg false [⟨some 32,.mv (.t 7),none,[]⟩,⟨some 33,.fa 0 (.t 3),none,[]⟩,⟨some 34,.load false 1 (.t 33),none,[1]⟩,⟨some 35,.len (.t 34),none,[2]⟩,⟨some 36,.bin .lss (.t 32) (.t
  35),none,[0,3]⟩]) (.cond (.t 36) (.reg false [⟨some 37,.fa 0 (.t 3),none,[]⟩,⟨some 38,.load false 1 (.t 37),none,[0]⟩,⟨some 39,.mv (.t 7),none,[]⟩,⟨some 40,.ix 1 (.t 38) (.t 39),none,[1,2]⟩,⟨some 41,.load false 1 (.t
  40),none,[3]⟩,⟨some 9,.mv (.t 41),none,[4,0,1,2,3,4]⟩]) .skip)) (.reg false [⟨some 43,.mv (.t 5),none,[]⟩,⟨some 44,.mv (.t 7),none,[]⟩,⟨some 45,.mv (.t 8),none,[]⟩,⟨some 46,.mv (.t 9),none,[]⟩,⟨some 47,.mv (.t
  6),none,[]⟩,⟨some 48,.call 40 [(.t 45),(.t 46),(.t 47)],none,[2,3,4]⟩,⟨some 42,.mv (.t 48),none,[5]⟩,⟨some 49,.ext (.t 42) 0,none,[6]⟩,⟨some 50,.ext (.t 42) 1,none,[6]⟩,⟨some 51,.ix 1 (.t 43) (.t
  44),none,[0,1,0,1,2,3,4,5,6,7]⟩,⟨none,.store 1 (.t 51) (.t 49),none,[9,7,5,0,1,2,3,4,5,6,7]⟩,⟨some 6,.mv (.t 50),none,[8,10,0,1,2,3,4,5,6,7,8,9,10]⟩]))))) (.reg false [⟨some 52,.bin .add (.t 27) (.d (.int .i64
  1)),none,[]⟩,⟨some 27,.mv (.t 52),none,[0]⟩]))))))) (.seq (.reg false [⟨some 53,.mv (.t 5),none,[]⟩,⟨some 54,.fa 0 (.t 2),none,[]⟩,⟨some 55,.load false 1 (.t 54),none,[1]⟩,⟨some 56,.len (.t 55),none,[2]⟩,⟨some 57,.mv
  (.t 6),none,[]⟩,⟨some 58,.ix 1 (.t 53) (.t 56),none,[0,3,0,1,2,3,4]⟩,⟨none,.store 1 (.t 58) (.t 57),none,[5,4,0,1,2,3,4]⟩]) (.seq (.reg false [⟨some 59,.mv (.t 5),none,[]⟩,⟨some 60,.call 41 [(.t
  59)],none,[0]⟩,⟨none,.store 1 (.t 4) (.t 60),none,[1,1,0,1]⟩]) .ret)))))))
theorem r_nat_Add : fnOf Tryd.prog n_nat_Add = some (c_nat_Add, [.cell 4 true 1], 61, false) := by kernel_rfl

/-- tallymark/whole.Add -/
abbrev n_whole_Add : FuncId := 43
def c_whole_Add : C := (.seq (.reg false [⟨some 2,.box 27 (.t 0),none,[]⟩,⟨some 3,.box 27 (.t 1),none,[]⟩,⟨some 4,.new 27 [.nilsl,(.bool false)],none,[]⟩]) (.seq (.seq (.reg false [⟨some 9,.fa 1 (.t 2),none,[]⟩,⟨some 10,.load false 1 (.t
  9),none,[0]⟩,⟨some 11,.fa 1 (.t 3),none,[]⟩,⟨some 12,.load false 1 (.t 11),none,[2]⟩,⟨some 13,.beq false (.t 10) (.t 12),none,[1,3]⟩]) (.cond (.t 13) (.seq (.reg true [⟨some 14,.fa 1 (.t 2),none,[]⟩,⟨some 15,.load false
  1 (.t 14),none,[0]⟩,⟨some 16,.fa 0 (.t 2),none,[]⟩,⟨some 17,.load true 1 (.t 16),none,[2]⟩,⟨some 18,.fa 0 (.t 3),none,[]⟩,⟨some 19,.load true 1 (.t 18),none,[4]⟩,⟨some 20,.call 42 [(.t 17),(.t 19)],none,[3,5]⟩,⟨some
  21,.call 31 [(.t 15),(.t 20)],none,[1,6,6]⟩,⟨none,.store 2 (.t 4) (.t 21),none,[7,7,0,1,2,3,4,5,6,7]⟩]) .ret) .skip)) (.seq (.seq (.reg false [⟨some 23,.fa 0 (.t 2),none,[]⟩,⟨some 24,.load true 1 (.t 23),none,[0]⟩,⟨some
  25,.fa 0 (.t 3),none,[]⟩,⟨some 26,.load true 1 (.t 25),none,[2]⟩,⟨some 27,.call 38 [(.t 24),(.t 26)],none,[1,3]⟩,⟨some 22,.mv (.t 27),none,[4]⟩,⟨some 28,.ext (.t 22) 0,none,[5]⟩,⟨some 29,.ext (.t 22) 1,none,[5]⟩,⟨some
  5,.new 25 [.nilsl],none,[]⟩,⟨none,.store 1 (.t 5) (.t 28),none,[8,6,4,0,1,2,3,4,5,6,8]⟩,⟨some 6,.mv (.t 29),none,[7,9,0,1,2,3,4,5,6,7,8,9]⟩]) (.seq (.reg false [⟨some 30,.mv (.t 6),none,[]⟩,⟨some 31,.bin .eql (.t 30)
  (.d (.int .i64 0)),none,[0]⟩]) (.cond (.t 31) (.seq (.reg false [⟨some 32,.fa 1 (.t 2),none,[]⟩,⟨some 33,.load false 1 (.t 32),none,[0]⟩,⟨some 34,.load true 1 (.t 5),none,[]⟩,⟨some 35,.call 31 [(.t 33),(.t
  34)],none,[1,2]⟩,⟨none,.store 2 (.t 4) (.t 35),none,[3,3,0,1,2,3]⟩]) .ret) .skip))) (.seq (.reg false [⟨some 37,.fa 0 (.t 3),none,[]⟩,⟨some 38,.load true 1 (.t 37),none,[0]⟩,⟨some 39,.fa 0 (.t 2),none,[]⟩,⟨some 40,.load
  true 1 (.t 39),none,[2]⟩,⟨some 41,.call 38 [(.t 38),(.t 40)],none,[1,3]⟩,⟨some 36,.mv (.t 41),none,[4]⟩,⟨some 42,.ext (.t 36) 0,none,[5]⟩,⟨some 43,.ext (.t 36) 1,none,[5]⟩,⟨some 7,.new 25 [.nilsl],none,[]⟩,⟨none,.store
  1 (.t 7) (.t 42),none,[8,6,4,0,1,2,3,4,5,6,8]⟩,⟨some 8,.mv (.t 43),none,[7,9,0,1,2,3,4,5,6,7,8,9]⟩]) (.seq (.reg false [⟨some 44,.fa 1 (.t 3),none,[]⟩,⟨some 45,.load false 1 (.t 44),none,[0]⟩,⟨some 46,.load true 1 (.t
  7),none,[]⟩,⟨some 47,.call 31 [(.t 45),(.t 46)],none,[1,2]⟩,⟨none,.store 2 (.t 4) (.t 47),none,[3,3,0,1,2,3]⟩]) .ret)))))
theorem r_whole_Add : fnOf Tryd.prog n_whole_Add = some (c_whole_Add, [.cell 4 true 2], 48, false) := by kernel_rfl

/-- tallymark/nat.split -/
abbrev n_nat_split : FuncId := 44
def c_nat_split : C := (.seq (.reg false [⟨some 4,.mv (.d .nilsl),none,[]⟩,⟨some 5,.mv (.d (.int .u64 0)),none,[0]⟩]) (.seq (.reg false [⟨some 9,.mv (.t 0),none,[]⟩,⟨some 10,.len (.t 9),none,[0]⟩,⟨some 11,.mksl 55 1 8 [(.int .u64 0)] (.t 10)
  (.t 10),none,[1,1]⟩,⟨some 6,.mv (.t 11),none,[2,0,1,2]⟩]) (.seq (.reg false [⟨some 7,.mv (.d (.int .u64 0)),none,[]⟩]) (.seq (.seq (.reg false [⟨some 12,.mv (.t 0),none,[]⟩,⟨some 13,.len (.t 12),none,[0]⟩,⟨some 14,.bin
  .sub (.t 13) (.d (.int .i64 1)),none,[1]⟩,⟨some 8,.mv (.t 14),none,[2,0,1,2]⟩]) (.block 0 (.loop (.seq (.seq (.reg false [⟨some 15,.mv (.t 8),none,[]⟩,⟨some 16,.bin .geq (.t 15) (.d (.int .i64 0)),none,[0]⟩]) (.cond (.t
  16) .skip (.exit 0))) (.seq (.block 1 (.reg false [⟨some 20,.mv (.t 6),none,[]⟩,⟨some 21,.mv (.t 8),none,[]⟩,⟨some 22,.mv (.t 7),none,[]⟩,⟨some 23,.mv (.t 0),none,[]⟩,⟨some 24,.mv (.t 8),none,[]⟩,⟨some 25,.ix 1 (.t 23)
  (.t 24),none,[3,4]⟩,⟨some 26,.load false 1 (.t 25),none,[5]⟩,⟨some 27,.mv (.t 1),none,[]⟩,⟨some 28,.call 51 [(.t 22),(.t 26),(.t 27)],none,[2,6,7]⟩,⟨some 19,.mv (.t 28),none,[8]⟩,⟨some 29,.ext (.t 19) 0,none,[9]⟩,⟨some
  30,.ext (.t 19) 1,none,[9]⟩,⟨some 31,.ix 1 (.t 20) (.t 21),none,[0,1,0,1,2,3,4,5,6,7,8,9,10]⟩,⟨none,.store 1 (.t 31) (.t 29),none,[12,10,8,0,1,2,3,4,5,6,7,8,9,10]⟩,⟨some 7,.mv (.t
  30),none,[11,13,0,1,2,3,4,5,6,7,8,9,10,11,12,13]⟩])) (.reg false [⟨some 17,.mv (.t 8),none,[]⟩,⟨some 18,.bin .sub (.t 17) (.d (.int .i64 1)),none,[0]⟩,⟨some 8,.mv (.t 18),none,[1,0,1]⟩])))))) (.seq (.reg false [⟨some
  32,.mv (.t 6),none,[]⟩,⟨some 33,.mv (.t 7),none,[]⟩,⟨some 4,.mv (.t 32),none,[0,0]⟩,⟨some 5,.mv (.t 33),none,[1,2,0,1,2]⟩]) .ret)))))
theorem r_nat_split : fnOf Tryd.prog n_nat_split = some (c_nat_split, [.t 4, .t 5], 34, false) := by kernel_rfl

/-- strconv.FormatUint -/
abbrev n_strconv_FormatUint : FuncId := 45
def c_strconv_FormatUint : C := (.seq (.reg false [⟨some 4,.mv (.d (.str ⟨#[]⟩)),none,[]⟩]) (.seq (.reg false [⟨some 5,.mv (.t 0),none,[]⟩,⟨some 6,.mv (.t 1),none,[]⟩,⟨some 7,.call 52 [(.t 5),(.t 6)],none,[0,1]⟩,⟨some 4,.mv (.t 7),none,[2,2,0,1,2]⟩])
  .ret))
theorem r_strconv_FormatUint : fnOf Tryd.prog n_strconv_FormatUint = some (c_strconv_FormatUint, [.t 4], 8, false) := by kernel_rfl

/-- (tallymark/nat.Nat).Bits -/
abbrev n_nat_Nat_Bits : FuncId := 47
def c_nat_Nat_Bits : C := (.seq (.reg false [⟨some 1,.box 25 (.t 0),none,[]⟩,⟨some 2,.mv (.d (.int .i64 0)),none,[]⟩]) (.seq (.reg false [⟨some 4,.fa 0 (.t 1),none,[]⟩,⟨some 5,.load false 1 (.t 4),none,[0]⟩,⟨some 6,.len (.t 5),none,[1]⟩,⟨some
  3,.mv (.t 6),none,[2,0,1,2]⟩]) (.seq (.seq (.reg false [⟨some 7,.mv (.t 3),none,[]⟩,⟨some 8,.bin .eql (.t 7) (.d (.int .i64 0)),none,[0]⟩]) (.cond (.t 8) (.seq (.reg false [⟨some 2,.mv (.d (.int .i64 0)),none,[]⟩])
  .ret) .skip)) (.seq (.reg false [⟨some 9,.mv (.t 3),none,[]⟩,⟨some 10,.bin .sub (.t 9) (.d (.int .i64 1)),none,[0]⟩,⟨some 11,.bin .mul (.d (.int .i64 64)) (.t 10),none,[1]⟩,⟨some 12,.fa 0 (.t 1),none,[]⟩,⟨some 13,.load
  false 1 (.t 12),none,[3]⟩,⟨some 14,.mv (.t 3),none,[]⟩,⟨some 15,.bin .sub (.t 14) (.d (.int .i64 1)),none,[5]⟩,⟨some 16,.ix 1 (.t 13) (.t 15),none,[4,6]⟩,⟨some 17,.load false 1 (.t 16),none,[7]⟩,⟨some 18,.call 59 [(.t
  17)],none,[8]⟩,⟨some 19,.bin .add (.t 11) (.t 18),none,[2,9]⟩,⟨some 2,.mv (.t 19),none,[10,9,0,1,2,3,4,5,6,7,8,9,10]⟩]) .ret))))
theorem r_nat_Nat_Bits : fnOf Tryd.prog n_nat_Nat_Bits = some (c_nat_Nat_Bits, [.t 2], 20, false) := by kernel_rfl

/-- slices.Clone[[]uint64,uint64] -/
abbrev n_slices_Clone_uint64_uint64 : FuncId := 48
def c_slices_Clone_uint64_uint64 : C := (.seq (.reg false [⟨some 2,.mv (.d .nilsl),none,[]⟩]) (.seq (.seq (.reg false [⟨some 3,.mv (.t 0),none,[]⟩,⟨some 4,.snl false (.t 3),none,[0]⟩]) (.cond (.t 4) (.seq (.reg false [⟨some 2,.mv (.d .nilsl),none,[]⟩]) .ret)
  .skip)) (.seq (.reg false [⟨some 5,.bsl0,none,[]⟩,⟨some 6,.mv (.t 0),none,[]⟩,⟨some 7,.app 55 1 8 (.t 5) (.t 6),none,[0,1]⟩,⟨some 2,.mv (.t 7),none,[2,2,0,1,2]⟩]) .ret)))
theorem r_slices_Clone_uint64_uint64 : fnOf Tryd.prog n_slices_Clone_uint64_uint64 = some (c_slices_Clone_uint64_uint64, [.t 2], 8, false) := by kernel_rfl

/-- tallymark/nat.long -/
abbrev n_nat_long : FuncId := 49
def c_nat_long : C := (.seq (.reg false [⟨some 2,.box 25 (.t 0),none,[]⟩,⟨some 3,.box 25 (.t 1),none,[]⟩,⟨some 4,.new 25 [.nilsl],none,[]⟩,⟨some 5,.new 25 [.nilsl],none,[]⟩,⟨some 6,.mv (.d (.int .i64 0)),none,[]⟩]) (.seq (.reg false [⟨some
  13,.fa 0 (.t 3),none,[]⟩,⟨some 14,.load false 1 (.t 13),none,[0]⟩,⟨some 15,.len (.t 14),none,[1]⟩,⟨some 7,.mv (.t 15),none,[2,0,1,2]⟩]) (.seq (.reg false [⟨some 16,.fa 0 (.t 3),none,[]⟩,⟨some 17,.load false 1 (.t
  16),none,[0]⟩,⟨some 18,.mv (.t 7),none,[]⟩,⟨some 19,.bin .sub (.t 18) (.d (.int .i64 1)),none,[2]⟩,⟨some 20,.ix 1 (.t 17) (.t 19),none,[1,3]⟩,⟨some 21,.load false 1 (.t 20),none,[4]⟩,⟨some 22,.call 60 [(.t
  21)],none,[5]⟩,⟨some 8,.mv (.t 22),none,[6,6,0,1,2,3,4,5,6]⟩]) (.seq (.reg false [⟨some 23,.fa 0 (.t 3),none,[]⟩,⟨some 24,.load false 1 (.t 23),none,[0]⟩,⟨some 25,.mv (.t 8),none,[]⟩,⟨some 26,.call 61 [(.t 24),(.t
  25)],none,[1,2]⟩,⟨some 27,.mv (.t 7),none,[]⟩,⟨some 28,.slice 1 (.t 26) none (some (.t 27)) none,none,[3,4]⟩,⟨some 9,.mv (.t 28),none,[5,3,0,1,2,3,4,5]⟩]) (.seq (.reg false [⟨some 29,.fa 0 (.t 2),none,[]⟩,⟨some 30,.load
  false 1 (.t 29),none,[0]⟩,⟨some 31,.mv (.t 8),none,[]⟩,⟨some 32,.call 61 [(.t 30),(.t 31)],none,[1,2]⟩,⟨some 10,.mv (.t 32),none,[3,3,0,1,2,3]⟩]) (.seq (.reg false [⟨some 33,.mv (.t 10),none,[]⟩,⟨some 34,.len (.t
  33),none,[0]⟩,⟨some 35,.mv (.t 7),none,[]⟩,⟨some 36,.bin .sub (.t 34) (.t 35),none,[1,2]⟩,⟨some 37,.mksl 55 1 8 [(.int .u64 0)] (.t 36) (.t 36),none,[3,3]⟩,⟨some 11,.mv (.t 37),none,[4,0,1,2,3,4]⟩]) (.seq (.seq (.reg
  false [⟨some 38,.mv (.t 11),none,[]⟩,⟨some 39,.len (.t 38),none,[0]⟩,⟨some 40,.bin .sub (.t 39) (.d (.int .i64 1)),none,[1]⟩,⟨some 12,.mv (.t 40),none,[2,0,1,2]⟩]) (.block 0 (.loop (.seq (.seq (.reg false [⟨some 41,.mv
  (.t 12),none,[]⟩,⟨some 42,.bin .geq (.t 41) (.d (.int .i64 0)),none,[0]⟩]) (.cond (.t 42) .skip (.exit 0))) (.seq (.block 1 (.reg false [⟨some 45,.mv (.t 11),none,[]⟩,⟨some 46,.mv (.t 12),none,[]⟩,⟨some 47,.mv (.t
  10),none,[]⟩,⟨some 48,.mv (.t 12),none,[]⟩,⟨some 49,.mv (.t 12),none,[]⟩,⟨some 50,.mv (.t 7),none,[]⟩,⟨some 51,.bin .add (.t 49) (.t 50),none,[4,5]⟩,⟨some 52,.bin .add (.t 51) (.d (.int .i64 1)),none,[6]⟩,⟨some
  53,.slice 1 (.t 47) (some (.t 48)) (some (.t 52)) none,none,[2,3,7]⟩,⟨some 54,.mv (.t 9),none,[]⟩,⟨some 55,.call 62 [(.t 53),(.t 54)],none,[8,9]⟩,⟨some 56,.ix 1 (.t 45) (.t
  46),none,[0,1,0,1,2,3,4,5,6,7,8,9,10]⟩,⟨none,.store 1 (.t 56) (.t 55),none,[11,10,10,0,1,2,3,4,5,6,7,8,9,10]⟩])) (.reg false [⟨some 43,.mv (.t 12),none,[]⟩,⟨some 44,.bin .sub (.t 43) (.d (.int .i64 1)),none,[0]⟩,⟨some
  12,.mv (.t 44),none,[1,0,1]⟩])))))) (.seq (.reg true [⟨some 57,.mv (.t 11),none,[]⟩,⟨some 58,.call 41 [(.t 57)],none,[0]⟩,⟨some 59,.mv (.t 10),none,[]⟩,⟨some 60,.mv (.t 7),none,[]⟩,⟨some 61,.slice 1 (.t 59) none (some
  (.t 60)) none,none,[2,3]⟩,⟨some 62,.call 41 [(.t 61)],none,[4,1]⟩,⟨some 63,.mv (.t 8),none,[]⟩,⟨some 64,.call 63 [(.t 62),(.t 63)],none,[5,6,5]⟩,⟨none,.store 1 (.t 4) (.t 58),none,[1,7,0,1]⟩,⟨none,.store 1 (.t 5) (.t
  64),none,[7,8,0,1,2,3,4,5,6,7,8]⟩,⟨some 6,.mv (.d (.int .i64 0)),none,[9,0,1,2,3,4,5,6,7,8,9]⟩]) .ret))))))))
theorem r_nat_long : fnOf Tryd.prog n_nat_long = some (c_nat_long, [.cell 4 true 1, .cell 5 true 1, .t 6], 65, false) := by kernel_rfl

/-- math/bits.Sub64 -/
abbrev n_math_bits_Sub64 : FuncId := 50
theorem x_math_bits_Sub64 : Tryd.prog.funcs[n_math_bits_Sub64]? = some Tryd.f50 := Tryd.func50
/-- math/bits.Div64 -/
abbrev n_math_bits_Div64 : FuncId := 51
def c_math_bits_Div64 : C := (.seq (.reg false [⟨some 6,.mv (.d (.int .u64 0)),none,[]⟩,⟨some 7,.mv (.d (.int .u64 0)),none,[0]⟩]) (.seq (.seq (.reg false [⟨some 19,.mv (.t 2),none,[]⟩,⟨some 20,.bin .eql (.t 19) (.d (.int .u64 0)),none,[0]⟩])
  (.cond (.t 20) (.reg false [⟨some 21,.load false 1 .bad,none,[]⟩,⟨none,.bad,none,[0]⟩]) .skip)) (.seq (.seq (.reg false [⟨some 22,.mv (.t 2),none,[]⟩,⟨some 23,.mv (.t 0),none,[]⟩,⟨some 24,.bin .leq (.t 22) (.t
  23),none,[0,1]⟩]) (.cond (.t 24) (.reg false [⟨some 25,.load false 1 .bad,none,[]⟩,⟨none,.bad,none,[0]⟩]) .skip)) (.seq (.seq (.reg false [⟨some 26,.mv (.t 0),none,[]⟩,⟨some 27,.bin .eql (.t 26) (.d (.int .u64
  0)),none,[0]⟩]) (.cond (.t 27) (.seq (.reg true [⟨some 28,.mv (.t 1),none,[]⟩,⟨some 29,.mv (.t 2),none,[]⟩,⟨some 30,.bin .quo (.t 28) (.t 29),none,[0,1]⟩,⟨some 31,.mv (.t 1),none,[]⟩,⟨some 32,.mv (.t 2),none,[]⟩,⟨some
  33,.bin .rem (.t 31) (.t 32),none,[3,4]⟩,⟨some 6,.mv (.t 30),none,[2,0,1,2]⟩,⟨some 7,.mv (.t 33),none,[5,6,0,1,2,3,4,5,6]⟩]) .ret) .skip)) (.seq (.reg false [⟨some 34,.mv (.t 2),none,[]⟩,⟨some 35,.call 60 [(.t
  34)],none,[0]⟩,⟨some 36,.conv .u64 (.t 35),none,[1]⟩,⟨some 8,.mv (.t 36),none,[2,1,0,1,2]⟩]) (.seq (.reg false [⟨some 37,.mv (.t 2),none,[]⟩,⟨some 38,.mv (.t 8),none,[]⟩,⟨some 39,.bin .shl (.t 37) (.t
  38),none,[0,1]⟩,⟨some 2,.mv (.t 39),none,[2,0,1,2]⟩]) (.seq (.reg false [⟨some 40,.mv (.t 2),none,[]⟩,⟨some 41,.bin .shr (.t 40) (.d (.int .u64 32)),none,[0]⟩,⟨some 9,.mv (.t 41),none,[1,0,1]⟩]) (.seq (.reg false [⟨some
  42,.mv (.t 2),none,[]⟩,⟨some 43,.bin .and (.t 42) (.d (.int .u64 4294967295)),none,[0]⟩,⟨some 10,.mv (.t 43),none,[1,0,1]⟩]) (.seq (.reg false [⟨some 44,.mv (.t 0),none,[]⟩,⟨some 45,.mv (.t 8),none,[]⟩,⟨some 46,.bin
  .shl (.t 44) (.t 45),none,[0,1]⟩,⟨some 47,.mv (.t 1),none,[]⟩,⟨some 48,.mv (.t 8),none,[]⟩,⟨some 49,.bin .sub (.d (.int .u64 64)) (.t 48),none,[4]⟩,⟨some 50,.bin .shr (.t 47) (.t 49),none,[3,5]⟩,⟨some 51,.bin .or (.t
  46) (.t 50),none,[2,6]⟩,⟨some 11,.mv (.t 51),none,[7,0,1,2,3,4,5,6,7]⟩]) (.seq (.reg false [⟨some 52,.mv (.t 1),none,[]⟩,⟨some 53,.mv (.t 8),none,[]⟩,⟨some 54,.bin .shl (.t 52) (.t 53),none,[0,1]⟩,⟨some 12,.mv (.t
  54),none,[2,0,1,2]⟩]) (.seq (.reg false [⟨some 55,.mv (.t 12),none,[]⟩,⟨some 56,.bin .shr (.t 55) (.d (.int .u64 32)),none,[0]⟩,⟨some 13,.mv (.t 56),none,[1,0,1]⟩]) (.seq (.reg false [⟨some 57,.mv (.t 12),none,[]⟩,⟨some
  58,.bin .and (.t 57) (.d (.int .u64 4294967295)),none,[0]⟩,⟨some 14,.mv (.t 58),none,[1,0,1]⟩]) (.seq (.reg false [⟨some 59,.mv (.t 11),none,[]⟩,⟨some 60,.mv (.t 9),none,[]⟩,⟨some 61,.bin .quo (.t 59) (.t
  60),none,[0,1]⟩,⟨some 15,.mv (.t 61),none,[2,0,1,2]⟩]) (.seq (.reg false [⟨some 62,.mv (.t 11),none,[]⟩,⟨some 63,.mv (.t 15),none,[]⟩,⟨some 64,.mv (.t 9),none,[]⟩,⟨some 65,.bin .mul (.t 63) (.t 64),none,[1,2]⟩,⟨some
  66,.bin .sub (.t 62) (.t 65),none,[0,3]⟩,⟨some 16,.mv (.t 66),none,[4,0,1,2,3,4]⟩]) (.seq (.block 0 (.loop (.seq (.seq (.reg false [⟨some 67,.mv (.t 15),none,[]⟩,⟨some 68,.bin .geq (.t 67) (.d (.int .u64
  4294967296)),none,[0]⟩,⟨some 69,.mv (.t 68),none,[1]⟩,⟨some 70,.mv (.t 15),some (69,false),[2]⟩,⟨some 71,.mv (.t 10),some (69,false),[2]⟩,⟨some 72,.bin .mul (.t 70) (.t 71),some (69,false),[3,4,2]⟩,⟨some 73,.mv (.t
  16),some (69,false),[2]⟩,⟨some 74,.bin .mul (.d (.int .u64 4294967296)) (.t 73),some (69,false),[6,2]⟩,⟨some 75,.mv (.t 13),some (69,false),[2]⟩,⟨some 76,.bin .add (.t 74) (.t 75),some (69,false),[7,8,2]⟩,⟨some 77,.bin
  .gtr (.t 72) (.t 76),some (69,false),[5,9,2]⟩,⟨some 78,.pick (.t 69) (.d (.bool true)) (.t 77),none,[2,10]⟩]) (.cond (.t 78) .skip (.exit 0))) (.block 1 (.seq (.reg false [⟨some 79,.mv (.t 15),none,[]⟩,⟨some 80,.bin
  .sub (.t 79) (.d (.int .u64 1)),none,[0]⟩,⟨some 15,.mv (.t 80),none,[1,0,1]⟩]) (.seq (.reg false [⟨some 81,.mv (.t 16),none,[]⟩,⟨some 82,.mv (.t 9),none,[]⟩,⟨some 83,.bin .add (.t 81) (.t 82),none,[0,1]⟩,⟨some 16,.mv
  (.t 83),none,[2,0,1,2]⟩]) (.seq (.reg false [⟨some 84,.mv (.t 16),none,[]⟩,⟨some 85,.bin .geq (.t 84) (.d (.int .u64 4294967296)),none,[0]⟩]) (.cond (.t 85) (.exit 0) .skip)))))))) (.seq (.reg false [⟨some 86,.mv (.t
  11),none,[]⟩,⟨some 87,.bin .mul (.t 86) (.d (.int .u64 4294967296)),none,[0]⟩,⟨some 88,.mv (.t 13),none,[]⟩,⟨some 89,.bin .add (.t 87) (.t 88),none,[1,2]⟩,⟨some 90,.mv (.t 15),none,[]⟩,⟨some 91,.mv (.t 2),none,[]⟩,⟨some
  92,.bin .mul (.t 90) (.t 91),none,[4,5]⟩,⟨some 93,.bin .sub (.t 89) (.t 92),none,[3,6]⟩,⟨some 17,.mv (.t 93),none,[7,0,1,2,3,4,5,6,7]⟩]) (.seq (.reg false [⟨some 94,.mv (.t 17),none,[]⟩,⟨some 95,.mv (.t
  9),none,[]⟩,⟨some 96,.bin .quo (.t 94) (.t 95),none,[0,1]⟩,⟨some 18,.mv (.t 96),none,[2,0,1,2]⟩]) (.seq (.reg false [⟨some 97,.mv (.t 17),none,[]⟩,⟨some 98,.mv (.t 18),none,[]⟩,⟨some 99,.mv (.t 9),none,[]⟩,⟨some
  100,.bin .mul (.t 98) (.t 99),none,[1,2]⟩,⟨some 101,.bin .sub (.t 97) (.t 100),none,[0,3]⟩,⟨some 16,.mv (.t 101),none,[4,0,1,2,3,4]⟩]) (.seq (.block 2 (.loop (.seq (.seq (.reg false [⟨some 102,.mv (.t 18),none,[]⟩,⟨some
  103,.bin .geq (.t 102) (.d (.int .u64 4294967296)),none,[0]⟩,⟨some 104,.mv (.t 103),none,[1]⟩,⟨some 105,.mv (.t 18),some (104,false),[2]⟩,⟨some 106,.mv (.t 10),some (104,false),[2]⟩,⟨some 107,.bin .mul (.t 105) (.t
  106),some (104,false),[3,4,2]⟩,⟨some 108,.mv (.t 16),some (104,false),[2]⟩,⟨some 109,.bin .mul (.d (.int .u64 4294967296)) (.t 108),some (104,false),[6,2]⟩,⟨some 110,.mv (.t 14),some (104,false),[2]⟩,⟨some 111,.bin .add
  (.t 109) (.t 110),some (104,false),[7,8,2]⟩,⟨some 112,.bin .gtr (.t 107) (.t 111),some (104,false),[5,9,2]⟩,⟨some 113,.pick (.t 104) (.d (.bool true)) (.t 112),none,[2,10]⟩]) (.cond (.t 113) .skip (.exit 2))) (.block 3
  (.seq (.reg false [⟨some 114,.mv (.t 18),none,[]⟩,⟨some 115,.bin .sub (.t 114) (.d (.int .u64 1)),none,[0]⟩,⟨some 18,.mv (.t 115),none,[1,0,1]⟩]) (.seq (.reg false [⟨some 116,.mv (.t 16),none,[]⟩,⟨some 117,.mv (.t
  9),none,[]⟩,⟨some 118,.bin .add (.t 116) (.t 117),none,[0,1]⟩,⟨some 16,.mv (.t 118),none,[2,0,1,2]⟩]) (.seq (.reg false [⟨some 119,.mv (.t 16),none,[]⟩,⟨some 120,.bin .geq (.t 119) (.d (.int .u64
  4294967296)),none,[0]⟩]) (.cond (.t 120) (.exit 2) .skip)))))))) (.seq (.reg false [⟨some 121,.mv (.t 15),none,[]⟩,⟨some 122,.bin .mul (.t 121) (.d (.int .u64 4294967296)),none,[0]⟩,⟨some 123,.mv (.t 18),none,[]⟩,⟨some
  124,.bin .add (.t 122) (.t 123),none,[1,2]⟩,⟨some 125,.mv (.t 17),none,[]⟩,⟨some 126,.bin .mul (.t 125) (.d (.int .u64 4294967296)),none,[4]⟩,⟨some 127,.mv (.t 14),none,[]⟩,⟨some 128,.bin .add (.t 126) (.t
  127),none,[5,6]⟩,⟨some 129,.mv (.t 18),none,[]⟩,⟨some 130,.mv (.t 2),none,[]⟩,⟨some 131,.bin .mul (.t 129) (.t 130),none,[8,9]⟩,⟨some 132,.bin .sub (.t 128) (.t 131),none,[7,10]⟩,⟨some 133,.mv (.t 8),none,[]⟩,⟨some
  134,.bin .shr (.t 132) (.t 133),none,[11,12]⟩,⟨some 6,.mv (.t 124),none,[3,0,1,2,3]⟩,⟨some 7,.mv (.t 134),none,[13,14,0,1,2,3,4,5,6,7,8,9,10,11,12,13,14]⟩]) .ret))))))))))))))))))))
theorem r_math_bits_Div64 : fnOf Tryd.prog n_math_bits_Div64 = some (c_math_bits_Div64, [.t 6, .t 7], 135, false) := by kernel_rfl

/-- internal/strconv.FormatUint -/
abbrev n_internal_strconv_FormatUint : FuncId := 52
def c_internal_strconv_FormatUint : C := (.seq (.reg false [⟨some 4,.mv (.d (.str ⟨#[]⟩)),none,[]⟩]) (.seq (.seq (.reg false [⟨some 9,.mv (.t 1),none,[]⟩,⟨some 10,.bin .eql (.t 9) (.d (.int .i64 10)),none,[0]⟩]) (.cond (.t 10) (.seq (.seq (.reg false [⟨some
  11,.mv (.t 0),none,[]⟩,⟨some 12,.bin .lss (.t 11) (.d (.int .u64 100)),none,[0]⟩]) (.cond (.t 12) (.seq (.reg false [⟨some 13,.mv (.t 0),none,[]⟩,⟨some 14,.conv .i64 (.t 13),none,[0]⟩,⟨some 15,.call 64 [(.t
  14)],none,[1]⟩,⟨some 4,.mv (.t 15),none,[2,2,0,1,2]⟩]) .ret) .skip)) (.seq (.reg false [⟨some 5,.new 88 [(.int .u8 0),(.int .u8 0),(.int .u8 0),(.int .u8 0),(.int .u8 0),(.int .u8 0),(.int .u8 0),(.int .u8 0),(.int .u8
  0),(.int .u8 0),(.int .u8 0),(.int .u8 0),(.int .u8 0),(.int .u8 0),(.int .u8 0),(.int .u8 0),(.int .u8 0),(.int .u8 0),(.int .u8 0),(.int .u8 0),(.int .u8 0),(.int .u8 0),(.int .u8 0),(.int .u8 0)],none,[]⟩]) (.seq
  (.reg false [⟨some 16,.mv (.t 0),none,[]⟩,⟨some 17,.call 65 [(.t 16)],none,[0]⟩,⟨some 6,.mv (.t 17),none,[1,1,0,1]⟩]) (.seq (.reg false [⟨some 18,.mv (.t 6),none,[]⟩,⟨some 19,.bad,none,[0]⟩,⟨some 20,.mv (.t
  0),none,[]⟩,⟨some 21,.call 66 [(.t 19),(.t 20)],none,[1,2]⟩]) (.seq (.reg false [⟨some 22,.mv (.t 6),none,[]⟩,⟨some 23,.bad,none,[0]⟩,⟨some 24,.bad,none,[1]⟩,⟨some 4,.mv (.t 24),none,[2,0,1,2]⟩]) .ret))))) .skip)) (.seq
  (.reg false [⟨some 26,.mv (.t 0),none,[]⟩,⟨some 27,.mv (.t 1),none,[]⟩,⟨some 28,.call 67 [(.d .nilsl),(.t 26),(.t 27),(.d (.bool false)),(.d (.bool false))],none,[0,1]⟩,⟨some 25,.mv (.t 28),none,[2]⟩,⟨some 29,.ext (.t
  25) 0,none,[3]⟩,⟨some 30,.ext (.t 25) 1,none,[3]⟩,⟨some 7,.mv (.t 29),none,[4,2,0,1,2,3,4]⟩,⟨some 8,.mv (.t 30),none,[5,6,0,1,2,3,4,5,6]⟩]) (.seq (.reg false [⟨some 31,.mv (.t 8),none,[]⟩,⟨some 4,.mv (.t
  31),none,[0,0]⟩]) .ret))))
theorem r_internal_strconv_FormatUint : fnOf Tryd.prog n_internal_strconv_FormatUint = some (c_internal_strconv_FormatUint, [.t 4], 32, false) := by kernel_rfl

/-- math/bits.Len64 -/
abbrev n_math_bits_Len64 : FuncId := 59
def c_math_bits_Len64 : C := (.seq (.reg false [⟨some 2,.mv (.d (.int .i64 0)),none,[]⟩]) (.seq (.seq (.reg false [⟨some 3,.mv (.t 0),none,[]⟩,⟨some 4,.bin .geq (.t 3) (.d (.int .u64 4294967296)),none,[0]⟩]) (.cond (.t 4) (.seq (.reg false [⟨some
  5,.mv (.t 0),none,[]⟩,⟨some 6,.bin .shr (.t 5) (.d (.int .u64 32)),none,[0]⟩,⟨some 0,.mv (.t 6),none,[1,0,1]⟩]) (.reg false [⟨some 2,.mv (.d (.int .i64 32)),none,[]⟩])) .skip)) (.seq (.seq (.reg false [⟨some 7,.mv (.t
  0),none,[]⟩,⟨some 8,.bin .geq (.t 7) (.d (.int .u64 65536)),none,[0]⟩]) (.cond (.t 8) (.seq (.reg false [⟨some 9,.mv (.t 0),none,[]⟩,⟨some 10,.bin .shr (.t 9) (.d (.int .u64 16)),none,[0]⟩,⟨some 0,.mv (.t
  10),none,[1,0,1]⟩]) (.reg false [⟨some 11,.mv (.t 2),none,[]⟩,⟨some 12,.bin .add (.t 11) (.d (.int .i64 16)),none,[0]⟩,⟨some 2,.mv (.t 12),none,[1,0,1]⟩])) .skip)) (.seq (.seq (.reg false [⟨some 13,.mv (.t
  0),none,[]⟩,⟨some 14,.bin .geq (.t 13) (.d (.int .u64 256)),none,[0]⟩]) (.cond (.t 14) (.seq (.reg false [⟨some 15,.mv (.t 0),none,[]⟩,⟨some 16,.bin .shr (.t 15) (.d (.int .u64 8)),none,[0]⟩,⟨some 0,.mv (.t
  16),none,[1,0,1]⟩]) (.reg false [⟨some 17,.mv (.t 2),none,[]⟩,⟨some 18,.bin .add (.t 17) (.d (.int .i64 8)),none,[0]⟩,⟨some 2,.mv (.t 18),none,[1,0,1]⟩])) .skip)) (.seq (.reg false [⟨some 19,.mv (.t 2),none,[]⟩,⟨some
  20,.mv (.t 0),none,[]⟩,⟨some 21,.conv .u8 (.t 20),none,[1]⟩,⟨some 22,.gstr (.d (.str
  ⟨#[0,1,2,2,3,3,3,3,4,4,4,4,4,4,4,4,5,5,5,5,5,5,5,5,5,5,5,5,5,5,5,5,6,6,6,6,6,6,6,6,6,6,6,6,6,6,6,6,6,6,6,6,6,6,6,6,6,6,6,6,6,6,6,6,7,7,7,7,7,7,7,7,7,7,7,7,7,7,7,7,7,7,7,7,7,7,7,7,7,7,7,7,7,7,7,7,7,7,7,7,7,7,7,7,7,7,7,7,7,7,7,7,7,7,7,7,7,7,7,7,7,7,7,7,7,7,7,7,8,8,8,8,8,8,8,8,8,8,8,8,8,8,8,8,8,8,8,8,8,8,8,8,8,8,8,8,8,8,8,8,8,8,8,8,8,8,8,8,8,8,8,8,8,8,8,8,8,8,8,8,8,8,8,8,8,8,8,8,8,8,8,8,8,8,8,8,8,8,8,8,8,8,8,8,8,8,8,8,8,8,8,8,8,8,8,8,8,8,8,8,8,8,8,8,8,8,8,8,8,8,8,8,8,8,8,8,8,8,8,8,8,8,8,8,8,8,8,8,8,8,8,8,8,8,8,8]⟩)) (.t 21),none,[2]⟩,⟨some 23,.conv .i64 (.t 22),none,[3]⟩,⟨some 24,.bin .add (.t 19) (.t 23),none,[0,4]⟩,⟨some 2,.mv (.t 24),none,[5,0,1,2,3,4,5]⟩]) .ret)))))
theorem r_math_bits_Len64 : fnOf Tryd.prog n_math_bits_Len64 = some (c_math_bits_Len64, [.t 2], 25, false) := by kernel_rfl

/-- math/bits.LeadingZeros64 -/
abbrev n_math_bits_LeadingZeros64 : FuncId := 60
def c_math_bits_LeadingZeros64 : C := (.seq (.reg false [⟨some 2,.mv (.d (.int .i64 0)),none,[]⟩]) (.seq (.reg false [⟨some 3,.mv (.t 0),none,[]⟩,⟨some 4,.call 59 [(.t 3)],none,[0]⟩,⟨some 5,.bin .sub (.d (.int .i64 64)) (.t 4),none,[1]⟩,⟨some 2,.mv (.t
  5),none,[2,1,0,1,2]⟩]) .ret))
theorem r_math_bits_LeadingZeros64 : fnOf Tryd.prog n_math_bits_LeadingZeros64 = some (c_math_bits_LeadingZeros64, [.t 2], 6, false) := by kernel_rfl

/-- tallymark/nat.moved -/
abbrev n_nat_moved : FuncId := 61
def c_nat_moved : C := (.seq (.reg false [⟨some 4,.mv (.d .nilsl),none,[]⟩]) (.seq (.reg false [⟨some 8,.mv (.t 0),none,[]⟩,⟨some 9,.len (.t 8),none,[0]⟩,⟨some 10,.bin .add (.t 9) (.d (.int .i64 1)),none,[1]⟩,⟨some 11,.mksl 55 1 8 [(.int .u64
  0)] (.t 10) (.t 10),none,[2,2]⟩,⟨some 5,.mv (.t 11),none,[3,0,1,2,3]⟩]) (.seq (.seq (.reg false [⟨some 12,.mv (.t 0),none,[]⟩,⟨some 13,.len (.t 12),none,[0]⟩,⟨some 14,.mv (.d (.int .i64 0)),none,[]⟩]) (.block 0 (.loop
  (.seq (.reg false [⟨some 15,.bin .lss (.t 14) (.t 13),none,[]⟩]) (.seq (.cond (.t 15) .skip (.exit 0)) (.seq (.block 1 (.seq (.reg false [⟨some 16,.mv (.t 14),none,[]⟩,⟨some 17,.ix 1 (.t 12) (.t 14),none,[]⟩,⟨some
  18,.load false 1 (.t 17),none,[1]⟩,⟨some 6,.mv (.t 16),none,[0,0,1,2]⟩,⟨some 7,.mv (.t 18),none,[2,3,0,1,2,3]⟩]) (.seq (.reg true [⟨some 19,.mv (.t 5),none,[]⟩,⟨some 20,.mv (.t 6),none,[]⟩,⟨some 21,.ix 1 (.t 19) (.t
  20),none,[0,1]⟩,⟨some 22,.load false 1 (.t 21),none,[2]⟩,⟨some 23,.mv (.t 7),none,[]⟩,⟨some 24,.mv (.t 1),none,[]⟩,⟨some 25,.bin .shl (.t 23) (.t 24),none,[4,5]⟩,⟨some 26,.bin .or (.t 22) (.t 25),none,[3,6]⟩,⟨some
  27,.ix 1 (.t 19) (.t 20),none,[0,1,0,1,2,3,4,5,6,7]⟩,⟨none,.store 1 (.t 27) (.t 26),none,[8,7,0,1,2,3,4,5,6,7]⟩]) (.reg false [⟨some 28,.mv (.t 5),none,[]⟩,⟨some 29,.mv (.t 6),none,[]⟩,⟨some 30,.bin .add (.t 29) (.d
  (.int .i64 1)),none,[1]⟩,⟨some 31,.mv (.t 7),none,[]⟩,⟨some 32,.mv (.t 1),none,[]⟩,⟨some 33,.bin .sub (.d (.int .i64 64)) (.t 32),none,[4]⟩,⟨some 34,.bin .shr (.t 31) (.t 33),none,[3,5]⟩,⟨some 35,.ix 1 (.t 28) (.t
  30),none,[0,2,0,1,2,3,4,5,6]⟩,⟨none,.store 1 (.t 35) (.t 34),none,[7,6,0,1,2,3,4,5,6]⟩])))) (.reg false [⟨some 36,.bin .add (.t 14) (.d (.int .i64 1)),none,[]⟩,⟨some 14,.mv (.t 36),none,[0]⟩]))))))) (.seq (.reg false
  [⟨some 37,.mv (.t 5),none,[]⟩,⟨some 4,.mv (.t 37),none,[0,0]⟩]) .ret))))
theorem r_nat_moved : fnOf Tryd.prog n_nat_moved = some (c_nat_moved, [.t 4], 38, false) := by kernel_rfl

/-- tallymark/nat.digit -/
abbrev n_nat_digit : FuncId := 62
def c_nat_digit : C := (.seq (.reg false [⟨some 4,.mv (.d (.int .u64 0)),none,[]⟩]) (.seq (.reg false [⟨some 11,.mv (.t 1),none,[]⟩,⟨some 12,.len (.t 11),none,[0]⟩,⟨some 5,.mv (.t 12),none,[1,0,1]⟩]) (.seq (.reg false [⟨some 6,.mv (.d (.int
  .u64 18446744073709551615)),none,[]⟩]) (.seq (.seq (.reg true [⟨some 13,.mv (.t 0),none,[]⟩,⟨some 14,.mv (.t 5),none,[]⟩,⟨some 15,.ix 1 (.t 13) (.t 14),none,[0,1]⟩,⟨some 16,.load false 1 (.t 15),none,[2]⟩,⟨some 17,.mv
  (.t 1),none,[]⟩,⟨some 18,.mv (.t 5),none,[]⟩,⟨some 19,.bin .sub (.t 18) (.d (.int .i64 1)),none,[5]⟩,⟨some 20,.ix 1 (.t 17) (.t 19),none,[4,6]⟩,⟨some 21,.load false 1 (.t 20),none,[7]⟩,⟨some 22,.bin .lss (.t 16) (.t
  21),none,[3,8]⟩]) (.cond (.t 22) (.reg true [⟨some 24,.mv (.t 0),none,[]⟩,⟨some 25,.mv (.t 5),none,[]⟩,⟨some 26,.ix 1 (.t 24) (.t 25),none,[0,1]⟩,⟨some 27,.load false 1 (.t 26),none,[2]⟩,⟨some 28,.mv (.t
  0),none,[]⟩,⟨some 29,.mv (.t 5),none,[]⟩,⟨some 30,.bin .sub (.t 29) (.d (.int .i64 1)),none,[5]⟩,⟨some 31,.ix 1 (.t 28) (.t 30),none,[4,6]⟩,⟨some 32,.load false 1 (.t 31),none,[7]⟩,⟨some 33,.mv (.t 1),none,[]⟩,⟨some
  34,.mv (.t 5),none,[]⟩,⟨some 35,.bin .sub (.t 34) (.d (.int .i64 1)),none,[10]⟩,⟨some 36,.ix 1 (.t 33) (.t 35),none,[9,11]⟩,⟨some 37,.load false 1 (.t 36),none,[12]⟩,⟨some 38,.call 51 [(.t 27),(.t 32),(.t
  37)],none,[3,8,13]⟩,⟨some 23,.mv (.t 38),none,[14]⟩,⟨some 39,.ext (.t 23) 0,none,[15]⟩,⟨some 40,.ext (.t 23) 1,none,[15]⟩,⟨some 6,.mv (.t 39),none,[16,14,0,1,2,3,4,5,6,7,8,9,10,11,12,13,14,15,16]⟩]) .skip)) (.seq (.seq
  (.reg false [⟨some 41,.mv (.t 0),none,[]⟩,⟨some 42,.mv (.t 1),none,[]⟩,⟨some 43,.mv (.t 6),none,[]⟩,⟨some 44,.call 72 [(.t 41),(.t 42),(.t 43)],none,[0,1,2]⟩,⟨some 7,.mv (.t 44),none,[3,3,0,1,2,3]⟩]) (.block 0 (.loop
  (.seq (.seq (.reg false [⟨some 45,.mv (.t 7),none,[]⟩,⟨some 46,.bin .gtr (.t 45) (.d (.int .i64 0)),none,[0]⟩]) (.cond (.t 46) .skip (.exit 0))) (.seq (.block 1 (.seq (.reg false [⟨some 49,.mv (.t 6),none,[]⟩,⟨some
  50,.bin .sub (.t 49) (.d (.int .u64 1)),none,[0]⟩,⟨some 6,.mv (.t 50),none,[1,0,1]⟩]) (.seq (.reg false [⟨some 8,.mv (.d (.int .u64 0)),none,[]⟩]) (.seq (.seq (.reg false [⟨some 51,.mv (.t 1),none,[]⟩,⟨some 52,.len (.t
  51),none,[0]⟩,⟨some 53,.mv (.d (.int .i64 0)),none,[]⟩]) (.block 2 (.loop (.seq (.reg false [⟨some 54,.bin .lss (.t 53) (.t 52),none,[]⟩]) (.seq (.cond (.t 54) .skip (.exit 2)) (.seq (.block 3 (.seq (.reg false [⟨some
  55,.mv (.t 53),none,[]⟩,⟨some 56,.ix 1 (.t 51) (.t 53),none,[]⟩,⟨some 57,.load false 1 (.t 56),none,[1]⟩,⟨some 9,.mv (.t 55),none,[0,0,1,2]⟩,⟨some 10,.mv (.t 57),none,[2,3,0,1,2,3]⟩]) (.reg false [⟨some 59,.mv (.t
  0),none,[]⟩,⟨some 60,.mv (.t 9),none,[]⟩,⟨some 61,.mv (.t 0),none,[]⟩,⟨some 62,.mv (.t 9),none,[]⟩,⟨some 63,.ix 1 (.t 61) (.t 62),none,[2,3]⟩,⟨some 64,.load false 1 (.t 63),none,[4]⟩,⟨some 65,.mv (.t 10),none,[]⟩,⟨some
  66,.mv (.t 8),none,[]⟩,⟨some 67,.call 40 [(.t 64),(.t 65),(.t 66)],none,[5,6,7]⟩,⟨some 58,.mv (.t 67),none,[8]⟩,⟨some 68,.ext (.t 58) 0,none,[9]⟩,⟨some 69,.ext (.t 58) 1,none,[9]⟩,⟨some 70,.ix 1 (.t 59) (.t
  60),none,[0,1,0,1,2,3,4,5,6,7,8,9,10]⟩,⟨none,.store 1 (.t 70) (.t 68),none,[12,10,8,0,1,2,3,4,5,6,7,8,9,10]⟩,⟨some 8,.mv (.t 69),none,[11,13,0,1,2,3,4,5,6,7,8,9,10,11,12,13]⟩]))) (.reg false [⟨some 71,.bin .add (.t 53)
  (.d (.int .i64 1)),none,[]⟩,⟨some 53,.mv (.t 71),none,[0]⟩]))))))) (.seq (.reg false [⟨some 72,.mv (.t 0),none,[]⟩,⟨some 73,.mv (.t 5),none,[]⟩,⟨some 74,.ix 1 (.t 72) (.t 73),none,[0,1]⟩,⟨some 75,.load false 1 (.t
  74),none,[2]⟩,⟨some 76,.mv (.t 8),none,[]⟩,⟨some 77,.bin .add (.t 75) (.t 76),none,[3,4]⟩,⟨some 78,.ix 1 (.t 72) (.t 73),none,[0,1,0,1,2,3,4,5]⟩,⟨none,.store 1 (.t 78) (.t 77),none,[6,5,0,1,2,3,4,5]⟩]) (.seq (.reg false
  [⟨some 79,.mv (.t 0),none,[]⟩,⟨some 80,.mv (.t 5),none,[]⟩,⟨some 81,.ix 1 (.t 79) (.t 80),none,[0,1]⟩,⟨some 82,.load false 1 (.t 81),none,[2]⟩,⟨some 83,.bin .neq (.t 82) (.d (.int .u64 0)),none,[3]⟩]) (.cond (.t 83)
  (.reg false [⟨some 84,.mv (.t 7),none,[]⟩,⟨some 85,.bin .add (.t 84) (.d (.int .i64 1)),none,[0]⟩,⟨some 7,.mv (.t 85),none,[1,0,1]⟩]) .skip))))))) (.reg false [⟨some 47,.mv (.t 7),none,[]⟩,⟨some 48,.bin .sub (.t 47) (.d
  (.int .i64 1)),none,[0]⟩,⟨some 7,.mv (.t 48),none,[1,0,1]⟩])))))) (.seq (.reg false [⟨some 86,.mv (.t 6),none,[]⟩,⟨some 4,.mv (.t 86),none,[0,0]⟩]) .ret))))))
theorem r_nat_digit : fnOf Tryd.prog n_nat_digit = some (c_nat_digit, [.t 4], 87, false) := by kernel_rfl

/-- tallymark/nat.Shr -/
abbrev n_nat_Shr : FuncId := 63
def c_nat_Shr : C := (.seq (.reg false [⟨some 2,.box 25 (.t 0),none,[]⟩,⟨some 4,.new 25 [.nilsl],none,[]⟩]) (.seq (.reg false [⟨some 8,.mv (.t 1),none,[]⟩,⟨some 9,.mm true [(.d (.int .i64 0)),(.t 8)],none,[0]⟩,⟨some 1,.mv (.t
  9),none,[1,0,1]⟩]) (.seq (.seq (.reg false [⟨some 10,.mv (.t 1),none,[]⟩,⟨some 11,.bin .quo (.t 10) (.d (.int .i64 64)),none,[0]⟩,⟨some 12,.fa 0 (.t 2),none,[]⟩,⟨some 13,.load false 1 (.t 12),none,[2]⟩,⟨some 14,.len (.t
  13),none,[3]⟩,⟨some 15,.bin .geq (.t 11) (.t 14),none,[1,4]⟩]) (.cond (.t 15) (.seq (.reg false [⟨some 16,.build [.nilsl] [],none,[]⟩,⟨none,.store 1 (.t 4) (.t 16),none,[0,0]⟩]) .ret) .skip)) (.seq (.reg false [⟨some
  17,.fa 0 (.t 2),none,[]⟩,⟨some 18,.load false 1 (.t 17),none,[0]⟩,⟨some 19,.mv (.t 1),none,[]⟩,⟨some 20,.bin .quo (.t 19) (.d (.int .i64 64)),none,[2]⟩,⟨some 21,.slice 1 (.t 18) (some (.t 20)) none
  none,none,[1,3]⟩,⟨some 22,.call 48 [(.t 21)],none,[4]⟩,⟨some 5,.mv (.t 22),none,[5,5,0,1,2,3,4,5]⟩]) (.seq (.seq (.reg false [⟨some 23,.mv (.t 1),none,[]⟩,⟨some 24,.bin .rem (.t 23) (.d (.int .i64 64)),none,[0]⟩,⟨some
  6,.mv (.d (.int .i64 0)),none,[]⟩,⟨some 7,.mv (.t 24),none,[1,2,0,1,2]⟩]) (.block 0 (.loop (.seq (.seq (.reg false [⟨some 25,.mv (.t 6),none,[]⟩,⟨some 26,.mv (.t 5),none,[]⟩,⟨some 27,.len (.t 26),none,[1]⟩,⟨some 28,.bin
  .lss (.t 25) (.t 27),none,[0,2]⟩]) (.cond (.t 28) .skip (.exit 0))) (.seq (.block 1 (.seq (.reg false [⟨some 31,.mv (.t 5),none,[]⟩,⟨some 32,.mv (.t 6),none,[]⟩,⟨some 33,.ix 1 (.t 31) (.t 32),none,[0,1]⟩,⟨some 34,.load
  false 1 (.t 33),none,[2]⟩,⟨some 35,.mv (.t 7),none,[]⟩,⟨some 36,.bin .shr (.t 34) (.t 35),none,[3,4]⟩,⟨some 37,.ix 1 (.t 31) (.t 32),none,[0,1,0,1,2,3,4,5]⟩,⟨none,.store 1 (.t 37) (.t 36),none,[6,5,0,1,2,3,4,5]⟩]) (.seq
  (.reg false [⟨some 38,.mv (.t 6),none,[]⟩,⟨some 39,.bin .add (.t 38) (.d (.int .i64 1)),none,[0]⟩,⟨some 40,.mv (.t 5),none,[]⟩,⟨some 41,.len (.t 40),none,[2]⟩,⟨some 42,.bin .lss (.t 39) (.t 41),none,[1,3]⟩]) (.cond (.t
  42) (.reg true [⟨some 43,.mv (.t 5),none,[]⟩,⟨some 44,.mv (.t 6),none,[]⟩,⟨some 45,.ix 1 (.t 43) (.t 44),none,[0,1]⟩,⟨some 46,.load false 1 (.t 45),none,[2]⟩,⟨some 47,.mv (.t 5),none,[]⟩,⟨some 48,.mv (.t
  6),none,[]⟩,⟨some 49,.bin .add (.t 48) (.d (.int .i64 1)),none,[5]⟩,⟨some 50,.ix 1 (.t 47) (.t 49),none,[4,6]⟩,⟨some 51,.load false 1 (.t 50),none,[7]⟩,⟨some 52,.mv (.t 7),none,[]⟩,⟨some 53,.bin .sub (.d (.int .i64 64))
  (.t 52),none,[9]⟩,⟨some 54,.bin .shl (.t 51) (.t 53),none,[8,10]⟩,⟨some 55,.bin .or (.t 46) (.t 54),none,[3,11]⟩,⟨some 56,.ix 1 (.t 43) (.t 44),none,[0,1,0,1,2,3,4,5,6,7,8,9,10,11,12]⟩,⟨none,.store 1 (.t 56) (.t
  55),none,[13,12,0,1,2,3,4,5,6,7,8,9,10,11,12]⟩]) .skip)))) (.reg false [⟨some 29,.mv (.t 6),none,[]⟩,⟨some 30,.bin .add (.t 29) (.d (.int .i64 1)),none,[0]⟩,⟨some 6,.mv (.t 30),none,[1,0,1]⟩])))))) (.seq (.reg false
  [⟨some 57,.mv (.t 5),none,[]⟩,⟨some 58,.call 41 [(.t 57)],none,[0]⟩,⟨none,.store 1 (.t 4) (.t 58),none,[1,1,0,1]⟩]) .ret))))))
theorem r_nat_Shr : fnOf Tryd.prog n_nat_Shr = some (c_nat_Shr, [.cell 4 true 1], 59, false) := by kernel_rfl

/-- internal/strconv.small -/
abbrev n_internal_strconv_small : FuncId := 64
def c_internal_strconv_small : C := (.seq (.reg false [⟨some 2,.mv (.d (.str ⟨#[]⟩)),none,[]⟩]) (.seq (.seq (.reg false [⟨some 3,.mv (.t 0),none,[]⟩,⟨some 4,.bin .lss (.t 3) (.d (.int .i64 10)),none,[0]⟩]) (.cond (.t 4) (.seq (.reg false [⟨some 5,.mv (.t
  0),none,[]⟩,⟨some 6,.mv (.t 0),none,[]⟩,⟨some 7,.bin .add (.t 6) (.d (.int .i64 1)),none,[1]⟩,⟨some 8,.sstr (.d (.str
  ⟨#[48,49,50,51,52,53,54,55,56,57,97,98,99,100,101,102,103,104,105,106,107,108,109,110,111,112,113,114,115,116,117,118,119,120,121,122]⟩)) (some (.t 5)) (some (.t 7)),none,[0,2]⟩,⟨some 2,.mv (.t 8),none,[3,0,1,2,3]⟩])
  .ret) .skip)) (.seq (.reg false [⟨some 9,.mv (.t 0),none,[]⟩,⟨some 10,.bin .mul (.t 9) (.d (.int .i64 2)),none,[0]⟩,⟨some 11,.mv (.t 0),none,[]⟩,⟨some 12,.bin .mul (.t 11) (.d (.int .i64 2)),none,[2]⟩,⟨some 13,.bin .add
  (.t 12) (.d (.int .i64 2)),none,[3]⟩,⟨some 14,.sstr (.d (.str
  ⟨#[48,48,48,49,48,50,48,51,48,52,48,53,48,54,48,55,48,56,48,57,49,48,49,49,49,50,49,51,49,52,49,53,49,54,49,55,49,56,49,57,50,48,50,49,50,50,50,51,50,52,50,53,50,54,50,55,50,56,50,57,51,48,51,49,51,50,51,51,51,52,51,53,51,54,51,55,51,56,51,57,52,48,52,49,52,50,52,51,52,52,52,53,52,54,52,55,52,56,52,57,53,48,53,49,53,50,53,51,53,52,53,53,53,54,53,55,53,56,53,57,54,48,54,49,54,50,54,51,54,52,54,53,54,54,54,55,54,56,54,57,55,48,55,49,55,50,55,51,55,52,55,53,55,54,55,55,55,56,55,57,56,48,56,49,56,50,56,51,56,52,56,53,56,54,56,55,56,56,56,57,57,48,57,49,57,50,57,51,57,52,57,53,57,54,57,55,57,56,57,57]⟩)) (some (.t 10)) (some (.t 13)),none,[1,4]⟩,⟨some 2,.mv (.t 14),none,[5,0,1,2,3,4,5]⟩]) .ret)))
theorem r_internal_strconv_small : fnOf Tryd.prog n_internal_strconv_small = some (c_internal_strconv_small, [.t 2], 15, false) := by kernel_rfl

/-- tallymark/nat.take -/
abbrev n_nat_take : FuncId := 72
def c_nat_take : C := (.seq (.reg false [⟨some 6,.mv (.d (.int .i64 0)),none,[]⟩]) (.seq (.reg false [⟨some 7,.mv (.d (.int .u64 0)),none,[]⟩,⟨some 8,.mv (.d (.int .u64 0)),none,[0]⟩]) (.seq (.seq (.reg false [⟨some 15,.mv (.t
  1),none,[]⟩,⟨some 16,.len (.t 15),none,[0]⟩,⟨some 17,.mv (.d (.int .i64 0)),none,[]⟩]) (.block 0 (.loop (.seq (.reg false [⟨some 18,.bin .lss (.t 17) (.t 16),none,[]⟩]) (.seq (.cond (.t 18) .skip (.exit 0)) (.seq
  (.block 1 (.seq (.reg false [⟨some 19,.mv (.t 17),none,[]⟩,⟨some 20,.ix 1 (.t 15) (.t 17),none,[]⟩,⟨some 21,.load false 1 (.t 20),none,[1]⟩,⟨some 9,.mv (.t 19),none,[0,0,1,2]⟩,⟨some 10,.mv (.t 21),none,[2,3,0,1,2,3]⟩])
  (.seq (.reg false [⟨some 23,.mv (.t 10),none,[]⟩,⟨some 24,.mv (.t 2),none,[]⟩,⟨some 25,.call 39 [(.t 23),(.t 24)],none,[0,1]⟩,⟨some 22,.mv (.t 25),none,[2]⟩,⟨some 26,.ext (.t 22) 0,none,[3]⟩,⟨some 27,.ext (.t 22)
  1,none,[3]⟩,⟨some 11,.mv (.t 26),none,[4,2,0,1,2,3,4]⟩,⟨some 12,.mv (.t 27),none,[5,6,0,1,2,3,4,5,6]⟩]) (.seq (.reg false [⟨some 13,.mv (.d (.int .u64 0)),none,[]⟩]) (.seq (.reg false [⟨some 29,.mv (.t
  12),none,[]⟩,⟨some 30,.mv (.t 7),none,[]⟩,⟨some 31,.call 40 [(.t 29),(.t 30),(.d (.int .u64 0))],none,[0,1]⟩,⟨some 28,.mv (.t 31),none,[2]⟩,⟨some 32,.ext (.t 28) 0,none,[3]⟩,⟨some 33,.ext (.t 28) 1,none,[3]⟩,⟨some
  12,.mv (.t 32),none,[4,2,0,1,2,3,4]⟩,⟨some 13,.mv (.t 33),none,[5,6,0,1,2,3,4,5,6]⟩]) (.seq (.reg false [⟨some 34,.mv (.t 11),none,[]⟩,⟨some 35,.mv (.t 13),none,[]⟩,⟨some 36,.bin .add (.t 34) (.t 35),none,[0,1]⟩,⟨some
  7,.mv (.t 36),none,[2,0,1,2]⟩]) (.reg false [⟨some 38,.mv (.t 0),none,[]⟩,⟨some 39,.mv (.t 9),none,[]⟩,⟨some 40,.mv (.t 0),none,[]⟩,⟨some 41,.mv (.t 9),none,[]⟩,⟨some 42,.ix 1 (.t 40) (.t 41),none,[2,3]⟩,⟨some 43,.load
  false 1 (.t 42),none,[4]⟩,⟨some 44,.mv (.t 12),none,[]⟩,⟨some 45,.mv (.t 8),none,[]⟩,⟨some 46,.call 50 [(.t 43),(.t 44),(.t 45)],none,[5,6,7]⟩,⟨some 37,.mv (.t 46),none,[8]⟩,⟨some 47,.ext (.t 37) 0,none,[9]⟩,⟨some
  48,.ext (.t 37) 1,none,[9]⟩,⟨some 49,.ix 1 (.t 38) (.t 39),none,[0,1,0,1,2,3,4,5,6,7,8,9,10]⟩,⟨none,.store 1 (.t 49) (.t 47),none,[12,10,8,0,1,2,3,4,5,6,7,8,9,10]⟩,⟨some 8,.mv (.t
  48),none,[11,13,0,1,2,3,4,5,6,7,8,9,10,11,12,13]⟩]))))))) (.reg false [⟨some 50,.bin .add (.t 17) (.d (.int .i64 1)),none,[]⟩,⟨some 17,.mv (.t 50),none,[0]⟩]))))))) (.seq (.reg false [⟨some 51,.mv (.t 1),none,[]⟩,⟨some
  52,.len (.t 51),none,[0]⟩,⟨some 14,.mv (.t 52),none,[1,0,1]⟩]) (.seq (.reg false [⟨some 54,.mv (.t 0),none,[]⟩,⟨some 55,.mv (.t 14),none,[]⟩,⟨some 56,.mv (.t 0),none,[]⟩,⟨some 57,.mv (.t 14),none,[]⟩,⟨some 58,.ix 1 (.t
  56) (.t 57),none,[2,3]⟩,⟨some 59,.load false 1 (.t 58),none,[4]⟩,⟨some 60,.mv (.t 7),none,[]⟩,⟨some 61,.mv (.t 8),none,[]⟩,⟨some 62,.call 50 [(.t 59),(.t 60),(.t 61)],none,[5,6,7]⟩,⟨some 53,.mv (.t 62),none,[8]⟩,⟨some
  63,.ext (.t 53) 0,none,[9]⟩,⟨some 64,.ext (.t 53) 1,none,[9]⟩,⟨some 65,.ix 1 (.t 54) (.t 55),none,[0,1,0,1,2,3,4,5,6,7,8,9,10]⟩,⟨none,.store 1 (.t 65) (.t 63),none,[12,10,8,0,1,2,3,4,5,6,7,8,9,10]⟩,⟨some 8,.mv (.t
  64),none,[11,13,0,1,2,3,4,5,6,7,8,9,10,11,12,13]⟩]) (.seq (.reg false [⟨some 66,.mv (.t 8),none,[]⟩,⟨some 67,.conv .i64 (.t 66),none,[0]⟩,⟨some 6,.mv (.t 67),none,[1,0,1]⟩]) .ret))))))
theorem r_nat_take : fnOf Tryd.prog n_nat_take = some (c_nat_take, [.t 6], 68, false) := by kernel_rfl
end
end Go.Proofs.YtbgkkhbgaicmmaaDoor.Am
namespace Go.Proofs.YtbgkkhbgaicmmaaDoor.Am
section
/-- what words stand for, the lowest first -/
def wval : List Nat → Nat
  | [] => 0
  | x :: l => x + 18446744073709551616 * wval l
def small (ws : List Nat) : Prop := ∀ x ∈ ws, x < 18446744073709551616

theorem wval_append : ∀ (a b : List Nat), wval (a ++ b) = wval a + 18446744073709551616 ^ a.length * wval b := by
  intro a
  induction a with
  | nil => intro b; simp [wval]
  | cons x a ih => intro b; simp only [List.cons_append, wval, List.length_cons]; rw [ih, Nat.pow_succ, Nat.mul_add, ← Nat.mul_assoc, Nat.mul_comm 18446744073709551616 (18446744073709551616 ^ a.length)]; omega
theorem wval_zeros : ∀ n, wval (List.replicate n 0) = 0 := by
  intro n
  induction n with
  | zero => rfl
  | succ n ih => rw [List.replicate_succ, wval, ih]
theorem wval_lt : ∀ {ws : List Nat}, small ws → wval ws < 18446744073709551616 ^ ws.length := by
  intro ws
  induction ws with
  | nil => intro _; simp [wval]
  | cons x l ih =>
    intro h
    have h1 := h x (by simp)
    have h2 := ih (fun y hy => h y (by simp [hy]))
    rw [wval, List.length_cons, Nat.pow_succ]
    omega

/-- how many are left when the highest that are 0 are struck, of the first n -/
def trimN (ws : List Nat) : Nat → Nat
  | 0 => 0
  | n + 1 => if ws.getD n 0 = 0 then trimN ws n else n + 1
theorem take_succ_getD (ws : List Nat) (n : Nat) (h : n < ws.length) : ws.take (n + 1) = ws.take n ++ [ws.getD n 0] := by
  rw [List.take_add_one, List.getElem?_eq_getElem h]
  simp [List.getD, List.getElem?_eq_getElem h]
theorem trimN_val (ws : List Nat) : ∀ n, n ≤ ws.length → wval (ws.take (trimN ws n)) = wval (ws.take n) := by
  intro n
  induction n with
  | zero => intro _; rfl
  | succ n ih =>
    intro h
    unfold trimN
    split
    · rename_i h0
      rw [ih (by omega), take_succ_getD _ _ (by omega), wval_append, h0]
      simp [wval]
    · rfl
/-- the highest isn't 0 -/
def top1 (ws : List Nat) : Prop := ∀ k, ws.length = k + 1 → ws.getD k 0 ≠ 0
theorem trimN_top (ws : List Nat) : ∀ n, n ≤ ws.length → top1 (ws.take (trimN ws n)) := by
  intro n
  induction n with
  | zero => intro _ k hk; simp [trimN] at hk
  | succ n ih =>
    intro h
    unfold trimN
    split
    · exact ih (by omega)
    · rename_i h0
      intro k hk
      rw [List.length_take, Nat.min_eq_left h] at hk
      obtain rfl : n = k := by omega
      have e : (ws.take (n + 1)).getD n 0 = ws.getD n 0 := by simp [List.getD]
      rw [e]
      exact h0

theorem small.take {ws : List Nat} (h : small ws) (n : Nat) : small (ws.take n) := fun x hx => h x (List.mem_of_mem_take hx)

theorem top1_zero {ws : List Nat} (h : small ws) (ht : top1 ws) (h0 : wval ws = 0) : ws = [] := by
  rcases ws.eq_nil_or_concat with rfl | ⟨l, x, rfl⟩
  · rfl
  · exfalso
    have := ht l.length (by simp)
    simp at this
    simp [wval_append, wval] at h0
    rcases Nat.mul_eq_zero.1 h0.2 with h | h
    · exact absurd h (Nat.pos_iff_ne_zero.1 (Nat.pow_pos (by decide)))
    · exact this h

/-- words are what they stand for -/
theorem words_eq : ∀ {a b : List Nat}, small a → small b → top1 a → top1 b → wval a = wval b → a = b := by
  intro a
  induction a with
  | nil => intro b _ hb _ tb h; exact (top1_zero hb tb h.symm).symm
  | cons x a ih =>
    intro b ha hb ta tb h
    cases b with
    | nil => exact absurd (top1_zero ha ta h) (by simp)
    | cons y b =>
      have h1 := ha x (by simp)
      have h2 := hb y (by simp)
      simp only [wval] at h
      have e : x = y := by omega
      subst e
      have e2 : wval a = wval b := by omega
      have e3 : a = b := ih (fun z hz => ha z (by simp [hz])) (fun z hz => hb z (by simp [hz])) (fun k hk => by have := ta (k + 1) (by simp [hk]); simpa using this) (fun k hk => by have := tb (k + 1) (by simp [hk]); simpa using this) e2
      rw [e3]

/-- moved up by less than a word, with what comes from below -/
def movedL (k : Nat) : Nat → List Nat → List Nat
  | c, [] => [c]
  | c, x :: l => ((x * 2 ^ k) % 18446744073709551616 + c) :: movedL k (x * 2 ^ k / 18446744073709551616) l
theorem movedL_len (k : Nat) : ∀ (l : List Nat) (c : Nat), (movedL k c l).length = l.length + 1 := by
  intro l
  induction l with
  | nil => intro c; rfl
  | cons x l ih => intro c; simp [movedL, ih]
theorem movedL_val (k : Nat) : ∀ (l : List Nat) (c : Nat), wval (movedL k c l) = wval l * 2 ^ k + c := by
  intro l
  induction l with
  | nil => intro c; simp [movedL, wval]
  | cons x l ih =>
    intro c
    rw [movedL, wval, ih, wval]
    have := Nat.div_add_mod (x * 2 ^ k) 18446744073709551616
    rw [Nat.add_mul, Nat.mul_add, Nat.mul_assoc]
    omega
theorem movedL_small {k : Nat} (hk : k < 64) : ∀ {l : List Nat} {c : Nat}, small l → c < 2 ^ k → small (movedL k c l) := by
  have p64 : (18446744073709551616 : Nat) = 2 ^ (64 - k) * 2 ^ k := by rw [← Nat.pow_add, show 64 - k + k = 64 by omega]
  intro l
  induction l with
  | nil =>
    intro c _ hc x hx
    simp [movedL] at hx; subst hx
    exact Nat.lt_trans hc (by rw [show (18446744073709551616 : Nat) = 2 ^ 64 by decide]; exact Nat.pow_lt_pow_right (by decide) hk)
  | cons y l ih =>
    intro c h hc x hx
    simp only [movedL, List.mem_cons] at hx
    have hy := h y (by simp)
    rcases hx with rfl | hx
    · rw [p64, Nat.mul_mod_mul_right]
      have : y % 2 ^ (64 - k) < 2 ^ (64 - k) := Nat.mod_lt _ (Nat.pow_pos (by decide))
      calc _ < y % 2 ^ (64 - k) * 2 ^ k + 2 ^ k := by omega
        _ = (y % 2 ^ (64 - k) + 1) * 2 ^ k := by rw [Nat.add_mul, Nat.one_mul]
        _ ≤ _ := Nat.mul_le_mul_right _ this
    · refine ih (fun z hz => h z (by simp [hz])) ?_ x hx
      apply Nat.div_lt_of_lt_mul
      exact Nat.mul_lt_mul_of_pos_right hy (Nat.pow_pos (by decide))

/-- the same, its last word apart -/
def movedB (k : Nat) : Nat → List Nat → List Nat
  | _, [] => []
  | c, x :: l => ((x * 2 ^ k) % 18446744073709551616 + c) :: movedB k (x * 2 ^ k / 18446744073709551616) l
def movedC (k : Nat) : Nat → List Nat → Nat
  | c, [] => c
  | _, x :: l => movedC k (x * 2 ^ k / 18446744073709551616) l
theorem movedL_eq (k : Nat) : ∀ (l : List Nat) (c : Nat), movedL k c l = movedB k c l ++ [movedC k c l] := by
  intro l
  induction l with
  | nil => intro c; rfl
  | cons x l ih => intro c; simp [movedL, movedB, movedC, ih]
theorem movedB_len (k : Nat) (l : List Nat) (c : Nat) : (movedB k c l).length = l.length := by
  have h := movedL_len k l c
  rw [movedL_eq, List.length_append] at h
  simpa using h
theorem movedB_snoc (k : Nat) (x : Nat) : ∀ (l : List Nat) (c : Nat), movedB k c (l ++ [x]) = movedB k c l ++ [(x * 2 ^ k) % 18446744073709551616 + movedC k c l] := by
  intro l
  induction l with
  | nil => intro c; rfl
  | cons y l ih => intro c; simp [movedB, movedC, ih]
theorem movedC_snoc (k : Nat) (x : Nat) : ∀ (l : List Nat) (c : Nat), movedC k c (l ++ [x]) = x * 2 ^ k / 18446744073709551616 := by
  intro l
  induction l with
  | nil => intro c; rfl
  | cons y l ih => intro c; simp [movedC, ih]
theorem moved_lt {k x : Nat} (hx : x < 18446744073709551616) : x * 2 ^ k / 18446744073709551616 < 2 ^ k := by
  apply Nat.div_lt_of_lt_mul
  exact Nat.mul_lt_mul_of_pos_right hx (Nat.pow_pos (by decide))
theorem movedC_lt {k : Nat} : ∀ {l : List Nat} {c : Nat}, small l → c < 2 ^ k → movedC k c l < 2 ^ k := by
  intro l
  induction l with
  | nil => intro c _ hc; exact hc
  | cons x l ih => intro c h hc; exact ih (fun z hz => h z (by simp [hz])) (moved_lt (h x (by simp)))
/-- the bits of what was moved up, and what comes from below -/
theorem or_moved {k x c : Nat} (hk : k < 64) (hc : c < 2 ^ k) : c ||| (x * 2 ^ k) % 18446744073709551616 = (x * 2 ^ k) % 18446744073709551616 + c := by
  have p64 : (18446744073709551616 : Nat) = 2 ^ (64 - k) * 2 ^ k := by rw [← Nat.pow_add, show 64 - k + k = 64 by omega]
  rw [p64, Nat.mul_mod_mul_right, Nat.or_comm, Nat.mul_comm]
  exact (Nat.two_pow_add_eq_or_of_lt hc _).symm
theorem moved_div {k x : Nat} (hk : k ≤ 64) : x * 2 ^ k / 18446744073709551616 = x / 2 ^ (64 - k) := by
  have p64 : (18446744073709551616 : Nat) = 2 ^ (64 - k) * 2 ^ k := by rw [← Nat.pow_add, show 64 - k + k = 64 by omega]
  rw [p64, Nat.mul_div_mul_right _ _ (Nat.pow_pos (by decide))]

/-- so many words are there at least -/
theorem words_le : ∀ {ws : List Nat} {m : Nat}, top1 ws → wval ws < 18446744073709551616 ^ m → ws.length ≤ m := by
  intro ws
  induction ws with
  | nil => intro m _ _; exact Nat.zero_le _
  | cons x l ih =>
    intro m ht h
    cases m with
    | zero =>
      exfalso
      rw [Nat.pow_zero] at h
      rw [wval] at h
      cases l with
      | nil =>
        have := ht 0 rfl
        simp [wval] at this h
        omega
      | cons y l =>
        have hw : wval (y :: l) = 0 := by omega
        have : (y :: l).length ≤ 0 := ih (m := 0) (fun k hk => by have := ht (k + 1) (by simp [hk]); simpa using this) (by rw [hw]; decide)
        simp at this
    | succ m =>
      rw [List.length_cons]
      have : l.length ≤ m := by
        cases l with
        | nil => exact Nat.zero_le _
        | cons y l =>
          refine ih (fun k hk => by have := ht (k + 1) (by simp [hk]); simpa using this) ?_
          rw [wval, Nat.pow_succ] at h
          omega
      omega

theorem wval_range (f : Nat → Nat) (n : Nat) : wval ((List.range (n + 1)).map f) = wval ((List.range n).map f) + 18446744073709551616 ^ n * f n := by
  rw [List.range_succ, List.map_append, wval_append]
  simp [wval]
theorem wval_take (l : List Nat) (n : Nat) : wval (l.take (n + 1)) = wval (l.take n) + 18446744073709551616 ^ n * l.getD n 0 := by
  by_cases h : n < l.length
  · rw [take_succ_getD _ _ h, wval_append, List.length_take, Nat.min_eq_left (Nat.le_of_lt h)]
    simp [wval]
  · rw [List.take_of_length_le (by omega), List.take_of_length_le (by omega)]
    simp [List.getD, List.getElem?_eq_none (show l.length ≤ n by omega)]

/-- the carry into word n -/
def carryW (a b : List Nat) : Nat → Nat
  | 0 => 0
  | n + 1 => (a.getD n 0 + b.getD n 0 + carryW a b n) / 18446744073709551616
def addW (a b : List Nat) (n : Nat) : Nat := (a.getD n 0 + b.getD n 0 + carryW a b n) % 18446744073709551616

theorem small.getD {l : List Nat} (h : small l) (n : Nat) : l.getD n 0 < 18446744073709551616 := by
  by_cases hn : n < l.length
  · rw [List.getD, List.getElem?_eq_getElem hn]; exact h _ (List.getElem_mem hn)
  · simp [List.getD, List.getElem?_eq_none (show l.length ≤ n by omega)]
theorem carryW_le {a b : List Nat} (ha : small a) (hb : small b) : ∀ n, carryW a b n ≤ 1 := by
  intro n
  induction n with
  | zero => exact Nat.zero_le _
  | succ n ih =>
    have h1 := ha.getD n
    have h2 := hb.getD n
    simp only [carryW]
    omega
theorem addW_val (a b : List Nat) : ∀ n, wval ((List.range n).map (addW a b)) + 18446744073709551616 ^ n * carryW a b n = wval (a.take n) + wval (b.take n) := by
  intro n
  induction n with
  | zero => simp [wval, carryW]
  | succ n ih =>
    rw [wval_range, wval_take, wval_take]
    have := Nat.div_add_mod (a.getD n 0 + b.getD n 0 + carryW a b n) 18446744073709551616
    simp only [addW, carryW]
    rw [Nat.pow_succ]
    generalize 18446744073709551616 ^ n = P at *
    generalize (a.getD n 0 + b.getD n 0 + carryW a b n) / 18446744073709551616 = q at *
    generalize (a.getD n 0 + b.getD n 0 + carryW a b n) % 18446744073709551616 = r at *
    have e : P * (18446744073709551616 * q + r) = P * a.getD n 0 + P * b.getD n 0 + P * carryW a b n := by rw [this]; simp [Nat.mul_add]
    rw [Nat.mul_add, ← Nat.mul_assoc] at e
    omega

/-- the borrow into word n -/
def borrowW (a b : List Nat) : Nat → Nat
  | 0 => 0
  | n + 1 => if a.getD n 0 < b.getD n 0 + borrowW a b n then 1 else 0
def subW (a b : List Nat) (n : Nat) : Nat := (a.getD n 0 + 18446744073709551616 - b.getD n 0 - borrowW a b n) % 18446744073709551616
theorem borrowW_le (a b : List Nat) : ∀ n, borrowW a b n ≤ 1 := by
  intro n
  cases n with
  | zero => exact Nat.zero_le _
  | succ n => simp only [borrowW]; split <;> omega
theorem subW_val {a b : List Nat} (ha : small a) (hb : small b) : ∀ n, wval ((List.range n).map (subW a b)) + wval (b.take n) = wval (a.take n) + 18446744073709551616 ^ n * borrowW a b n := by
  intro n
  induction n with
  | zero => simp [wval, borrowW]
  | succ n ih =>
    rw [wval_range, wval_take, wval_take]
    have h1 := ha.getD n
    have h2 := hb.getD n
    have h3 := borrowW_le a b n
    have e : subW a b n + b.getD n 0 + borrowW a b n = a.getD n 0 + 18446744073709551616 * borrowW a b (n + 1) := by
      simp only [subW, borrowW]
      split <;> omega
    rw [Nat.pow_succ, Nat.mul_assoc]
    generalize 18446744073709551616 ^ n = P at *
    have e2 : P * subW a b n + P * b.getD n 0 + P * borrowW a b n = P * a.getD n 0 + P * (18446744073709551616 * borrowW a b (n + 1)) := by rw [← Nat.mul_add, ← Nat.mul_add, e, Nat.mul_add]
    omega
theorem range_small {f : Nat → Nat} (h : ∀ i, f i < 18446744073709551616) (n : Nat) : small ((List.range n).map f) := by
  intro x hx
  obtain ⟨i, _, rfl⟩ := List.mem_map.1 hx
  exact h i
theorem addW_lt (a b : List Nat) (i : Nat) : addW a b i < 18446744073709551616 := Nat.mod_lt _ (by decide)
theorem subW_lt (a b : List Nat) (i : Nat) : subW a b i < 18446744073709551616 := Nat.mod_lt _ (by decide)

theorem shorter_lt {a b : List Nat} (ha : small a) (hb : top1 b) (h : a.length < b.length) : wval a < wval b := by
  refine Nat.lt_of_lt_of_le (wval_lt ha) ?_
  apply Nat.le_of_not_lt
  intro hlt
  have := words_le hb hlt
  omega
/-- from the highest on, the first that are unlike tell -/
def cmpN (a b : List Nat) : Nat → Int
  | 0 => 0
  | n + 1 => if a.getD n 0 < b.getD n 0 then -1 else if b.getD n 0 < a.getD n 0 then 1 else cmpN a b n
theorem take_lt {l : List Nat} (h : small l) (n : Nat) : wval (l.take n) < 18446744073709551616 ^ n := by
  have := wval_lt (h.take n)
  rw [List.length_take] at this
  exact Nat.lt_of_lt_of_le this (Nat.pow_le_pow_right (by decide) (Nat.min_le_left _ _))
theorem cmpN_val {a b : List Nat} (ha : small a) (hb : small b) : ∀ n, cmpN a b n = if wval (a.take n) < wval (b.take n) then -1 else if wval (b.take n) < wval (a.take n) then 1 else 0 := by
  intro n
  induction n with
  | zero => simp [cmpN, wval]
  | succ n ih =>
    rw [wval_take, wval_take]
    have h1 := take_lt ha n
    have h2 := take_lt hb n
    simp only [cmpN]
    generalize 18446744073709551616 ^ n = P at *
    generalize a.getD n 0 = x at *
    generalize b.getD n 0 = y at *
    by_cases hxy : x < y
    · rw [if_pos hxy, if_pos]
      have : P * (x + 1) ≤ P * y := Nat.mul_le_mul_left _ hxy
      rw [Nat.mul_add] at this
      omega
    · rw [if_neg hxy]
      by_cases hyx : y < x
      · have : P * (y + 1) ≤ P * x := Nat.mul_le_mul_left _ hyx
        rw [Nat.mul_add] at this
        rw [if_pos hyx, if_neg (by omega), if_pos (by omega)]
      · obtain rfl : x = y := by omega
        rw [if_neg hyx, ih]
        simp only [Nat.add_lt_add_iff_right]
/-- less, the same, more -/
def cmpZ (m n : Nat) : Int := if m < n then -1 else if n < m then 1 else 0
end
end Go.Proofs.YtbgkkhbgaicmmaaDoor.Am
namespace Go.Proofs.YtbgkkhbgaicmmaaDoor.Am
section
open Go.RowKit
/-- words, as data -/
def W (ws : List Nat) : D := .sl ws.length (ws.map fun x : Nat => .int .u64 x)

/-- the words of a number -/
def wordsF : Nat → Nat → List Nat
  | 0, _ => []
  | f + 1, n => if n = 0 then [] else (n % 18446744073709551616) :: wordsF f (n / 18446744073709551616)
def words (n : Nat) : List Nat := wordsF n n

theorem wordsF_ok : ∀ (f n : Nat), n ≤ f → wval (wordsF f n) = n ∧ small (wordsF f n) ∧ top1 (wordsF f n)
  | 0, n, h => by
    obtain rfl : n = 0 := by omega
    exact ⟨rfl, by simp [small, wordsF], by intro k hk; simp [wordsF] at hk⟩
  | f + 1, n, h => by
    by_cases h0 : n = 0
    · subst h0
      simp only [wordsF, if_true]
      exact ⟨rfl, by simp [small], by intro k hk; simp at hk⟩
    · obtain ⟨h1, h2, h3⟩ := wordsF_ok f (n / 18446744073709551616) (by omega)
      simp only [wordsF, if_neg h0]
      refine ⟨by simp only [wval, h1]; omega, fun x hx => ?_, fun k hk => ?_⟩
      · rcases List.mem_cons.1 hx with rfl | hx
        · omega
        · exact h2 x hx
      · cases hl : wordsF f (n / 18446744073709551616) with
        | nil =>
          rw [hl] at h1 hk
          simp [wval] at h1 hk
          subst hk
          simp; omega
        | cons y r =>
          rw [hl] at hk h3
          simp at hk
          subst hk
          have := h3 r.length rfl
          simpa using this
theorem words_val (n : Nat) : wval (words n) = n := (wordsF_ok n n (Nat.le_refl _)).1
theorem words_small (n : Nat) : small (words n) := (wordsF_ok n n (Nat.le_refl _)).2.1
theorem words_top (n : Nat) : top1 (words n) := (wordsF_ok n n (Nat.le_refl _)).2.2
theorem words_of {ws : List Nat} (h : small ws) (ht : top1 ws) : words (wval ws) = ws := words_eq (words_small _) h (words_top _) ht (words_val _)
theorem words_nil {n : Nat} : words n = [] ↔ n = 0 := by
  constructor
  · intro h; have := words_val n; rw [h] at this; exact this.symm
  · rintro rfl; rfl

/-- a number -/
def natW (n : Nat) : D := W (words n)
theorem natW_of {ws : List Nat} (h : small ws) (ht : top1 ws) : natW (wval ws) = W ws := by rw [natW, words_of h ht]
theorem natW_zero : natW 0 = .sl 0 [] := rfl
/-- how many words -/
def size (n : Nat) : Nat := (words n).length

theorem clone64_ok (n : Nat) (l : List D) (hl : l.length = n) (hn : n ≤ 4000000000) : Eqn Tryd.prog n_slices_Clone_uint64_uint64 [.d (.sl n l)] [] (.d (.sl n l)) [] := by
  refine Eqn.pure r_slices_Clone_uint64_uint64 (plain_d _) ?_
  simp only [c_slices_Clone_uint64_uint64]
  rcases Nat.eq_zero_or_pos n with rfl | h0
  · have : l = [] := List.eq_nil_of_length_eq_zero hl
    subst this
    refine AW.empty 0 rfl ?_ ?_
    · simp
      refine G0 ?_; try with_reducible exact tt
      refine AW.cond rfl (fun h => ?_) (fun h => ?_)
      · refine G0 ?_; try with_reducible exact tt
        exact Sub1.nil
      · simp at h
    · simp
      refine G0 ?_; try with_reducible exact tt
      refine AW.cond rfl (fun h => ?_) (fun h => ?_)
      · simp at h
      · refine G0 ?_; try with_reducible exact tt
        exact Sub1.sl0
  · refine G1 h0 ?_; try with_reducible exact tt
    refine AW.cond rfl (fun h => ?_) (fun h => ?_)
    · simp at h
    · refine G0 ?_; try with_reducible exact tt
      have h1 : ¬ n = 0 := by omega
      simp [h1, hl]
      refine need.of (by omega) ?_
      refine AW.freeze 0 1 ⟨55, l.map .d⟩ l (by simp) rfl ?_
      simp
      refine G0 ?_; try with_reducible exact tt
      have : l.take n = l := List.take_of_length_le (by omega)
      simp [this]

theorem W_get {ws : List Nat} {k : Nat} (h : k < ws.length) : ws[k] = ws.getD k 0 := by simp [List.getD, h]

theorem trimmed_ok (ws : List Nat) (hs : small ws) (hn : ws.length ≤ 4000000000) : Eqn Tryd.prog n_nat_trimmed [.d (W ws)] [] (.d (.agg [natW (wval ws)])) [] := by
  refine Eqn.pure r_nat_trimmed (plain_d _) ?_
  simp only [c_nat_trimmed, W]
  refine G0 ?_; try with_reducible exact tt
  refine AW.loopT (α := Nat) 1 (fun m => [(3, .d (.int .i64 (m : Int)))]) (fun _ => []) (fun m => m ≤ ws.length ∧ trimN ws m = trimN ws ws.length) (fun m => m) ws.length ?_ ?_ ⟨Nat.le_refl _, rfl⟩ ?_ ?_ ?_
  · simp
  · simp
  · simp
  · simp
  rintro m ⟨hm, ht⟩
  simp
  have fin : ∀ k, k = trimN ws ws.length → W (ws.take k) = natW (wval ws) := by
    rintro k rfl
    have := natW_of (hs.take (trimN ws ws.length)) (trimN_top ws _ (Nat.le_refl _))
    rw [← this, trimN_val _ _ (Nat.le_refl _), List.take_length]
  cases m with
  | zero =>
    refine G0 ?_; try with_reducible exact tt
    refine AW.cond rfl (fun h => ?_) (fun h => ?_)
    · simp at h
    refine G0 ?_; try with_reducible exact tt
    refine Sub1.of ?_
    rw [← fin 0 ht]
    simp [W]
  | succ m =>
    have hm' : m < ws.length := hm
    have hp : (0 : Int) < (m : Int) + 1 := by omega
    have e : (m : Int) + 1 - 1 = m := by omega
    have ew : IntKind.i64.wrap (m : Int) = m := w64 (by omega) (by omega)
    refine G1 (fs hp (fs e (fs ew hm'))) ?_; try with_reducible exact tt
    refine AW.cond rfl (fun h => ?_) (fun h => ?_)
    · simp at h
      refine G1 (fs hp (fs e ew)) ?_; try with_reducible exact tt
      refine ⟨m, ⟨by omega, ?_⟩, ?_⟩
      · rw [← ht, trimN, if_pos]
        rw [← W_get hm']; omega
      · simp
    · simp at h
      refine G0 ?_; try with_reducible exact tt
      have hk : m + 1 = trimN ws ws.length := by
        rw [← ht, trimN, if_neg]
        rw [← W_get hm']; omega
      refine G0 ?_; try with_reducible exact tt
      refine Sub1.of ?_
      rw [← fin _ hk]
      simp [W]
      omega

theorem of_ok (ws : List Nat) (hs : small ws) (hn : ws.length ≤ 4000000000) : Eqn Tryd.prog n_nat_Of [.d (W ws)] [] (.d (.agg [natW (wval ws)])) [] := by
  refine Eqn.pure r_nat_Of (plain_d _) ?_
  simp only [c_nat_Of, W]
  refine G0 ?_; try with_reducible exact tt
  refine CallS.pu (clone64_ok _ (ws.map fun x : Nat => .int .u64 x) (by simp) hn) (R0 ?_); try with_reducible exact tt
  refine CallS.pu (trimmed_ok ws hs hn) (R0 ?_); try with_reducible exact tt

theorem zero_ok (n : Nat) : Eqn Tryd.prog n_nat_Nat_Zero [.d (.agg [natW n])] [] (.d (.bool (n == 0))) [] := by
  refine Eqn.pure r_nat_Nat_Zero (plain_d _) ?_
  simp only [c_nat_Nat_Zero, natW, W]
  refine G0 ?_; try with_reducible exact tt
  refine Sub1.bool ?_
  rw [Bool.eq_iff_iff]
  simp [words_nil]

theorem size_lt {m n : Nat} (h : size m < size n) : m < n := by
  have := shorter_lt (words_small m) (words_top n) h
  rwa [words_val, words_val] at this

theorem cmp_ok (m n : Nat) (hm : size m ≤ 1000000) (hn : size n ≤ 1000000) : Eqn Tryd.prog n_nat_Cmp [.d (.agg [natW m]), .d (.agg [natW n])] [] (.d (.int .i64 (cmpZ m n))) [] := by
  refine Eqn.pure r_nat_Cmp (plain_d _) ?_
  unfold size at hm hn
  have sa := words_small m
  have sb := words_small n
  simp only [c_nat_Cmp, natW, W]
  have hz : cmpZ m n = if (words m).length < (words n).length then -1 else if (words n).length < (words m).length then 1 else cmpN (words m) (words n) (words m).length := by
    split
    · rename_i h; rw [cmpZ, if_pos (size_lt h)]
    · split
      · rename_i h; have := size_lt h; rw [cmpZ, if_neg (by omega), if_pos this]
      · have := cmpN_val sa sb (words m).length
        rw [List.take_length, show (words m).length = (words n).length by omega, List.take_length, words_val, words_val] at this
        rw [show (words m).length = (words n).length by omega, this]
        rfl
  rw [hz]
  clear hz
  generalize words m = xs at *
  generalize words n = ys at *
  by_cases hl : xs.length = ys.length
  · refine G1 hl ?_; try with_reducible exact tt
    refine AW.cond rfl (fun h => ?_) (fun h => ?_)
    · simp [w64] at h
    refine G1 hl ?_; try with_reducible exact tt
    refine AW.loopT (α := Nat) 2 (fun m => [(6, .d (.int .i64 ((m : Int) - 1)))]) (fun _ => []) (fun m => m ≤ ys.length ∧ cmpN xs ys m = cmpN xs ys ys.length) (fun m => m) ys.length ?_ ?_ ⟨Nat.le_refl _, rfl⟩ ?_ ?_ ?_
    · simp
    · simp
    · simp [hl]
    · simp
    rintro m ⟨hm', hc⟩
    simp
    cases m with
    | zero =>
      refine G0 ?_; try with_reducible exact tt
      refine AW.cond rfl (fun h => ?_) (fun h => ?_)
      · simp at h
      refine G0 ?_; try with_reducible exact tt
      refine Sub1.int ?_
      rw [← hc]; rfl
    | succ m =>
      have h1 : m < xs.length := by omega
      have h2 : m < ys.length := hm'
      have e : (m : Int) + 1 - 1 = m := by omega
      have ew : IntKind.i64.wrap ((m : Int) - 1) = (m : Int) - 1 := w64 (by omega) (by omega)
      rw [cmpN, ← W_get h1, ← W_get h2] at hc
      refine G1 (fs e (fs h1 h2)) ?_; try with_reducible exact tt
      refine AW.cond rfl (fun h => ?_) (fun h => ?_)
      · refine G1 (fs e (fs h1 h2)) ?_; try with_reducible exact tt
        refine AW.cond rfl (fun h => ?_) (fun h => ?_)
        · simp at h
          refine G0 ?_; try with_reducible exact tt
          refine Sub1.int ?_
          rw [if_pos h] at hc
          exact hc
        · simp at h
          rw [if_neg (by omega)] at hc
          refine G0 ?_; try with_reducible exact tt
          refine AW.cond rfl (fun h => ?_) (fun h => ?_)
          · simp at h
            refine G0 ?_; try with_reducible exact tt
            refine Sub1.int ?_
            rw [if_pos h] at hc
            exact hc
          · simp at h
            rw [if_neg (by omega)] at hc
            refine G1 ew ?_; try with_reducible exact tt
            exact ⟨m, ⟨by omega, hc⟩, by simp⟩
      · simp at h
  · refine G0 ?_; try with_reducible exact tt
    refine AW.cond rfl (fun h => ?_) (fun h => ?_)
    · refine G0 ?_; try with_reducible exact tt
      refine Sub1.int ?_
      split <;> omega
    · simp at h
      omega
end
end Go.Proofs.YtbgkkhbgaicmmaaDoor.Am
namespace Go.Proofs.YtbgkkhbgaicmmaaDoor.Am
section
open Go.RowKit
/-- words, as cells -/
abbrev U (ws : List Nat) : List V := ws.map fun x : Nat => V.d (.int .u64 x)

theorem add64_ok (x y c s d : Nat) (hx : x < 18446744073709551616) (hy : y < 18446744073709551616) (hc : c ≤ 1) (hs : s < 18446744073709551616) (e : x + y + c = s + 18446744073709551616 * d) : Eqn Tryd.prog n_math_bits_Add64 [.d (.int .u64 x), .d (.int .u64 y), .d (.int .u64 c)] [] (.tup [.d (.int .u64 s), .d (.int .u64 d)]) [] := by
  refine Eqn.extern x_math_bits_Add64 (by kernel_rfl) (by kernel_rfl) (by kernel_rfl) (e := add64Entry) (by kernel_rfl) rfl fun m vs h => ?_
  obtain ⟨v1, r1, rfl, h1, h⟩ := V.reps_cons'.1 h
  obtain ⟨v2, r2, rfl, h2, h⟩ := V.reps_cons'.1 h
  obtain ⟨v3, r3, rfl, h3, h⟩ := V.reps_cons'.1 h
  simp at h; subst h
  rw [V.rep_int] at h1 h2 h3
  subst h1 h2 h3
  have := run_add64 (P := Tryd.prog) x y c (by omega) (by omega) (by omega) (by omega) m.w
  refine ⟨_, this, ?_⟩
  unfold V.rep
  refine ⟨[.int .u64 (((x : Int) + y + c) % 18446744073709551616), .int .u64 (((x : Int) + y + c) / 18446744073709551616)], rfl, ?_⟩
  simp only [V.reps_cons, V.rep_int, V.reps_nil, and_true]
  constructor <;> congr 1 <;> omega

theorem sub64_ok (x y c s d : Nat) (hx : x < 18446744073709551616) (hy : y < 18446744073709551616) (hc : c ≤ 1) (hs : s < 18446744073709551616) (e : x + 18446744073709551616 * d = s + y + c) : Eqn Tryd.prog n_math_bits_Sub64 [.d (.int .u64 x), .d (.int .u64 y), .d (.int .u64 c)] [] (.tup [.d (.int .u64 s), .d (.int .u64 d)]) [] := by
  refine Eqn.extern x_math_bits_Sub64 (by kernel_rfl) (by kernel_rfl) (by kernel_rfl) (e := sub64Entry) (by kernel_rfl) rfl fun m vs h => ?_
  obtain ⟨v1, r1, rfl, h1, h⟩ := V.reps_cons'.1 h
  obtain ⟨v2, r2, rfl, h2, h⟩ := V.reps_cons'.1 h
  obtain ⟨v3, r3, rfl, h3, h⟩ := V.reps_cons'.1 h
  simp at h; subst h
  rw [V.rep_int] at h1 h2 h3
  subst h1 h2 h3
  have := run_sub64 (P := Tryd.prog) x y c hc m.w
  refine ⟨_, this, ?_⟩
  unfold V.rep
  refine ⟨[.int .u64 s, .int .u64 d], ?_, by simp only [V.reps_cons, V.rep_int, V.reps_nil, and_true]⟩
  congr 4
  · omega
  · congr 2
    split <;> omega

theorem addW_eq (a b : List Nat) (i : Nat) : a.getD i 0 + b.getD i 0 + carryW a b i = addW a b i + 18446744073709551616 * carryW a b (i + 1) := by
  rw [addW, carryW]; exact (Nat.mod_add_div _ _).symm
theorem W_out {ws : List Nat} {k : Nat} (h : ¬ k < ws.length) : ws.getD k 0 = 0 := by simp [List.getD, show ws.length ≤ k by omega]
theorem plain_tup (l : List D) : (V.tup (l.map .d)).plain := by
  have h1 : V.lowl 0 (l.map V.d) = true := by induction l <;> simp_all [V.lowl, V.low]
  have h2 : ∀ θ, V.rens θ (l.map V.d) = l.map V.d := fun θ => by induction l <;> simp_all [V.rens, V.ren]
  exact ⟨by simp [V.low, h1], fun θ => by simp [V.ren, h2]⟩

/-- a row that is being filled -/
def rowV (f : Nat → D) (n i : Nat) : List V := (List.range i).map (fun k => V.d (f k)) ++ List.replicate (n - i) (.d (.int .u64 0))
@[simp] theorem rowV_length (f : Nat → D) (n i : Nat) : (rowV f n i).length = i + (n - i) := by simp [rowV]
theorem out0 (n : Nat) (f : Nat → D) : List.replicate n (V.d (.int .u64 0)) = rowV f n 0 := by simp [rowV]
theorem rowV_set {f : Nat → D} {n i : Nat} (h : i < n) : (rowV f n i).set i (.d (f i)) = rowV f n (i + 1) := by
  obtain ⟨k, rfl⟩ : ∃ k, n = i + k + 1 := ⟨n - i - 1, by omega⟩
  rw [rowV, rowV, List.set_append_right _ _ (by simp), List.range_succ, List.map_append, List.append_assoc]
  congr 1
  simp only [List.length_map, List.length_range, Nat.sub_self]
  rw [show i + k + 1 - i = k + 1 by omega, show i + k + 1 - (i + 1) = k by omega]
  simp [List.replicate_succ]
@[simp] theorem lowl_row (n : Nat) (f : Nat → D) (k i : Nat) : V.lowl n (rowV f k i) = true := by
  have h1 : ∀ l : List D, V.lowl n (l.map V.d) = true := fun l => by induction l <;> simp_all [V.lowl, V.low]
  have : rowV f k i = ((List.range i).map f ++ List.replicate (k - i) (D.int .u64 0)).map .d := by simp [rowV]
  rw [this, h1]
@[simp] theorem subs_refl (l : List V) : Subs l l ↔ True := iff_true_intro (Subs.refl l)
theorem rowV_fin {f : Nat → D} {n : Nat} {z : D} : (rowV f (n + 1) n).set n (.d z) = ((List.range n).map f ++ [z]).map .d := by
  rw [rowV, List.set_append_right _ _ (by simp)]
  simp
theorem rowV_end {f : Nat → D} {n : Nat} : rowV f n n = ((List.range n).map f).map .d := by simp [rowV]

theorem plain_tup2 (a b : D) : (V.tup [.d a, .d b]).plain := plain_tup [a, b]
theorem plain_tup3 (a b c : D) : (V.tup [.d a, .d b, .d c]).plain := plain_tup [a, b, c]

theorem add_ok (m n : Nat) (hm : size m ≤ 1000000) (hn : size n ≤ 1000000) : Eqn Tryd.prog n_nat_Add [.d (.agg [natW m]), .d (.agg [natW n])] [] (.d (.agg [natW (m + n)])) [] := by
  refine Eqn.pure r_nat_Add (plain_d _) ?_
  -- the longer one, the other one
  obtain ⟨A, B, hAB, hsA, hsB, hle, hsum, hca, hcb⟩ : ∃ A B : List Nat, (A, B) = (if (words m).length < (words n).length then (words n, words m) else (words m, words n)) ∧ small A ∧ small B ∧ B.length ≤ A.length ∧ wval A + wval B = m + n ∧ A.length ≤ 1000000 ∧ B.length ≤ 1000000 := by
    unfold size at hm hn
    by_cases h : (words m).length < (words n).length
    · exact ⟨words n, words m, by rw [if_pos h], words_small _, words_small _, by omega, by rw [words_val, words_val]; omega, by omega, by omega⟩
    · exact ⟨words m, words n, by rw [if_neg h], words_small _, words_small _, by omega, by rw [words_val, words_val], by omega, by omega⟩
  simp only [c_nat_Add, natW, W]
  generalize words m = xs at *
  generalize words n = ys at *
  unfold size at hm hn
  refine AW.seq (AW.reg mix ?_)
  (simp -implicitDefEqProofs; try simp (disch := omega) only [w64, wu64])
  refine AW.cut 3 [] [(0, ⟨t_nat_Nat, [.d (W A)]⟩), (1, ⟨t_nat_Nat, [.d (W B)]⟩)] ?_ ?_ ?_ ?_
  · simp
  · simp
  · refine G0 ?_; try with_reducible exact tt
    refine AW.cond rfl (fun h => ?_) (fun h => ?_)
    · simp at h
      rw [if_pos h] at hAB
      cases hAB
      refine G0 ?_; try with_reducible exact tt
      simp [W]
    · simp at h
      rw [if_neg (by omega)] at hAB
      cases hAB
      refine G0 ?_; try with_reducible exact tt
      simp [W]
  clear hAB hm hn
  simp [W]
  refine G0 ?_; try with_reducible exact tt

  rw [out0 _ (fun k => .int .u64 (addW A B k : Nat))]
  refine G0 ?_; try with_reducible exact tt
  refine AW.loopT (α := Nat) 4 (fun i => [(27, .d (.int .i64 (i : Int))), (6, .d (.int .u64 (carryW A B i : Nat)))]) (fun i => [(3, ⟨55, rowV (fun k => .int .u64 (addW A B k : Nat)) (A.length + 1) i⟩)]) (fun i => i ≤ A.length) (fun i => A.length - i) 0 ?_ ?_ (Nat.zero_le _) ?_ ?_ ?_
  · simp
  · simp
  · simp [carryW]
  · simp
  rintro i hi
  simp
  by_cases h : i = A.length
  · subst h
    refine G0 ?_; try with_reducible exact tt
    refine AW.cond rfl (fun h => ?_) (fun h => ?_)
    · simp at h
    refine AW.exit ?_
    (try (simp -implicitDefEqProofs; try simp (disch := omega) only [w64, wu64]))
    repeat (first | refine AW.seq ?_ | refine AW.block ?_)
    refine AW.reg mix ?_
    (simp -implicitDefEqProofs; try simp (disch := omega) only [w64, wu64])
    try refine need.of (by first | omega | kernel_rfl) ?_
    obtain ⟨ws, hl, hr, hv, hs⟩ : ∃ ws : List Nat, ws.length = A.length + 1 ∧ (rowV (fun k => .int .u64 (addW A B k : Nat)) (A.length + 1) A.length).set A.length (.d (.int .u64 (carryW A B A.length : Nat))) = U ws ∧ wval ws = m + n ∧ small ws := by
      refine ⟨(List.range A.length).map (addW A B) ++ [carryW A B A.length], by simp, by rw [rowV_fin]; simp [U], ?_, ?_⟩
      · rw [wval_append, ← hsum]
        have := addW_val A B A.length
        rw [List.take_length, List.take_of_length_le hle] at this
        simp [wval]
        rw [← this]
      · intro x hx
        rcases List.mem_append.1 hx with hx | hx
        · obtain ⟨k, -, rfl⟩ := List.mem_map.1 hx; exact addW_lt _ _ _
        · simp at hx; subst hx; have := carryW_le hsA hsB A.length; omega
    rw [hr]
    refine AW.freeze 3 1 ⟨55, _⟩ (ws.map fun x : Nat => .int .u64 x) (by rfl) (by simp) ?_
    simp [← hl, List.take_of_length_le]
    refine G0 ?_; try with_reducible exact tt
    refine CallS.pu (trimmed_ok ws hs (by omega)) (R0 ?_); try with_reducible exact tt
    refine Sub1.of ?_
    rw [hv]; rfl
  · have hi' : i < A.length := by omega
    have hp : (i : Int) < A.length := by omega
    have hc := carryW_le hsA hsB i
    have hset := rowV_set (f := fun k => .int .u64 (addW A B k : Nat)) (n := A.length + 1) (i := i) (by omega)
    have ew : IntKind.i64.wrap ((i : Int) + 1) = (i : Int) + 1 := w64 (by omega) (by omega)
    refine G1 (fs hi' hp) ?_; try with_reducible exact tt
    refine AW.cond rfl (fun h => ?_) (fun h => ?_)
    · clear h
      by_cases hb : i < B.length
      · have e : A[i] + B[i] + carryW A B i = addW A B i + 18446744073709551616 * carryW A B (i + 1) := by
          rw [← addW_eq, W_get hi', W_get hb]
        refine G1 (fs hi' (fs hp hb)) ?_; try with_reducible exact tt
        refine AW.cond rfl (fun h => ?_) (fun h => ?_)
        · clear h
          refine G1 (fs hi' (fs hp hb)) ?_; try with_reducible exact tt
          refine CallS.pu (add64_ok _ _ _ (addW A B i) (carryW A B (i + 1)) (hsA _ (List.getElem_mem _)) (hsB _ (List.getElem_mem _)) hc (addW_lt _ _ _) e) (R1 (fs hset ew) ?_); try with_reducible exact tt
          exact ⟨i + 1, by omega, by omega, by simp [wk, ew], by simp [wkH]⟩
        · simp [hb] at h
      · have e : A[i] + 0 + carryW A B i = addW A B i + 18446744073709551616 * carryW A B (i + 1) := by
          rw [← addW_eq, W_get hi', W_out hb]
        refine G1 (fs hi' (fs hp hb)) ?_; try with_reducible exact tt
        refine AW.cond rfl (fun h => ?_) (fun h => ?_)
        · simp [hb] at h
        · clear h
          refine G1 (fs hi' (fs hp hb)) ?_; try with_reducible exact tt
          refine CallS.pu (add64_ok _ 0 _ (addW A B i) (carryW A B (i + 1)) (hsA _ (List.getElem_mem _)) (by omega) hc (addW_lt _ _ _) e) (R1 (fs hset ew) ?_); try with_reducible exact tt
          exact ⟨i + 1, by omega, by omega, by simp [wk, ew], by simp [wkH]⟩
    · simp at h
end
end Go.Proofs.YtbgkkhbgaicmmaaDoor.Am
namespace Go.Proofs.YtbgkkhbgaicmmaaDoor.Am
section
open Go.RowKit
theorem subW_eq {a b : List Nat} (ha : small a) (hb : small b) (i : Nat) : a.getD i 0 + 18446744073709551616 * borrowW a b (i + 1) = subW a b i + b.getD i 0 + borrowW a b i := by
  have h1 := ha.getD i
  have h2 := hb.getD i
  have h3 := borrowW_le a b i
  simp only [subW, borrowW]
  split <;> omega
theorem borrow_end {a b : List Nat} (ha : small a) (hb : small b) (hl : b.length ≤ a.length) (h : wval b ≤ wval a) : wval ((List.range a.length).map (subW a b)) = wval a - wval b := by
  have h1 := subW_val ha hb a.length
  rw [List.take_length, List.take_of_length_le hl] at h1
  have h2 := borrowW_le a b a.length
  have h3 := wval_lt (range_small (subW_lt a b) a.length)
  rw [List.length_map, List.length_range] at h3
  have : borrowW a b a.length = 0 ∨ borrowW a b a.length = 1 := by omega
  rcases this with e | e
  · rw [e] at h1; omega
  · rw [e] at h1; omega
theorem size_le {m n : Nat} (h : m ≤ n) : size m ≤ size n := by
  apply Nat.le_of_not_lt
  intro hlt
  have := size_lt hlt
  omega

theorem sub_ok (m n : Nat) (hm : size m ≤ 1000000) (hle : n ≤ m) : Eqn Tryd.prog n_nat_Sub [.d (.agg [natW m]), .d (.agg [natW n])] [] (.tup [.d (.agg [natW (m - n)]), .d (.int .i64 0)]) [] := by
  refine Eqn.pure r_nat_Sub (plain_tup2 _ _) ?_
  have hs := size_le hle
  simp only [c_nat_Sub]
  refine G0 ?_; try with_reducible exact tt
  refine CallS.pu (cmp_ok m n hm (by omega)) (R0 ?_); try with_reducible exact tt
  have hc : ¬ cmpZ m n < 0 := by unfold cmpZ; split <;> (try split) <;> omega
  refine AW.cond rfl (fun h => ?_) (fun h => ?_)
  · simp [hc] at h
  clear h
  refine G0 ?_; try with_reducible exact tt
  unfold size at hm hs
  obtain ⟨A, hA⟩ : ∃ A, A = words m := ⟨_, rfl⟩
  obtain ⟨B, hB⟩ : ∃ B, B = words n := ⟨_, rfl⟩
  have hsA : small A := hA ▸ words_small m
  have hsB : small B := hB ▸ words_small n
  have hvA : wval A = m := by rw [hA, words_val]
  have hvB : wval B = n := by rw [hB, words_val]
  rw [show natW m = .sl A.length (A.map fun x : Nat => .int .u64 x) by rw [hA]; rfl, show natW n = .sl B.length (B.map fun x : Nat => .int .u64 x) by rw [hB]; rfl]
  rw [← hA, ← hB] at hs
  rw [← hA] at hm
  clear hA hB
  refine G0 ?_; try with_reducible exact tt
  rw [out0 _ (fun k => .int .u64 (subW A B k : Nat))]
  refine AW.loopT (α := Nat) 4 (fun i => [(23, .d (.int .i64 (i : Int))), (7, .d (.int .u64 (borrowW A B i : Nat)))]) (fun i => [(3, ⟨55, rowV (fun k => .int .u64 (subW A B k : Nat)) A.length i⟩)]) (fun i => i ≤ A.length) (fun i => A.length - i) 0 ?_ ?_ (Nat.zero_le _) ?_ ?_ ?_
  · simp
  · simp
  · simp [borrowW]
  · simp
  rintro i hi
  simp
  by_cases h : i = A.length
  · subst h
    refine G0 ?_; try with_reducible exact tt
    refine AW.cond rfl (fun h => ?_) (fun h => ?_)
    · simp at h
    refine AW.exit ?_
    (try (simp -implicitDefEqProofs; try simp (disch := omega) only [w64, wu64]))
    obtain ⟨ws, hl, hr, hv, hs'⟩ : ∃ ws : List Nat, ws.length = A.length ∧ rowV (fun k => .int .u64 (subW A B k : Nat)) A.length A.length = U ws ∧ wval ws = m - n ∧ small ws := by
      refine ⟨(List.range A.length).map (subW A B), by simp, by rw [rowV_end]; simp [U], ?_, range_small (subW_lt A B) _⟩
      rw [← hvA, ← hvB]
      exact borrow_end hsA hsB hs (by omega)
    rw [hr]
    refine AW.freeze 3 1 ⟨55, _⟩ (ws.map fun x : Nat => .int .u64 x) (by rfl) (by simp) ?_
    simp [← hl, List.take_of_length_le]
    refine G0 ?_; try with_reducible exact tt
    refine CallS.pu (trimmed_ok ws hs' (by omega)) (R0 ?_); try with_reducible exact tt
    refine Sub1.of ?_
    rw [hv]
  · have hi' : i < A.length := by omega
    have hp : (i : Int) < A.length := by omega
    have hc := borrowW_le A B i
    have hset := rowV_set (f := fun k => .int .u64 (subW A B k : Nat)) (n := A.length) (i := i) (by omega)
    have ew : IntKind.i64.wrap ((i : Int) + 1) = (i : Int) + 1 := w64 (by omega) (by omega)
    have e := subW_eq hsA hsB i
    refine G1 (fs hi' hp) ?_; try with_reducible exact tt
    refine AW.cond rfl (fun h => ?_) (fun h => ?_)
    · clear h
      by_cases hb : i < B.length
      · rw [← W_get hi', ← W_get hb] at e
        refine G1 (fs hi' (fs hp hb)) ?_; try with_reducible exact tt
        refine AW.cond rfl (fun h => ?_) (fun h => ?_)
        · clear h
          refine G1 (fs hi' (fs hp hb)) ?_; try with_reducible exact tt
          refine CallS.pu (sub64_ok _ _ _ (subW A B i) (borrowW A B (i + 1)) (hsA _ (List.getElem_mem _)) (hsB _ (List.getElem_mem _)) hc (subW_lt _ _ _) e) (R1 (fs hset ew) ?_); try with_reducible exact tt
          exact ⟨i + 1, by omega, by omega, by simp [wk, ew], by simp [wkH]⟩
        · simp [hb] at h
      · rw [← W_get hi', W_out hb] at e
        refine G1 (fs hi' (fs hp hb)) ?_; try with_reducible exact tt
        refine AW.cond rfl (fun h => ?_) (fun h => ?_)
        · simp [hb] at h
        · clear h
          refine G1 (fs hi' (fs hp hb)) ?_; try with_reducible exact tt
          refine CallS.pu (sub64_ok _ 0 _ (subW A B i) (borrowW A B (i + 1)) (hsA _ (List.getElem_mem _)) (by omega) hc (subW_lt _ _ _) e) (R1 (fs hset ew) ?_); try with_reducible exact tt
          exact ⟨i + 1, by omega, by omega, by simp [wk, ew], by simp [wkH]⟩
    · simp at h
end
end Go.Proofs.YtbgkkhbgaicmmaaDoor.Am
namespace Go.Proofs.YtbgkkhbgaicmmaaDoor.Am
section
open Go.RowKit
/-- words moved so far -/
def rowM (k : Nat) (A : List Nat) (i : Nat) : List Nat := movedL k 0 (A.take i) ++ List.replicate (A.length - i) 0
theorem rowM_length (k : Nat) (A : List Nat) (i : Nat) (h : i ≤ A.length) : (rowM k A i).length = A.length + 1 := by
  rw [rowM, List.length_append, movedL_len, List.length_take, List.length_replicate]; omega
theorem rowM_zero (k : Nat) (A : List Nat) : rowM k A 0 = List.replicate (A.length + 1) 0 := by simp [rowM, movedL, List.replicate_succ]
theorem rowM_end (k : Nat) (A : List Nat) : rowM k A A.length = movedL k 0 A := by simp [rowM]
theorem rowM_get (k : Nat) (A : List Nat) (i : Nat) (h : i < A.length) : (rowM k A i).getD i 0 = movedC k 0 (A.take i) := by
  have e : i = (movedB k 0 (A.take i)).length := by rw [movedB_len, List.length_take]; omega
  rw [rowM, movedL_eq, List.append_assoc, List.getD, List.getElem?_append_right (by omega), show i - (movedB k 0 (A.take i)).length = 0 by omega]
  rfl
theorem rowM_set (k : Nat) (A : List Nat) (i : Nat) (h : i < A.length) : ((rowM k A i).set i (A.getD i 0 * 2 ^ k % 18446744073709551616 + movedC k 0 (A.take i))).set (i + 1) (A.getD i 0 * 2 ^ k / 18446744073709551616) = rowM k A (i + 1) := by
  have e : (movedB k 0 (A.take i)).length = i := by rw [movedB_len, List.length_take]; omega
  obtain ⟨r, hr⟩ : ∃ r, A.length = i + r + 1 := ⟨A.length - i - 1, by omega⟩
  rw [rowM, rowM, movedL_eq, movedL_eq, take_succ_getD _ _ h, movedB_snoc, movedC_snoc, hr, show i + r + 1 - i = r + 1 by omega, show i + r + 1 - (i + 1) = r by omega, List.replicate_succ]
  simp only [List.append_assoc, List.cons_append, List.nil_append]
  rw [List.set_append_right _ _ (by omega), List.set_append_right _ _ (by omega), e]
  simp

def cellM (k : Nat) (A : List Nat) (i : Nat) : List V := U (rowM k A i)
@[simp] theorem lowl_U (n : Nat) (l : List Nat) : V.lowl n (U l) = true := by induction l <;> simp_all [U, V.lowl, V.low]

set_option maxHeartbeats 1000000 in
theorem moved_ok (A : List Nat) (k : Nat) (hk : k < 64) (hs : small A) (hn : A.length ≤ 1000000) : Eqn Tryd.prog n_nat_moved [.d (W A), .d (.int .i64 k)] [] (.d (W (movedL k 0 A))) [] := by
  refine Eqn.pure r_nat_moved (plain_d _) ?_
  simp only [c_nat_moved, W]
  refine G0 ?_; try with_reducible exact tt
  rw [show List.replicate (A.length + 1) (V.d (.int .u64 0)) = cellM k A 0 by rw [cellM, rowM_zero]; simp [U]]
  have hlow : ∀ i, V.lowl 1 (cellM k A i) = true := fun i => lowl_U 1 _
  refine AW.loopT (α := Nat) 1 (fun i => [(14, .d (.int .i64 (i : Int)))]) (fun i => [(0, ⟨55, cellM k A i⟩)]) (fun i => i ≤ A.length) (fun i => A.length - i) 0 ?_ ?_ (Nat.zero_le _) ?_ ?_ ?_
  · simp
  · simp
  · simp
  · simp [hlow]
  rintro i hi
  simp
  by_cases h : i = A.length
  · subst h
    refine G0 ?_; try with_reducible exact tt
    refine AW.cond rfl (fun h => ?_) (fun h => ?_)
    · simp at h
    refine AW.exit ?_
    (try (simp -implicitDefEqProofs; try simp (disch := omega) only [w64, wu64]))
    have hl : (movedL k 0 A).length = A.length + 1 := movedL_len _ _ _
    rw [cellM, rowM_end]
    generalize movedL k 0 A = ws at hl
    refine AW.freeze 0 1 ⟨55, _⟩ (ws.map fun x : Nat => .int .u64 x) (by rfl) (by simp) ?_
    simp [← hl, List.take_of_length_le]
    refine G0 ?_; try with_reducible exact tt
  · have hi' : i < A.length := by omega
    have hp : (i : Int) < A.length := by omega
    obtain ⟨c, y, u, hl, hq, hor, hw, hd, hset⟩ : ∃ c z u : Nat, (cellM k A i).length = A.length + 1 ∧ (cellM k A i)[i]? = some (.d (.int .u64 c)) ∧ bits BinOp.or IntKind.u64 (c : Int) (IntKind.u64.wrap ((A[i] : Int) * 2 ^ k)) = (z : Int) ∧
        True ∧ (A[i] : Int) / 2 ^ (64 - k) = (u : Int) ∧ ((cellM k A i).set i (.d (.int .u64 z))).set (i + 1) (.d (.int .u64 u)) = cellM k A (i + 1) := by
      have hl := rowM_length k A i hi
      have hc := movedC_lt (k := k) (l := A.take i) (c := 0) (hs.take i) (Nat.two_pow_pos k)
      have hset := rowM_set k A i hi'
      rw [← W_get hi'] at hset
      refine ⟨movedC k 0 (A.take i), A[i] * 2 ^ k % 18446744073709551616 + movedC k 0 (A.take i), A[i] * 2 ^ k / 18446744073709551616, by simp [cellM, U, hl], ?_, ?_, trivial, ?_, ?_⟩
      · have := rowM_get k A i hi'
        rw [List.getD, List.getElem?_eq_getElem (by omega)] at this
        rw [cellM, U, List.getElem?_map, List.getElem?_eq_getElem (by omega)]
        simp at this
        simp [this]
      · rw [show IntKind.u64.wrap ((A[i] : Int) * 2 ^ k) = ((A[i] * 2 ^ k % 18446744073709551616 : Nat) : Int) by rw [IntKind.wrap_u64, Int.natCast_emod, Int.natCast_mul, Int.natCast_pow]; rfl]
        rw [bits_or_u64_nat _ _ (Nat.lt_of_lt_of_le hc (by rw [show (18446744073709551616 : Nat) = 2 ^ 64 by rfl]; exact Nat.pow_le_pow_right (by decide) (by omega))) (Nat.mod_lt _ (by decide)), or_moved hk hc]
      · rw [moved_div (by omega), Int.natCast_ediv, Int.natCast_pow]; rfl
      · rw [cellM, cellM, ← hset, U, U, List.map_set, List.map_set]
    have hn : ((64 : Int) - k).toNat = 64 - k := by omega
    have e1 : IntKind.i64.wrap ((i : Int) + 1) = (i : Int) + 1 := w64 (by omega) (by omega)
    have e2 : IntKind.i64.wrap ((64 : Int) - k) = (64 : Int) - k := w64 (by omega) (by omega)
    generalize cellM k A i = cm at hl hq hset
    refine G1 (fs hi' hp) ?_; try with_reducible exact tt
    refine AW.cond rfl (fun h => ?_) (fun h => ?_)
    · clear h
      refine G1 (fs hi' (fs hp (fs hl (fs hq (fs hor (fs e1 (fs e2 (fs hn (fs hd hset))))))))) ?_; try with_reducible exact tt
      exact ⟨i + 1, by omega, by omega, by simp [wk], by simp [wkH, hlow]⟩
    · simp at h
end
end Go.Proofs.YtbgkkhbgaicmmaaDoor.Am
namespace Go.Proofs.YtbgkkhbgaicmmaaDoor.Am
section
open Go.RowKit
end
end Go.Proofs.YtbgkkhbgaicmmaaDoor.Am
namespace Go.Proofs.YtbgkkhbgaicmmaaDoor.Am
section
open Go.RowKit
theorem words_one {x : Nat} (h0 : 0 < x) (h : x < 18446744073709551616) : words x = [x] := by
  have := words_of (ws := [x]) (by intro y hy; simp at hy; omega) (by intro k hk; simp at hk; subst hk; simp; omega)
  simpa [wval] using this
theorem small_one {x : Nat} (h : x < 18446744073709551616) : small [x] := by intro y hy; simp at hy; omega

theorem Sub1.tup {l r : List V} (h : Subs l r) : Sub1 (.tup l) (.tup r) := fun m v k => by
  unfold V.rep at k ⊢
  obtain ⟨vs, h1, h2⟩ := k
  exact ⟨vs, h1, h m vs h2⟩
theorem Subs.cons {x y : V} {l r : List V} (h : Sub1 x y) (h' : Subs l r) : Subs (x :: l) (y :: r) := fun m vs k => by
  obtain ⟨v, r, rfl, h1, h2⟩ := V.reps_cons'.1 k
  exact V.reps_cons.2 ⟨h m v h1, h' m r h2⟩
theorem Sub1.nat0 : Sub1 (.d (.agg [.nilsl])) (.d (.agg [natW 0])) := fun m v k => by
  rw [V.rep_d] at k ⊢
  unfold D.rep at k ⊢
  obtain ⟨vs, h1, h2, h3⟩ := k
  refine ⟨vs, h1, h2, ?_⟩
  obtain ⟨u, r, rfl, h4, h5⟩ := D.reps_cons'.1 h3
  have := (V.rep_d (m := m)).1 (Sub1.nil m u (V.rep_d.2 h4))
  exact D.reps_cons.2 ⟨this, h5⟩

theorem cmpZ_lt {m n : Nat} : cmpZ m n < 0 ↔ m < n := by unfold cmpZ; split <;> (try split) <;> omega
theorem div64_small (x y : Nat) (hx : x < 18446744073709551616) (h0 : 0 < y) : Eqn Tryd.prog n_math_bits_Div64 [.d (.int .u64 0), .d (.int .u64 x), .d (.int .u64 y)] [] (.tup [.d (.int .u64 (x / y : Nat)), .d (.int .u64 (x % y : Nat))]) [] := by
  refine Eqn.pure r_math_bits_Div64 (plain_tup2 _ _) ?_
  simp only [c_math_bits_Div64]
  have h1 : ¬ (y : Int) = 0 := by omega
  have h1' : ¬ y = 0 := by omega
  have h2 : ¬ (y : Int) ≤ 0 := by omega
  refine G1 (fs h1 (fs h2 h1')) ?_; try with_reducible exact tt
  refine AW.cond rfl (fun h => ?_) (fun h => ?_)
  · simp [h1'] at h
  refine G1 (fs h1 (fs h2 h1')) ?_; try with_reducible exact tt
  refine AW.cond rfl (fun h => ?_) (fun h => ?_)
  · simp [h1', h2] at h
  refine G1 (fs h1 (fs h2 h1')) ?_; try with_reducible exact tt
  refine AW.cond rfl (fun h => ?_) (fun h => ?_)
  · have hle := Nat.div_le_self x y
    have e1 : IntKind.u64.wrap ((x : Int) / y) = (x : Int) / y := by
      rw [← Int.natCast_ediv]
      generalize x / y = q at *
      exact wu64 (by omega) (by omega)
    have e2 : (x : Int).tmod y = ((x % y : Nat) : Int) := by rw [Int.tmod_eq_emod_of_nonneg (by omega)]; rfl
    refine G1 (fs h1 (fs h2 (fs h1' (fs e1 e2)))) ?_; try with_reducible exact tt
  · simp at h

theorem split_one (x y : Nat) (hx : x < 18446744073709551616) (h0 : 0 < y) (hy : y < 18446744073709551616) : Eqn Tryd.prog n_nat_split [.d (.sl 1 [.int .u64 x]), .d (.int .u64 y)] [] (.tup [.d (.sl 1 [.int .u64 (x / y : Nat)]), .d (.int .u64 (x % y : Nat))]) [] := by
  refine Eqn.pure r_nat_split (plain_tup2 _ _) ?_
  simp only [c_nat_split]
  refine G0 ?_; try with_reducible exact tt
  refine AW.loopT (α := Nat) 1 (fun i => [(8, .d (.int .i64 ((i : Int) - 1))), (7, .d (.int .u64 (if i = 0 then (x % y : Nat) else 0)))]) (fun i => [(0, ⟨55, [.d (.int .u64 (if i = 0 then (x / y : Nat) else 0))]⟩)]) (fun i => i ≤ 1) (fun i => i) 1 ?_ ?_ (Nat.le_refl _) ?_ ?_ ?_
  · simp
  · simp
  · simp
  · simp
  rintro i hi
  simp
  cases i with
  | zero =>
    refine G0 ?_; try with_reducible exact tt
    refine AW.cond rfl (fun h => ?_) (fun h => ?_)
    · simp at h
    refine AW.exit ?_
    (try (simp -implicitDefEqProofs; try simp (disch := omega) only [w64, wu64]))
    refine AW.freeze 0 1 ⟨55, _⟩ [.int .u64 (x / y : Nat)] (by rfl) (by simp) ?_
    simp
    refine G0 ?_; try with_reducible exact tt
  | succ i =>
    obtain rfl : i = 0 := by omega
    refine G0 ?_; try with_reducible exact tt
    refine AW.cond rfl (fun h => ?_) (fun h => ?_)
    · refine G0 ?_; try with_reducible exact tt
      refine CallS.pu (div64_small x y hx h0) (R0 ?_); try with_reducible exact tt
      exact ⟨0, by omega, rfl, by simp, by simp⟩
    · simp at h
end
end Go.Proofs.YtbgkkhbgaicmmaaDoor.Am
namespace Go.Proofs.YtbgkkhbgaicmmaaDoor.Am
section
/-- how many bits -/
def bitsN (n : Nat) : Nat := if n = 0 then 0 else Nat.log2 n + 1
theorem lt_bitsN (n : Nat) : n < 2 ^ bitsN n := by
  unfold bitsN
  split
  · omega
  · exact Nat.lt_log2_self
theorem bitsN_le {n k : Nat} (h : n < 2 ^ k) : bitsN n ≤ k := by
  unfold bitsN
  split
  · omega
  · rename_i h0
    have := (Nat.log2_lt h0).2 h
    omega
/-- the next block's number -/
def moreY (s t : Nat) : Nat := t + (if t / 2 ^ s * 2 ^ s < t then t / 2 ^ s + 1 else t / 2 ^ s)
def shiftY (s t : Nat) : Nat := bitsN t - 1 - 2 * s
structure Pl where
  x : Nat
  shift : Nat
  value : Nat
  reply : Nat
def nextY (s : Nat) (p : Pl) : Pl := if p.reply ≤ p.value + 2 ^ p.shift then ⟨p.x + 1, shiftY s (moreY s p.reply), p.value + 2 ^ p.shift, moreY s p.reply⟩ else ⟨p.x, p.shift, p.value + 2 ^ p.shift, p.reply⟩
def placeY (s : Nat) : Nat → Pl
  | 0 => ⟨0, 0, 0, 2 ^ (2 * s)⟩
  | k + 1 => nextY s (placeY s k)

theorem bitsN_div {n k : Nat} (h : 2 ^ k ≤ n) : bitsN n = k + bitsN (n / 2 ^ k) := by
  have hp := Nat.two_pow_pos k
  have hq : 0 < n / 2 ^ k := Nat.div_pos h hp
  have h1 := lt_bitsN (n / 2 ^ k)
  have h2 : 2 ^ (bitsN (n / 2 ^ k) - 1) ≤ n / 2 ^ k := by
    unfold bitsN
    rw [if_neg (by omega), Nat.add_sub_cancel]
    exact Nat.log2_self_le (by omega)
  have h3 : 0 < bitsN (n / 2 ^ k) := by unfold bitsN; rw [if_neg (by omega)]; omega
  apply Nat.le_antisymm
  · apply bitsN_le
    rw [Nat.pow_add, Nat.mul_comm]
    exact (Nat.div_lt_iff_lt_mul hp).1 h1
  · apply Nat.le_of_not_lt
    intro hlt
    have h4 := lt_bitsN n
    have h5 : 2 ^ bitsN n ≤ 2 ^ (k + (bitsN (n / 2 ^ k) - 1)) := Nat.pow_le_pow_right (by omega) (by omega)
    rw [Nat.pow_add] at h5
    have h6 : 2 ^ k * 2 ^ (bitsN (n / 2 ^ k) - 1) ≤ n := by
      rw [Nat.mul_comm]; exact Nat.le_trans (Nat.mul_le_mul_right _ h2) (Nat.div_mul_le_self _ _)
    omega
theorem bitsN_pos {n : Nat} (h : 0 < n) : 2 ^ (bitsN n - 1) ≤ n ∧ 0 < bitsN n := by
  unfold bitsN
  rw [if_neg (by omega), Nat.add_sub_cancel]
  exact ⟨Nat.log2_self_le (by omega), by omega⟩
end
end Go.Proofs.YtbgkkhbgaicmmaaDoor.Am
namespace Go.Proofs.YtbgkkhbgaicmmaaDoor.Am
section
set_option maxRecDepth 10000
/-- the half digit that is guessed is right: where the search ends -/
theorem half_end {y1 y0 u u1 q r : Nat} (e : q * y1 + r = u) (hle : q * y0 ≤ r * 4294967296 + u1) (hgt : u * 4294967296 + u1 < (q + 1) * (y1 * 4294967296 + y0)) :
    (u * 4294967296 + u1) / (y1 * 4294967296 + y0) = q := by
  have h1 : q * (y1 * 4294967296 + y0) ≤ u * 4294967296 + u1 := by
    rw [Nat.mul_add, ← Nat.mul_assoc, ← e, Nat.add_mul]
    omega
  have hpos : 0 < y1 * 4294967296 + y0 := by
    rcases Nat.eq_zero_or_pos (y1 * 4294967296 + y0) with h | h
    · rw [h] at hgt; omega
    · exact h
  exact Nat.div_eq_of_lt_le h1 hgt
theorem lin (a r u u1 b z : Nat) (e : a + r = u) (hc : r * b + u1 < z) : u * b + u1 < a * b + z := by
  subst e; rw [Nat.add_mul]; omega
/-- and where it goes on -/
theorem half_next {y1 y0 u u1 q r : Nat} (e : q * y1 + r = u) (hu : u < y1 * 4294967296 + y0) (hu1 : u1 < 4294967296) (hc : 4294967296 ≤ q ∨ r * 4294967296 + u1 < q * y0) :
    0 < q ∧ (q - 1) * y1 + (r + y1) = u ∧ u * 4294967296 + u1 < (q - 1 + 1) * (y1 * 4294967296 + y0) := by
  have hq : 0 < q := by
    rcases Nat.eq_zero_or_pos q with h | h
    · subst h; omega
    · exact h
  have e1 : (q - 1) * y1 + y1 = q * y1 := by
    obtain ⟨k, rfl⟩ : ∃ k, q = k + 1 := ⟨q - 1, by omega⟩
    rw [Nat.add_sub_cancel, Nat.add_mul, Nat.one_mul]
  have e2 : q - 1 + 1 = q := by omega
  rw [e2]
  refine ⟨hq, by omega, ?_⟩
  rcases hc with hc | hc
  · have h1 : (y1 * 4294967296 + y0) * 4294967296 ≤ (y1 * 4294967296 + y0) * q := Nat.mul_le_mul_left _ hc
    rw [Nat.mul_comm q]
    obtain ⟨p, hp⟩ : ∃ p, p = (y1 * 4294967296 + y0) * q := ⟨_, rfl⟩
    rw [← hp] at h1 ⊢
    clear hp e1
    omega
  · rw [Nat.mul_add, ← Nat.mul_assoc]
    obtain ⟨a, ha⟩ : ∃ a, a = q * y1 := ⟨_, rfl⟩
    rw [← ha] at e ⊢
    exact lin a r u u1 _ _ e hc
/-- no half digit is wrong where the rest is great -/
theorem half_break {y1 y0 u q r : Nat} (e : q * y1 + r = u) (hu : u < y1 * 4294967296 + y0) (hy0 : y0 < 4294967296) (hr : 4294967296 ≤ r) (u1 : Nat) : q * y0 ≤ r * 4294967296 + u1 := by
  have hq : q < 4294967296 := by
    apply Nat.lt_of_not_le
    intro h
    have : 4294967296 * y1 ≤ q * y1 := Nat.mul_le_mul_right y1 h
    omega
  have : q * y0 ≤ 4294967295 * 4294967295 := Nat.mul_le_mul (by omega) (by omega)
  omega
/-- the guess isn't too little -/
theorem half_first {y1 y0 u u1 : Nat} (h1 : 0 < y1) (hu1 : u1 < 4294967296) : u * 4294967296 + u1 < (u / y1 + 1) * (y1 * 4294967296 + y0) := by
  have h := Nat.lt_mul_div_succ u h1
  rw [Nat.mul_comm] at h
  have h2 : (u / y1 + 1) * (y1 * 4294967296) ≤ (u / y1 + 1) * (y1 * 4294967296 + y0) := Nat.mul_le_mul_left _ (by omega)
  rw [← Nat.mul_assoc] at h2
  generalize (u / y1 + 1) * y1 = a at *
  omega

/-- both halves: the quotient, the rest -/
theorem halves' {y a b v0 q1 q0 : Nat} (hy : 0 < y) (h1 : a / y = q1) (h0 : ((a - q1 * y) * b + v0) / y = q0) :
    (a * b + v0) / y = q1 * b + q0 ∧ (a * b + v0) % y = (a - q1 * y) * b + v0 - q0 * y := by
  have a1 := Nat.div_add_mod a y
  have b1 := Nat.mod_lt a hy
  rw [h1, Nat.mul_comm] at a1
  obtain ⟨r1, hr1⟩ : ∃ r, r = a % y := ⟨_, rfl⟩
  rw [← hr1] at a1 b1
  have e1 : a - q1 * y = r1 := by omega
  rw [e1] at h0 ⊢
  have a0 := Nat.div_add_mod (r1 * b + v0) y
  have b0 := Nat.mod_lt (r1 * b + v0) hy
  rw [h0, Nat.mul_comm] at a0
  obtain ⟨r0, hr0⟩ : ∃ r, r = (r1 * b + v0) % y := ⟨_, rfl⟩
  rw [← hr0] at a0 b0
  have e0 : r1 * b + v0 - q0 * y = r0 := by omega
  rw [e0]
  have hN : a * b + v0 = (q1 * b + q0) * y + r0 := by
    have hp : q1 * b * y = q1 * y * b := Nat.mul_right_comm _ _ _
    rw [Nat.add_mul, hp, ← a1, Nat.add_mul]
    omega
  rw [hN]
  exact ⟨by rw [Nat.mul_comm, Nat.mul_add_div hy, Nat.div_eq_of_lt b0, Nat.add_zero], by rw [Nat.mul_comm, Nat.mul_add_mod]; exact Nat.mod_eq_of_lt b0⟩

/-- shifted, it is the same -/
theorem shifted_div {n y s : Nat} : n * 2 ^ s / (y * 2 ^ s) = n / y ∧ n * 2 ^ s % (y * 2 ^ s) / 2 ^ s = n % y := by
  have hp := Nat.two_pow_pos s
  refine ⟨Nat.mul_div_mul_right _ _ hp, ?_⟩
  rw [Nat.mul_mod_mul_right, Nat.mul_div_cancel _ hp]

/-- the guess by the first words isn't too little -/
theorem digit_guess {U D B P u1 d1 : Nat} (hB : 0 < B) (hP : 0 < P) (hU : U / P = u1) (hD : d1 * P ≤ D) (hd : 0 < d1) : U / D ≤ u1 / d1 := by
  rw [Nat.le_div_iff_mul_le hd]
  have hD0 : 0 < D := Nat.lt_of_lt_of_le (Nat.mul_pos hd hP) hD
  have h1 : U / D * D ≤ U := Nat.div_mul_le_self U D
  rw [← hU, Nat.le_div_iff_mul_le hP]
  calc U / D * d1 * P = U / D * (d1 * P) := Nat.mul_assoc _ _ _
    _ ≤ U / D * D := Nat.mul_le_mul_left _ hD
    _ ≤ U := h1

/-- one too many: taken back, the digit is right, or still too much -/
theorem digit_next {U D g w P M : Nat} (hM : M = 18446744073709551616 * P) (hD : D < P) (hD0 : 0 < D) (hg : g ≤ 18446744073709551615) (hw : w < M) (e : w + g * D = U + M) :
    0 < g ∧ (M ≤ w + D → w + D - M + (g - 1) * D = U ∧ w + D - M < D ∧ U / D = g - 1 ∧ U % D = w + D - M) ∧ (w + D < M → w + D + (g - 1) * D = U + M ∧ P ≤ w + D) := by
  have hg0 : 0 < g := by
    rcases Nat.eq_zero_or_pos g with h | h
    · subst h; omega
    · exact h
  have e1 : (g - 1) * D + D = g * D := by
    obtain ⟨k, rfl⟩ : ∃ k, g = k + 1 := ⟨g - 1, by omega⟩
    rw [Nat.add_sub_cancel, Nat.add_mul, Nat.one_mul]
  have e2 : (g - 1) * D ≤ 18446744073709551614 * P := Nat.mul_le_mul (by omega) (by omega)
  obtain ⟨x, hx⟩ : ∃ x, x = (g - 1) * D := ⟨_, rfl⟩
  obtain ⟨y, hy⟩ : ∃ y, y = g * D := ⟨_, rfl⟩
  refine ⟨hg0, fun h => ?_, fun h => ?_⟩
  · have h1 : w + D - M + (g - 1) * D = U := by rw [← hx] at e1 ⊢; rw [← hy] at e e1; clear hx hy e2; omega
    have h2 : w + D - M < D := by omega
    refine ⟨h1, h2, ?_, ?_⟩
    · rw [← h1, Nat.add_mul_div_right _ _ hD0, Nat.div_eq_of_lt h2, Nat.zero_add]
    · rw [← h1, Nat.add_mul_mod_self_right]; exact Nat.mod_eq_of_lt h2
  · rw [← hx] at e1 e2 ⊢; rw [← hy] at e e1
    clear hx hy
    subst hM
    constructor
    · omega
    · omega
/-- not too much: it is right -/
theorem digit_done {U D g w : Nat} (hD0 : 0 < D) (hg : U / D ≤ g) (e : w + g * D = U) : U / D = g ∧ U % D = w := by
  have h : g ≤ U / D := by rw [Nat.le_div_iff_mul_le hD0]; omega
  have hq : U / D = g := Nat.le_antisymm hg h
  have := Nat.div_add_mod U D
  rw [hq, Nat.mul_comm] at this
  exact ⟨hq, by omega⟩

/-- words moved down by less than a word -/
def shrL (k : Nat) : List Nat → List Nat
  | [] => []
  | x :: l => (x / 2 ^ k + l.getD 0 0 * 2 ^ (64 - k) % 18446744073709551616) :: shrL k l
theorem shrL_len (k : Nat) : ∀ l, (shrL k l).length = l.length
  | [] => rfl
  | x :: l => by simp [shrL, shrL_len k l]
theorem wval_head : ∀ l : List Nat, small l → wval l % 18446744073709551616 = l.getD 0 0
  | [], _ => rfl
  | x :: l, h => by
    have := h x (by simp)
    simp only [wval, List.getD_cons_zero]
    omega
theorem shrL_val {k : Nat} (hk : k < 64) : ∀ l : List Nat, small l → wval (shrL k l) = wval l / 2 ^ k ∧ small (shrL k l)
  | [], _ => ⟨by simp [shrL, wval], by simp [shrL, small]⟩
  | x :: l, h => by
    have hl : small l := fun y hy => h y (by simp [hy])
    obtain ⟨h1, h2⟩ := shrL_val hk l hl
    have hx := h x (by simp)
    have hhd := wval_head l hl
    have hB : (18446744073709551616 : Nat) = 2 ^ k * 2 ^ (64 - k) := by rw [← Nat.pow_add, show k + (64 - k) = 64 by omega]
    have hp := Nat.two_pow_pos k
    have hp' := Nat.two_pow_pos (64 - k)
    -- the part that comes from above
    have h3 : l.getD 0 0 * 2 ^ (64 - k) % 18446744073709551616 = wval l % 2 ^ k * 2 ^ (64 - k) := by
      rw [hB, Nat.mul_mod_mul_right, ← hhd]
      congr 1
      rw [hB, Nat.mod_mul_right_mod]
    have h4 : wval (x :: l) / 2 ^ k = x / 2 ^ k + 2 ^ (64 - k) * wval l := by
      rw [wval]
      conv => lhs; rw [hB]
      rw [Nat.mul_assoc, Nat.add_mul_div_left _ _ hp]
    have h5 : 2 ^ (64 - k) * wval l = 18446744073709551616 * (wval l / 2 ^ k) + wval l % 2 ^ k * 2 ^ (64 - k) := by
      conv => lhs; rw [← Nat.div_add_mod (wval l) (2 ^ k)]
      rw [Nat.mul_add, ← Nat.mul_assoc, Nat.mul_comm (2 ^ (64 - k)) (2 ^ k), ← hB, Nat.mul_comm (2 ^ (64 - k))]
    have h6 : x / 2 ^ k < 2 ^ (64 - k) := by
      rw [Nat.div_lt_iff_lt_mul hp, Nat.mul_comm, ← hB]; exact hx
    have h7 : wval l % 2 ^ k * 2 ^ (64 - k) + 2 ^ (64 - k) ≤ 18446744073709551616 := by
      have := Nat.mul_le_mul_right (2 ^ (64 - k)) (Nat.succ_le_of_lt (Nat.mod_lt (wval l) hp))
      rw [Nat.succ_mul, ← hB] at this
      exact this
    refine ⟨?_, ?_⟩
    · rw [h4, h5, shrL, wval, h1, h3]
      omega
    · intro y hy
      rw [shrL, List.mem_cons] at hy
      rcases hy with rfl | hy
      · rw [h3]; omega
      · exact h2 y hy
theorem wval_drop : ∀ (q : Nat) (l : List Nat), small l → wval (l.drop q) = wval l / 18446744073709551616 ^ q
  | 0, l, _ => by simp
  | q + 1, [], _ => by simp [wval]
  | q + 1, x :: l, h => by
    have hx := h x (by simp)
    rw [List.drop_succ_cons, wval_drop q l (fun y hy => h y (by simp [hy])), wval, Nat.pow_succ, Nat.mul_comm (18446744073709551616 ^ q), ← Nat.div_div_eq_div_mul]
    congr 1
    omega
end
end Go.Proofs.YtbgkkhbgaicmmaaDoor.Am
namespace Go.Proofs.YtbgkkhbgaicmmaaDoor.Am
section
open Go.RowKit
theorem lenTab_ok : ∀ i : Nat, i < 256 → (([0, 1, 2, 2, 3, 3, 3, 3, 4, 4, 4, 4, 4, 4, 4, 4, 5, 5, 5, 5, 5, 5, 5, 5, 5, 5, 5, 5, 5, 5, 5, 5, 6, 6, 6, 6, 6, 6, 6, 6, 6, 6, 6, 6, 6, 6, 6, 6, 6, 6, 6, 6, 6, 6, 6, 6, 6, 6, 6, 6, 6, 6, 6, 6, 7, 7, 7, 7, 7, 7, 7, 7, 7, 7, 7, 7, 7, 7, 7, 7, 7, 7, 7, 7, 7, 7, 7, 7, 7, 7, 7, 7, 7, 7, 7, 7, 7, 7, 7, 7, 7, 7, 7, 7, 7, 7, 7, 7, 7, 7, 7, 7, 7, 7, 7, 7, 7, 7, 7, 7, 7, 7, 7, 7, 7, 7, 7, 7, 8, 8, 8, 8, 8, 8, 8, 8, 8, 8, 8, 8, 8, 8, 8, 8, 8, 8, 8, 8, 8, 8, 8, 8, 8, 8, 8, 8, 8, 8, 8, 8, 8, 8, 8, 8, 8, 8, 8, 8, 8, 8, 8, 8, 8, 8, 8, 8, 8, 8, 8, 8, 8, 8, 8, 8, 8, 8, 8, 8, 8, 8, 8, 8, 8, 8, 8, 8, 8, 8, 8, 8, 8, 8, 8, 8, 8, 8, 8, 8, 8, 8, 8, 8, 8, 8, 8, 8, 8, 8, 8, 8, 8, 8, 8, 8, 8, 8, 8, 8, 8, 8, 8, 8, 8, 8, 8, 8, 8, 8, 8, 8, 8, 8, 8, 8, 8, 8, 8, 8, 8, 8, 8, 8, 8, 8, 8, 8] : List UInt8)[i]?.getD 0).toNat = bitsN i := by
  have h : ((List.range 256).all fun i => (([0, 1, 2, 2, 3, 3, 3, 3, 4, 4, 4, 4, 4, 4, 4, 4, 5, 5, 5, 5, 5, 5, 5, 5, 5, 5, 5, 5, 5, 5, 5, 5, 6, 6, 6, 6, 6, 6, 6, 6, 6, 6, 6, 6, 6, 6, 6, 6, 6, 6, 6, 6, 6, 6, 6, 6, 6, 6, 6, 6, 6, 6, 6, 6, 7, 7, 7, 7, 7, 7, 7, 7, 7, 7, 7, 7, 7, 7, 7, 7, 7, 7, 7, 7, 7, 7, 7, 7, 7, 7, 7, 7, 7, 7, 7, 7, 7, 7, 7, 7, 7, 7, 7, 7, 7, 7, 7, 7, 7, 7, 7, 7, 7, 7, 7, 7, 7, 7, 7, 7, 7, 7, 7, 7, 7, 7, 7, 7, 8, 8, 8, 8, 8, 8, 8, 8, 8, 8, 8, 8, 8, 8, 8, 8, 8, 8, 8, 8, 8, 8, 8, 8, 8, 8, 8, 8, 8, 8, 8, 8, 8, 8, 8, 8, 8, 8, 8, 8, 8, 8, 8, 8, 8, 8, 8, 8, 8, 8, 8, 8, 8, 8, 8, 8, 8, 8, 8, 8, 8, 8, 8, 8, 8, 8, 8, 8, 8, 8, 8, 8, 8, 8, 8, 8, 8, 8, 8, 8, 8, 8, 8, 8, 8, 8, 8, 8, 8, 8, 8, 8, 8, 8, 8, 8, 8, 8, 8, 8, 8, 8, 8, 8, 8, 8, 8, 8, 8, 8, 8, 8, 8, 8, 8, 8, 8, 8, 8, 8, 8, 8, 8, 8, 8, 8, 8, 8] : List UInt8)[i]?.getD 0).toNat == bitsN i) = true := by kernel_rfl
  intro i hi
  have := List.all_eq_true.1 h i (List.mem_range.2 hi)
  exact eq_of_beq this

set_option maxHeartbeats 1000000 in
theorem len64_ok (x : Nat) (hx : x < 18446744073709551616) : Eqn Tryd.prog n_math_bits_Len64 [.d (.int .u64 x)] [] (.d (.int .i64 (bitsN x))) [] := by
  refine Eqn.pure r_math_bits_Len64 (plain_d _) ?_
  simp only [c_math_bits_Len64]
  obtain ⟨x1, n1, h1, hx1, hn1, e1⟩ : ∃ x1 n1 : Nat, (x1, n1) = (if 4294967296 ≤ x then (x / 4294967296, 32) else (x, 0)) ∧ x1 < 4294967296 ∧ n1 ≤ 32 ∧ bitsN x = n1 + bitsN x1 := by
    by_cases h : 4294967296 ≤ x
    · exact ⟨x / 4294967296, 32, by rw [if_pos h], by omega, by omega, bitsN_div (k := 32) h⟩
    · exact ⟨x, 0, by rw [if_neg h], by omega, by omega, by omega⟩
  obtain ⟨x2, n2, h2, hx2, hn2, e2⟩ : ∃ x2 n2 : Nat, (x2, n2) = (if 65536 ≤ x1 then (x1 / 65536, n1 + 16) else (x1, n1)) ∧ x2 < 65536 ∧ n2 ≤ 48 ∧ bitsN x = n2 + bitsN x2 := by
    by_cases h : 65536 ≤ x1
    · exact ⟨x1 / 65536, n1 + 16, by rw [if_pos h], by omega, by omega, by have := bitsN_div (k := 16) h; rw [e1, this]; simp; omega⟩
    · exact ⟨x1, n1, by rw [if_neg h], by omega, by omega, by omega⟩
  obtain ⟨x3, n3, h3, hx3, hn3, e3⟩ : ∃ x3 n3 : Nat, (x3, n3) = (if 256 ≤ x2 then (x2 / 256, n2 + 8) else (x2, n2)) ∧ x3 < 256 ∧ n3 ≤ 56 ∧ bitsN x = n3 + bitsN x3 := by
    by_cases h : 256 ≤ x2
    · exact ⟨x2 / 256, n2 + 8, by rw [if_pos h], by omega, by omega, by have := bitsN_div (k := 8) h; rw [e2, this]; simp; omega⟩
    · exact ⟨x2, n2, by rw [if_neg h], by omega, by omega, by omega⟩
  rw [e3]
  clear e1 e2 e3
  refine AW.seq (AW.reg mix ?_)
  (simp -implicitDefEqProofs; try simp (disch := omega) only [w64, wu64])
  refine AW.cut 0 [(0, .d (.int .u64 x1)), (2, .d (.int .i64 n1))] [] (by simp) (by simp) ?_ ?_
  · have hd : (x : Int) / 4294967296 = (x / 4294967296 : Nat) := rfl
    refine G0 ?_; try with_reducible exact tt
    refine AW.cond rfl (fun h => ?_) (fun h => ?_)
    · rw [if_pos (by simp at h; omega)] at h1
      cases h1
      generalize x / 4294967296 = q at *
      refine G1 hd ?_; try with_reducible exact tt
    · rw [if_neg (by simp at h; omega)] at h1
      cases h1
      refine G0 ?_; try with_reducible exact tt
  clear h1 hx
  simp
  refine AW.cut 0 [(0, .d (.int .u64 x2)), (2, .d (.int .i64 n2))] [] (by simp) (by simp) ?_ ?_
  · have hd : (x1 : Int) / 65536 = (x1 / 65536 : Nat) := rfl
    have ew : IntKind.i64.wrap ((n1 : Int) + 16) = ((n1 + 16 : Nat) : Int) := w64 (by omega) (by omega)
    refine G0 ?_; try with_reducible exact tt
    refine AW.cond rfl (fun h => ?_) (fun h => ?_)
    · rw [if_pos (by simp at h; omega)] at h2
      cases h2
      generalize x1 / 65536 = q at *
      refine G1 (fs hd ew) ?_; try with_reducible exact tt
    · rw [if_neg (by simp at h; omega)] at h2
      cases h2
      refine G0 ?_; try with_reducible exact tt
  clear h2 hx1 hn1
  simp
  refine AW.cut 0 [(0, .d (.int .u64 x3)), (2, .d (.int .i64 n3))] [] (by simp) (by simp) ?_ ?_
  · have hd : (x2 : Int) / 256 = (x2 / 256 : Nat) := rfl
    have ew : IntKind.i64.wrap ((n2 : Int) + 8) = ((n2 + 8 : Nat) : Int) := w64 (by omega) (by omega)
    refine G0 ?_; try with_reducible exact tt
    refine AW.cond rfl (fun h => ?_) (fun h => ?_)
    · rw [if_pos (by simp at h; omega)] at h3
      cases h3
      generalize x2 / 256 = q at *
      refine G1 (fs hd ew) ?_; try with_reducible exact tt
    · rw [if_neg (by simp at h; omega)] at h3
      cases h3
      refine G0 ?_; try with_reducible exact tt
  clear h3 hx2 hn2
  simp
  have ew1 : IntKind.u8.wrap (x3 : Int) = x3 := by rw [show IntKind.u8.wrap (x3 : Int) = (x3 : Int) % 256 from rfl]; omega
  have hb := lenTab_ok x3 hx3
  have hB : bitsN x3 ≤ 8 := bitsN_le (by omega)
  have ew2 : IntKind.i64.wrap (bitsN x3 : Int) = bitsN x3 := w64 (by omega) (by omega)
  have ew3 : IntKind.i64.wrap ((n3 : Int) + bitsN x3) = (n3 : Int) + bitsN x3 := w64 (by omega) (by omega)
  refine AW.seq (AW.reg mix ?_)
  simp [ew1, hb, ew2, ew3]
  refine need.of (Nat.lt_of_lt_of_le hx3 (by decide)) ?_
  refine G0 ?_; try with_reducible exact tt

theorem lead64_ok (x : Nat) (hx : x < 18446744073709551616) : Eqn Tryd.prog n_math_bits_LeadingZeros64 [.d (.int .u64 x)] [] (.d (.int .i64 (64 - bitsN x : Nat))) [] := by
  refine Eqn.pure r_math_bits_LeadingZeros64 (plain_d _) ?_
  simp only [c_math_bits_LeadingZeros64]
  have hB : bitsN x ≤ 64 := bitsN_le (by omega)
  refine G0 ?_; try with_reducible exact tt
  refine CallS.pu (len64_ok x hx) (R0 ?_); try with_reducible exact tt
  exact Sub1.int (by omega)

theorem wval_snoc_bits {l : List Nat} {x : Nat} (hs : small l) (h0 : 0 < x) : bitsN (wval (l ++ [x])) = 64 * l.length + bitsN x := by
  have hp : (18446744073709551616 : Nat) ^ l.length = 2 ^ (64 * l.length) := by rw [show (18446744073709551616 : Nat) = 2 ^ 64 by rfl, ← Nat.pow_mul]
  have hlt := wval_lt hs
  have hv : wval (l ++ [x]) = wval l + 2 ^ (64 * l.length) * x := by rw [wval_append, hp]; simp [wval]
  rw [hp] at hlt
  rw [hv, bitsN_div (k := 64 * l.length) (by have := Nat.le_mul_of_pos_right (2 ^ (64 * l.length)) h0; omega), Nat.add_mul_div_left _ _ (Nat.two_pow_pos _), Nat.div_eq_of_lt hlt, Nat.zero_add]

theorem bits_ok (n : Nat) (hn : size n ≤ 1000000) : Eqn Tryd.prog n_nat_Nat_Bits [.d (.agg [natW n])] [] (.d (.int .i64 (bitsN n))) [] := by
  refine Eqn.pure r_nat_Nat_Bits (plain_d _) ?_
  simp only [c_nat_Nat_Bits, natW, W]
  unfold size at hn
  have hs := words_small n
  have ht := words_top n
  have hv := words_val n
  generalize words n = ws at *
  rcases List.eq_nil_or_concat ws with rfl | ⟨l, x, rfl⟩
  · refine G0 ?_; try with_reducible exact tt
    refine AW.cond rfl (fun h => ?_) (fun h => ?_)
    · refine G0 ?_; try with_reducible exact tt
      rw [← hv]
      exact Sub1.refl _
    · simp at h
  · rw [List.concat_eq_append] at *
    have hx0 : 0 < x := by
      have := ht l.length (by simp)
      simp [List.getD] at this
      omega
    have hx : x < 18446744073709551616 := hs x (by simp)
    have hb := wval_snoc_bits (l := l) (x := x) (fun y hy => hs y (by simp [hy])) hx0
    rw [hv] at hb
    have hB : bitsN x ≤ 64 := bitsN_le (by omega)
    have hll : l.length ≤ 1000000 := by simp at hn; omega
    have e1 : IntKind.i64.wrap ((l.length : Int) + 1 - 1) = (l.length : Int) := by rw [Int.add_sub_cancel]; exact w64 (by omega) (by omega)
    have e2 : IntKind.i64.wrap ((64 : Int) * l.length) = ((64 * l.length : Nat) : Int) := w64 (by omega) (by omega)
    have e0 : IntKind.i64.wrap (l.length : Int) = (l.length : Int) := w64 (by omega) (by omega)
    have hne : ¬ (l.length : Int) + 1 = 0 := by omega
    refine G1 (fs hne (fs e1 (fs e2 e0))) ?_; try with_reducible exact tt
    refine AW.cond rfl (fun h => ?_) (fun h => ?_)
    · simp at h
      omega
    rw [hb]
    have e3 : IntKind.i64.wrap (((64 * l.length : Nat) : Int) + bitsN x) = ((64 * l.length + bitsN x : Nat) : Int) := w64 (by omega) (by omega)
    generalize 64 * l.length = q at *
    refine G1 (fs hne (fs e1 (fs e2 e0))) ?_; try with_reducible exact tt
    refine CallS.pu (len64_ok x hx) (R1 e3 ?_); try with_reducible exact tt

theorem clone64_own (n : Nat) (l : List D) (hl : l.length = n) (h0 : 0 < n) (hn : n ≤ 4000000000) : Eqn Tryd.prog n_slices_Clone_uint64_uint64 [.d (.sl n l)] [] (.own 0 1 n) [⟨55, l.map .d⟩] := by
  refine Eqn.newX r_slices_Clone_uint64_uint64 rfl (plainL_d _) (fun n => rfl) ?_
  simp only [c_slices_Clone_uint64_uint64]
  refine G1 h0 ?_; try with_reducible exact tt
  refine AW.cond rfl (fun h => ?_) (fun h => ?_)
  · simp at h
  · refine G0 ?_; try with_reducible exact tt
    have h1 : ¬ n = 0 := by omega
    simp [h1, hl]
    refine need.of (by omega) ?_
    refine G0 ?_; try with_reducible exact tt
    exact ⟨0, Sub1.refl _, _, rfl, rfl, Subs.refl _⟩

/-- words so far moved down -/
def shrI (k : Nat) (A : List Nat) (i : Nat) : List Nat := (shrL k A).take i ++ A.drop i
theorem shrL_get (k : Nat) : ∀ (A : List Nat) (i : Nat), i < A.length → (shrL k A).getD i 0 = A.getD i 0 / 2 ^ k + A.getD (i + 1) 0 * 2 ^ (64 - k) % 18446744073709551616
  | [], i, h => by simp at h
  | x :: l, 0, h => by simp [shrL]
  | x :: l, i + 1, h => by
    have := shrL_get k l i (by simpa using h)
    simpa [shrL] using this
theorem shrI_len (k : Nat) (A : List Nat) (i : Nat) (h : i ≤ A.length) : (shrI k A i).length = A.length := by
  rw [shrI, List.length_append, List.length_take, shrL_len, List.length_drop]; omega
theorem shrI_get (k : Nat) (A : List Nat) (i j : Nat) (h : i ≤ j) (hj : j < A.length) : (shrI k A i)[j]? = some (A.getD j 0) := by
  rw [shrI, List.getElem?_append_right (by rw [List.length_take, shrL_len]; omega), List.length_take, shrL_len, List.getElem?_drop, show i + (j - min i A.length) = j by omega]
  simp [List.getD, hj]
theorem shrI_set (k : Nat) (A : List Nat) (i : Nat) (h : i < A.length) (y : Nat) (hy : y = (shrL k A).getD i 0) : (shrI k A i).set i y = shrI k A (i + 1) := by
  have hi : ((shrL k A).take i).length = i := by rw [List.length_take, shrL_len]; omega
  rw [shrI, shrI, List.set_append_right _ _ (by omega), hi, Nat.sub_self, take_succ_getD _ _ (by rw [shrL_len]; exact h), ← hy, List.append_assoc]
  congr 1
  rw [List.drop_eq_getElem_cons h]
  rfl
theorem shrI_end (k : Nat) (A : List Nat) : shrI k A A.length = shrL k A := by
  rw [shrI, List.drop_length, List.append_nil, List.take_of_length_le (by rw [shrL_len]; omega)]

theorem or_shr {k x y : Nat} (hk : k < 64) (hx : x < 18446744073709551616) : x / 2 ^ k ||| (y * 2 ^ (64 - k) % 18446744073709551616) = x / 2 ^ k + y * 2 ^ (64 - k) % 18446744073709551616 := by
  have hB : (18446744073709551616 : Nat) = 2 ^ k * 2 ^ (64 - k) := by rw [← Nat.pow_add, show k + (64 - k) = 64 by omega]
  have h6 : x / 2 ^ k < 2 ^ (64 - k) := by
    rw [Nat.div_lt_iff_lt_mul (Nat.two_pow_pos k), Nat.mul_comm, ← hB]; exact hx
  have e : y * 2 ^ (64 - k) % 18446744073709551616 = 2 ^ (64 - k) * (y % 2 ^ k) := by rw [hB, Nat.mul_mod_mul_right, Nat.mul_comm]
  rw [e, Nat.or_comm, ← Nat.two_pow_add_eq_or_of_lt h6, Nat.add_comm]

set_option maxHeartbeats 2000000 in
theorem shr_ok (a n : Nat) (ha : size a ≤ 1000000) (hn : n ≤ 1000000000) : Eqn Tryd.prog n_nat_Shr [.d (.agg [natW a]), .d (.int .i64 n)] [] (.d (.agg [natW (a / 2 ^ n)])) [] := by
  refine Eqn.pure r_nat_Shr (plain_d _) ?_
  simp only [c_nat_Shr]
  rw [show natW a = .sl (words a).length ((words a).map fun x : Nat => .int .u64 x) from rfl]
  unfold size at ha
  have hs := words_small a
  have hv := words_val a
  generalize words a = ws at *
  have hm : max 0 (n : Int) = n := by omega
  have hq : (n : Int) / 64 = (n / 64 : Nat) := rfl
  have hr : (n : Int).tmod 64 = (n % 64 : Nat) := by rw [Int.tmod_eq_emod_of_nonneg (by omega)]; rfl
  have hval : wval (shrL (n % 64) (ws.drop (n / 64))) = a / 2 ^ n ∧ small (shrL (n % 64) (ws.drop (n / 64))) := by
    obtain ⟨h1, h2⟩ := shrL_val (k := n % 64) (by omega) (ws.drop (n / 64)) (fun x hx => hs x (List.mem_of_mem_drop hx))
    refine ⟨?_, h2⟩
    rw [h1, wval_drop _ _ hs, hv, show (18446744073709551616 : Nat) = 2 ^ 64 by rfl, ← Nat.pow_mul, Nat.div_div_eq_div_mul, ← Nat.pow_add, Nat.div_add_mod]
  have hmk : n % 64 < 64 := by omega
  have hqn : n / 64 ≤ n := Nat.div_le_self _ _
  generalize hk : n % 64 = k at *
  generalize n / 64 = q at *
  refine G1 (fs hm hq) ?_; try with_reducible exact tt
  refine AW.cond rfl (fun h => ?_) (fun h => ?_)
  · have hlen : ws.length ≤ q := by simp at h; omega
    refine G0 ?_; try with_reducible exact tt
    rw [List.drop_of_length_le hlen] at hval
    rw [← hval.1]
    exact Sub1.nat0
  · have hlt : q < ws.length := by simp at h; omega
    have hlt' : (q : Int) < ws.length := by omega
    have hb1 : ((ws.length : Int) - q).toNat = (ws.drop q).length := by rw [List.length_drop]; omega
    have hbp : 0 < (ws.drop q).length ∧ (ws.drop q).length ≤ 1000000 := by rw [List.length_drop]; omega
    have hsB : small (ws.drop q) := fun x hx => hs x (List.mem_of_mem_drop hx)
    have htk : (V.d (.sl ((ws.length : Int) - q).toNat (((ws.map fun x : Nat => D.int .u64 x).drop ((q : Int)).toNat).take ((ws.length : Int) - q).toNat)) : V) = .d (.sl (ws.drop q).length ((ws.drop q).map fun x : Nat => D.int .u64 x)) := by
      rw [hb1, Int.toNat_natCast, ← List.map_drop, List.take_of_length_le (by simp)]
    refine G1 (fs hm (fs hq hlt')) ?_; try with_reducible exact tt
    generalize hB : ws.drop q = B at *
    refine CallS.newX (clone64_own B.length (B.map fun x : Nat => .int .u64 x) (by simp) hbp.1 (by omega)) (plainL_d _) rfl (fun _ => rfl) (Subs.of (by rw [htk])) ?_
    rw [show ((B.map fun x : Nat => D.int .u64 x).map V.d) = U (shrI k B 0) by simp [U, shrI]]
    simp
    refine G1 hr ?_; try with_reducible exact tt
    clear htk hb1 hv hs ha hB hlt hlt'
    refine AW.loopT (α := Nat) 3 (fun i => [(6, .d (.int .i64 (i : Int)))]) (fun i => [(2, ⟨55, U (shrI k B i)⟩)]) (fun i => i ≤ B.length) (fun i => B.length - i) 0 ?_ ?_ (Nat.zero_le _) ?_ ?_ ?_
    · simp
    · simp
    · simp
    · simp
    rintro i hi
    simp
    by_cases h : i = B.length
    · subst h
      refine G0 ?_; try with_reducible exact tt
      refine AW.cond rfl (fun h => ?_) (fun h => ?_)
      · simp at h
      refine AW.exit ?_
      (try (simp -implicitDefEqProofs; try simp (disch := omega) only [w64, wu64]))
      rw [shrI_end]
      have hl : (shrL k B).length = B.length := shrL_len k B
      have hvw : natW (a / 2 ^ n) = natW (wval (shrL k B)) := by rw [hval.1]
      rw [hvw]
      have hsm := hval.2
      generalize shrL k B = r at hl hsm ⊢
      have hcell : U r = (r.map fun x : Nat => D.int .u64 x).map V.d := by simp [U]
      rw [hcell]
      refine AW.freeze 2 1 ⟨55, _⟩ (r.map fun x : Nat => .int .u64 x) (by rfl) (by rfl) ?_
      simp [← hl, List.take_of_length_le]
      refine G0 ?_; try with_reducible exact tt
      refine CallS.pu (trimmed_ok r hsm (by omega)) (R0 ?_); try with_reducible exact tt
    · have hi' : i < B.length := by omega
      have hp : (i : Int) < B.length := by omega
      have hxB : B.getD i 0 < 18446744073709551616 := hsB.getD i
      have hset : ∀ z : Nat, z = (shrL k B).getD i 0 → (U (shrI k B i)).set i (.d (.int .u64 z)) = U (shrI k B (i + 1)) := fun z hz => by
        rw [← shrI_set k B i hi' z hz, U, U, List.map_set]
      have hg := shrL_get k B i hi'
      have hl : (U (shrI k B i)).length = B.length := by simp [U, shrI_len k B i hi]
      have hq1 : (U (shrI k B i))[i]? = some (.d (.int .u64 (B.getD i 0 : Nat))) := by
        rw [U, List.getElem?_map, shrI_get k B i i (Nat.le_refl _) hi']; rfl
      have hq2 : i + 1 < B.length → (U (shrI k B i))[i + 1]? = some (.d (.int .u64 (B.getD (i + 1) 0 : Nat))) := fun h => by
        rw [U, List.getElem?_map, shrI_get k B i (i + 1) (by omega) h]; rfl
      have hor := or_shr (k := k) (x := B.getD i 0) (y := B.getD (i + 1) 0) hmk hxB
      rw [← hg] at hor
      have hu : ((B.getD i 0 : Nat) : Int) / 2 ^ k = ((B.getD i 0 / 2 ^ k : Nat) : Int) := by rw [Int.natCast_ediv, Int.natCast_pow]; rfl
      have hule : B.getD i 0 / 2 ^ k ≤ B.getD i 0 := Nat.div_le_self _ _
      have hw : IntKind.u64.wrap (((B.getD (i + 1) 0 : Nat) : Int) * 2 ^ (64 - k)) = ((B.getD (i + 1) 0 * 2 ^ (64 - k) % 18446744073709551616 : Nat) : Int) := by
        rw [IntKind.wrap_u64, Int.natCast_emod, Int.natCast_mul, Int.natCast_pow]; rfl
      have hwl : B.getD (i + 1) 0 * 2 ^ (64 - k) % 18446744073709551616 < 18446744073709551616 := Nat.mod_lt _ (by decide)
      have hlast : ¬ i + 1 < B.length → B.getD i 0 / 2 ^ k = (shrL k B).getD i 0 := fun h => by
        rw [hg, W_out h]; simp
      have hls : (shrL k B).length = B.length := shrL_len k B
      generalize B.getD i 0 / 2 ^ k = u at *
      generalize B.getD i 0 = x at *
      generalize B.getD (i + 1) 0 * 2 ^ (64 - k) % 18446744073709551616 = t at *
      generalize B.getD (i + 1) 0 = y at *
      have hb := bits_or_u64_nat u t (by omega) hwl
      rw [hor] at hb
      have hz := hset _ rfl
      generalize (shrL k B).getD i 0 = z at *
      generalize U (shrI k B i) = cm at *
      have e1 : IntKind.i64.wrap ((i : Int) + 1) = (i : Int) + 1 := w64 (by omega) (by omega)
      have e2 : IntKind.i64.wrap ((64 : Int) - k) = (64 : Int) - k := w64 (by omega) (by omega)
      have hn : ((64 : Int) - k).toNat = 64 - k := by omega
      have e3 : (((i : Int) + 1)).toNat = i + 1 := by omega
      have hkl : (k : Int) ≤ 64 := by omega
      have hg1 : ∀ h, cm[i]'h = .d (.int .u64 x) := fun h => by
        have := List.getElem?_eq_getElem h
        rw [hq1] at this
        exact (Option.some.inj this).symm
      have hg2 : ∀ h, cm[i + 1]'h = .d (.int .u64 y) := fun h => by
        have := List.getElem?_eq_getElem h
        rw [hq2 (by omega)] at this
        exact (Option.some.inj this).symm
      refine G1 (fs hi' hp) ?_; try with_reducible exact tt
      refine AW.cond rfl (fun h => ?_) (fun h => ?_)
      · by_cases hl1 : i + 1 < B.length
        · have hlp : (i : Int) + 1 < B.length := by omega
          refine G1 (fs hi' (fs hp (fs hl (fs hg1 (fs hu (fs e1 hlp)))))) ?_; try with_reducible exact tt
          refine AW.cond rfl (fun h => ?_) (fun h => ?_)
          · have hne : ¬ i = i + 1 := by omega
            have h64 : (64 - k : Int) ≤ 64 := by omega
            refine G1 (fs hi' (fs hp (fs hl (fs hg1 (fs hg2 (fs hu (fs e1 (fs hlp (fs hl1 (fs e2 (fs hn (fs e3 (fs hne (fs hw (fs hb hz))))))))))))))) ?_; try with_reducible exact tt
            exact ⟨i + 1, by omega, by omega, by simp, by simp⟩
          · simp at h
        · have hlp : ¬ (i : Int) + 1 < B.length := by omega
          refine G1 (fs hi' (fs hp (fs hl (fs hg1 (fs hu (fs e1 hlp)))))) ?_; try with_reducible exact tt
          refine AW.cond rfl (fun h => ?_) (fun h => ?_)
          · simp at h
          · have := hlast hl1
            subst this
            refine G1 e1 ?_; try with_reducible exact tt
            refine ⟨i + 1, by omega, by omega, by simp, ?_⟩
            rw [hset u rfl]
            exact Subs.refl _
      · simp at h
end
end Go.Proofs.YtbgkkhbgaicmmaaDoor.Am
namespace Go.Proofs.YtbgkkhbgaicmmaaDoor.Am
section
open Go.RowKit
theorem and32 (x : Nat) (h : x < 18446744073709551616) : bits BinOp.and IntKind.u64 (x : Int) 4294967295 = ((x % 4294967296 : Nat) : Int) := by
  have := bits_and_u64_nat x 4294967295 h (by omega)
  rw [show ((4294967295 : Nat) : Int) = 4294967295 by rfl] at this
  rw [this, show (4294967295 : Nat) = 2 ^ 32 - 1 by rfl, Nat.and_two_pow_sub_one_eq_mod]

/-- a product of two words, by halves -/
theorem mul_parts (x y : Nat) (hx : x < 18446744073709551616) (hy : y < 18446744073709551616) :
    let x0 := x % 4294967296; let x1 := x / 4294967296; let y0 := y % 4294967296; let y1 := y / 4294967296
    let w0 := x0 * y0; let t := x1 * y0 + w0 / 4294967296; let w1 := t % 4294967296 + x0 * y1
    w0 < 18446744073709551616 ∧ x1 * y0 < 18446744073709551616 ∧ t < 18446744073709551616 ∧ x0 * y1 < 18446744073709551616 ∧ w1 < 18446744073709551616 ∧ x1 * y1 < 18446744073709551616 ∧
    x1 * y1 + t / 4294967296 < 18446744073709551616 ∧ x1 * y1 + t / 4294967296 + w1 / 4294967296 < 18446744073709551616 ∧
    x * y = (x1 * y1 + t / 4294967296 + w1 / 4294967296) * 18446744073709551616 + x * y % 18446744073709551616 := by
  intro x0 x1 y0 y1 w0 t w1
  have hx0 : x0 < 4294967296 := Nat.mod_lt _ (by decide)
  have hy0 : y0 < 4294967296 := Nat.mod_lt _ (by decide)
  have hx1 : x1 < 4294967296 := by simp only [x1]; omega
  have hy1 : y1 < 4294967296 := by simp only [y1]; omega
  have ex : x = x1 * 4294967296 + x0 := by simp only [x1, x0]; omega
  have ey : y = y1 * 4294967296 + y0 := by simp only [y1, y0]; omega
  have b : ∀ {a c : Nat}, a < 4294967296 → c < 4294967296 → a * c ≤ 18446744065119617025 := fun {a c} ha hc => by
    have := Nat.mul_le_mul (show a ≤ 4294967295 by omega) (show c ≤ 4294967295 by omega)
    omega
  have b00 := b hx0 hy0
  have b10 := b hx1 hy0
  have b01 := b hx0 hy1
  have b11 := b hx1 hy1
  have exy : x * y = x1 * y1 * 18446744073709551616 + (x1 * y0 + x0 * y1) * 4294967296 + x0 * y0 := by
    rw [ex, ey]
    simp only [Nat.add_mul, Nat.mul_add]
    have e1 : x1 * 4294967296 * (y1 * 4294967296) = x1 * y1 * 18446744073709551616 := by
      rw [Nat.mul_mul_mul_comm]
    have e2 : x1 * 4294967296 * y0 = x1 * y0 * 4294967296 := by rw [Nat.mul_right_comm]
    have e3 : x0 * (y1 * 4294967296) = x0 * y1 * 4294967296 := by rw [Nat.mul_assoc]
    rw [e1, e2, e3]; omega
  have hw0 : w0 = x0 * y0 := rfl
  generalize x * y = xy at exy ⊢
  generalize x0 * y0 = a00 at *
  have ht : t = x1 * y0 + w0 / 4294967296 := rfl
  generalize x1 * y0 = a10 at *
  have hw1 : w1 = t % 4294967296 + x0 * y1 := rfl
  generalize x0 * y1 = a01 at *
  generalize x1 * y1 = a11 at *
  clear_value w0 t w1
  omega

theorem mul64_ok (x y : Nat) (hx : x < 18446744073709551616) (hy : y < 18446744073709551616) : Eqn Tryd.prog n_math_bits_Mul64 [.d (.int .u64 x), .d (.int .u64 y)] [] (.tup [.d (.int .u64 (x * y / 18446744073709551616 : Nat)), .d (.int .u64 (x * y % 18446744073709551616 : Nat))]) [] := by
  refine Eqn.pure r_math_bits_Mul64 (plain_tup2 _ _) ?_
  simp only [c_math_bits_Mul64]
  have hp := mul_parts x y hx hy
  simp only at hp
  have a1 := and32 x hx
  have a2 := and32 y hy
  have d1 : (x : Int) / 4294967296 = (x / 4294967296 : Nat) := rfl
  have d2 : (y : Int) / 4294967296 = (y / 4294967296 : Nat) := rfl
  have l1 : x % 4294967296 < 4294967296 := Nat.mod_lt _ (by decide)
  generalize x % 4294967296 = x0 at hp a1 l1
  generalize x / 4294967296 = x1 at hp d1
  generalize y % 4294967296 = y0 at hp a2
  generalize y / 4294967296 = y1 at hp d2
  obtain ⟨p1, p2, p3, p4, p5, p6, p7, p8, p9⟩ := hp
  have m1 : IntKind.u64.wrap ((x0 : Int) * y0) = (x0 * y0 : Nat) := by rw [← Int.natCast_mul]; exact wu64 (by omega) (by omega)
  have m2 : IntKind.u64.wrap ((x1 : Int) * y0) = (x1 * y0 : Nat) := by rw [← Int.natCast_mul]; exact wu64 (by omega) (by omega)
  have m3 : IntKind.u64.wrap ((x0 : Int) * y1) = (x0 * y1 : Nat) := by rw [← Int.natCast_mul]; exact wu64 (by omega) (by omega)
  have m4 : IntKind.u64.wrap ((x1 : Int) * y1) = (x1 * y1 : Nat) := by rw [← Int.natCast_mul]; exact wu64 (by omega) (by omega)
  have m5 : IntKind.u64.wrap ((x : Int) * y) = (x * y % 18446744073709551616 : Nat) := by rw [IntKind.wrap_u64, Int.natCast_emod, Int.natCast_mul]; rfl
  have lo : x * y % 18446744073709551616 < 18446744073709551616 := Nat.mod_lt _ (by decide)
  generalize x * y % 18446744073709551616 = low at *
  generalize x * y = xy at *
  generalize x0 * y0 = a00 at *
  generalize x1 * y0 = a10 at *
  generalize x0 * y1 = a01 at *
  generalize x1 * y1 = a11 at *
  have q1 : (a00 : Int) / 4294967296 = (a00 / 4294967296 : Nat) := rfl
  generalize a00 / 4294967296 = b0 at *
  have s1 : IntKind.u64.wrap ((a10 : Int) + b0) = (a10 + b0 : Nat) := wu64 (by omega) (by omega)
  have a3 := and32 (a10 + b0) p3
  have q2 : ((a10 + b0 : Nat) : Int) / 4294967296 = ((a10 + b0) / 4294967296 : Nat) := rfl
  generalize (a10 + b0) / 4294967296 = t1 at *
  generalize (a10 + b0) % 4294967296 = t0 at *
  generalize a10 + b0 = t at *
  have s2 : IntKind.u64.wrap ((t0 : Int) + a01) = (t0 + a01 : Nat) := wu64 (by omega) (by omega)
  have q3 : ((t0 + a01 : Nat) : Int) / 4294967296 = ((t0 + a01) / 4294967296 : Nat) := rfl
  generalize (t0 + a01) / 4294967296 = v1 at *
  generalize t0 + a01 = v at *
  have s3 : IntKind.u64.wrap ((a11 : Int) + t1) = (a11 + t1 : Nat) := wu64 (by omega) (by omega)
  have s4 : IntKind.u64.wrap (((a11 + t1 : Nat) : Int) + v1) = (a11 + t1 + v1 : Nat) := wu64 (by omega) (by omega)
  have fin : xy / 18446744073709551616 = a11 + t1 + v1 := by omega
  rw [fin]
  generalize a11 + t1 + v1 = hi at *
  generalize a11 + t1 = r at *
  refine G1 (fs a1 (fs a2 (fs d1 (fs d2 (fs m1 (fs m2 (fs m3 (fs m4 (fs m5 (fs q1 (fs s1 (fs a3 (fs q2 (fs s2 (fs q3 (fs s3 s4)))))))))))))))) ?_; try with_reducible exact tt
end
end Go.Proofs.YtbgkkhbgaicmmaaDoor.Am
namespace Go.Proofs.YtbgkkhbgaicmmaaDoor.Am
section
open Go.RowKit
theorem div_parts (hi lo y : Nat) (h0 : hi < y) (hl : lo < 18446744073709551616) (hy : y < 18446744073709551616) :
    ∃ s Y u v : Nat, s = 64 - bitsN y ∧ s ≤ 63 ∧ y * 2 ^ s = Y ∧ Y < 18446744073709551616 ∧ 9223372036854775808 ≤ Y ∧ hi * 2 ^ s < 18446744073709551616 ∧ hi * 2 ^ s ||| lo / 2 ^ (64 - s) = u ∧ lo * 2 ^ s % 18446744073709551616 = v ∧ u < Y ∧ v < 18446744073709551616 ∧
      (hi * 18446744073709551616 + lo) * 2 ^ s = u * 18446744073709551616 + v := by
  obtain ⟨b1, b2⟩ := bitsN_pos (n := y) (by omega)
  have b3 := lt_bitsN y
  have b4 : bitsN y ≤ 64 := bitsN_le (by omega)
  have hs : 64 - bitsN y ≤ 63 := by omega
  have hY1 : y * 2 ^ (64 - bitsN y) < 18446744073709551616 := by
    have : 2 ^ bitsN y * 2 ^ (64 - bitsN y) = 18446744073709551616 := by rw [← Nat.pow_add, show bitsN y + (64 - bitsN y) = 64 by omega]
    rw [← this]
    exact Nat.mul_lt_mul_of_pos_right b3 (Nat.two_pow_pos _)
  have hY2 : 9223372036854775808 ≤ y * 2 ^ (64 - bitsN y) := by
    have : 2 ^ (bitsN y - 1) * 2 ^ (64 - bitsN y) = 9223372036854775808 := by rw [← Nat.pow_add, show bitsN y - 1 + (64 - bitsN y) = 63 by omega]
    rw [← this]
    exact Nat.mul_le_mul_right _ b1
  generalize 64 - bitsN y = s at *
  have hB : (18446744073709551616 : Nat) = 2 ^ s * 2 ^ (64 - s) := by rw [← Nat.pow_add, show s + (64 - s) = 64 by omega]
  have hp := Nat.two_pow_pos s
  have hp' := Nat.two_pow_pos (64 - s)
  have hh : hi * 2 ^ s < y * 2 ^ s := Nat.mul_lt_mul_of_pos_right h0 hp
  have hlq : lo / 2 ^ (64 - s) < 2 ^ s := by rw [Nat.div_lt_iff_lt_mul hp', ← hB]; exact hl
  have hor : hi * 2 ^ s ||| lo / 2 ^ (64 - s) = hi * 2 ^ s + lo / 2 ^ (64 - s) := by
    rw [Nat.mul_comm, ← Nat.two_pow_add_eq_or_of_lt hlq]
  have hlo : lo * 2 ^ s = lo / 2 ^ (64 - s) * 18446744073709551616 + lo * 2 ^ s % 18446744073709551616 := by
    have h1 : lo * 2 ^ s / 18446744073709551616 = lo / 2 ^ (64 - s) := by
      conv => lhs; rw [hB]
      rw [Nat.mul_comm lo, Nat.mul_div_mul_left _ _ hp]
    have h2 := Nat.div_add_mod (lo * 2 ^ s) 18446744073709551616
    rw [h1] at h2
    omega
  have hlm : lo * 2 ^ s % 18446744073709551616 < 18446744073709551616 := Nat.mod_lt _ (by decide)
  have hN : (hi * 18446744073709551616 + lo) * 2 ^ s = (hi * 2 ^ s) * 18446744073709551616 + lo * 2 ^ s := by
    rw [Nat.add_mul, Nat.mul_right_comm]
  refine ⟨s, y * 2 ^ s, hi * 2 ^ s + lo / 2 ^ (64 - s), lo * 2 ^ s % 18446744073709551616, rfl, hs, rfl, hY1, hY2, by omega, hor, rfl, ?_, hlm, ?_⟩
  · have h1 : (hi + 1) * 2 ^ s ≤ y * 2 ^ s := Nat.mul_le_mul_right _ h0
    rw [Nat.add_mul, Nat.one_mul] at h1
    omega
  · rw [hN, hlo, Nat.add_mul]
    generalize lo * 2 ^ s % 18446744073709551616 = a at *
    generalize lo / 2 ^ (64 - s) = b at *
    generalize hi * 2 ^ s = c at *
    omega

/-- a half digit: q guessed, r left -/
def hInv (Y1 Y0 u v : Nat) (q r : Nat) : Prop := q * Y1 + r = u ∧ u * 4294967296 + v < (q + 1) * (Y1 * 4294967296 + Y0) ∧ r < 4294967296

theorem hInv_first {Y1 Y0 u v : Nat} (h1 : 0 < Y1) (h2 : Y1 < 4294967296) (hv : v < 4294967296) : hInv Y1 Y0 u v (u / Y1) (u % Y1) := by
  refine ⟨?_, half_first h1 hv, ?_⟩
  · rw [Nat.mul_comm]; exact Nat.div_add_mod u Y1
  · have := Nat.mod_lt u h1; omega

set_option maxHeartbeats 8000000 in
theorem div64_ok (hi lo y : Nat) (h0 : hi < y) (hl : lo < 18446744073709551616) (hy : y < 18446744073709551616) : Eqn Tryd.prog n_math_bits_Div64 [.d (.int .u64 hi), .d (.int .u64 lo), .d (.int .u64 y)] [] (.tup [.d (.int .u64 ((hi * 18446744073709551616 + lo) / y : Nat)), .d (.int .u64 ((hi * 18446744073709551616 + lo) % y : Nat))]) [] := by
  rcases Nat.eq_zero_or_pos hi with rfl | hpos
  · rw [Nat.zero_mul, Nat.zero_add]
    exact div64_small lo y hl (by omega)
  refine Eqn.pure r_math_bits_Div64 (plain_tup2 _ _) ?_
  simp only [c_math_bits_Div64]
  obtain ⟨s, Y, u, v, hs, hs63, hY, hYl, hYg, hhs, hor, hv, hu, hvl, hN⟩ := div_parts hi lo y h0 hl hy
  have hq : (hi * 18446744073709551616 + lo) / y = (u * 18446744073709551616 + v) / Y := by rw [← hN, ← hY]; exact shifted_div.1.symm
  have hr : (hi * 18446744073709551616 + lo) % y = (u * 18446744073709551616 + v) % Y / 2 ^ s := by rw [← hN, ← hY]; exact shifted_div.2.symm
  rw [hq, hr]
  clear hq hr hN
  obtain ⟨Qf, hQf⟩ : ∃ Qf, Qf = (u * 18446744073709551616 + v) / Y := ⟨_, rfl⟩
  obtain ⟨Rf, hRf⟩ : ∃ Rf, Rf = (u * 18446744073709551616 + v) % Y / 2 ^ s := ⟨_, rfl⟩
  rw [← hQf, ← hRf]
  have h1 : ¬ y = 0 := by omega
  have h2 : ¬ (y : Int) ≤ hi := by omega
  have h3 : ¬ hi = 0 := by omega
  have h1' : ¬ (y : Int) = 0 := by omega
  have h3' : ¬ (hi : Int) = 0 := by omega
  refine G1 (fs h1 h1') ?_; try with_reducible exact tt
  refine AW.cond rfl (fun h => ?_) (fun h => ?_)
  · simp [h1] at h
  refine G1 h2 ?_; try with_reducible exact tt
  refine AW.cond rfl (fun h => ?_) (fun h => ?_)
  · simp [h2] at h
  refine G1 (fs h3 h3') ?_; try with_reducible exact tt
  refine AW.cond rfl (fun h => ?_) (fun h => ?_)
  · simp [h3] at h
  refine G0 ?_; try with_reducible exact tt
  have hlead := lead64_ok y hy
  rw [← hs] at hlead
  have hq1' := Nat.div_add_mod Y 4294967296
  have hY0' : Y % 4294967296 < 4294967296 := Nat.mod_lt _ (by decide)
  have hv' := Nat.div_add_mod v 4294967296
  have hv0' : v % 4294967296 < 4294967296 := Nat.mod_lt _ (by decide)
  have f1 : IntKind.u64.wrap (s : Int) = s := wu64 (by omega) (by omega)
  have f2 : IntKind.u64.wrap ((y : Int) * 2 ^ s) = Y := by
    rw [show (y : Int) * 2 ^ s = ((y * 2 ^ s : Nat) : Int) by rw [Int.natCast_mul, Int.natCast_pow]; rfl, hY]; exact wu64 (by omega) (by omega)
  have f3 : (Y : Int) / 4294967296 = (Y / 4294967296 : Nat) := rfl
  have f4 := and32 Y hYl
  have f5 : IntKind.u64.wrap ((hi : Int) * 2 ^ s) = (hi * 2 ^ s : Nat) := by
    rw [show (hi : Int) * 2 ^ s = ((hi * 2 ^ s : Nat) : Int) by rw [Int.natCast_mul, Int.natCast_pow]; rfl]; exact wu64 (by omega) (by omega)
  have f6 : IntKind.u64.wrap ((64 : Int) - s) = (64 : Int) - s := wu64 (by omega) (by omega)
  have f7 : ((64 : Int) - s).toNat = 64 - s := by omega
  have f8 : (lo : Int) / 2 ^ (64 - s) = (lo / 2 ^ (64 - s) : Nat) := by rw [Int.natCast_ediv, Int.natCast_pow]; rfl
  have hll : lo / 2 ^ (64 - s) ≤ lo := Nat.div_le_self _ _
  have f9 := bits_or_u64_nat (hi * 2 ^ s) (lo / 2 ^ (64 - s)) hhs (by omega)
  rw [hor] at f9
  have f10 : IntKind.u64.wrap ((lo : Int) * 2 ^ s) = v := by
    rw [IntKind.wrap_u64, show (lo : Int) * 2 ^ s = ((lo * 2 ^ s : Nat) : Int) by rw [Int.natCast_mul, Int.natCast_pow]; rfl, ← hv]; rfl
  have f11 : (v : Int) / 4294967296 = (v / 4294967296 : Nat) := rfl
  have f12 := and32 v hvl
  have f13 : (s : Int) ≤ 64 := by omega
  have f14 : (0 : Int) ≤ 64 - s := by omega
  have f15 : (64 : Int) - s ≤ 64 := by omega
  generalize Y / 4294967296 = Y1 at *
  generalize Y % 4294967296 = Y0 at *
  generalize v / 4294967296 = v1 at *
  generalize v % 4294967296 = v0 at *
  generalize hi * 2 ^ s = h' at *
  generalize lo / 2 ^ (64 - s) = l' at *
  have hYY : Y = Y1 * 4294967296 + Y0 := by omega
  have hvv : v = v1 * 4294967296 + v0 := by omega
  have hY1 : 2147483648 ≤ Y1 := by omega
  have hY1l : Y1 < 4294967296 := by omega
  have hY0 : Y0 < 4294967296 := by omega
  have hv1 : v1 < 4294967296 := by omega
  have hv0 : v0 < 4294967296 := by omega
  have hYn : ¬ (Y1 : Int) = 0 := by omega
  have hYn' : ¬ Y1 = 0 := by omega
  have huq := Nat.div_add_mod u Y1
  have hqle : u / Y1 ≤ u := Nat.div_le_self _ _
  have g1 : IntKind.u64.wrap ((u : Int) / Y1) = (u / Y1 : Nat) := by rw [← Int.natCast_ediv]; generalize u / Y1 = q at *; exact wu64 (by omega) (by omega)
  have g2 : IntKind.u64.wrap (((u / Y1 : Nat) : Int) * Y1) = (u / Y1 * Y1 : Nat) := by
    rw [Nat.mul_comm] at huq
    rw [← Int.natCast_mul]; generalize u / Y1 * Y1 = q at *; exact wu64 (by omega) (by omega)
  have g3 : IntKind.u64.wrap ((u : Int) - (u / Y1 * Y1 : Nat)) = (u % Y1 : Nat) := by
    rw [Nat.mul_comm] at huq
    generalize u / Y1 * Y1 = q at *
    generalize u % Y1 = r at *
    rw [wu64 (by omega) (by omega)]; omega
  obtain ⟨q1, hq1⟩ : ∃ q1, q1 = (u * 4294967296 + v1) / Y := ⟨_, rfl⟩
  have gA : IntKind.u64.wrap ((u : Int) - IntKind.u64.wrap ((u : Int) / Y1 * Y1)) = (u : Int) % Y1 := by
    have h1 : ((u : Int) / Y1 * Y1) = ((u / Y1 : Nat) : Int) * Y1 := by rw [Int.natCast_ediv]
    rw [h1, g2, g3, Int.natCast_emod]
  refine G0 ?_; try with_reducible exact tt
  refine CallS.pu (hlead) (R1 (fs f1 (fs f2 (fs f3 (fs f4 (fs f5 (fs f6 (fs f7 (fs f8 (fs f9 (fs f10 (fs f11 (fs f12 (fs f13 (fs f14 (fs f15 (fs hYn (fs hYn' g1))))))))))))))))) ?_); try with_reducible exact tt
  refine AW.blockCut 0 [(15, .d (.int .u64 q1))] [] (by simp) (by simp) ?_ ?_
  · -- the half digit 15
    refine AW.loopT (α := Nat × Nat) 0 (fun a => [(15, .d (.int .u64 (a.1 : Int))), (16, .d (.int .u64 (a.2 : Int)))]) (fun _ => []) (fun a => hInv Y1 Y0 u v1 a.1 a.2) (fun a => a.1) (u / Y1, u % Y1) (by simp) (by simp) (hInv_first (by omega) (by omega) (by omega)) (by simp [gA]) (by simp) ?_
    rintro ⟨q, r⟩ ⟨i1, i2, i3⟩
    simp only at i1 i2 i3
    have hqY : q * 2147483648 ≤ q * Y1 := Nat.mul_le_mul_left _ hY1
    have hend : q * Y0 ≤ r * 4294967296 + v1 → q1 = q := fun h => by rw [hq1, hYY]; exact half_end i1 h i2
    have hnext : (4294967296 ≤ q ∨ r * 4294967296 + v1 < q * Y0) → 0 < q ∧ (q - 1) * Y1 + (r + Y1) = u ∧ u * 4294967296 + v1 < (q - 1 + 1) * (Y1 * 4294967296 + Y0) := fun h => half_next i1 (by omega) (by omega) h
    have hstep : ∀ (T : List V) , (4294967296 ≤ q ∨ r * 4294967296 + v1 < q * Y0) → 0 < q ∧ hInv Y1 Y0 u v1 (q - 1) (r + Y1) ∨ (0 < q ∧ 4294967296 ≤ r + Y1 ∧ q1 = q - 1) := fun _ h => by
      obtain ⟨n1, n2, n3⟩ := hnext h
      rcases Nat.lt_or_ge (r + Y1) 4294967296 with h1 | h1
      · exact .inl ⟨n1, n2, n3, h1⟩
      · refine .inr ⟨n1, h1, ?_⟩
        rw [hq1, hYY]
        exact half_end n2 (half_break n2 (by omega) hY0 h1 _) n3
    have b1 : IntKind.u64.wrap ((r : Int) + Y1) = ((r + Y1 : Nat) : Int) := wu64 (by omega) (by omega)
    have body : (4294967296 ≤ q ∨ r * 4294967296 + v1 < q * Y0) → IntKind.u64.wrap ((q : Int) - 1) = ((q - 1 : Nat) : Int) := fun h => by
      have := (hnext h).1
      rw [wu64 (by omega) (by omega)]; omega
    by_cases c1 : 4294967296 ≤ q
    · have c1' : (4294967296 : Int) ≤ q := by omega
      refine G1 c1' ?_; try with_reducible exact tt
      refine AW.cond rfl (fun h => ?_) (fun h => ?_)
      · have e1 := body (.inl c1)
        rcases hstep [] (.inl c1) with ⟨n1, n2⟩ | ⟨n1, n2, n3⟩
        · have n4 : ¬ (4294967296 : Int) ≤ ((r + Y1 : Nat) : Int) := by have := n2.2.2; omega
          generalize hr' : r + Y1 = r' at *
          generalize hq' : q - 1 = q' at *
          refine G1 (fs e1 (fs b1 n4)) ?_; try with_reducible exact tt
          refine AW.cond rfl (fun h => ?_) (fun h => ?_)
          · first | (simp [n4] at h; done) | (simp [n4] at h; omega)
          refine G0 ?_; try with_reducible exact tt
          exact ⟨q', r', n2, by omega, by simp, by simp⟩
        · have n4 : (4294967296 : Int) ≤ ((r + Y1 : Nat) : Int) := by omega
          generalize hr' : r + Y1 = r' at *
          generalize hq' : q - 1 = q' at *
          refine G1 (fs e1 (fs b1 n4)) ?_; try with_reducible exact tt
          refine AW.cond rfl (fun h => ?_) (fun h => ?_)
          · refine AW.exit ?_
            (try (simp -implicitDefEqProofs; try simp (disch := omega) only [w64, wu64]))
            rw [n3]
            exact Sub1.refl _
          · first | (simp at h; done) | (simp at h; omega)
      · simp [c1'] at h
    · have c1' : ¬ (4294967296 : Int) ≤ q := by omega
      have hqy : q * Y0 ≤ 4294967295 * 4294967295 := Nat.mul_le_mul (by omega) (by omega)
      have e1 : IntKind.u64.wrap ((q : Int) * Y0) = ((q * Y0 : Nat) : Int) := by rw [← Int.natCast_mul]; exact wu64 (by omega) (by omega)
      have e2 : IntKind.u64.wrap (4294967296 * (r : Int)) = ((4294967296 * r : Nat) : Int) := wu64 (by omega) (by omega)
      have e3 : IntKind.u64.wrap (((4294967296 * r : Nat) : Int) + v1) = ((4294967296 * r + v1 : Nat) : Int) := wu64 (by omega) (by omega)
      by_cases c2 : r * 4294967296 + v1 < q * Y0
      · have c2' : ((4294967296 * r + v1 : Nat) : Int) < ((q * Y0 : Nat) : Int) := by omega
        have e4 := body (.inr c2)
        have hs := hstep [] (.inr c2)
        clear hend hnext hstep body
        generalize q * Y0 = m at *
        generalize 4294967296 * r = m2 at *
        generalize m2 + v1 = m3 at *
        refine G1 (fs c1' (fs e1 (fs e2 (fs e3 c2')))) ?_; try with_reducible exact tt
        refine AW.cond rfl (fun h => ?_) (fun h => ?_)
        · rcases hs with ⟨n1, n2⟩ | ⟨n1, n2, n3⟩
          · have n4 : ¬ (4294967296 : Int) ≤ ((r + Y1 : Nat) : Int) := by have := n2.2.2; omega
            generalize hr' : r + Y1 = r' at *
            generalize hq' : q - 1 = q' at *
            refine G1 (fs e4 (fs b1 n4)) ?_; try with_reducible exact tt
            refine AW.cond rfl (fun h => ?_) (fun h => ?_)
            · first | (simp at h; done) | (simp at h; omega)
            refine G0 ?_; try with_reducible exact tt
            exact ⟨q', r', n2, by omega, by simp, by simp⟩
          · have n4 : (4294967296 : Int) ≤ ((r + Y1 : Nat) : Int) := by omega
            generalize hr' : r + Y1 = r' at *
            generalize hq' : q - 1 = q' at *
            refine G1 (fs e4 (fs b1 n4)) ?_; try with_reducible exact tt
            refine AW.cond rfl (fun h => ?_) (fun h => ?_)
            · refine AW.exit ?_
              (try (simp -implicitDefEqProofs; try simp (disch := omega) only [w64, wu64]))
              rw [n3]
              exact Sub1.refl _
            · first | (simp at h; done) | (simp at h; omega)
        · first | (simp at h; done) | (simp at h; omega)
      · have c2' : ¬ ((4294967296 * r + v1 : Nat) : Int) < ((q * Y0 : Nat) : Int) := by omega
        have e4 := hend (by omega)
        clear hend hnext hstep body
        generalize q * Y0 = m at *
        generalize 4294967296 * r = m2 at *
        generalize m2 + v1 = m3 at *
        refine G1 (fs c1' (fs e1 (fs e2 (fs e3 c2')))) ?_; try with_reducible exact tt
        refine AW.cond rfl (fun h => ?_) (fun h => ?_)
        · first | (simp at h; done) | (simp at h; omega)
        · refine AW.exit ?_
          (try (simp -implicitDefEqProofs; try simp (disch := omega) only [w64, wu64]))
          rw [e4]
          exact Sub1.refl _
  obtain ⟨r1, hr1⟩ : ∃ r1, r1 = u * 4294967296 + v1 - q1 * Y := ⟨_, rfl⟩
  have hd := Nat.div_add_mod (u * 4294967296 + v1) Y
  have hm := Nat.mod_lt (u * 4294967296 + v1) (show Y > 0 by omega)
  rw [← hq1, Nat.mul_comm] at hd
  have hr1l : r1 < Y := by omega
  have hq1l : q1 < 4294967296 := by
    rw [hq1, Nat.div_lt_iff_lt_mul (by omega)]
    omega
  have p1 : IntKind.u64.wrap ((u : Int) * 4294967296) = (u * 4294967296 % 18446744073709551616 : Nat) := by rw [IntKind.wrap_u64]; rfl
  have p2 : IntKind.u64.wrap (((u * 4294967296 % 18446744073709551616 : Nat) : Int) + v1) = ((u * 4294967296 + v1) % 18446744073709551616 : Nat) := by rw [IntKind.wrap_u64]; omega
  have p3 : IntKind.u64.wrap ((q1 : Int) * Y) = (q1 * Y % 18446744073709551616 : Nat) := by rw [IntKind.wrap_u64, ← Int.natCast_mul]; rfl
  have p4 : IntKind.u64.wrap (((((u * 4294967296 + v1) % 18446744073709551616 : Nat)) : Int) - (q1 * Y % 18446744073709551616 : Nat)) = (r1 : Int) := by
    rw [IntKind.wrap_u64]
    generalize q1 * Y = m at *
    omega
  have hrq := Nat.div_add_mod r1 Y1
  have hrle : r1 / Y1 ≤ r1 := Nat.div_le_self _ _
  have g1' : IntKind.u64.wrap ((r1 : Int) / Y1) = (r1 / Y1 : Nat) := by rw [← Int.natCast_ediv]; generalize r1 / Y1 = q at *; exact wu64 (by omega) (by omega)
  have g2' : IntKind.u64.wrap (((r1 / Y1 : Nat) : Int) * Y1) = (r1 / Y1 * Y1 : Nat) := by
    rw [Nat.mul_comm] at hrq
    rw [← Int.natCast_mul]; generalize r1 / Y1 * Y1 = q at *; exact wu64 (by omega) (by omega)
  have g3' : IntKind.u64.wrap ((r1 : Int) - (r1 / Y1 * Y1 : Nat)) = (r1 % Y1 : Nat) := by
    rw [Nat.mul_comm] at hrq
    generalize r1 / Y1 * Y1 = q at *
    generalize r1 % Y1 = r at *
    rw [wu64 (by omega) (by omega)]; omega
  have gA' : IntKind.u64.wrap ((r1 : Int) - IntKind.u64.wrap ((r1 : Int) / Y1 * Y1)) = (r1 : Int) % Y1 := by
    have h1 : ((r1 : Int) / Y1 * Y1) = ((r1 / Y1 : Nat) : Int) * Y1 := by rw [Int.natCast_ediv]
    rw [h1, g2', g3', Int.natCast_emod]
  have hp := halves' (y := Y) (a := u * 4294967296 + v1) (b := 4294967296) (v0 := v0) (q1 := q1) (q0 := (r1 * 4294967296 + v0) / Y) (by omega) hq1.symm (by rw [← hr1])
  rw [← hr1] at hp
  obtain ⟨q0, hq0⟩ : ∃ q0, q0 = (r1 * 4294967296 + v0) / Y := ⟨_, rfl⟩
  rw [← hq0] at hp
  rw [show u * 18446744073709551616 + v = (u * 4294967296 + v1) * 4294967296 + v0 by omega] at hQf hRf
  rw [hp.1] at hQf
  rw [hp.2] at hRf
  have hd0 := Nat.div_add_mod (r1 * 4294967296 + v0) Y
  have hm0 := Nat.mod_lt (r1 * 4294967296 + v0) (show Y > 0 by omega)
  rw [← hq0, Nat.mul_comm] at hd0
  obtain ⟨r0, hr0⟩ : ∃ r0, r0 = r1 * 4294967296 + v0 - q0 * Y := ⟨_, rfl⟩
  rw [← hr0] at hRf
  have hq0l : q0 < 4294967296 := by
    rw [hq0, Nat.div_lt_iff_lt_mul (by omega)]
    omega
  have s1 : IntKind.u64.wrap ((r1 : Int) * 4294967296) = (r1 * 4294967296 % 18446744073709551616 : Nat) := by rw [IntKind.wrap_u64]; rfl
  have s2 : IntKind.u64.wrap (((r1 * 4294967296 % 18446744073709551616 : Nat) : Int) + v0) = ((r1 * 4294967296 + v0) % 18446744073709551616 : Nat) := by rw [IntKind.wrap_u64]; omega
  have s3 : IntKind.u64.wrap ((q0 : Int) * Y) = (q0 * Y % 18446744073709551616 : Nat) := by rw [IntKind.wrap_u64, ← Int.natCast_mul]; rfl
  have s4 : IntKind.u64.wrap (((((r1 * 4294967296 + v0) % 18446744073709551616 : Nat)) : Int) - (q0 * Y % 18446744073709551616 : Nat)) = (r0 : Int) := by
    rw [IntKind.wrap_u64]
    generalize q0 * Y = m at *
    omega
  have s5 : IntKind.u64.wrap ((q1 : Int) * 4294967296) = (q1 * 4294967296 : Nat) := wu64 (by omega) (by omega)
  have s6 : IntKind.u64.wrap (((q1 * 4294967296 : Nat) : Int) + q0) = (q1 * 4294967296 + q0 : Nat) := wu64 (by omega) (by omega)
  have s7 : (r0 : Int) / 2 ^ s = (r0 / 2 ^ s : Nat) := by rw [Int.natCast_ediv, Int.natCast_pow]; rfl
  rw [← hRf] at s7
  rw [← hQf] at s6
  clear hp hd hm hr1 hq1 hr0 hd0 hm0 hRf hQf
  obtain ⟨t3, ht3⟩ : ∃ t, t = q1 * Y % 18446744073709551616 := ⟨_, rfl⟩
  rw [← ht3] at p3 p4
  obtain ⟨t2, ht2⟩ : ∃ t, t = (u * 4294967296 + v1) % 18446744073709551616 := ⟨_, rfl⟩
  rw [← ht2] at p2 p4
  obtain ⟨t1, ht1⟩ : ∃ t, t = u * 4294967296 % 18446744073709551616 := ⟨_, rfl⟩
  rw [← ht1] at p1 p2
  clear ht1 ht2 ht3
  simp
  repeat (first | refine AW.seq ?_ | refine AW.block ?_ | (refine AW.reg mix ?_; simp -implicitDefEqProofs [p1, p2, p3, p4, hYn, hYn', g1']; try simp (disch := omega) only [w64, wu64]) | (refine need.of (by first | omega | kernel_rfl) ?_) | (refine AW.fin ?_; try simp -implicitDefEqProofs [p1, p2, p3, p4, hYn, hYn', g1']))
  refine AW.blockCut 0 [(18, .d (.int .u64 q0))] [] (by simp) (by simp) ?_ ?_
  · -- the other half digit
    refine AW.loopT (α := Nat × Nat) 0 (fun a => [(18, .d (.int .u64 (a.1 : Int))), (16, .d (.int .u64 (a.2 : Int)))]) (fun _ => []) (fun a => hInv Y1 Y0 r1 v0 a.1 a.2) (fun a => a.1) (r1 / Y1, r1 % Y1) (by simp) (by simp) (hInv_first (by omega) (by omega) (by omega)) (by simp [gA']) (by simp) ?_
    rintro ⟨q, r⟩ ⟨i1, i2, i3⟩
    simp only at i1 i2 i3
    have hqY : q * 2147483648 ≤ q * Y1 := Nat.mul_le_mul_left _ hY1
    have hend : q * Y0 ≤ r * 4294967296 + v0 → q0 = q := fun h => by rw [hq0, hYY]; exact half_end i1 h i2
    have hnext : (4294967296 ≤ q ∨ r * 4294967296 + v0 < q * Y0) → 0 < q ∧ (q - 1) * Y1 + (r + Y1) = r1 ∧ r1 * 4294967296 + v0 < (q - 1 + 1) * (Y1 * 4294967296 + Y0) := fun h => half_next i1 (by omega) (by omega) h
    have hstep : ∀ (T : List V) , (4294967296 ≤ q ∨ r * 4294967296 + v0 < q * Y0) → 0 < q ∧ hInv Y1 Y0 r1 v0 (q - 1) (r + Y1) ∨ (0 < q ∧ 4294967296 ≤ r + Y1 ∧ q0 = q - 1) := fun _ h => by
      obtain ⟨n1, n2, n3⟩ := hnext h
      rcases Nat.lt_or_ge (r + Y1) 4294967296 with h1 | h1
      · exact .inl ⟨n1, n2, n3, h1⟩
      · refine .inr ⟨n1, h1, ?_⟩
        rw [hq0, hYY]
        exact half_end n2 (half_break n2 (by omega) hY0 h1 _) n3
    have b1 : IntKind.u64.wrap ((r : Int) + Y1) = ((r + Y1 : Nat) : Int) := wu64 (by omega) (by omega)
    have body : (4294967296 ≤ q ∨ r * 4294967296 + v0 < q * Y0) → IntKind.u64.wrap ((q : Int) - 1) = ((q - 1 : Nat) : Int) := fun h => by
      have := (hnext h).1
      rw [wu64 (by omega) (by omega)]; omega
    by_cases c1 : 4294967296 ≤ q
    · have c1' : (4294967296 : Int) ≤ q := by omega
      refine G1 c1' ?_; try with_reducible exact tt
      refine AW.cond rfl (fun h => ?_) (fun h => ?_)
      · have e1 := body (.inl c1)
        rcases hstep [] (.inl c1) with ⟨n1, n2⟩ | ⟨n1, n2, n3⟩
        · have n4 : ¬ (4294967296 : Int) ≤ ((r + Y1 : Nat) : Int) := by have := n2.2.2; omega
          generalize hr' : r + Y1 = r' at *
          generalize hq' : q - 1 = q' at *
          refine G1 (fs e1 (fs b1 n4)) ?_; try with_reducible exact tt
          refine AW.cond rfl (fun h => ?_) (fun h => ?_)
          · first | (simp [n4] at h; done) | (simp [n4] at h; omega)
          refine G0 ?_; try with_reducible exact tt
          exact ⟨q', r', n2, by omega, by simp, by simp⟩
        · have n4 : (4294967296 : Int) ≤ ((r + Y1 : Nat) : Int) := by omega
          generalize hr' : r + Y1 = r' at *
          generalize hq' : q - 1 = q' at *
          refine G1 (fs e1 (fs b1 n4)) ?_; try with_reducible exact tt
          refine AW.cond rfl (fun h => ?_) (fun h => ?_)
          · refine AW.exit ?_
            (try (simp -implicitDefEqProofs; try simp (disch := omega) only [w64, wu64]))
            rw [n3]
            exact Sub1.refl _
          · first | (simp at h; done) | (simp at h; omega)
      · simp [c1'] at h
    · have c1' : ¬ (4294967296 : Int) ≤ q := by omega
      have hqy : q * Y0 ≤ 4294967295 * 4294967295 := Nat.mul_le_mul (by omega) (by omega)
      have e1 : IntKind.u64.wrap ((q : Int) * Y0) = ((q * Y0 : Nat) : Int) := by rw [← Int.natCast_mul]; exact wu64 (by omega) (by omega)
      have e2 : IntKind.u64.wrap (4294967296 * (r : Int)) = ((4294967296 * r : Nat) : Int) := wu64 (by omega) (by omega)
      have e3 : IntKind.u64.wrap (((4294967296 * r : Nat) : Int) + v0) = ((4294967296 * r + v0 : Nat) : Int) := wu64 (by omega) (by omega)
      by_cases c2 : r * 4294967296 + v0 < q * Y0
      · have c2' : ((4294967296 * r + v0 : Nat) : Int) < ((q * Y0 : Nat) : Int) := by omega
        have e4 := body (.inr c2)
        have hs := hstep [] (.inr c2)
        clear hend hnext hstep body
        generalize q * Y0 = m at *
        generalize 4294967296 * r = m2 at *
        generalize m2 + v0 = m3 at *
        refine G1 (fs c1' (fs e1 (fs e2 (fs e3 c2')))) ?_; try with_reducible exact tt
        refine AW.cond rfl (fun h => ?_) (fun h => ?_)
        · rcases hs with ⟨n1, n2⟩ | ⟨n1, n2, n3⟩
          · have n4 : ¬ (4294967296 : Int) ≤ ((r + Y1 : Nat) : Int) := by have := n2.2.2; omega
            generalize hr' : r + Y1 = r' at *
            generalize hq' : q - 1 = q' at *
            refine G1 (fs e4 (fs b1 n4)) ?_; try with_reducible exact tt
            refine AW.cond rfl (fun h => ?_) (fun h => ?_)
            · first | (simp at h; done) | (simp at h; omega)
            refine G0 ?_; try with_reducible exact tt
            exact ⟨q', r', n2, by omega, by simp, by simp⟩
          · have n4 : (4294967296 : Int) ≤ ((r + Y1 : Nat) : Int) := by omega
            generalize hr' : r + Y1 = r' at *
            generalize hq' : q - 1 = q' at *
            refine G1 (fs e4 (fs b1 n4)) ?_; try with_reducible exact tt
            refine AW.cond rfl (fun h => ?_) (fun h => ?_)
            · refine AW.exit ?_
              (try (simp -implicitDefEqProofs; try simp (disch := omega) only [w64, wu64]))
              rw [n3]
              exact Sub1.refl _
            · first | (simp at h; done) | (simp at h; omega)
        · first | (simp at h; done) | (simp at h; omega)
      · have c2' : ¬ ((4294967296 * r + v0 : Nat) : Int) < ((q * Y0 : Nat) : Int) := by omega
        have e4 := hend (by omega)
        clear hend hnext hstep body
        generalize q * Y0 = m at *
        generalize 4294967296 * r = m2 at *
        generalize m2 + v0 = m3 at *
        refine G1 (fs c1' (fs e1 (fs e2 (fs e3 c2')))) ?_; try with_reducible exact tt
        refine AW.cond rfl (fun h => ?_) (fun h => ?_)
        · first | (simp at h; done) | (simp at h; omega)
        · refine AW.exit ?_
          (try (simp -implicitDefEqProofs; try simp (disch := omega) only [w64, wu64]))
          rw [e4]
          exact Sub1.refl _
  clear hq0
  obtain ⟨t6, ht6⟩ : ∃ t, t = q0 * Y % 18446744073709551616 := ⟨_, rfl⟩
  rw [← ht6] at s3 s4
  obtain ⟨t5, ht5⟩ : ∃ t, t = (r1 * 4294967296 + v0) % 18446744073709551616 := ⟨_, rfl⟩
  rw [← ht5] at s2 s4
  obtain ⟨t4, ht4⟩ : ∃ t, t = r1 * 4294967296 % 18446744073709551616 := ⟨_, rfl⟩
  rw [← ht4] at s1 s2
  obtain ⟨t7, ht7⟩ : ∃ t, t = q1 * 4294967296 := ⟨_, rfl⟩
  rw [← ht7] at s5 s6
  clear ht4 ht5 ht6 ht7
  simp
  refine G1 (fs s1 (fs s2 (fs s3 (fs s4 (fs s5 (fs s6 (fs s7 f13))))))) ?_; try with_reducible exact tt
end
end Go.Proofs.YtbgkkhbgaicmmaaDoor.Am
