/- Parts of the proof: CodeD0. -/
import Derived.Test.YtijbgbpjionfjaaGreatDoorPb
set_option linter.unusedVariables false
set_option linter.unusedSimpArgs false
set_option maxRecDepth 100000
namespace Go.Proofs.YtijbgbpjionfjaaGreatDoor.Am
section
open Go.Proofs.YtijbgbpjionfjaaGreatDoor.Am
theorem mix : Tryz.prog.follows .mixedOrders = true := by kernel_rfl

abbrev t_nat_Nat : Nat := 47
abbrev t_tape_Tape : Nat := 117
/-- tallymark/tallymarklaw21.CmsBegins -/
abbrev n_Tlaw21_CmsBegins : FuncId := 6
def c_Tlaw21_CmsBegins : C := (.seq (.reg false [⟨some 3,.box 26 (.t 0),none,[]⟩,⟨some 5,.box 76 (.t 2),none,[]⟩,⟨some 6,.mv (.d (.bool false)),none,[]⟩]) (.seq (.seq (.reg false [⟨some 21,.call 9 [],none,[]⟩,⟨some 22,.un .not (.t 21),none,[0]⟩])
  (.cond (.t 22) (.seq (.reg false [⟨some 6,.mv (.d (.bool false)),none,[]⟩]) .ret) .skip)) (.seq (.reg false [⟨some 23,.mv (.t 1),none,[]⟩,⟨some 24,.call 28 [(.t 23),(.d (.int .i64 600))],none,[0]⟩,⟨some 1,.mv (.t
  24),none,[1,1,0,1]⟩]) (.seq (.reg false [⟨some 25,.load true 6 (.t 3),none,[]⟩,⟨some 26,.call 10 [(.t 25)],none,[0]⟩,⟨some 7,.new 32 [(.int .i64 0),(.int .i64 0),(.int .i64 0),(.int .i64 0),(.int .i64
  0)],none,[]⟩,⟨none,.store 5 (.t 7) (.t 26),none,[2,1,1,0,1,2]⟩]) (.seq (.reg false [⟨some 27,.mv (.t 1),none,[]⟩,⟨some 28,.call 13 [(.t 27)],none,[0]⟩,⟨some 29,.mv (.t 1),none,[]⟩,⟨some 30,.call 13 [(.t
  29)],none,[2,1]⟩,⟨some 8,.mv (.t 28),none,[1,3,0,1]⟩,⟨some 9,.mv (.t 30),none,[3,4,0,1,2,3,4]⟩]) (.seq (.reg false [⟨some 32,.mv (.t 8),none,[]⟩,⟨some 33,.load true 5 (.t 7),none,[]⟩,⟨some 34,.call 32 [(.t 32),(.t
  33)],none,[0,1]⟩,⟨some 31,.mv (.t 34),none,[2]⟩,⟨some 35,.ext (.t 31) 0,none,[3]⟩,⟨some 36,.ext (.t 31) 1,none,[3]⟩,⟨some 10,.mv (.t 35),none,[4,2,0,1,2,3,4]⟩,⟨some 11,.mv (.t 36),none,[5,6,0,1,2,3,4,5,6]⟩]) (.seq (.seq
  (.reg false [⟨some 37,.fa 0 (.t 7),none,[]⟩,⟨some 38,.load false 1 (.t 37),none,[0]⟩,⟨some 39,.mv (.d (.int .i64 0)),none,[]⟩]) (.block 0 (.loop (.seq (.reg false [⟨some 40,.bin .lss (.t 39) (.t 38),none,[]⟩]) (.seq
  (.cond (.t 40) .skip (.exit 0)) (.seq (.block 1 (.seq (.reg false [⟨some 41,.mv (.t 39),none,[]⟩,⟨some 12,.mv (.t 41),none,[0,0]⟩]) (.seq (.reg false [⟨some 43,.mv (.t 9),none,[]⟩,⟨some 44,.call 33 [(.t
  43)],none,[0]⟩,⟨some 42,.mv (.t 44),none,[1]⟩,⟨some 45,.ext (.t 42) 0,none,[2]⟩,⟨some 46,.ext (.t 42) 1,none,[2]⟩,⟨some 13,.new 62 [(.int .u64 0),(.int .u64 0)],none,[]⟩,⟨none,.store 2 (.t 13) (.t
  45),none,[5,3,1,0,1,2,3,5]⟩,⟨some 14,.mv (.t 46),none,[4,6,0,1,2,3,4,5,6]⟩]) (.seq (.seq (.reg false [⟨some 47,.mv (.t 14),none,[]⟩,⟨some 48,.bin .neq (.t 47) (.d (.int .i64 0)),none,[0]⟩]) (.cond (.t 48) (.seq (.reg
  false [⟨some 49,.mv (.t 11),none,[]⟩,⟨some 50,.mv (.t 14),none,[]⟩,⟨some 51,.bin .eql (.t 49) (.t 50),none,[0,1]⟩,⟨some 52,.mv (.t 51),none,[2]⟩,⟨some 53,.mv (.t 10),some (52,true),[3]⟩,⟨some 54,.pnl false (.t 53),some
  (52,true),[4,3]⟩,⟨some 55,.pick (.t 52) (.t 54) (.d (.bool false)),none,[3,5]⟩,⟨some 6,.mv (.t 55),none,[6,3,0,1,2,3,4,5,6]⟩]) .ret) .skip)) (.seq (.reg true [⟨some 56,.mv (.t 11),none,[]⟩,⟨some 57,.bin .eql (.t 56) (.d
  (.int .i64 0)),none,[0]⟩,⟨some 58,.mv (.t 57),none,[1]⟩,⟨some 59,.mv (.t 10),some (58,true),[2]⟩,⟨some 60,.pnl true (.t 59),some (58,true),[3,2]⟩,⟨some 61,.pick (.t 58) (.t 60) (.d (.bool false)),none,[2,4]⟩,⟨some
  62,.mv (.t 61),none,[5,2]⟩,⟨some 63,.mv (.t 10),some (62,true),[6]⟩,⟨some 64,.call 23 [(.t 63)],some (62,true),[7,6,6]⟩,⟨some 65,.mv (.t 12),some (62,true),[6]⟩,⟨some 66,.ix 2 (.t 64) (.t 65),some
  (62,true),[8,9,6]⟩,⟨some 67,.load true 2 (.t 66),some (62,true),[10,6]⟩,⟨some 68,.load true 2 (.t 13),some (62,true),[6]⟩,⟨some 69,.aeq true [0,0] (.t 67) (.t 68),some (62,true),[11,12,6]⟩,⟨some 70,.pick (.t 62) (.t 69)
  (.d (.bool false)),none,[6,13]⟩]) (.cond (.t 70) (.seq (.reg false [⟨some 6,.mv (.d (.bool false)),none,[]⟩]) .ret) .skip)))))) (.reg false [⟨some 71,.bin .add (.t 39) (.d (.int .i64 1)),none,[]⟩,⟨some 39,.mv (.t
  71),none,[0]⟩]))))))) (.seq (.seq (.reg false [⟨some 72,.mv (.t 11),none,[]⟩,⟨some 73,.bin .neq (.t 72) (.d (.int .i64 0)),none,[0]⟩,⟨some 74,.mv (.t 73),none,[1]⟩,⟨some 75,.mv (.t 10),some (74,false),[2]⟩,⟨some 76,.pnl
  false (.t 75),some (74,false),[3,2]⟩,⟨some 77,.pick (.t 74) (.d (.bool true)) (.t 76),none,[2,4]⟩,⟨some 78,.mv (.t 77),none,[5,2]⟩,⟨some 79,.mv (.t 8),some (78,false),[6]⟩,⟨some 80,.call 17 [(.t 79)],some
  (78,false),[7,6,6]⟩,⟨some 81,.mv (.t 9),some (78,false),[6]⟩,⟨some 82,.call 17 [(.t 81)],some (78,false),[9,8,6]⟩,⟨some 83,.bin .neq (.t 80) (.t 82),some (78,false),[8,10,6]⟩,⟨some 84,.pick (.t 78) (.d (.bool true)) (.t
  83),none,[6,11]⟩,⟨some 85,.mv (.t 84),none,[12,10]⟩,⟨some 86,.mv (.t 10),some (85,false),[13]⟩,⟨some 87,.call 20 [(.t 86)],some (85,false),[14,13,13]⟩,⟨some 88,.bin .neq (.t 87) (.d (.int .i64 0)),some
  (85,false),[15,13]⟩,⟨some 89,.pick (.t 85) (.d (.bool true)) (.t 88),none,[13,16]⟩]) (.cond (.t 89) (.seq (.reg false [⟨some 6,.mv (.d (.bool false)),none,[]⟩]) .ret) .skip)) (.seq (.reg false [⟨some 90,.load true 5 (.t
  7),none,[]⟩,⟨some 15,.new 32 [(.int .i64 0),(.int .i64 0),(.int .i64 0),(.int .i64 0),(.int .i64 0)],none,[]⟩,⟨none,.store 5 (.t 15) (.t 90),none,[1,0,0,1]⟩]) (.seq (.reg true [⟨some 91,.ixa 2 1 (.t 5) (.d (.int .i64
  0)),none,[]⟩,⟨some 92,.load false 1 (.t 91),none,[0]⟩,⟨some 93,.ixa 2 1 (.t 5) (.d (.int .i64 1)),none,[]⟩,⟨some 94,.load false 1 (.t 93),none,[2]⟩,⟨some 95,.fa 0 (.t 15),none,[0,1]⟩,⟨none,.store 1 (.t 95) (.t
  92),none,[4,1,0,1]⟩,⟨some 96,.fa 1 (.t 15),none,[0,1,2,3,4,5]⟩,⟨none,.store 1 (.t 96) (.t 94),none,[6,3,5,0,1,2,3,4,5]⟩]) (.seq (.reg false [⟨some 98,.mv (.t 9),none,[]⟩,⟨some 99,.load true 5 (.t 15),none,[]⟩,⟨some
  100,.call 32 [(.t 98),(.t 99)],none,[0,1]⟩,⟨some 97,.mv (.t 100),none,[2]⟩,⟨some 101,.ext (.t 97) 0,none,[3]⟩,⟨some 102,.ext (.t 97) 1,none,[3]⟩,⟨some 16,.mv (.t 101),none,[4,2,0,1,2,3,4]⟩,⟨some 17,.mv (.t
  102),none,[5,6,0,1,2,3,4,5,6]⟩]) (.seq (.reg false [⟨some 103,.ixa 2 1 (.t 5) (.d (.int .i64 0)),none,[]⟩,⟨some 104,.load false 1 (.t 103),none,[0]⟩,⟨some 105,.bin .geq (.t 104) (.d (.int .i64 1)),none,[1]⟩,⟨some
  106,.mv (.t 105),none,[2]⟩,⟨some 107,.ixa 2 1 (.t 5) (.d (.int .i64 0)),some (106,true),[3]⟩,⟨some 108,.load false 1 (.t 107),some (106,true),[4,3]⟩,⟨some 109,.bin .leq (.t 108) (.d (.int .i64 4)),some
  (106,true),[5,3]⟩,⟨some 110,.pick (.t 106) (.t 109) (.d (.bool false)),none,[3,6]⟩,⟨some 111,.mv (.t 110),none,[7,3]⟩,⟨some 112,.ixa 2 1 (.t 5) (.d (.int .i64 1)),some (111,true),[8]⟩,⟨some 113,.load false 1 (.t
  112),some (111,true),[9,8]⟩,⟨some 114,.bin .geq (.t 113) (.d (.int .i64 1)),some (111,true),[10,8]⟩,⟨some 115,.pick (.t 111) (.t 114) (.d (.bool false)),none,[8,11]⟩,⟨some 116,.mv (.t 115),none,[12,8]⟩,⟨some 117,.ixa 2
  1 (.t 5) (.d (.int .i64 1)),some (116,true),[13]⟩,⟨some 118,.load false 1 (.t 117),some (116,true),[14,13]⟩,⟨some 119,.bin .leq (.t 118) (.d (.int .i64 64)),some (116,true),[15,13]⟩,⟨some 120,.pick (.t 116) (.t 119) (.d
  (.bool false)),none,[13,16]⟩,⟨some 18,.mv (.t 120),none,[17,13,0,1,2,3,4,5,6,7,8,9,10,11,12,13,14,15,16,17]⟩]) (.seq (.reg false [⟨some 122,.load true 5 (.t 7),none,[]⟩,⟨some 123,.call 11 [(.t 122),(.d
  .nilsl)],none,[0]⟩,⟨some 121,.mv (.t 123),none,[1]⟩,⟨some 124,.ext (.t 121) 0,none,[2]⟩,⟨some 125,.ext (.t 121) 1,none,[2]⟩,⟨some 19,.mv (.t 124),none,[3,1,0,1,2,3]⟩,⟨some 20,.mv (.t 125),none,[4,5,0,1,2,3,4,5]⟩]) (.seq
  (.reg false [⟨some 126,.mv (.t 17),none,[]⟩,⟨some 127,.bin .eql (.t 126) (.d (.int .i64 10)),none,[0]⟩,⟨some 128,.mv (.t 18),none,[]⟩,⟨some 129,.un .not (.t 128),none,[2]⟩,⟨some 130,.beq false (.t 127) (.t
  129),none,[1,3]⟩,⟨some 131,.mv (.t 130),none,[4]⟩,⟨some 132,.mv (.t 18),some (131,true),[5]⟩,⟨some 133,.mv (.t 132),some (131,true),[6,5,5]⟩,⟨some 134,.mv (.t 16),some (133,false),[7]⟩,⟨some 135,.pnl false (.t 134),some
  (133,false),[8,7]⟩,⟨some 136,.pick (.t 133) (.d (.bool true)) (.t 135),some (131,true),[7,9,5]⟩,⟨some 137,.pick (.t 131) (.t 136) (.d (.bool false)),none,[5,10]⟩,⟨some 138,.mv (.t 137),none,[11,7]⟩,⟨some 139,.load true
  5 (.t 15),some (138,true),[12]⟩,⟨some 140,.call 34 [(.t 139)],some (138,true),[13,12,12]⟩,⟨some 141,.mv (.t 18),some (138,true),[12]⟩,⟨some 142,.call 35 [(.t 141)],some (138,true),[15,14,12]⟩,⟨some 143,.bin .eql (.t
  140) (.t 142),some (138,true),[14,16,12]⟩,⟨some 144,.pick (.t 138) (.t 143) (.d (.bool false)),none,[12,17]⟩,⟨some 145,.mv (.t 144),none,[18,16]⟩,⟨some 146,.mv (.t 20),some (145,true),[19]⟩,⟨some 147,.bin .eql (.t 146)
  (.d (.int .i64 10)),some (145,true),[20,19]⟩,⟨some 148,.pick (.t 145) (.t 147) (.d (.bool false)),none,[19,21]⟩,⟨some 6,.mv (.t 148),none,[22,19,0,1,2,3,4,5,6,7,8,9,10,11,12,13,14,15,16,17,18,19,20,21,22]⟩])
  .ret))))))))))))))
theorem r_Tlaw21_CmsBegins : fnOf Tryz.prog n_Tlaw21_CmsBegins = some (c_Tlaw21_CmsBegins, [.t 6], 149, false) := by kernel_rfl

/-- tallymark/tallymarklaw21.awake -/
abbrev n_Tlaw21_awake : FuncId := 9
def c_Tlaw21_awake : C := (.seq (.reg false [⟨some 0,.mv (.d (.bool false)),none,[]⟩]) (.seq (.reg false [⟨some 6,.build [(.int .i64 0),(.int .i64 0),(.int .i64 0)] [(0,1,(.d (.int .i64 2))),(1,1,(.d (.int .i64 3))),(2,1,(.d (.int .i64
  4)))],none,[]⟩,⟨some 7,.build [(.int .i64 0),(.int .i64 0),(.int .i64 0),(.int .i64 0),(.int .i64 0)] [(0,1,(.d (.int .i64 1))),(1,1,(.d (.int .i64 1))),(2,3,(.t 6))],none,[0]⟩,⟨some 8,.build [(.int .u64 0),(.int .u64
  0)] [(0,1,(.d (.int .u64 1)))],none,[]⟩,⟨some 9,.bsl 62 2 1 [(.int .u64 0),(.int .u64 0)] [(0,2,(.t 8))],none,[2]⟩,⟨some 10,.call 11 [(.t 7),(.t 9)],none,[1,3]⟩,⟨some 5,.mv (.t 10),none,[4]⟩,⟨some 11,.ext (.t 5)
  0,none,[5]⟩,⟨some 12,.ext (.t 5) 1,none,[5]⟩,⟨some 1,.mv (.t 11),none,[6,4,0,1,2,3,4,5,6]⟩,⟨some 2,.mv (.t 12),none,[7,8,0,1,2,3,4,5,6,7,8]⟩]) (.seq (.seq (.reg false [⟨some 13,.mv (.t 2),none,[]⟩,⟨some 14,.bin .neq (.t
  13) (.d (.int .i64 0)),none,[0]⟩,⟨some 15,.mv (.t 14),none,[1]⟩,⟨some 16,.mv (.t 1),some (15,false),[2]⟩,⟨some 17,.pnl false (.t 16),some (15,false),[3,2]⟩,⟨some 18,.pick (.t 15) (.d (.bool true)) (.t
  17),none,[2,4]⟩,⟨some 19,.mv (.t 18),none,[5,2]⟩,⟨some 20,.mv (.t 1),some (19,false),[6]⟩,⟨some 21,.call 13 [(.d .nilsl)],some (19,false),[6,6]⟩,⟨some 22,.call 14 [(.t 20),(.t 21),(.d (.int .u64 5)),(.d (.int .i64
  3))],some (19,false),[7,8,8,6]⟩,⟨some 23,.bin .neq (.t 22) (.d (.int .i64 0)),some (19,false),[9,6]⟩,⟨some 24,.pick (.t 19) (.d (.bool true)) (.t 23),none,[6,10]⟩,⟨some 25,.mv (.t 24),none,[11,9]⟩,⟨some 26,.mv (.t
  1),some (25,false),[12]⟩,⟨some 27,.call 13 [(.d .nilsl)],some (25,false),[12,12]⟩,⟨some 28,.call 14 [(.t 26),(.t 27),(.d (.int .u64 9)),(.d (.int .i64 2))],some (25,false),[13,14,14,12]⟩,⟨some 29,.bin .neq (.t 28) (.d
  (.int .i64 0)),some (25,false),[15,12]⟩,⟨some 30,.pick (.t 25) (.d (.bool true)) (.t 29),none,[12,16]⟩]) (.cond (.t 30) (.seq (.reg false [⟨some 0,.mv (.d (.bool false)),none,[]⟩]) .ret) .skip)) (.seq (.reg false [⟨some
  32,.mv (.t 1),none,[]⟩,⟨some 33,.call 16 [(.t 32),(.d (.int .u64 77))],none,[0]⟩,⟨some 31,.mv (.t 33),none,[1]⟩,⟨some 34,.ext (.t 31) 0,none,[2]⟩,⟨some 35,.ext (.t 31) 1,none,[2]⟩,⟨some 3,.new 51 [.nilsl,(.bool
  false),.nilsl],none,[]⟩,⟨none,.store 3 (.t 3) (.t 34),none,[5,3,1,0,1,2,3,5]⟩,⟨some 4,.mv (.t 35),none,[4,6,0,1,2,3,4,5,6]⟩]) (.seq (.reg false [⟨some 36,.mv (.t 4),none,[]⟩,⟨some 37,.bin .eql (.t 36) (.d (.int .i64
  0)),none,[0]⟩,⟨some 38,.mv (.t 37),none,[1]⟩,⟨some 39,.load true 3 (.t 3),some (38,true),[2]⟩,⟨some 40,.call 22 [(.t 39)],some (38,true),[3,2,2]⟩,⟨some 41,.bin .eql (.t 40) (.d (.str ⟨#[53]⟩)),some
  (38,true),[4,2]⟩,⟨some 42,.pick (.t 38) (.t 41) (.d (.bool false)),none,[2,5]⟩,⟨some 43,.mv (.t 42),none,[6,4]⟩,⟨some 44,.mv (.t 1),some (43,true),[7]⟩,⟨some 45,.call 20 [(.t 44)],some (43,true),[8,7,7]⟩,⟨some 46,.bin
  .eql (.t 45) (.d (.int .i64 5)),some (43,true),[9,7]⟩,⟨some 47,.pick (.t 43) (.t 46) (.d (.bool false)),none,[7,10]⟩,⟨some 0,.mv (.t 47),none,[11,9,0,1,2,3,4,5,6,7,8,9,10,11]⟩]) .ret)))))
theorem r_Tlaw21_awake : fnOf Tryz.prog n_Tlaw21_awake = some (c_Tlaw21_awake, [.t 0], 48, false) := by kernel_rfl

/-- (tallymark/tallymarklaw21.Draw).Param -/
abbrev n_Tlaw21_Draw_Param : FuncId := 10
def c_Tlaw21_Draw_Param : C := (.seq (.reg false [⟨some 1,.box 26 (.t 0),none,[]⟩,⟨some 2,.new 32 [(.int .i64 0),(.int .i64 0),(.int .i64 0),(.int .i64 0),(.int .i64 0)],none,[]⟩]) (.seq (.reg false [⟨some 6,.fa 2 (.t 1),none,[]⟩,⟨some 7,.load true 3
  (.t 6),none,[0]⟩,⟨some 8,.build [(.int .i64 0),(.int .i64 0),(.bool false)] [],none,[]⟩,⟨some 9,.call 45 [(.t 7),(.t 8)],none,[1,2]⟩,⟨some 5,.mv (.t 9),none,[3]⟩,⟨some 10,.ext (.t 5) 0,none,[4]⟩,⟨some 11,.ext (.t 5)
  1,none,[4]⟩,⟨some 3,.new 23 [(.int .i64 0),(.int .i64 0),(.int .i64 0)],none,[]⟩,⟨some 4,.new 100 [(.int .i64 0),(.int .i64 0),(.bool false)],none,[]⟩,⟨none,.store 3 (.t 3) (.t
  10),none,[7,5,3,0,1,2,3,4,5,7,8]⟩,⟨none,.store 3 (.t 4) (.t 11),none,[8,6,9,0,1,2,3,4,5,6,7,8,9]⟩]) (.seq (.reg true [⟨some 12,.fa 0 (.t 1),none,[]⟩,⟨some 13,.load false 1 (.t 12),none,[0]⟩,⟨some 14,.bin .and (.t 13)
  (.d (.int .i64 3)),none,[1]⟩,⟨some 15,.bin .add (.d (.int .i64 1)) (.t 14),none,[2]⟩,⟨some 16,.fa 1 (.t 1),none,[]⟩,⟨some 17,.load false 1 (.t 16),none,[4]⟩,⟨some 18,.bin .and (.t 17) (.d (.int .i64
  255)),none,[5]⟩,⟨some 19,.bin .rem (.t 18) (.d (.int .i64 64)),none,[6]⟩,⟨some 20,.bin .add (.d (.int .i64 1)) (.t 19),none,[7]⟩,⟨some 21,.load true 3 (.t 3),none,[]⟩,⟨some 22,.call 46 [(.t 21)],none,[9]⟩,⟨some
  23,.build [(.int .i64 0),(.int .i64 0),(.int .i64 0),(.int .i64 0),(.int .i64 0)] [(0,1,(.t 15)),(1,1,(.t 20)),(2,3,(.t 22))],none,[3,8,10]⟩,⟨none,.store 5 (.t 2) (.t 23),none,[11,10,0,1,2,3,4,5,6,7,8,9,10,11]⟩]) .ret)))
theorem r_Tlaw21_Draw_Param : fnOf Tryz.prog n_Tlaw21_Draw_Param = some (c_Tlaw21_Draw_Param, [.cell 2 true 5], 24, false) := by kernel_rfl

/-- tallymark/cms.With -/
abbrev n_cms_With : FuncId := 11
def c_cms_With : C := (.seq (.reg false [⟨some 2,.box 32 (.t 0),none,[]⟩,⟨some 4,.mv (.d .nilp),none,[]⟩,⟨some 5,.mv (.d (.int .i64 0)),none,[1]⟩]) (.seq (.seq (.reg false [⟨some 13,.load true 5 (.t 2),none,[]⟩,⟨some 14,.call 34 [(.t
  13)],none,[0]⟩,⟨some 6,.mv (.t 14),none,[1,1,0,1]⟩]) (.block 0 (.seq (.reg false [⟨some 16,.mv (.t 6),none,[]⟩,⟨some 17,.bin .neq (.t 16) (.d (.int .i64 0)),none,[0]⟩,⟨some 15,.mv (.t 17),none,[1]⟩]) (.cond (.t 15)
  (.seq (.reg false [⟨some 18,.mv (.t 6),none,[]⟩,⟨some 4,.mv (.d .nilp),none,[]⟩,⟨some 5,.mv (.t 18),none,[0,1,0,1]⟩]) .ret) (.seq (.reg false [⟨some 20,.mv (.t 1),none,[]⟩,⟨some 21,.len (.t 20),none,[0]⟩,⟨some 22,.fa 0
  (.t 2),none,[]⟩,⟨some 23,.load false 1 (.t 22),none,[2]⟩,⟨some 24,.bin .neq (.t 21) (.t 23),none,[1,3]⟩,⟨some 19,.mv (.t 24),none,[4]⟩]) (.cond (.t 19) (.seq (.reg false [⟨some 4,.mv (.d .nilp),none,[]⟩,⟨some 5,.mv (.d
  (.int .i64 10)),none,[0,0]⟩]) .ret) .skip)))))) (.seq (.reg false [⟨some 25,.load true 5 (.t 2),none,[]⟩,⟨some 26,.build [(.int .i64 0),(.int .i64 0),(.int .i64 0),(.int .i64 0),(.int .i64 0),.nilsl,(.int .i64 0)]
  [(0,5,(.t 25))],none,[0]⟩,⟨some 27,.box 106 (.t 26),none,[1]⟩,⟨some 7,.mv (.t 27),none,[2,0,1,2]⟩]) (.seq (.seq (.reg false [⟨some 28,.mv (.t 1),none,[]⟩,⟨some 29,.len (.t 28),none,[0]⟩,⟨some 30,.mv (.d (.int .i64
  0)),none,[]⟩]) (.block 1 (.loop (.seq (.reg false [⟨some 31,.bin .lss (.t 30) (.t 29),none,[]⟩]) (.seq (.cond (.t 31) .skip (.exit 1)) (.seq (.block 2 (.seq (.reg false [⟨some 32,.ix 2 (.t 28) (.t 30),none,[]⟩,⟨some
  33,.load true 2 (.t 32),none,[0]⟩,⟨some 9,.new 62 [(.int .u64 0),(.int .u64 0)],none,[]⟩,⟨none,.store 2 (.t 9) (.t 33),none,[2,1,0,1,2]⟩]) (.seq (.seq (.reg false [⟨some 34,.load true 2 (.t 9),none,[]⟩,⟨some 35,.call 47
  [(.t 34)],none,[0]⟩,⟨some 10,.mv (.t 35),none,[1,1,0,1]⟩]) (.seq (.reg false [⟨some 36,.mv (.t 10),none,[]⟩,⟨some 37,.bin .neq (.t 36) (.d (.int .i64 0)),none,[0]⟩]) (.cond (.t 37) (.seq (.reg false [⟨some 38,.mv (.t
  10),none,[]⟩,⟨some 4,.mv (.d .nilp),none,[]⟩,⟨some 5,.mv (.t 38),none,[0,1,0,1]⟩]) .ret) .skip))) (.seq (.reg false [⟨some 40,.fa 2 (.t 2),none,[]⟩,⟨some 41,.load true 3 (.t 40),none,[0]⟩,⟨some 42,.fa 1 (.t
  2),none,[]⟩,⟨some 43,.load false 1 (.t 42),none,[2]⟩,⟨some 44,.call 48 [(.t 41),(.t 43)],none,[1,3]⟩,⟨some 39,.mv (.t 44),none,[4]⟩,⟨some 45,.ext (.t 39) 0,none,[5]⟩,⟨some 46,.ext (.t 39) 1,none,[5]⟩,⟨some 11,.mv (.t
  45),none,[6,4,0,1,2,3,4,5,6]⟩,⟨some 12,.mv (.t 46),none,[7,8,0,1,2,3,4,5,6,7,8]⟩]) (.seq (.seq (.reg false [⟨some 47,.mv (.t 12),none,[]⟩,⟨some 48,.bin .neq (.t 47) (.d (.int .i64 0)),none,[0]⟩]) (.cond (.t 48) (.seq
  (.reg false [⟨some 49,.mv (.t 12),none,[]⟩,⟨some 4,.mv (.d .nilp),none,[]⟩,⟨some 5,.mv (.t 49),none,[0,1,0,1]⟩]) .ret) .skip)) (.reg true [⟨some 50,.mv (.t 7),none,[]⟩,⟨some 51,.mv (.t 7),none,[]⟩,⟨some 52,.chk (.t
  51),none,[1]⟩,⟨some 53,.fa 5 (.t 52),none,[2]⟩,⟨some 54,.load false 1 (.t 53),none,[3]⟩,⟨some 55,.load true 2 (.t 9),none,[]⟩,⟨some 56,.mv (.t 11),none,[]⟩,⟨some 57,.build [(.int .u64 0),(.int .u64 0),.nilp] [(0,2,(.t
  55)),(2,1,(.t 56))],none,[5,6]⟩,⟨some 58,.bsl 111 3 1 [(.int .u64 0),(.int .u64 0),.nilp] [(0,3,(.t 57))],none,[7]⟩,⟨some 59,.app 111 3 24 (.t 54) (.t 58),none,[4,8]⟩,⟨some 60,.chk (.t
  50),none,[0,0,1,2,3,4,5,6,7,8,9]⟩,⟨some 61,.fa 5 (.t 60),none,[10,0,1,2,3,4,5,6,7,8,9]⟩,⟨none,.store 1 (.t 61) (.t 59),none,[11,9,9,0,1,2,3,4,5,6,7,8,9]⟩])))))) (.reg false [⟨some 62,.bin .add (.t 30) (.d (.int .i64
  1)),none,[]⟩,⟨some 30,.mv (.t 62),none,[0]⟩]))))))) (.seq (.reg false [⟨some 63,.mv (.t 7),none,[]⟩,⟨some 4,.mv (.t 63),none,[0,0]⟩,⟨some 5,.mv (.d (.int .i64 0)),none,[1,0,1]⟩]) .ret)))))
theorem r_cms_With : fnOf Tryz.prog n_cms_With = some (c_cms_With, [.t 4, .t 5], 64, false) := by kernel_rfl

/-- tallymark/tape.New -/
abbrev n_tape_New : FuncId := 13
def c_tape_New : C := (.seq (.reg false [⟨some 2,.mv (.d .nilp),none,[]⟩]) (.seq (.reg false [⟨some 3,.mv (.t 0),none,[]⟩,⟨some 4,.mv (.t 0),none,[]⟩,⟨some 5,.len (.t 4),none,[1]⟩,⟨some 6,.mm false [(.t 5),(.d (.int .i64
  1048576))],none,[2]⟩,⟨some 7,.slice 1 (.t 3) none (some (.t 6)) none,none,[0,3]⟩,⟨some 8,.call 50 [(.t 7)],none,[4]⟩,⟨some 9,.build [(.int .i64 0),(.bool false),.nilsl] [(2,1,(.t 8))],none,[5]⟩,⟨some 10,.box 117 (.t
  9),none,[6]⟩,⟨some 2,.mv (.t 10),none,[7,5,0,1,2,3,4,5,6,7]⟩]) .ret))
theorem r_tape_New : fnOf Tryz.prog n_tape_New = some (c_tape_New, [.t 2], 11, false) := by kernel_rfl

/-- (*tallymark/cms.Sketch).Update -/
abbrev n_cms_Sketch_Update : FuncId := 14
def c_cms_Sketch_Update : C := (.seq (.reg false [⟨some 8,.mv (.d (.int .i64 0)),none,[]⟩]) (.seq (.block 0 (.seq (.reg false [⟨some 16,.mv (.t 2),none,[]⟩,⟨some 17,.bin .geq (.t 16) (.d (.int .u64 2305843009213693951)),none,[0]⟩,⟨some 18,.mv (.t
  17),none,[1]⟩,⟨some 19,.mv (.t 3),some (18,false),[2]⟩,⟨some 20,.bin .lss (.t 19) (.d (.int .i64 0)),some (18,false),[3,2]⟩,⟨some 21,.pick (.t 18) (.d (.bool true)) (.t 20),none,[2,4]⟩,⟨some 22,.mv (.t
  21),none,[5,2]⟩,⟨some 23,.mv (.t 3),some (22,false),[6]⟩,⟨some 24,.bin .gtr (.t 23) (.d (.int .i64 1048576)),some (22,false),[7,6]⟩,⟨some 25,.pick (.t 22) (.d (.bool true)) (.t 24),none,[6,8]⟩,⟨some 15,.mv (.t
  25),none,[9,6]⟩]) (.cond (.t 15) (.seq (.reg false [⟨some 8,.mv (.d (.int .i64 2)),none,[]⟩]) .ret) (.seq (.reg false [⟨some 27,.mv (.t 0),none,[]⟩,⟨some 28,.chk (.t 27),none,[0]⟩,⟨some 29,.fa 6 (.t 28),none,[1]⟩,⟨some
  30,.load false 1 (.t 29),none,[2]⟩,⟨some 31,.mv (.t 3),none,[]⟩,⟨some 32,.bin .add (.t 30) (.t 31),none,[3,4]⟩,⟨some 33,.bin .gtr (.t 32) (.d (.int .i64 1099511627776)),none,[5]⟩,⟨some 26,.mv (.t 33),none,[6]⟩]) (.cond
  (.t 26) (.seq (.reg false [⟨some 8,.mv (.d (.int .i64 3)),none,[]⟩]) .ret) .skip))))) (.seq (.reg false [⟨some 34,.mv (.t 0),none,[]⟩,⟨some 35,.call 29 [(.t 34)],none,[0]⟩,⟨some 9,.mv (.t 35),none,[1,1,0,1]⟩]) (.seq
  (.seq (.reg false [⟨some 36,.mv (.t 9),none,[]⟩,⟨some 37,.chk (.t 36),none,[0]⟩,⟨some 38,.fa 5 (.t 37),none,[1]⟩,⟨some 39,.load false 1 (.t 38),none,[2]⟩,⟨some 40,.len (.t 39),none,[3]⟩,⟨some 41,.mv (.d (.int .i64
  0)),none,[]⟩]) (.block 1 (.loop (.seq (.reg false [⟨some 42,.bin .lss (.t 41) (.t 40),none,[]⟩]) (.seq (.cond (.t 42) .skip (.exit 1)) (.seq (.block 2 (.seq (.reg false [⟨some 43,.ix 3 (.t 39) (.t 41),none,[]⟩,⟨some
  44,.load true 3 (.t 43),none,[0]⟩,⟨some 11,.new 111 [(.int .u64 0),(.int .u64 0),.nilp],none,[]⟩,⟨none,.store 3 (.t 11) (.t 44),none,[2,1,0,1,2]⟩]) (.seq (.reg true [⟨some 46,.fa 0 (.t 11),none,[]⟩,⟨some 47,.load true 2
  (.t 46),none,[0]⟩,⟨some 48,.mv (.t 2),none,[]⟩,⟨some 49,.mv (.t 0),none,[]⟩,⟨some 50,.chk (.t 49),none,[3]⟩,⟨some 51,.fa 0 (.t 50),none,[4]⟩,⟨some 52,.fa 1 (.t 51),none,[5]⟩,⟨some 53,.load false 1 (.t
  52),none,[6]⟩,⟨some 54,.call 51 [(.t 47),(.t 48),(.t 53)],none,[1,2,7]⟩,⟨some 45,.mv (.t 54),none,[8]⟩,⟨some 55,.ext (.t 45) 0,none,[9]⟩,⟨some 56,.ext (.t 45) 1,none,[9]⟩,⟨some 12,.mv (.t
  55),none,[10,8,0,1,2,3,4,5,6,7,8,9,10]⟩,⟨some 13,.mv (.t 56),none,[11,12,0,1,2,3,4,5,6,7,8,9,10,11,12]⟩]) (.seq (.reg false [⟨some 57,.fa 2 (.t 11),none,[]⟩,⟨some 58,.load false 1 (.t 57),none,[0]⟩,⟨some 59,.mv (.t
  1),none,[]⟩,⟨some 60,.mv (.t 12),none,[]⟩,⟨some 61,.mv (.t 3),none,[]⟩,⟨some 62,.call 52 [(.t 58),(.t 59),(.t 60),(.t 61)],none,[1,2,3,4]⟩,⟨some 14,.mv (.t 62),none,[5,5,0,1,2,3,4,5]⟩]) (.seq (.reg false [⟨some 63,.mv
  (.t 14),none,[]⟩,⟨some 64,.bin .neq (.t 63) (.d (.int .i64 0)),none,[0]⟩]) (.cond (.t 64) (.seq (.reg false [⟨some 65,.mv (.t 14),none,[]⟩,⟨some 8,.mv (.t 65),none,[0,0]⟩]) .ret) .skip)))))) (.reg false [⟨some 66,.bin
  .add (.t 41) (.d (.int .i64 1)),none,[]⟩,⟨some 41,.mv (.t 66),none,[0]⟩]))))))) (.seq (.reg false [⟨some 67,.mv (.t 9),none,[]⟩,⟨some 68,.chk (.t 67),none,[0]⟩,⟨some 69,.fa 6 (.t 68),none,[1]⟩,⟨some 70,.load false 1 (.t
  69),none,[2]⟩,⟨some 71,.mv (.t 3),none,[]⟩,⟨some 72,.bin .add (.t 70) (.t 71),none,[3,4]⟩,⟨some 73,.chk (.t 67),none,[0,0,1,2,3,4,5]⟩,⟨some 74,.fa 6 (.t 73),none,[6,0,1,2,3,4,5]⟩,⟨none,.store 1 (.t 74) (.t
  72),none,[7,5,0,1,2,3,4,5]⟩]) (.seq (.reg false [⟨some 75,.mv (.t 0),none,[]⟩,⟨some 76,.mv (.t 9),none,[]⟩,⟨some 77,.chk (.t 76),none,[1]⟩,⟨some 78,.load true 7 (.t 77),none,[2]⟩,⟨some 79,.chk (.t
  75),none,[0,0,1,2,3]⟩,⟨none,.store 7 (.t 79) (.t 78),none,[4,3,0,1,2,3]⟩]) (.seq (.reg false [⟨some 8,.mv (.d (.int .i64 0)),none,[]⟩]) .ret)))))))
theorem r_cms_Sketch_Update : fnOf Tryz.prog n_cms_Sketch_Update = some (c_cms_Sketch_Update, [.t 8], 80, false) := by kernel_rfl

/-- (*tallymark/cms.Sketch).Query -/
abbrev n_cms_Sketch_Query : FuncId := 16
def c_cms_Sketch_Query : C := (.seq (.reg false [⟨some 4,.new 51 [.nilsl,(.bool false),.nilsl],none,[]⟩,⟨some 5,.mv (.d (.int .i64 0)),none,[]⟩]) (.seq (.reg false [⟨some 6,.new 51 [.nilsl,(.bool false),.nilsl],none,[]⟩]) (.seq (.seq (.reg false
  [⟨some 14,.mv (.t 0),none,[]⟩,⟨some 15,.chk (.t 14),none,[0]⟩,⟨some 16,.fa 5 (.t 15),none,[1]⟩,⟨some 17,.load false 1 (.t 16),none,[2]⟩,⟨some 18,.len (.t 17),none,[3]⟩,⟨some 19,.mv (.d (.int .i64 0)),none,[]⟩]) (.block
  0 (.loop (.seq (.reg false [⟨some 20,.bin .lss (.t 19) (.t 18),none,[]⟩]) (.seq (.cond (.t 20) .skip (.exit 0)) (.seq (.block 1 (.seq (.reg false [⟨some 21,.mv (.t 19),none,[]⟩,⟨some 22,.ix 3 (.t 17) (.t
  19),none,[]⟩,⟨some 23,.load true 3 (.t 22),none,[1]⟩,⟨some 8,.new 111 [(.int .u64 0),(.int .u64 0),.nilp],none,[]⟩,⟨some 7,.mv (.t 21),none,[0,0,1,2,3]⟩,⟨none,.store 3 (.t 8) (.t 23),none,[3,2,4,0,1,2,3,4]⟩]) (.seq
  (.reg true [⟨some 25,.fa 0 (.t 8),none,[]⟩,⟨some 26,.load true 2 (.t 25),none,[0]⟩,⟨some 27,.mv (.t 1),none,[]⟩,⟨some 28,.mv (.t 0),none,[]⟩,⟨some 29,.chk (.t 28),none,[3]⟩,⟨some 30,.fa 0 (.t 29),none,[4]⟩,⟨some 31,.fa
  1 (.t 30),none,[5]⟩,⟨some 32,.load false 1 (.t 31),none,[6]⟩,⟨some 33,.call 51 [(.t 26),(.t 27),(.t 32)],none,[1,2,7]⟩,⟨some 24,.mv (.t 33),none,[8]⟩,⟨some 34,.ext (.t 24) 0,none,[9]⟩,⟨some 35,.ext (.t 24)
  1,none,[9]⟩,⟨some 9,.mv (.t 34),none,[10,8,0,1,2,3,4,5,6,7,8,9,10]⟩,⟨some 10,.mv (.t 35),none,[11,12,0,1,2,3,4,5,6,7,8,9,10,11,12]⟩]) (.seq (.seq (.reg false [⟨some 36,.mv (.t 10),none,[]⟩,⟨some 37,.bin .neq (.t 36) (.d
  (.int .i64 0)),none,[0]⟩]) (.cond (.t 37) (.seq (.reg false [⟨some 38,.build [.nilsl,(.bool false),.nilsl] [],none,[]⟩,⟨some 39,.mv (.t 10),none,[]⟩,⟨none,.store 3 (.t 4) (.t 38),none,[0,0]⟩,⟨some 5,.mv (.t
  39),none,[1,2,0,1,2]⟩]) .ret) .skip)) (.seq (.reg false [⟨some 41,.fa 2 (.t 8),none,[]⟩,⟨some 42,.load false 1 (.t 41),none,[0]⟩,⟨some 43,.mv (.t 9),none,[]⟩,⟨some 44,.call 53 [(.t 42),(.t 43)],none,[1,2]⟩,⟨some 40,.mv
  (.t 44),none,[3]⟩,⟨some 45,.ext (.t 40) 0,none,[4]⟩,⟨some 46,.ext (.t 40) 1,none,[4]⟩,⟨some 11,.new 64 [(.int .i64 0),(.int .i64 0),(.bool false)],none,[]⟩,⟨none,.store 3 (.t 11) (.t
  45),none,[7,5,3,0,1,2,3,4,5,7]⟩,⟨some 12,.mv (.t 46),none,[6,8,0,1,2,3,4,5,6,7,8]⟩]) (.seq (.reg true [⟨some 48,.mv (.t 0),none,[]⟩,⟨some 49,.chk (.t 48),none,[0]⟩,⟨some 50,.fa 0 (.t 49),none,[1]⟩,⟨some 51,.fa 2 (.t
  50),none,[2]⟩,⟨some 52,.load true 3 (.t 51),none,[3]⟩,⟨some 53,.load true 3 (.t 11),none,[]⟩,⟨some 54,.call 27 [(.t 52),(.t 53)],none,[4,5]⟩,⟨some 47,.mv (.t 54),none,[6]⟩,⟨some 55,.ext (.t 47) 0,none,[7]⟩,⟨some 56,.ext
  (.t 47) 1,none,[7]⟩,⟨some 13,.new 51 [.nilsl,(.bool false),.nilsl],none,[]⟩,⟨none,.store 3 (.t 13) (.t 55),none,[10,8,6,0,1,2,3,4,5,6,7,8,10]⟩,⟨some 10,.mv (.t 56),none,[9,11,0,1,2,3,4,5,6,7,8,9,10,11]⟩]) (.seq (.seq
  (.reg false [⟨some 57,.mv (.t 10),none,[]⟩,⟨some 58,.bin .neq (.t 57) (.d (.int .i64 0)),none,[0]⟩]) (.cond (.t 58) (.seq (.reg false [⟨some 59,.build [.nilsl,(.bool false),.nilsl] [],none,[]⟩,⟨some 60,.mv (.t
  10),none,[]⟩,⟨none,.store 3 (.t 4) (.t 59),none,[0,0]⟩,⟨some 5,.mv (.t 60),none,[1,2,0,1,2]⟩]) .ret) .skip)) (.seq (.reg false [⟨some 61,.mv (.t 7),none,[]⟩,⟨some 62,.bin .eql (.t 61) (.d (.int .i64 0)),none,[0]⟩,⟨some
  63,.mv (.t 62),none,[1]⟩,⟨some 64,.load true 3 (.t 13),some (63,false),[2]⟩,⟨some 65,.load true 3 (.t 6),some (63,false),[2]⟩,⟨some 66,.call 18 [(.t 64),(.t 65)],some (63,false),[3,4,2,2]⟩,⟨some 67,.bin .lss (.t 66) (.d
  (.int .i64 0)),some (63,false),[5,2]⟩,⟨some 68,.pick (.t 63) (.d (.bool true)) (.t 67),none,[2,6]⟩]) (.cond (.t 68) (.reg false [⟨some 69,.load true 3 (.t 13),none,[]⟩,⟨none,.store 3 (.t 6) (.t 69),none,[0,0]⟩])
  .skip))))))))) (.reg false [⟨some 70,.bin .add (.t 19) (.d (.int .i64 1)),none,[]⟩,⟨some 19,.mv (.t 70),none,[0]⟩]))))))) (.seq (.reg false [⟨some 71,.load true 3 (.t 6),none,[]⟩,⟨none,.store 3 (.t 4) (.t
  71),none,[0,0]⟩,⟨some 5,.mv (.d (.int .i64 0)),none,[1,0,1]⟩]) .ret))))
theorem r_cms_Sketch_Query : fnOf Tryz.prog n_cms_Sketch_Query = some (c_cms_Sketch_Query, [.cell 4 true 3, .t 5], 72, false) := by kernel_rfl

/-- (*tallymark/tape.Tape).Read -/
abbrev n_tape_Tape_Read : FuncId := 17
def c_tape_Tape_Read : C := (.seq (.reg false [⟨some 2,.mv (.d (.int .i64 0)),none,[]⟩]) (.seq (.reg false [⟨some 3,.mv (.t 0),none,[]⟩,⟨some 4,.chk (.t 3),none,[0]⟩,⟨some 5,.fa 0 (.t 4),none,[1]⟩,⟨some 6,.fa 0 (.t 5),none,[2]⟩,⟨some 7,.load false
  1 (.t 6),none,[3]⟩,⟨some 2,.mv (.t 7),none,[4,0,1,2,3,4]⟩]) .ret))
theorem r_tape_Tape_Read : fnOf Tryz.prog n_tape_Tape_Read = some (c_tape_Tape_Read, [.t 2], 8, false) := by kernel_rfl

/-- tallymark/rat.Cmp -/
abbrev n_rat_Cmp : FuncId := 18
def c_rat_Cmp : C := (.seq (.reg false [⟨some 2,.box 51 (.t 0),none,[]⟩,⟨some 3,.box 51 (.t 1),none,[]⟩,⟨some 4,.mv (.d (.int .i64 0)),none,[]⟩]) (.seq (.reg true [⟨some 5,.fa 0 (.t 2),none,[]⟩,⟨some 6,.load true 2 (.t 5),none,[0]⟩,⟨some
  7,.load true 3 (.t 3),none,[]⟩,⟨some 8,.call 56 [(.t 7)],none,[2]⟩,⟨some 9,.call 55 [(.t 6),(.t 8)],none,[1,3,3]⟩,⟨some 10,.fa 0 (.t 3),none,[]⟩,⟨some 11,.load true 2 (.t 10),none,[5]⟩,⟨some 12,.load true 3 (.t
  2),none,[]⟩,⟨some 13,.call 56 [(.t 12)],none,[7,4]⟩,⟨some 14,.call 55 [(.t 11),(.t 13)],none,[6,8,8]⟩,⟨some 15,.call 54 [(.t 9),(.t 14)],none,[4,9,9]⟩,⟨some 4,.mv (.t 15),none,[10,10,0,1,2,3,4,5,6,7,8,9,10]⟩]) .ret))
theorem r_rat_Cmp : fnOf Tryz.prog n_rat_Cmp = some (c_rat_Cmp, [.t 4], 16, false) := by kernel_rfl

/-- tallymark/rat.Of -/
abbrev n_rat_Of : FuncId := 19
def c_rat_Of : C := (.seq (.reg false [⟨some 2,.new 51 [.nilsl,(.bool false),.nilsl],none,[]⟩]) (.seq (.reg false [⟨some 3,.mv (.t 0),none,[]⟩,⟨some 4,.call 57 [(.t 3)],none,[0]⟩,⟨some 5,.build [.nilsl,(.bool false),.nilsl] [(0,2,(.t
  4))],none,[1]⟩,⟨none,.store 3 (.t 2) (.t 5),none,[2,1,0,1,2]⟩]) .ret))
theorem r_rat_Of : fnOf Tryz.prog n_rat_Of = some (c_rat_Of, [.cell 2 true 3], 6, false) := by kernel_rfl

/-- (*tallymark/cms.Sketch).Total -/
abbrev n_cms_Sketch_Total : FuncId := 20
def c_cms_Sketch_Total : C := (.seq (.reg false [⟨some 2,.mv (.d (.int .i64 0)),none,[]⟩]) (.seq (.reg false [⟨some 3,.mv (.t 0),none,[]⟩,⟨some 4,.chk (.t 3),none,[0]⟩,⟨some 5,.fa 6 (.t 4),none,[1]⟩,⟨some 6,.load false 1 (.t 5),none,[2]⟩,⟨some 2,.mv
  (.t 6),none,[3,0,1,2,3]⟩]) .ret))
theorem r_cms_Sketch_Total : fnOf Tryz.prog n_cms_Sketch_Total = some (c_cms_Sketch_Total, [.t 2], 7, false) := by kernel_rfl

/-- (tallymark/rat.Rat).Text -/
abbrev n_rat_Rat_Text : FuncId := 22
def c_rat_Rat_Text : C := (.seq (.reg false [⟨some 1,.box 51 (.t 0),none,[]⟩,⟨some 2,.mv (.d (.str ⟨#[]⟩)),none,[]⟩]) (.seq (.seq (.reg false [⟨some 3,.load true 3 (.t 1),none,[]⟩,⟨some 4,.call 58 [(.t 3)],none,[0]⟩]) (.cond (.t 4) (.seq (.reg
  false [⟨some 5,.fa 0 (.t 1),none,[]⟩,⟨some 6,.load true 2 (.t 5),none,[0]⟩,⟨some 7,.call 59 [(.t 6)],none,[1]⟩,⟨some 2,.mv (.t 7),none,[2,2,0,1,2]⟩]) .ret) .skip)) (.seq (.reg true [⟨some 8,.fa 0 (.t 1),none,[]⟩,⟨some
  9,.load true 2 (.t 8),none,[0]⟩,⟨some 10,.call 59 [(.t 9)],none,[1]⟩,⟨some 11,.bin .add (.t 10) (.d (.str ⟨#[47]⟩)),none,[2]⟩,⟨some 12,.load true 3 (.t 1),none,[]⟩,⟨some 13,.call 60 [(.t 12)],none,[4,2]⟩,⟨some 14,.call
  61 [(.t 13)],none,[5,5]⟩,⟨some 15,.bin .add (.t 11) (.t 14),none,[3,6]⟩,⟨some 2,.mv (.t 15),none,[7,6,0,1,2,3,4,5,6,7]⟩]) .ret)))
theorem r_rat_Rat_Text : fnOf Tryz.prog n_rat_Rat_Text = some (c_rat_Rat_Text, [.t 2], 16, false) := by kernel_rfl

/-- (*tallymark/cms.Sketch).Hashes -/
abbrev n_cms_Sketch_Hashes : FuncId := 23
def c_cms_Sketch_Hashes : C := (.seq (.reg false [⟨some 2,.mv (.d .nilsl),none,[]⟩]) (.seq (.reg false [⟨some 3,.mv (.d .nilsl),none,[]⟩]) (.seq (.seq (.reg false [⟨some 6,.mv (.t 0),none,[]⟩,⟨some 7,.chk (.t 6),none,[0]⟩,⟨some 8,.fa 5 (.t
  7),none,[1]⟩,⟨some 9,.load false 1 (.t 8),none,[2]⟩,⟨some 10,.len (.t 9),none,[3]⟩,⟨some 11,.mv (.d (.int .i64 0)),none,[]⟩]) (.block 0 (.loop (.seq (.reg false [⟨some 12,.bin .lss (.t 11) (.t 10),none,[]⟩]) (.seq
  (.cond (.t 12) .skip (.exit 0)) (.seq (.block 1 (.seq (.reg false [⟨some 13,.ix 3 (.t 9) (.t 11),none,[]⟩,⟨some 14,.load true 3 (.t 13),none,[0]⟩,⟨some 5,.new 111 [(.int .u64 0),(.int .u64
  0),.nilp],none,[]⟩,⟨none,.store 3 (.t 5) (.t 14),none,[2,1,0,1,2]⟩]) (.reg false [⟨some 15,.mv (.t 3),none,[]⟩,⟨some 16,.fa 0 (.t 5),none,[]⟩,⟨some 17,.load true 2 (.t 16),none,[1]⟩,⟨some 18,.bsl 62 2 1 [(.int .u64
  0),(.int .u64 0)] [(0,2,(.t 17))],none,[2]⟩,⟨some 19,.app 62 2 16 (.t 15) (.t 18),none,[0,3]⟩,⟨some 3,.mv (.t 19),none,[4,4,0,1,2,3,4]⟩]))) (.reg false [⟨some 20,.bin .add (.t 11) (.d (.int .i64 1)),none,[]⟩,⟨some
  11,.mv (.t 20),none,[0]⟩]))))))) (.seq (.reg false [⟨some 21,.mv (.t 3),none,[]⟩,⟨some 2,.mv (.t 21),none,[0,0]⟩]) .ret))))
theorem r_cms_Sketch_Hashes : fnOf Tryz.prog n_cms_Sketch_Hashes = some (c_cms_Sketch_Hashes, [.t 2], 22, false) := by kernel_rfl

/-- (tallymark/reg.Param).Value -/
abbrev n_reg_Param_Value : FuncId := 27
def c_reg_Param_Value : C := (.seq (.reg false [⟨some 2,.box 30 (.t 0),none,[]⟩,⟨some 3,.box 64 (.t 1),none,[]⟩,⟨some 4,.new 51 [.nilsl,(.bool false),.nilsl],none,[]⟩,⟨some 5,.mv (.d (.int .i64 0)),none,[]⟩]) (.seq (.seq (.reg false [⟨some 9,.load
  true 3 (.t 2),none,[]⟩,⟨some 10,.load true 3 (.t 3),none,[]⟩,⟨some 11,.bsl 64 3 1 [(.int .i64 0),(.int .i64 0),(.bool false)] [(0,3,(.t 10))],none,[1]⟩,⟨some 12,.call 66 [(.t 9),(.t 11)],none,[0,2]⟩,⟨some 6,.mv (.t
  12),none,[3,3,0,1,2,3]⟩]) (.seq (.reg false [⟨some 13,.mv (.t 6),none,[]⟩,⟨some 14,.bin .neq (.t 13) (.d (.int .i64 0)),none,[0]⟩]) (.cond (.t 14) (.seq (.reg false [⟨some 15,.build [.nilsl,(.bool false),.nilsl]
  [],none,[]⟩,⟨some 16,.mv (.t 6),none,[]⟩,⟨none,.store 3 (.t 4) (.t 15),none,[0,0]⟩,⟨some 5,.mv (.t 16),none,[1,2,0,1,2]⟩]) .ret) .skip))) (.seq (.seq (.reg false [⟨some 17,.fa 0 (.t 2),none,[]⟩,⟨some 18,.load false 1
  (.t 17),none,[0]⟩,⟨some 19,.bin .eql (.t 18) (.d (.int .i64 4)),none,[1]⟩]) (.cond (.t 19) (.seq (.reg true [⟨some 21,.load true 3 (.t 2),none,[]⟩,⟨some 22,.call 67 [(.t 21)],none,[0]⟩,⟨some 23,.load true 3 (.t
  3),none,[]⟩,⟨some 24,.call 69 [(.t 23)],none,[2,1]⟩,⟨some 25,.call 68 [(.t 22),(.t 24)],none,[1,3,3]⟩,⟨some 20,.mv (.t 25),none,[4]⟩,⟨some 26,.ext (.t 20) 0,none,[5]⟩,⟨some 27,.ext (.t 20) 1,none,[5]⟩,⟨some 7,.new 47
  [.nilsl],none,[]⟩,⟨none,.store 1 (.t 7) (.t 26),none,[8,6,4,0,1,2,3,4,5,6,8]⟩,⟨some 8,.mv (.t 27),none,[7,9,0,1,2,3,4,5,6,7,8,9]⟩]) (.seq (.reg false [⟨some 28,.load true 1 (.t 7),none,[]⟩,⟨some 29,.call 70 [(.t
  28)],none,[0]⟩,⟨some 30,.mv (.t 8),none,[]⟩,⟨none,.store 3 (.t 4) (.t 29),none,[1,1,0,1]⟩,⟨some 5,.mv (.t 30),none,[2,3,0,1,2,3]⟩]) .ret)) .skip)) (.seq (.reg true [⟨some 31,.load true 3 (.t 2),none,[]⟩,⟨some 32,.call
  71 [(.t 31)],none,[0]⟩,⟨some 33,.fa 0 (.t 3),none,[]⟩,⟨some 34,.load false 1 (.t 33),none,[2]⟩,⟨some 35,.call 72 [(.t 32),(.t 34)],none,[1,3,1]⟩,⟨some 36,.ext (.t 35) 0,none,[4]⟩,⟨some 37,.ext (.t 35)
  1,none,[4]⟩,⟨none,.store 3 (.t 4) (.t 36),none,[5,4,0,1,2,3,4,5,6]⟩,⟨some 5,.mv (.t 37),none,[6,7,0,1,2,3,4,5,6,7]⟩]) .ret))))
theorem r_reg_Param_Value : fnOf Tryz.prog n_reg_Param_Value = some (c_reg_Param_Value, [.cell 4 true 3, .t 5], 38, false) := by kernel_rfl

/-- tallymark/tallymarklaw09.Few -/
abbrev n_Tlaw09_Few : FuncId := 28
def c_Tlaw09_Few : C := (.seq (.reg false [⟨some 4,.mv (.d .nilsl),none,[]⟩]) (.seq (.seq (.reg false [⟨some 5,.mv (.t 0),none,[]⟩,⟨some 6,.len (.t 5),none,[0]⟩,⟨some 7,.mv (.t 1),none,[]⟩,⟨some 8,.bin .gtr (.t 6) (.t 7),none,[1,2]⟩]) (.cond
  (.t 8) (.seq (.reg false [⟨some 9,.mv (.t 0),none,[]⟩,⟨some 10,.mv (.t 1),none,[]⟩,⟨some 11,.slice 1 (.t 9) none (some (.t 10)) none,none,[0,1]⟩,⟨some 4,.mv (.t 11),none,[2,0,1,2]⟩]) .ret) .skip)) (.seq (.reg false
  [⟨some 12,.mv (.t 0),none,[]⟩,⟨some 4,.mv (.t 12),none,[0,0]⟩]) .ret)))
theorem r_Tlaw09_Few : fnOf Tryz.prog n_Tlaw09_Few = some (c_Tlaw09_Few, [.t 4], 13, false) := by kernel_rfl

/-- (*tallymark/cms.Sketch).Clone -/
abbrev n_cms_Sketch_Clone : FuncId := 29
def c_cms_Sketch_Clone : C := (.seq (.reg false [⟨some 2,.mv (.d .nilp),none,[]⟩]) (.seq (.reg false [⟨some 6,.mv (.t 0),none,[]⟩,⟨some 7,.chk (.t 6),none,[0]⟩,⟨some 8,.load true 7 (.t 7),none,[1]⟩,⟨some 3,.new 106 [(.int .i64 0),(.int .i64 0),(.int
  .i64 0),(.int .i64 0),(.int .i64 0),.nilsl,(.int .i64 0)],none,[]⟩,⟨none,.store 7 (.t 3) (.t 8),none,[3,2,0,1,2,3]⟩]) (.seq (.reg false [⟨some 9,.mv (.t 0),none,[]⟩,⟨some 10,.chk (.t 9),none,[0]⟩,⟨some 11,.fa 5 (.t
  10),none,[1]⟩,⟨some 12,.load false 1 (.t 11),none,[2]⟩,⟨some 13,.call 73 [(.t 12)],none,[3]⟩,⟨some 14,.fa 5 (.t 3),none,[0,1,2,3,4]⟩,⟨none,.store 1 (.t 14) (.t 13),none,[5,4,4,0,1,2,3,4]⟩]) (.seq (.seq (.reg false
  [⟨some 15,.mv (.t 0),none,[]⟩,⟨some 16,.chk (.t 15),none,[0]⟩,⟨some 17,.fa 5 (.t 16),none,[1]⟩,⟨some 18,.load false 1 (.t 17),none,[2]⟩,⟨some 19,.len (.t 18),none,[3]⟩,⟨some 20,.mv (.d (.int .i64 0)),none,[]⟩]) (.block
  0 (.loop (.seq (.reg false [⟨some 21,.bin .lss (.t 20) (.t 19),none,[]⟩]) (.seq (.cond (.t 21) .skip (.exit 0)) (.seq (.block 1 (.seq (.reg false [⟨some 22,.mv (.t 20),none,[]⟩,⟨some 23,.ix 3 (.t 18) (.t
  20),none,[]⟩,⟨some 24,.load true 3 (.t 23),none,[1]⟩,⟨some 5,.new 111 [(.int .u64 0),(.int .u64 0),.nilp],none,[]⟩,⟨some 4,.mv (.t 22),none,[0,0,1,2,3]⟩,⟨none,.store 3 (.t 5) (.t 24),none,[3,2,4,0,1,2,3,4]⟩]) (.reg true
  [⟨some 25,.fa 5 (.t 3),none,[]⟩,⟨some 26,.load false 1 (.t 25),none,[0]⟩,⟨some 27,.mv (.t 4),none,[]⟩,⟨some 28,.fa 2 (.t 5),none,[]⟩,⟨some 29,.load false 1 (.t 28),none,[3]⟩,⟨some 30,.call 74 [(.t 29)],none,[4]⟩,⟨some
  31,.ix 3 (.t 26) (.t 27),none,[1,2,0,1,2,3,4,5]⟩,⟨some 32,.fa 2 (.t 31),none,[6,0,1,2,3,4,5]⟩,⟨none,.store 1 (.t 32) (.t 30),none,[7,5,5,0,1,2,3,4,5]⟩]))) (.reg false [⟨some 33,.bin .add (.t 20) (.d (.int .i64
  1)),none,[]⟩,⟨some 20,.mv (.t 33),none,[0]⟩]))))))) (.seq (.reg false [⟨some 2,.mv (.t 3),none,[]⟩]) .ret)))))
theorem r_cms_Sketch_Clone : fnOf Tryz.prog n_cms_Sketch_Clone = some (c_cms_Sketch_Clone, [.t 2], 34, false) := by kernel_rfl

/-- (tallymark/reg.Param).Add -/
abbrev n_reg_Param_Add : FuncId := 31
def c_reg_Param_Add : C := (.seq (.reg false [⟨some 4,.box 30 (.t 0),none,[]⟩,⟨some 6,.box 64 (.t 2),none,[]⟩,⟨some 8,.new 64 [(.int .i64 0),(.int .i64 0),(.bool false)],none,[]⟩,⟨some 9,.mv (.d (.int .i64 0)),none,[]⟩]) (.seq (.seq (.reg false
  [⟨some 15,.load true 3 (.t 4),none,[]⟩,⟨some 16,.load true 3 (.t 6),none,[]⟩,⟨some 17,.bsl 64 3 1 [(.int .i64 0),(.int .i64 0),(.bool false)] [(0,3,(.t 16))],none,[1]⟩,⟨some 18,.call 66 [(.t 15),(.t
  17)],none,[0,2]⟩,⟨some 10,.mv (.t 18),none,[3,3,0,1,2,3]⟩]) (.seq (.reg false [⟨some 19,.mv (.t 10),none,[]⟩,⟨some 20,.bin .neq (.t 19) (.d (.int .i64 0)),none,[0]⟩]) (.cond (.t 20) (.seq (.reg false [⟨some 21,.load
  true 3 (.t 6),none,[]⟩,⟨some 22,.mv (.t 10),none,[]⟩,⟨none,.store 3 (.t 8) (.t 21),none,[0,0]⟩,⟨some 9,.mv (.t 22),none,[1,2,0,1,2]⟩]) .ret) .skip))) (.seq (.seq (.reg false [⟨some 23,.fa 0 (.t 4),none,[]⟩,⟨some
  24,.load false 1 (.t 23),none,[0]⟩,⟨some 25,.bin .eql (.t 24) (.d (.int .i64 4)),none,[1]⟩]) (.cond (.t 25) (.seq (.reg true [⟨some 27,.load true 3 (.t 4),none,[]⟩,⟨some 28,.call 67 [(.t 27)],none,[0]⟩,⟨some 29,.mv (.t
  1),none,[]⟩,⟨some 30,.load true 3 (.t 6),none,[]⟩,⟨some 31,.call 69 [(.t 30)],none,[3,1]⟩,⟨some 32,.mv (.t 3),none,[]⟩,⟨some 33,.call 79 [(.t 28),(.t 29),(.t 31),(.t 32)],none,[1,2,4,5,4]⟩,⟨some 26,.mv (.t
  33),none,[6]⟩,⟨some 34,.ext (.t 26) 0,none,[7]⟩,⟨some 35,.ext (.t 26) 1,none,[7]⟩,⟨some 11,.new 139 [(.int .i64 0),(.int .i64 0),(.bool false)],none,[]⟩,⟨none,.store 3 (.t 11) (.t
  34),none,[10,8,6,0,1,2,3,4,5,6,7,8,10]⟩,⟨some 12,.mv (.t 35),none,[9,11,0,1,2,3,4,5,6,7,8,9,10,11]⟩]) (.seq (.reg false [⟨some 36,.load true 3 (.t 11),none,[]⟩,⟨some 37,.call 80 [(.t 36)],none,[0]⟩,⟨some 38,.mv (.t
  12),none,[]⟩,⟨none,.store 3 (.t 8) (.t 37),none,[1,1,0,1]⟩,⟨some 9,.mv (.t 38),none,[2,3,0,1,2,3]⟩]) .ret)) .skip)) (.seq (.reg true [⟨some 40,.load true 3 (.t 4),none,[]⟩,⟨some 41,.call 71 [(.t 40)],none,[0]⟩,⟨some
  42,.mv (.t 1),none,[]⟩,⟨some 43,.load true 3 (.t 6),none,[]⟩,⟨some 44,.call 82 [(.t 43)],none,[3,1]⟩,⟨some 45,.mv (.t 3),none,[]⟩,⟨some 46,.call 81 [(.t 41),(.t 42),(.t 44),(.t 45)],none,[1,2,4,5,4]⟩,⟨some 39,.mv (.t
  46),none,[6]⟩,⟨some 47,.ext (.t 39) 0,none,[7]⟩,⟨some 48,.ext (.t 39) 1,none,[7]⟩,⟨some 13,.new 155 [(.int .i64 0),(.bool false)],none,[]⟩,⟨none,.store 2 (.t 13) (.t 47),none,[10,8,6,0,1,2,3,4,5,6,7,8,10]⟩,⟨some 14,.mv
  (.t 48),none,[9,11,0,1,2,3,4,5,6,7,8,9,10,11]⟩]) (.seq (.reg false [⟨some 49,.load true 2 (.t 13),none,[]⟩,⟨some 50,.call 83 [(.t 49)],none,[0]⟩,⟨some 51,.mv (.t 14),none,[]⟩,⟨none,.store 3 (.t 8) (.t
  50),none,[1,1,0,1]⟩,⟨some 9,.mv (.t 51),none,[2,3,0,1,2,3]⟩]) .ret)))))
theorem r_reg_Param_Add : fnOf Tryz.prog n_reg_Param_Add = some (c_reg_Param_Add, [.cell 8 true 3, .t 9], 52, false) := by kernel_rfl

/-- tallymark/cms.New -/
abbrev n_cms_New : FuncId := 32
def c_cms_New : C := (.seq (.reg false [⟨some 3,.box 32 (.t 1),none,[]⟩,⟨some 4,.mv (.d .nilp),none,[]⟩,⟨some 5,.mv (.d (.int .i64 0)),none,[1]⟩]) (.seq (.seq (.reg false [⟨some 10,.load true 5 (.t 3),none,[]⟩,⟨some 11,.call 34 [(.t
  10)],none,[0]⟩,⟨some 6,.mv (.t 11),none,[1,1,0,1]⟩]) (.seq (.reg false [⟨some 12,.mv (.t 6),none,[]⟩,⟨some 13,.bin .neq (.t 12) (.d (.int .i64 0)),none,[0]⟩]) (.cond (.t 13) (.seq (.reg false [⟨some 14,.mv (.t
  6),none,[]⟩,⟨some 4,.mv (.d .nilp),none,[]⟩,⟨some 5,.mv (.t 14),none,[0,1,0,1]⟩]) .ret) .skip))) (.seq (.reg false [⟨some 7,.mv (.d .nilsl),none,[]⟩]) (.seq (.seq (.reg false [⟨some 15,.fa 0 (.t 3),none,[]⟩,⟨some
  16,.load false 1 (.t 15),none,[0]⟩,⟨some 17,.mv (.d (.int .i64 0)),none,[]⟩]) (.block 0 (.loop (.seq (.reg false [⟨some 18,.bin .lss (.t 17) (.t 16),none,[]⟩]) (.seq (.cond (.t 18) .skip (.exit 0)) (.seq (.block 1 (.seq
  (.reg false [⟨some 20,.mv (.t 0),none,[]⟩,⟨some 21,.call 33 [(.t 20)],none,[0]⟩,⟨some 19,.mv (.t 21),none,[1]⟩,⟨some 22,.ext (.t 19) 0,none,[2]⟩,⟨some 23,.ext (.t 19) 1,none,[2]⟩,⟨some 8,.new 62 [(.int .u64 0),(.int
  .u64 0)],none,[]⟩,⟨none,.store 2 (.t 8) (.t 22),none,[5,3,1,0,1,2,3,5]⟩,⟨some 9,.mv (.t 23),none,[4,6,0,1,2,3,4,5,6]⟩]) (.seq (.seq (.reg false [⟨some 24,.mv (.t 9),none,[]⟩,⟨some 25,.bin .neq (.t 24) (.d (.int .i64
  0)),none,[0]⟩]) (.cond (.t 25) (.seq (.reg false [⟨some 26,.mv (.t 9),none,[]⟩,⟨some 4,.mv (.d .nilp),none,[]⟩,⟨some 5,.mv (.t 26),none,[0,1,0,1]⟩]) .ret) .skip)) (.reg false [⟨some 27,.mv (.t 7),none,[]⟩,⟨some 28,.load
  true 2 (.t 8),none,[]⟩,⟨some 29,.bsl 62 2 1 [(.int .u64 0),(.int .u64 0)] [(0,2,(.t 28))],none,[1]⟩,⟨some 30,.app 62 2 16 (.t 27) (.t 29),none,[0,2]⟩,⟨some 7,.mv (.t 30),none,[3,3,0,1,2,3]⟩])))) (.reg false [⟨some
  31,.bin .add (.t 17) (.d (.int .i64 1)),none,[]⟩,⟨some 17,.mv (.t 31),none,[0]⟩]))))))) (.seq (.reg false [⟨some 32,.load true 5 (.t 3),none,[]⟩,⟨some 33,.mv (.t 7),none,[]⟩,⟨some 34,.call 11 [(.t 32),(.t
  33)],none,[0,1]⟩,⟨some 35,.ext (.t 34) 0,none,[2]⟩,⟨some 36,.ext (.t 34) 1,none,[2]⟩,⟨some 4,.mv (.t 35),none,[3,2,0,1,2,3,4]⟩,⟨some 5,.mv (.t 36),none,[4,5,0,1,2,3,4,5]⟩]) .ret)))))
theorem r_cms_New : fnOf Tryz.prog n_cms_New = some (c_cms_New, [.t 4, .t 5], 37, false) := by kernel_rfl

/-- tallymark/hash.Draw -/
abbrev n_hash_Draw : FuncId := 33
def c_hash_Draw : C := (.seq (.reg false [⟨some 2,.new 62 [(.int .u64 0),(.int .u64 0)],none,[]⟩,⟨some 3,.mv (.d (.int .i64 0)),none,[]⟩]) (.seq (.reg false [⟨some 8,.mv (.t 0),none,[]⟩,⟨some 9,.call 84 [(.t 8),(.d (.int .u64
  2305843009213693951))],none,[0]⟩,⟨some 7,.mv (.t 9),none,[1]⟩,⟨some 10,.ext (.t 7) 0,none,[2]⟩,⟨some 11,.ext (.t 7) 1,none,[2]⟩,⟨some 4,.mv (.t 10),none,[3,1,0,1,2,3]⟩,⟨some 5,.mv (.t 11),none,[4,5,0,1,2,3,4,5]⟩]) (.seq
  (.seq (.reg false [⟨some 12,.mv (.t 5),none,[]⟩,⟨some 13,.bin .neq (.t 12) (.d (.int .i64 0)),none,[0]⟩]) (.cond (.t 13) (.seq (.reg false [⟨some 14,.build [(.int .u64 0),(.int .u64 0)] [],none,[]⟩,⟨some 15,.mv (.t
  5),none,[]⟩,⟨none,.store 2 (.t 2) (.t 14),none,[0,0]⟩,⟨some 3,.mv (.t 15),none,[1,2,0,1,2]⟩]) .ret) .skip)) (.seq (.reg false [⟨some 17,.mv (.t 0),none,[]⟩,⟨some 18,.call 84 [(.t 17),(.d (.int .u64
  2305843009213693951))],none,[0]⟩,⟨some 16,.mv (.t 18),none,[1]⟩,⟨some 19,.ext (.t 16) 0,none,[2]⟩,⟨some 20,.ext (.t 16) 1,none,[2]⟩,⟨some 6,.mv (.t 19),none,[3,1,0,1,2,3]⟩,⟨some 5,.mv (.t 20),none,[4,5,0,1,2,3,4,5]⟩])
  (.seq (.seq (.reg false [⟨some 21,.mv (.t 5),none,[]⟩,⟨some 22,.bin .neq (.t 21) (.d (.int .i64 0)),none,[0]⟩]) (.cond (.t 22) (.seq (.reg false [⟨some 23,.build [(.int .u64 0),(.int .u64 0)] [],none,[]⟩,⟨some 24,.mv
  (.t 5),none,[]⟩,⟨none,.store 2 (.t 2) (.t 23),none,[0,0]⟩,⟨some 3,.mv (.t 24),none,[1,2,0,1,2]⟩]) .ret) .skip)) (.seq (.reg false [⟨some 25,.mv (.t 4),none,[]⟩,⟨some 26,.mv (.t 6),none,[]⟩,⟨some 27,.build [(.int .u64
  0),(.int .u64 0)] [(0,1,(.t 25)),(1,1,(.t 26))],none,[0,1]⟩,⟨none,.store 2 (.t 2) (.t 27),none,[2,0,1,2]⟩,⟨some 3,.mv (.d (.int .i64 0)),none,[3,0,1,2,3]⟩]) .ret))))))
theorem r_hash_Draw : fnOf Tryz.prog n_hash_Draw = some (c_hash_Draw, [.cell 2 true 2, .t 3], 28, false) := by kernel_rfl

/-- (tallymark/cms.Param).Check -/
abbrev n_cms_Param_Check : FuncId := 34
def c_cms_Param_Check : C := (.seq (.reg false [⟨some 1,.box 32 (.t 0),none,[]⟩,⟨some 2,.mv (.d (.int .i64 0)),none,[]⟩]) (.seq (.seq (.reg false [⟨some 3,.fa 0 (.t 1),none,[]⟩,⟨some 4,.load false 1 (.t 3),none,[0]⟩,⟨some 5,.bin .lss (.t 4) (.d
  (.int .i64 1)),none,[1]⟩,⟨some 6,.mv (.t 5),none,[2]⟩,⟨some 7,.fa 0 (.t 1),some (6,false),[3]⟩,⟨some 8,.load false 1 (.t 7),some (6,false),[4,3]⟩,⟨some 9,.bin .gtr (.t 8) (.d (.int .i64 4)),some (6,false),[5,3]⟩,⟨some
  10,.pick (.t 6) (.d (.bool true)) (.t 9),none,[3,6]⟩,⟨some 11,.mv (.t 10),none,[7,3]⟩,⟨some 12,.fa 1 (.t 1),some (11,false),[8]⟩,⟨some 13,.load false 1 (.t 12),some (11,false),[9,8]⟩,⟨some 14,.bin .lss (.t 13) (.d (.int
  .i64 1)),some (11,false),[10,8]⟩,⟨some 15,.pick (.t 11) (.d (.bool true)) (.t 14),none,[8,11]⟩,⟨some 16,.mv (.t 15),none,[12,8]⟩,⟨some 17,.fa 1 (.t 1),some (16,false),[13]⟩,⟨some 18,.load false 1 (.t 17),some
  (16,false),[14,13]⟩,⟨some 19,.bin .gtr (.t 18) (.d (.int .i64 64)),some (16,false),[15,13]⟩,⟨some 20,.pick (.t 16) (.d (.bool true)) (.t 19),none,[13,16]⟩]) (.cond (.t 20) (.seq (.reg false [⟨some 2,.mv (.d (.int .i64
  10)),none,[]⟩]) .ret) .skip)) (.seq (.reg false [⟨some 21,.fa 2 (.t 1),none,[]⟩,⟨some 22,.load true 3 (.t 21),none,[0]⟩,⟨some 23,.call 85 [(.t 22)],none,[1]⟩,⟨some 2,.mv (.t 23),none,[2,2,0,1,2]⟩]) .ret)))
theorem r_cms_Param_Check : fnOf Tryz.prog n_cms_Param_Check = some (c_cms_Param_Check, [.t 2], 24, false) := by kernel_rfl

/-- tallymark/tallymarklaw21.okay -/
abbrev n_Tlaw21_okay : FuncId := 35
def c_Tlaw21_okay : C := (.seq (.reg false [⟨some 2,.mv (.d (.int .i64 0)),none,[]⟩]) (.seq (.seq (.reg false [⟨some 3,.mv (.t 0),none,[]⟩]) (.cond (.t 3) (.seq (.reg false [⟨some 2,.mv (.d (.int .i64 0)),none,[]⟩]) .ret) .skip)) (.seq (.reg
  false [⟨some 2,.mv (.d (.int .i64 10)),none,[]⟩]) .ret)))
theorem r_Tlaw21_okay : fnOf Tryz.prog n_Tlaw21_okay = some (c_Tlaw21_okay, [.t 2], 4, false) := by kernel_rfl

/-- tallymark/bits.Read -/
abbrev n_bits_Read : FuncId := 38
def c_bits_Read : C := (.seq (.reg false [⟨some 2,.mv (.d .nilp),none,[]⟩]) (.seq (.reg false [⟨some 3,.mv (.t 0),none,[]⟩,⟨some 4,.call 92 [(.t 3)],none,[0]⟩,⟨some 5,.build [.nilsl,(.int .i64 0)] [(0,1,(.t 4))],none,[1]⟩,⟨some 6,.box 174 (.t
  5),none,[2]⟩,⟨some 2,.mv (.t 6),none,[3,1,0,1,2,3]⟩]) .ret))
theorem r_bits_Read : fnOf Tryz.prog n_bits_Read = some (c_bits_Read, [.t 2], 7, false) := by kernel_rfl

/-- (*tallymark/bits.Writer).Bytes -/
abbrev n_bits_Writer_Bytes : FuncId := 39
def c_bits_Writer_Bytes : C := (.seq (.reg false [⟨some 2,.mv (.d .nilsl),none,[]⟩]) (.seq (.reg false [⟨some 4,.mv (.t 0),none,[]⟩,⟨some 5,.chk (.t 4),none,[0]⟩,⟨some 6,.fa 0 (.t 5),none,[1]⟩,⟨some 7,.load false 1 (.t 6),none,[2]⟩,⟨some 8,.len (.t
  7),none,[3]⟩,⟨some 9,.mksl 5 1 1 [(.int .u8 0)] (.t 8) (.t 8),none,[4,4]⟩,⟨some 3,.mv (.t 9),none,[5,0,1,2,3,4,5]⟩]) (.seq (.reg false [⟨some 10,.mv (.t 3),none,[]⟩,⟨some 11,.mv (.t 0),none,[]⟩,⟨some 12,.chk (.t
  11),none,[1]⟩,⟨some 13,.fa 0 (.t 12),none,[2]⟩,⟨some 14,.load false 1 (.t 13),none,[3]⟩,⟨some 15,.cpy 1 (.t 10) (.t 14),none,[0,4]⟩]) (.seq (.reg false [⟨some 16,.mv (.t 3),none,[]⟩,⟨some 2,.mv (.t 16),none,[0,0]⟩])
  .ret))))
theorem r_bits_Writer_Bytes : fnOf Tryz.prog n_bits_Writer_Bytes = some (c_bits_Writer_Bytes, [.t 2], 17, false) := by kernel_rfl

/-- (*tallymark/bits.Reader).Bit -/
abbrev n_bits_Reader_Bit : FuncId := 41
def c_bits_Reader_Bit : C := (.seq (.reg false [⟨some 2,.mv (.d (.bool false)),none,[]⟩,⟨some 3,.mv (.d (.int .i64 0)),none,[0]⟩]) (.seq (.reg false [⟨some 7,.mv (.t 0),none,[]⟩,⟨some 8,.call 90 [(.t 7),(.d (.int .i64 1))],none,[0]⟩,⟨some 6,.mv (.t
  8),none,[1]⟩,⟨some 9,.ext (.t 6) 0,none,[2]⟩,⟨some 10,.ext (.t 6) 1,none,[2]⟩,⟨some 4,.mv (.t 9),none,[3,1,0,1,2,3]⟩,⟨some 5,.mv (.t 10),none,[4,5,0,1,2,3,4,5]⟩]) (.seq (.reg false [⟨some 11,.mv (.t 4),none,[]⟩,⟨some
  12,.bin .eql (.t 11) (.d (.int .u64 1)),none,[0]⟩,⟨some 13,.mv (.t 5),none,[]⟩,⟨some 2,.mv (.t 12),none,[1,0,1]⟩,⟨some 3,.mv (.t 13),none,[2,3,0,1,2,3]⟩]) .ret)))
theorem r_bits_Reader_Bit : fnOf Tryz.prog n_bits_Reader_Bit = some (c_bits_Reader_Bit, [.t 2, .t 3], 14, false) := by kernel_rfl

/-- (*tallymark/bits.Reader).Left -/
abbrev n_bits_Reader_Left : FuncId := 42
def c_bits_Reader_Left : C := (.seq (.reg false [⟨some 2,.mv (.d (.int .i64 0)),none,[]⟩]) (.seq (.reg true [⟨some 3,.mv (.t 0),none,[]⟩,⟨some 4,.chk (.t 3),none,[0]⟩,⟨some 5,.fa 0 (.t 4),none,[1]⟩,⟨some 6,.load false 1 (.t 5),none,[2]⟩,⟨some 7,.len
  (.t 6),none,[3]⟩,⟨some 8,.bin .mul (.d (.int .i64 8)) (.t 7),none,[4]⟩,⟨some 9,.mv (.t 0),none,[]⟩,⟨some 10,.chk (.t 9),none,[6]⟩,⟨some 11,.fa 1 (.t 10),none,[7]⟩,⟨some 12,.load false 1 (.t 11),none,[8]⟩,⟨some 13,.bin
  .sub (.t 8) (.t 12),none,[5,9]⟩,⟨some 2,.mv (.t 13),none,[10,0,1,2,3,4,5,6,7,8,9,10]⟩]) .ret))
theorem r_bits_Reader_Left : fnOf Tryz.prog n_bits_Reader_Left = some (c_bits_Reader_Left, [.t 2], 14, false) := by kernel_rfl

/-- tallymark/tallymarklaw17.Small -/
abbrev n_Tlaw17_Small : FuncId := 45
def c_Tlaw17_Small : C := (.seq (.reg false [⟨some 2,.box 23 (.t 0),none,[]⟩,⟨some 3,.box 100 (.t 1),none,[]⟩,⟨some 4,.new 23 [(.int .i64 0),(.int .i64 0),(.int .i64 0)],none,[]⟩,⟨some 5,.new 100 [(.int .i64 0),(.int .i64 0),(.bool
  false)],none,[]⟩]) (.seq (.reg false [⟨some 6,.fa 0 (.t 2),none,[]⟩,⟨some 7,.load false 1 (.t 6),none,[0]⟩,⟨some 8,.bin .rem (.t 7) (.d (.int .i64 4)),none,[1]⟩,⟨some 9,.bin .add (.t 8) (.d (.int .i64
  4)),none,[2]⟩,⟨some 10,.bin .rem (.t 9) (.d (.int .i64 4)),none,[3]⟩,⟨some 11,.bin .add (.d (.int .i64 1)) (.t 10),none,[4]⟩,⟨some 12,.fa 0 (.t 2),none,[0,1,2,3,4,5]⟩,⟨none,.store 1 (.t 12) (.t
  11),none,[6,5,0,1,2,3,4,5]⟩]) (.seq (.seq (.reg false [⟨some 13,.fa 0 (.t 2),none,[]⟩,⟨some 14,.load false 1 (.t 13),none,[0]⟩]) (.block 0 (.seq (.reg false [⟨some 25,.bin .eql (.t 14) (.d (.int .i64 1)),none,[]⟩,⟨some
  24,.mv (.t 25),none,[0]⟩]) (.cond (.t 24) (.reg false [⟨some 26,.fa 1 (.t 2),none,[]⟩,⟨some 27,.load false 1 (.t 26),none,[0]⟩,⟨some 28,.bin .and (.t 27) (.d (.int .i64 3)),none,[1]⟩,⟨some 29,.bin .add (.d (.int .i64
  1)) (.t 28),none,[2]⟩,⟨some 30,.fa 2 (.t 2),none,[]⟩,⟨some 31,.load false 1 (.t 30),none,[4]⟩,⟨some 32,.bin .and (.t 31) (.d (.int .i64 255)),none,[5]⟩,⟨some 33,.bin .rem (.t 32) (.d (.int .i64 4)),none,[6]⟩,⟨some
  34,.bin .add (.d (.int .i64 1)) (.t 33),none,[7]⟩,⟨some 35,.fa 1 (.t 2),none,[0,1,2,3,4,5]⟩,⟨none,.store 1 (.t 35) (.t 29),none,[9,3,0,1,2,3,4,5]⟩,⟨some 36,.fa 2 (.t 2),none,[0,1,2,3,4,5,6,7,8,9,10]⟩,⟨none,.store 1 (.t
  36) (.t 34),none,[11,8,10,0,1,2,3,4,5,6,7,8,9,10]⟩]) (.seq (.reg false [⟨some 38,.bin .eql (.t 14) (.d (.int .i64 2)),none,[]⟩,⟨some 37,.mv (.t 38),none,[0]⟩]) (.cond (.t 37) (.reg false [⟨some 39,.fa 1 (.t
  2),none,[]⟩,⟨some 40,.load false 1 (.t 39),none,[0]⟩,⟨some 41,.bin .and (.t 40) (.d (.int .i64 1)),none,[1]⟩,⟨some 42,.fa 2 (.t 2),none,[]⟩,⟨some 43,.load false 1 (.t 42),none,[3]⟩,⟨some 44,.bin .and (.t 43) (.d (.int
  .i64 255)),none,[4]⟩,⟨some 45,.bin .rem (.t 44) (.d (.int .i64 4)),none,[5]⟩,⟨some 46,.bin .add (.d (.int .i64 1)) (.t 45),none,[6]⟩,⟨some 47,.fa 1 (.t 2),none,[0,1,2,3,4]⟩,⟨none,.store 1 (.t 47) (.t
  41),none,[8,2,0,1,2,3,4]⟩,⟨some 48,.fa 2 (.t 2),none,[0,1,2,3,4,5,6,7,8,9]⟩,⟨none,.store 1 (.t 48) (.t 46),none,[10,7,9,0,1,2,3,4,5,6,7,8,9]⟩]) (.seq (.reg false [⟨some 50,.bin .eql (.t 14) (.d (.int .i64
  3)),none,[]⟩,⟨some 49,.mv (.t 50),none,[0]⟩]) (.cond (.t 49) (.reg false [⟨some 51,.fa 1 (.t 2),none,[]⟩,⟨some 52,.load false 1 (.t 51),none,[0]⟩,⟨some 53,.bin .and (.t 52) (.d (.int .i64 1)),none,[1]⟩,⟨some 54,.bin
  .add (.d (.int .i64 1)) (.t 53),none,[2]⟩,⟨some 55,.fa 2 (.t 2),none,[]⟩,⟨some 56,.load false 1 (.t 55),none,[4]⟩,⟨some 57,.bin .and (.t 56) (.d (.int .i64 255)),none,[5]⟩,⟨some 58,.bin .rem (.t 57) (.d (.int .i64
  4)),none,[6]⟩,⟨some 59,.bin .add (.d (.int .i64 1)) (.t 58),none,[7]⟩,⟨some 60,.fa 1 (.t 2),none,[0,1,2,3,4,5]⟩,⟨none,.store 1 (.t 60) (.t 54),none,[9,3,0,1,2,3,4,5]⟩,⟨some 61,.fa 2 (.t
  2),none,[0,1,2,3,4,5,6,7,8,9,10]⟩,⟨none,.store 1 (.t 61) (.t 59),none,[11,8,10,0,1,2,3,4,5,6,7,8,9,10]⟩]) (.reg false [⟨some 15,.fa 1 (.t 2),none,[]⟩,⟨some 16,.load false 1 (.t 15),none,[0]⟩,⟨some 17,.bin .and (.t 16)
  (.d (.int .i64 7)),none,[1]⟩,⟨some 18,.bin .add (.d (.int .i64 1)) (.t 17),none,[2]⟩,⟨some 19,.fa 2 (.t 2),none,[]⟩,⟨some 20,.load false 1 (.t 19),none,[4]⟩,⟨some 21,.bin .and (.t 20) (.d (.int .i64 3)),none,[5]⟩,⟨some
  22,.fa 1 (.t 2),none,[0,1,2,3,4,5]⟩,⟨none,.store 1 (.t 22) (.t 18),none,[7,3,0,1,2,3,4,5]⟩,⟨some 23,.fa 2 (.t 2),none,[0,1,2,3,4,5,6,7,8]⟩,⟨none,.store 1 (.t 23) (.t 21),none,[9,6,8,0,1,2,3,4,5,6,7,8]⟩]))))))))) (.seq
  (.reg true [⟨some 62,.load true 3 (.t 2),none,[]⟩,⟨some 63,.load true 3 (.t 2),none,[]⟩,⟨some 64,.load true 3 (.t 3),none,[]⟩,⟨some 65,.call 97 [(.t 63),(.t 64)],none,[1,2]⟩,⟨none,.store 3 (.t 4) (.t
  62),none,[0,3,0]⟩,⟨none,.store 3 (.t 5) (.t 65),none,[3,4,0,1,2,3,4]⟩]) .ret))))
theorem r_Tlaw17_Small : fnOf Tryz.prog n_Tlaw17_Small = some (c_Tlaw17_Small, [.cell 4 true 3, .cell 5 true 3], 66, false) := by kernel_rfl

/-- tallymark/tallymarklaw17.Own -/
abbrev n_Tlaw17_Own : FuncId := 46
def c_Tlaw17_Own : C := (.seq (.reg false [⟨some 1,.box 23 (.t 0),none,[]⟩,⟨some 2,.new 30 [(.int .i64 0),(.int .i64 0),(.int .i64 0)],none,[]⟩]) (.seq (.reg false [⟨some 3,.fa 0 (.t 1),none,[]⟩,⟨some 4,.load false 1 (.t 3),none,[0]⟩,⟨some
  5,.fa 1 (.t 1),none,[]⟩,⟨some 6,.load false 1 (.t 5),none,[2]⟩,⟨some 7,.fa 2 (.t 1),none,[]⟩,⟨some 8,.load false 1 (.t 7),none,[4]⟩,⟨some 9,.build [(.int .i64 0),(.int .i64 0),(.int .i64 0)] [(0,1,(.t 4)),(1,1,(.t
  6)),(2,1,(.t 8))],none,[1,3,5]⟩,⟨none,.store 3 (.t 2) (.t 9),none,[6,0,1,2,3,4,5,6]⟩]) .ret))
theorem r_Tlaw17_Own : fnOf Tryz.prog n_Tlaw17_Own = some (c_Tlaw17_Own, [.cell 2 true 3], 10, false) := by kernel_rfl

/-- (tallymark/hash.Hash).Check -/
abbrev n_hash_Hash_Check : FuncId := 47
def c_hash_Hash_Check : C := (.seq (.reg false [⟨some 1,.box 62 (.t 0),none,[]⟩,⟨some 2,.mv (.d (.int .i64 0)),none,[]⟩]) (.seq (.seq (.reg false [⟨some 3,.fa 0 (.t 1),none,[]⟩,⟨some 4,.load false 1 (.t 3),none,[0]⟩,⟨some 5,.bin .geq (.t 4) (.d
  (.int .u64 2305843009213693951)),none,[1]⟩,⟨some 6,.mv (.t 5),none,[2]⟩,⟨some 7,.fa 1 (.t 1),some (6,false),[3]⟩,⟨some 8,.load false 1 (.t 7),some (6,false),[4,3]⟩,⟨some 9,.bin .geq (.t 8) (.d (.int .u64
  2305843009213693951)),some (6,false),[5,3]⟩,⟨some 10,.pick (.t 6) (.d (.bool true)) (.t 9),none,[3,6]⟩]) (.cond (.t 10) (.seq (.reg false [⟨some 2,.mv (.d (.int .i64 2)),none,[]⟩]) .ret) .skip)) (.seq (.reg false [⟨some
  2,.mv (.d (.int .i64 0)),none,[]⟩]) .ret)))
theorem r_hash_Hash_Check : fnOf Tryz.prog n_hash_Hash_Check = some (c_hash_Hash_Check, [.t 2], 11, false) := by kernel_rfl

/-- tallymark/carray.New -/
abbrev n_carray_New : FuncId := 48
def c_carray_New : C := (.seq (.reg false [⟨some 2,.box 30 (.t 0),none,[]⟩,⟨some 4,.mv (.d .nilp),none,[]⟩,⟨some 5,.mv (.d (.int .i64 0)),none,[1]⟩]) (.seq (.seq (.reg false [⟨some 8,.load true 3 (.t 2),none,[]⟩,⟨some 9,.call 85 [(.t
  8)],none,[0]⟩,⟨some 10,.bin .neq (.t 9) (.d (.int .i64 0)),none,[1]⟩,⟨some 11,.mv (.t 10),none,[2,1]⟩,⟨some 12,.mv (.t 1),some (11,false),[3]⟩,⟨some 13,.bin .lss (.t 12) (.d (.int .i64 1)),some (11,false),[4,3]⟩,⟨some
  14,.pick (.t 11) (.d (.bool true)) (.t 13),none,[3,5]⟩,⟨some 15,.mv (.t 14),none,[6,3]⟩,⟨some 16,.mv (.t 1),some (15,false),[7]⟩,⟨some 17,.bin .gtr (.t 16) (.d (.int .i64 256)),some (15,false),[8,7]⟩,⟨some 18,.pick (.t
  15) (.d (.bool true)) (.t 17),none,[7,9]⟩]) (.cond (.t 18) (.seq (.reg false [⟨some 4,.mv (.d .nilp),none,[]⟩,⟨some 5,.mv (.d (.int .i64 10)),none,[0,0]⟩]) .ret) .skip)) (.seq (.reg false [⟨some 20,.mv (.t
  1),none,[]⟩,⟨some 21,.load true 3 (.t 2),none,[]⟩,⟨some 22,.call 99 [(.t 21)],none,[1]⟩,⟨some 23,.call 98 [(.t 20),(.t 22)],none,[0,2,2]⟩,⟨some 19,.mv (.t 23),none,[3]⟩,⟨some 24,.ext (.t 19) 0,none,[4]⟩,⟨some 25,.ext
  (.t 19) 1,none,[4]⟩,⟨some 6,.mv (.t 24),none,[5,3,0,1,2,3,4,5]⟩,⟨some 7,.mv (.t 25),none,[6,7,0,1,2,3,4,5,6,7]⟩]) (.seq (.seq (.reg false [⟨some 26,.mv (.t 7),none,[]⟩,⟨some 27,.bin .neq (.t 26) (.d (.int .i64
  0)),none,[0]⟩]) (.cond (.t 27) (.seq (.reg false [⟨some 28,.mv (.t 7),none,[]⟩,⟨some 4,.mv (.d .nilp),none,[]⟩,⟨some 5,.mv (.t 28),none,[0,1,0,1]⟩]) .ret) .skip)) (.seq (.reg false [⟨some 29,.mv (.t 6),none,[]⟩,⟨some
  30,.load true 3 (.t 2),none,[]⟩,⟨some 31,.build [.nilp,(.int .i64 0),(.int .i64 0),(.int .i64 0)] [(0,1,(.t 29)),(1,3,(.t 30))],none,[0,1]⟩,⟨some 32,.box 166 (.t 31),none,[2]⟩,⟨some 4,.mv (.t 32),none,[3,0,1,2,3]⟩,⟨some
  5,.mv (.d (.int .i64 0)),none,[4,0,1,2,3,4]⟩]) .ret)))))
theorem r_carray_New : fnOf Tryz.prog n_carray_New = some (c_carray_New, [.t 4, .t 5], 33, false) := by kernel_rfl

/-- slices.Clone[[]bool,bool] -/
abbrev n_slices_Clone_bool_bool : FuncId := 50
def c_slices_Clone_bool_bool : C := (.seq (.reg false [⟨some 2,.mv (.d .nilsl),none,[]⟩]) (.seq (.seq (.reg false [⟨some 3,.mv (.t 0),none,[]⟩,⟨some 4,.snl false (.t 3),none,[0]⟩]) (.cond (.t 4) (.seq (.reg false [⟨some 2,.mv (.d .nilsl),none,[]⟩]) .ret)
  .skip)) (.seq (.reg false [⟨some 5,.bsl0,none,[]⟩,⟨some 6,.mv (.t 0),none,[]⟩,⟨some 7,.app 4 1 1 (.t 5) (.t 6),none,[0,1]⟩,⟨some 2,.mv (.t 7),none,[2,2,0,1,2]⟩]) .ret)))
theorem r_slices_Clone_bool_bool : fnOf Tryz.prog n_slices_Clone_bool_bool = some (c_slices_Clone_bool_bool, [.t 2], 8, false) := by kernel_rfl

/-- (tallymark/hash.Hash).Of -/
abbrev n_hash_Hash_Of : FuncId := 51
def c_hash_Hash_Of : C := (.seq (.reg false [⟨some 3,.box 62 (.t 0),none,[]⟩,⟨some 6,.mv (.d (.int .i64 0)),none,[]⟩,⟨some 7,.mv (.d (.int .i64 0)),none,[1]⟩]) (.seq (.seq (.reg false [⟨some 9,.load true 2 (.t 3),none,[]⟩,⟨some 10,.call 47 [(.t
  9)],none,[0]⟩,⟨some 8,.mv (.t 10),none,[1,1,0,1]⟩]) (.block 0 (.seq (.reg false [⟨some 12,.mv (.t 8),none,[]⟩,⟨some 13,.bin .neq (.t 12) (.d (.int .i64 0)),none,[0]⟩,⟨some 11,.mv (.t 13),none,[1]⟩]) (.cond (.t 11) (.seq
  (.reg false [⟨some 14,.mv (.t 8),none,[]⟩,⟨some 6,.mv (.d (.int .i64 0)),none,[]⟩,⟨some 7,.mv (.t 14),none,[0,1,0,1]⟩]) .ret) (.seq (.reg false [⟨some 16,.mv (.t 1),none,[]⟩,⟨some 17,.bin .geq (.t 16) (.d (.int .u64
  2305843009213693951)),none,[0]⟩,⟨some 15,.mv (.t 17),none,[1]⟩]) (.cond (.t 15) (.seq (.reg false [⟨some 6,.mv (.d (.int .i64 0)),none,[]⟩,⟨some 7,.mv (.d (.int .i64 2)),none,[0,0]⟩]) .ret) (.seq (.reg false [⟨some
  19,.mv (.t 2),none,[]⟩,⟨some 20,.bin .lss (.t 19) (.d (.int .i64 1)),none,[0]⟩,⟨some 21,.mv (.t 20),none,[1]⟩,⟨some 22,.mv (.t 2),some (21,false),[2]⟩,⟨some 23,.bin .gtr (.t 22) (.d (.int .i64 64)),some
  (21,false),[3,2]⟩,⟨some 24,.pick (.t 21) (.d (.bool true)) (.t 23),none,[2,4]⟩,⟨some 18,.mv (.t 24),none,[5,2]⟩]) (.cond (.t 18) (.seq (.reg false [⟨some 6,.mv (.d (.int .i64 0)),none,[]⟩,⟨some 7,.mv (.d (.int .i64
  10)),none,[0,0]⟩]) .ret) .skip)))))))) (.seq (.reg false [⟨some 25,.load true 2 (.t 3),none,[]⟩,⟨some 26,.mv (.t 1),none,[]⟩,⟨some 27,.call 100 [(.t 25),(.t 26)],none,[0,1]⟩,⟨some 28,.mv (.t 2),none,[]⟩,⟨some 29,.conv
  .u64 (.t 28),none,[3]⟩,⟨some 30,.bin .rem (.t 27) (.t 29),none,[2,4]⟩,⟨some 31,.conv .i64 (.t 30),none,[5]⟩,⟨some 6,.mv (.t 31),none,[6,2,0,1,2,3,4,5,6]⟩,⟨some 7,.mv (.d (.int .i64 0)),none,[7,0,1,2,3,4,5,6,7]⟩]) .ret)))
theorem r_hash_Hash_Of : fnOf Tryz.prog n_hash_Hash_Of = some (c_hash_Hash_Of, [.t 6, .t 7], 32, false) := by kernel_rfl

/-- (*tallymark/carray.Array).Add -/
abbrev n_carray_Array_Add : FuncId := 52
def c_carray_Array_Add : C := (.seq (.reg false [⟨some 8,.mv (.d (.int .i64 0)),none,[]⟩]) (.seq (.reg false [⟨some 12,.mv (.t 0),none,[]⟩,⟨some 13,.mv (.t 2),none,[]⟩,⟨some 14,.call 53 [(.t 12),(.t 13)],none,[0,1]⟩,⟨some 11,.mv (.t
  14),none,[2]⟩,⟨some 15,.ext (.t 11) 0,none,[3]⟩,⟨some 16,.ext (.t 11) 1,none,[3]⟩,⟨some 9,.new 64 [(.int .i64 0),(.int .i64 0),(.bool false)],none,[]⟩,⟨none,.store 3 (.t 9) (.t 15),none,[6,4,2,0,1,2,3,4,6]⟩,⟨some 10,.mv
  (.t 16),none,[5,7,0,1,2,3,4,5,6,7]⟩]) (.seq (.seq (.reg false [⟨some 17,.mv (.t 10),none,[]⟩,⟨some 18,.bin .neq (.t 17) (.d (.int .i64 0)),none,[0]⟩]) (.cond (.t 18) (.seq (.reg false [⟨some 19,.mv (.t
  10),none,[]⟩,⟨some 8,.mv (.t 19),none,[0,0]⟩]) .ret) .skip)) (.seq (.seq (.reg true [⟨some 21,.mv (.t 0),none,[]⟩,⟨some 22,.chk (.t 21),none,[0]⟩,⟨some 23,.fa 1 (.t 22),none,[1]⟩,⟨some 24,.load true 3 (.t
  23),none,[2]⟩,⟨some 25,.mv (.t 1),none,[]⟩,⟨some 26,.load true 3 (.t 9),none,[]⟩,⟨some 27,.mv (.t 3),none,[]⟩,⟨some 28,.call 31 [(.t 24),(.t 25),(.t 26),(.t 27)],none,[3,4,5,6]⟩,⟨some 20,.mv (.t 28),none,[7]⟩,⟨some
  29,.ext (.t 20) 0,none,[8]⟩,⟨some 30,.ext (.t 20) 1,none,[8]⟩,⟨none,.store 3 (.t 9) (.t 29),none,[9,7,0,1,2,3,4,5,6,7,8,9]⟩,⟨some 10,.mv (.t 30),none,[10,11,0,1,2,3,4,5,6,7,8,9,10,11]⟩]) (.seq (.reg false [⟨some 31,.mv
  (.t 10),none,[]⟩,⟨some 32,.bin .neq (.t 31) (.d (.int .i64 0)),none,[0]⟩]) (.cond (.t 32) (.seq (.reg false [⟨some 33,.mv (.t 10),none,[]⟩,⟨some 8,.mv (.t 33),none,[0,0]⟩]) .ret) .skip))) (.seq (.reg false [⟨some 34,.mv
  (.t 0),none,[]⟩,⟨some 35,.mv (.t 2),none,[]⟩,⟨some 36,.load true 3 (.t 9),none,[]⟩,⟨some 37,.call 101 [(.t 34),(.t 35),(.t 36)],none,[0,1,2]⟩,⟨some 8,.mv (.t 37),none,[3,3,0,1,2,3]⟩]) .ret)))))
theorem r_carray_Array_Add : fnOf Tryz.prog n_carray_Array_Add = some (c_carray_Array_Add, [.t 8], 38, false) := by kernel_rfl

/-- (*tallymark/carray.Array).Get -/
abbrev n_carray_Array_Get : FuncId := 53
def c_carray_Array_Get : C := (.seq (.reg false [⟨some 4,.new 64 [(.int .i64 0),(.int .i64 0),(.bool false)],none,[]⟩,⟨some 5,.mv (.d (.int .i64 0)),none,[]⟩]) (.seq (.reg false [⟨some 10,.mv (.t 0),none,[]⟩,⟨some 11,.chk (.t 10),none,[0]⟩,⟨some
  12,.fa 0 (.t 11),none,[1]⟩,⟨some 13,.load false 1 (.t 12),none,[2]⟩,⟨some 14,.mv (.t 1),none,[]⟩,⟨some 15,.call 102 [(.t 13),(.t 14)],none,[3,4]⟩,⟨some 9,.mv (.t 15),none,[5]⟩,⟨some 16,.ext (.t 9) 0,none,[6]⟩,⟨some
  17,.ext (.t 9) 1,none,[6]⟩,⟨some 6,.mv (.t 16),none,[7,5,0,1,2,3,4,5,6,7]⟩,⟨some 7,.mv (.t 17),none,[8,9,0,1,2,3,4,5,6,7,8,9]⟩]) (.seq (.seq (.reg false [⟨some 18,.mv (.t 7),none,[]⟩,⟨some 19,.bin .neq (.t 18) (.d (.int
  .i64 0)),none,[0]⟩]) (.cond (.t 19) (.seq (.reg false [⟨some 20,.build [(.int .i64 0),(.int .i64 0),(.bool false)] [],none,[]⟩,⟨some 21,.mv (.t 7),none,[]⟩,⟨none,.store 3 (.t 4) (.t 20),none,[0,0]⟩,⟨some 5,.mv (.t
  21),none,[1,2,0,1,2]⟩]) .ret) .skip)) (.seq (.reg false [⟨some 8,.new 85 [.nilsl,(.int .i64 0)],none,[]⟩]) (.seq (.reg false [⟨some 22,.mv (.t 6),none,[]⟩,⟨some 23,.mv (.t 0),none,[]⟩,⟨some 24,.chk (.t
  23),none,[1]⟩,⟨some 25,.fa 0 (.t 24),none,[2]⟩,⟨some 26,.load false 1 (.t 25),none,[3]⟩,⟨some 27,.call 103 [(.t 26)],none,[4]⟩,⟨some 28,.call 87 [(.t 8),(.t 22),(.t 27)],none,[0,5,5]⟩]) (.seq (.reg true [⟨some 29,.mv
  (.t 0),none,[]⟩,⟨some 30,.chk (.t 29),none,[0]⟩,⟨some 31,.fa 1 (.t 30),none,[1]⟩,⟨some 32,.load true 3 (.t 31),none,[2]⟩,⟨some 33,.call 39 [(.t 8)],none,[]⟩,⟨some 34,.call 38 [(.t 33)],none,[4,4]⟩,⟨some 35,.call 104
  [(.t 32),(.t 34)],none,[3,5,5]⟩,⟨some 36,.ext (.t 35) 0,none,[6]⟩,⟨some 37,.ext (.t 35) 1,none,[6]⟩,⟨none,.store 3 (.t 4) (.t 36),none,[7,6,0,1,2,3,4,5,6,7,8]⟩,⟨some 5,.mv (.t 37),none,[8,9,0,1,2,3,4,5,6,7,8,9]⟩])
  .ret))))))
theorem r_carray_Array_Get : fnOf Tryz.prog n_carray_Array_Get = some (c_carray_Array_Get, [.cell 4 true 3, .t 5], 38, false) := by kernel_rfl

/-- tallymark/whole.Cmp -/
abbrev n_whole_Cmp : FuncId := 54
def c_whole_Cmp : C := (.seq (.reg false [⟨some 2,.box 49 (.t 0),none,[]⟩,⟨some 3,.box 49 (.t 1),none,[]⟩,⟨some 4,.mv (.d (.int .i64 0)),none,[]⟩]) (.seq (.block 0 (.seq (.reg false [⟨some 6,.fa 1 (.t 2),none,[]⟩,⟨some 7,.load false 1 (.t
  6),none,[0]⟩,⟨some 8,.mv (.t 7),none,[1]⟩,⟨some 9,.fa 1 (.t 3),some (8,true),[2]⟩,⟨some 10,.load false 1 (.t 9),some (8,true),[3,2]⟩,⟨some 11,.pick (.t 8) (.t 10) (.d (.bool false)),none,[2,4]⟩,⟨some 5,.mv (.t
  11),none,[5,2]⟩]) (.cond (.t 5) (.seq (.reg false [⟨some 12,.fa 0 (.t 3),none,[]⟩,⟨some 13,.load true 1 (.t 12),none,[0]⟩,⟨some 14,.fa 0 (.t 2),none,[]⟩,⟨some 15,.load true 1 (.t 14),none,[2]⟩,⟨some 16,.call 105 [(.t
  13),(.t 15)],none,[1,3]⟩,⟨some 4,.mv (.t 16),none,[4,4,0,1,2,3,4]⟩]) .ret) (.seq (.reg false [⟨some 18,.fa 1 (.t 2),none,[]⟩,⟨some 19,.load false 1 (.t 18),none,[0]⟩,⟨some 17,.mv (.t 19),none,[1]⟩]) (.cond (.t 17) (.seq
  (.reg false [⟨some 4,.mv (.d (.int .i64 (-1))),none,[]⟩]) .ret) (.seq (.reg false [⟨some 21,.fa 1 (.t 3),none,[]⟩,⟨some 22,.load false 1 (.t 21),none,[0]⟩,⟨some 20,.mv (.t 22),none,[1]⟩]) (.cond (.t 20) (.seq (.reg
  false [⟨some 4,.mv (.d (.int .i64 1)),none,[]⟩]) .ret) .skip))))))) (.seq (.reg false [⟨some 23,.fa 0 (.t 2),none,[]⟩,⟨some 24,.load true 1 (.t 23),none,[0]⟩,⟨some 25,.fa 0 (.t 3),none,[]⟩,⟨some 26,.load true 1 (.t
  25),none,[2]⟩,⟨some 27,.call 105 [(.t 24),(.t 26)],none,[1,3]⟩,⟨some 4,.mv (.t 27),none,[4,4,0,1,2,3,4]⟩]) .ret)))
theorem r_whole_Cmp : fnOf Tryz.prog n_whole_Cmp = some (c_whole_Cmp, [.t 4], 28, false) := by kernel_rfl

/-- tallymark/whole.Mul -/
abbrev n_whole_Mul : FuncId := 55
def c_whole_Mul : C := (.seq (.reg false [⟨some 2,.box 49 (.t 0),none,[]⟩,⟨some 3,.box 49 (.t 1),none,[]⟩,⟨some 4,.new 49 [.nilsl,(.bool false)],none,[]⟩]) (.seq (.reg true [⟨some 5,.fa 1 (.t 2),none,[]⟩,⟨some 6,.load false 1 (.t
  5),none,[0]⟩,⟨some 7,.fa 1 (.t 3),none,[]⟩,⟨some 8,.load false 1 (.t 7),none,[2]⟩,⟨some 9,.beq true (.t 6) (.t 8),none,[1,3]⟩,⟨some 10,.fa 0 (.t 2),none,[]⟩,⟨some 11,.load true 1 (.t 10),none,[5]⟩,⟨some 12,.fa 0 (.t
  3),none,[]⟩,⟨some 13,.load true 1 (.t 12),none,[7]⟩,⟨some 14,.call 107 [(.t 11),(.t 13)],none,[6,8]⟩,⟨some 15,.call 106 [(.t 9),(.t 14)],none,[4,9,9]⟩,⟨none,.store 2 (.t 4) (.t 15),none,[10,10,0,1,2,3,4,5,6,7,8,9,10]⟩])
  .ret))
theorem r_whole_Mul : fnOf Tryz.prog n_whole_Mul = some (c_whole_Mul, [.cell 4 true 2], 16, false) := by kernel_rfl

/-- (tallymark/rat.Rat).den -/
abbrev n_rat_Rat_den : FuncId := 56
def c_rat_Rat_den : C := (.seq (.reg false [⟨some 1,.box 51 (.t 0),none,[]⟩,⟨some 2,.new 49 [.nilsl,(.bool false)],none,[]⟩]) (.seq (.reg false [⟨some 3,.load true 3 (.t 1),none,[]⟩,⟨some 4,.call 60 [(.t 3)],none,[0]⟩,⟨some 5,.call 106 [(.d
  (.bool false)),(.t 4)],none,[1,1]⟩,⟨none,.store 2 (.t 2) (.t 5),none,[2,2,0,1,2]⟩]) .ret))
theorem r_rat_Rat_den : fnOf Tryz.prog n_rat_Rat_den = some (c_rat_Rat_den, [.cell 2 true 2], 6, false) := by kernel_rfl

/-- tallymark/whole.Of -/
abbrev n_whole_Of : FuncId := 57
def c_whole_Of : C := (.seq (.reg false [⟨some 2,.new 49 [.nilsl,(.bool false)],none,[]⟩]) (.seq (.seq (.reg false [⟨some 3,.mv (.t 0),none,[]⟩,⟨some 4,.bin .lss (.t 3) (.d (.int .i64 0)),none,[0]⟩]) (.cond (.t 4) (.seq (.reg false [⟨some
  5,.mv (.t 0),none,[]⟩,⟨some 6,.conv .u64 (.t 5),none,[0]⟩,⟨some 7,.un .neg (.t 6),none,[1]⟩,⟨some 8,.bsl 28 1 1 [(.int .u64 0)] [(0,1,(.t 7))],none,[2]⟩,⟨some 9,.call 108 [(.t 8)],none,[3]⟩,⟨some 10,.call 106 [(.d
  (.bool true)),(.t 9)],none,[4,4]⟩,⟨none,.store 2 (.t 2) (.t 10),none,[5,5,0,1,2,3,4,5]⟩]) .ret) .skip)) (.seq (.reg false [⟨some 11,.mv (.t 0),none,[]⟩,⟨some 12,.conv .u64 (.t 11),none,[0]⟩,⟨some 13,.bsl 28 1 1 [(.int
  .u64 0)] [(0,1,(.t 12))],none,[1]⟩,⟨some 14,.call 108 [(.t 13)],none,[2]⟩,⟨some 15,.call 106 [(.d (.bool false)),(.t 14)],none,[3,3]⟩,⟨none,.store 2 (.t 2) (.t 15),none,[4,4,0,1,2,3,4]⟩]) .ret)))
theorem r_whole_Of : fnOf Tryz.prog n_whole_Of = some (c_whole_Of, [.cell 2 true 2], 16, false) := by kernel_rfl

/-- (tallymark/rat.Rat).Whole -/
abbrev n_rat_Rat_Whole : FuncId := 58
def c_rat_Rat_Whole : C := (.seq (.reg false [⟨some 1,.box 51 (.t 0),none,[]⟩,⟨some 2,.mv (.d (.bool false)),none,[]⟩]) (.seq (.reg false [⟨some 3,.fa 2 (.t 1),none,[]⟩,⟨some 4,.load true 1 (.t 3),none,[0]⟩,⟨some 5,.call 109 [(.t
  4)],none,[1]⟩,⟨some 2,.mv (.t 5),none,[2,2,0,1,2]⟩]) .ret))
theorem r_rat_Rat_Whole : fnOf Tryz.prog n_rat_Rat_Whole = some (c_rat_Rat_Whole, [.t 2], 6, false) := by kernel_rfl

/-- (tallymark/whole.Whole).Text -/
abbrev n_whole_Whole_Text : FuncId := 59
def c_whole_Whole_Text : C := (.seq (.reg false [⟨some 1,.box 49 (.t 0),none,[]⟩,⟨some 2,.mv (.d (.str ⟨#[]⟩)),none,[]⟩]) (.seq (.seq (.reg false [⟨some 3,.fa 1 (.t 1),none,[]⟩,⟨some 4,.load false 1 (.t 3),none,[0]⟩]) (.cond (.t 4) (.seq (.reg false
  [⟨some 5,.fa 0 (.t 1),none,[]⟩,⟨some 6,.load true 1 (.t 5),none,[0]⟩,⟨some 7,.call 61 [(.t 6)],none,[1]⟩,⟨some 8,.bin .add (.d (.str ⟨#[45]⟩)) (.t 7),none,[2]⟩,⟨some 2,.mv (.t 8),none,[3,2,0,1,2,3]⟩]) .ret) .skip))
  (.seq (.reg false [⟨some 9,.fa 0 (.t 1),none,[]⟩,⟨some 10,.load true 1 (.t 9),none,[0]⟩,⟨some 11,.call 61 [(.t 10)],none,[1]⟩,⟨some 2,.mv (.t 11),none,[2,2,0,1,2]⟩]) .ret)))
theorem r_whole_Whole_Text : fnOf Tryz.prog n_whole_Whole_Text = some (c_whole_Whole_Text, [.t 2], 12, false) := by kernel_rfl

/-- (tallymark/rat.Rat).Den -/
abbrev n_rat_Rat_Den : FuncId := 60
def c_rat_Rat_Den : C := (.seq (.reg false [⟨some 1,.box 51 (.t 0),none,[]⟩,⟨some 2,.new 47 [.nilsl],none,[]⟩]) (.seq (.reg true [⟨some 3,.fa 2 (.t 1),none,[]⟩,⟨some 4,.load true 1 (.t 3),none,[0]⟩,⟨some 5,.bsl 28 1 1 [(.int .u64 0)] [(0,1,(.d
  (.int .u64 1)))],none,[]⟩,⟨some 6,.call 108 [(.t 5)],none,[2]⟩,⟨some 7,.call 110 [(.t 4),(.t 6)],none,[1,3,3]⟩,⟨none,.store 1 (.t 2) (.t 7),none,[4,4,0,1,2,3,4]⟩]) .ret))
theorem r_rat_Rat_Den : fnOf Tryz.prog n_rat_Rat_Den = some (c_rat_Rat_Den, [.cell 2 true 1], 8, false) := by kernel_rfl

/-- (tallymark/nat.Nat).Text -/
abbrev n_nat_Nat_Text : FuncId := 61
def c_nat_Nat_Text : C := (.seq (.reg false [⟨some 1,.box 47 (.t 0),none,[]⟩,⟨some 2,.mv (.d (.str ⟨#[]⟩)),none,[]⟩]) (.seq (.seq (.reg false [⟨some 8,.load true 1 (.t 1),none,[]⟩,⟨some 9,.call 109 [(.t 8)],none,[0]⟩]) (.cond (.t 9) (.seq (.reg
  false [⟨some 2,.mv (.d (.str ⟨#[48]⟩)),none,[]⟩]) .ret) .skip)) (.seq (.reg false [⟨some 3,.mv (.d (.str ⟨#[]⟩)),none,[]⟩]) (.seq (.seq (.reg false [⟨some 10,.fa 0 (.t 1),none,[]⟩,⟨some 11,.load false 1 (.t
  10),none,[0]⟩,⟨some 4,.mv (.t 11),none,[1,0,1]⟩]) (.block 0 (.loop (.seq (.seq (.reg false [⟨some 12,.mv (.t 4),none,[]⟩,⟨some 13,.len (.t 12),none,[0]⟩,⟨some 14,.bin .gtr (.t 13) (.d (.int .i64 0)),none,[1]⟩]) (.cond
  (.t 14) .skip (.exit 0))) (.block 1 (.seq (.reg false [⟨some 16,.mv (.t 4),none,[]⟩,⟨some 17,.call 111 [(.t 16),(.d (.int .u64 1000000000000000000))],none,[0]⟩,⟨some 15,.mv (.t 17),none,[1]⟩,⟨some 18,.ext (.t 15)
  0,none,[2]⟩,⟨some 19,.ext (.t 15) 1,none,[2]⟩,⟨some 5,.mv (.t 18),none,[3,1,0,1,2,3]⟩,⟨some 6,.mv (.t 19),none,[4,5,0,1,2,3,4,5]⟩]) (.seq (.reg false [⟨some 20,.mv (.t 5),none,[]⟩,⟨some 21,.call 112 [(.t
  20)],none,[0]⟩,⟨some 22,.fld false 0 1 (.t 21),none,[1]⟩,⟨some 4,.mv (.t 22),none,[2,1,0,1,2]⟩]) (.seq (.reg false [⟨some 23,.mv (.t 6),none,[]⟩,⟨some 24,.call 113 [(.t 23),(.d (.int .i64 10))],none,[0]⟩,⟨some 7,.mv (.t
  24),none,[1,1,0,1]⟩]) (.seq (.seq (.reg false [⟨some 25,.mv (.t 4),none,[]⟩,⟨some 26,.len (.t 25),none,[0]⟩,⟨some 27,.bin .gtr (.t 26) (.d (.int .i64 0)),none,[1]⟩]) (.cond (.t 27) (.reg false [⟨some 28,.mv (.t
  7),none,[]⟩,⟨some 29,.lens (.t 28),none,[0]⟩,⟨some 30,.bin .sub (.d (.int .i64 18)) (.t 29),none,[1]⟩,⟨some 31,.call 114 [(.d (.str ⟨#[48]⟩)),(.t 30)],none,[2]⟩,⟨some 32,.mv (.t 7),none,[]⟩,⟨some 33,.bin .add (.t 31)
  (.t 32),none,[3,4]⟩,⟨some 7,.mv (.t 33),none,[5,3,0,1,2,3,4,5]⟩]) .skip)) (.reg false [⟨some 34,.mv (.t 7),none,[]⟩,⟨some 35,.mv (.t 3),none,[]⟩,⟨some 36,.bin .add (.t 34) (.t 35),none,[0,1]⟩,⟨some 3,.mv (.t
  36),none,[2,0,1,2]⟩])))))))))) (.seq (.reg false [⟨some 37,.mv (.t 3),none,[]⟩,⟨some 2,.mv (.t 37),none,[0,0]⟩]) .ret)))))
theorem r_nat_Nat_Text : fnOf Tryz.prog n_nat_Nat_Text = some (c_nat_Nat_Text, [.t 2], 38, false) := by kernel_rfl

/-- (tallymark/reg.Param).wrong -/
abbrev n_reg_Param_wrong : FuncId := 66
def c_reg_Param_wrong : C := (.seq (.reg false [⟨some 2,.box 30 (.t 0),none,[]⟩,⟨some 4,.mv (.d (.int .i64 0)),none,[]⟩]) (.seq (.seq (.reg false [⟨some 8,.load true 3 (.t 2),none,[]⟩,⟨some 9,.call 85 [(.t 8)],none,[0]⟩,⟨some 5,.mv (.t
  9),none,[1,1,0,1]⟩]) (.seq (.reg false [⟨some 10,.mv (.t 5),none,[]⟩,⟨some 11,.bin .neq (.t 10) (.d (.int .i64 0)),none,[0]⟩]) (.cond (.t 11) (.seq (.reg false [⟨some 12,.mv (.t 5),none,[]⟩,⟨some 4,.mv (.t
  12),none,[0,0]⟩]) .ret) .skip))) (.seq (.seq (.reg false [⟨some 13,.mv (.t 1),none,[]⟩,⟨some 14,.len (.t 13),none,[0]⟩,⟨some 15,.mv (.d (.int .i64 0)),none,[]⟩]) (.block 0 (.loop (.seq (.reg false [⟨some 16,.bin .lss
  (.t 15) (.t 14),none,[]⟩]) (.seq (.cond (.t 16) .skip (.exit 0)) (.seq (.block 1 (.seq (.reg false [⟨some 17,.ix 3 (.t 13) (.t 15),none,[]⟩,⟨some 18,.load true 3 (.t 17),none,[0]⟩,⟨some 7,.new 64 [(.int .i64 0),(.int
  .i64 0),(.bool false)],none,[]⟩,⟨none,.store 3 (.t 7) (.t 18),none,[2,1,0,1,2]⟩]) (.seq (.reg false [⟨some 19,.load true 3 (.t 2),none,[]⟩,⟨some 20,.load true 3 (.t 7),none,[]⟩,⟨some 21,.call 118 [(.t 19),(.t
  20)],none,[0,1]⟩,⟨some 22,.un .not (.t 21),none,[2]⟩]) (.cond (.t 22) (.seq (.reg false [⟨some 4,.mv (.d (.int .i64 2)),none,[]⟩]) .ret) .skip)))) (.reg false [⟨some 23,.bin .add (.t 15) (.d (.int .i64
  1)),none,[]⟩,⟨some 15,.mv (.t 23),none,[0]⟩]))))))) (.seq (.reg false [⟨some 4,.mv (.d (.int .i64 0)),none,[]⟩]) .ret))))
theorem r_reg_Param_wrong : fnOf Tryz.prog n_reg_Param_wrong = some (c_reg_Param_wrong, [.t 4], 24, false) := by kernel_rfl

/-- (tallymark/reg.Param).thin -/
abbrev n_reg_Param_thin : FuncId := 67
def c_reg_Param_thin : C := (.seq (.reg false [⟨some 1,.box 30 (.t 0),none,[]⟩,⟨some 2,.new 135 [(.int .i64 0),(.int .i64 0)],none,[]⟩]) (.seq (.reg false [⟨some 3,.fa 1 (.t 1),none,[]⟩,⟨some 4,.load false 1 (.t 3),none,[0]⟩,⟨some 5,.fa 2 (.t
  1),none,[]⟩,⟨some 6,.load false 1 (.t 5),none,[2]⟩,⟨some 7,.build [(.int .i64 0),(.int .i64 0)] [(0,1,(.t 4)),(1,1,(.t 6))],none,[1,3]⟩,⟨none,.store 2 (.t 2) (.t 7),none,[4,0,1,2,3,4]⟩]) .ret))
theorem r_reg_Param_thin : fnOf Tryz.prog n_reg_Param_thin = some (c_reg_Param_thin, [.cell 2 true 2], 8, false) := by kernel_rfl

/-- (tallymark/thin.Param).Value -/
abbrev n_thin_Param_Value : FuncId := 68
def c_thin_Param_Value : C := (.seq (.reg false [⟨some 2,.box 135 (.t 0),none,[]⟩,⟨some 3,.box 139 (.t 1),none,[]⟩,⟨some 4,.new 47 [.nilsl],none,[]⟩,⟨some 5,.mv (.d (.int .i64 0)),none,[]⟩]) (.seq (.seq (.reg false [⟨some 7,.load true 2 (.t
  2),none,[]⟩,⟨some 8,.load true 3 (.t 3),none,[]⟩,⟨some 9,.bsl 139 3 1 [(.int .i64 0),(.int .i64 0),(.bool false)] [(0,3,(.t 8))],none,[1]⟩,⟨some 10,.call 119 [(.t 7),(.t 9)],none,[0,2]⟩,⟨some 6,.mv (.t
  10),none,[3,3,0,1,2,3]⟩]) (.seq (.reg false [⟨some 11,.mv (.t 6),none,[]⟩,⟨some 12,.bin .neq (.t 11) (.d (.int .i64 0)),none,[0]⟩]) (.cond (.t 12) (.seq (.reg false [⟨some 13,.build [.nilsl] [],none,[]⟩,⟨some 14,.mv (.t
  6),none,[]⟩,⟨none,.store 1 (.t 4) (.t 13),none,[0,0]⟩,⟨some 5,.mv (.t 14),none,[1,2,0,1,2]⟩]) .ret) .skip))) (.seq (.reg true [⟨some 15,.fa 0 (.t 3),none,[]⟩,⟨some 16,.load false 1 (.t 15),none,[0]⟩,⟨some 17,.conv .u64
  (.t 16),none,[1]⟩,⟨some 18,.bsl 28 1 1 [(.int .u64 0)] [(0,1,(.t 17))],none,[2]⟩,⟨some 19,.call 108 [(.t 18)],none,[3]⟩,⟨some 20,.fa 1 (.t 3),none,[]⟩,⟨some 21,.load false 1 (.t 20),none,[5]⟩,⟨some 22,.call 120 [(.t
  19),(.t 21)],none,[4,6,4]⟩,⟨some 23,.ext (.t 22) 0,none,[7]⟩,⟨some 24,.ext (.t 22) 1,none,[7]⟩,⟨none,.store 1 (.t 4) (.t 23),none,[8,7,0,1,2,3,4,5,6,7,8,9]⟩,⟨some 5,.mv (.t 24),none,[9,10,0,1,2,3,4,5,6,7,8,9,10]⟩])
  .ret)))
theorem r_thin_Param_Value : fnOf Tryz.prog n_thin_Param_Value = some (c_thin_Param_Value, [.cell 4 true 1, .t 5], 25, false) := by kernel_rfl

/-- (tallymark/reg.State).thinned -/
abbrev n_reg_State_thinned : FuncId := 69
def c_reg_State_thinned : C := (.seq (.reg false [⟨some 1,.box 64 (.t 0),none,[]⟩,⟨some 2,.new 139 [(.int .i64 0),(.int .i64 0),(.bool false)],none,[]⟩]) (.seq (.reg false [⟨some 3,.fa 0 (.t 1),none,[]⟩,⟨some 4,.load false 1 (.t 3),none,[0]⟩,⟨some
  5,.fa 1 (.t 1),none,[]⟩,⟨some 6,.load false 1 (.t 5),none,[2]⟩,⟨some 7,.fa 2 (.t 1),none,[]⟩,⟨some 8,.load false 1 (.t 7),none,[4]⟩,⟨some 9,.build [(.int .i64 0),(.int .i64 0),(.bool false)] [(0,1,(.t 4)),(1,1,(.t
  6)),(2,1,(.t 8))],none,[1,3,5]⟩,⟨none,.store 3 (.t 2) (.t 9),none,[6,0,1,2,3,4,5,6]⟩]) .ret))
theorem r_reg_State_thinned : fnOf Tryz.prog n_reg_State_thinned = some (c_reg_State_thinned, [.cell 2 true 3], 10, false) := by kernel_rfl

/-- tallymark/rat.Nat -/
abbrev n_rat_Nat : FuncId := 70
def c_rat_Nat : C := (.seq (.reg false [⟨some 1,.box 47 (.t 0),none,[]⟩,⟨some 2,.new 51 [.nilsl,(.bool false),.nilsl],none,[]⟩]) (.seq (.reg false [⟨some 3,.load true 1 (.t 1),none,[]⟩,⟨some 4,.call 106 [(.d (.bool false)),(.t
  3)],none,[0]⟩,⟨some 5,.build [.nilsl,(.bool false),.nilsl] [(0,2,(.t 4))],none,[1]⟩,⟨none,.store 3 (.t 2) (.t 5),none,[2,1,0,1,2]⟩]) .ret))
theorem r_rat_Nat : fnOf Tryz.prog n_rat_Nat = some (c_rat_Nat, [.cell 2 true 3], 6, false) := by kernel_rfl

/-- (tallymark/reg.Param).chain -/
abbrev n_reg_Param_chain : FuncId := 71
def c_reg_Param_chain : C := (.seq (.reg false [⟨some 1,.box 30 (.t 0),none,[]⟩,⟨some 2,.new 143 [(.int .i64 0),(.int .i64 0),(.int .i64 0)],none,[]⟩]) (.seq (.reg false [⟨some 3,.fa 0 (.t 1),none,[]⟩,⟨some 4,.load false 1 (.t 3),none,[0]⟩,⟨some
  5,.fa 1 (.t 1),none,[]⟩,⟨some 6,.load false 1 (.t 5),none,[2]⟩,⟨some 7,.fa 2 (.t 1),none,[]⟩,⟨some 8,.load false 1 (.t 7),none,[4]⟩,⟨some 9,.build [(.int .i64 0),(.int .i64 0),(.int .i64 0)] [(0,1,(.t 4)),(1,1,(.t
  6)),(2,1,(.t 8))],none,[1,3,5]⟩,⟨none,.store 3 (.t 2) (.t 9),none,[6,0,1,2,3,4,5,6]⟩]) .ret))
theorem r_reg_Param_chain : fnOf Tryz.prog n_reg_Param_chain = some (c_reg_Param_chain, [.cell 2 true 3], 10, false) := by kernel_rfl

/-- (tallymark/chain.Param).Value -/
abbrev n_chain_Param_Value : FuncId := 72
def c_chain_Param_Value : C := (.seq (.reg false [⟨some 2,.box 143 (.t 0),none,[]⟩,⟨some 4,.new 51 [.nilsl,(.bool false),.nilsl],none,[]⟩,⟨some 5,.mv (.d (.int .i64 0)),none,[]⟩]) (.seq (.seq (.reg false [⟨some 7,.load true 3 (.t 2),none,[]⟩,⟨some
  8,.mv (.t 1),none,[]⟩,⟨some 9,.bsl 3 1 1 [(.int .i64 0)] [(0,1,(.t 8))],none,[1]⟩,⟨some 10,.call 121 [(.t 7),(.t 9)],none,[0,2]⟩,⟨some 6,.mv (.t 10),none,[3,3,0,1,2,3]⟩]) (.seq (.reg false [⟨some 11,.mv (.t
  6),none,[]⟩,⟨some 12,.bin .neq (.t 11) (.d (.int .i64 0)),none,[0]⟩]) (.cond (.t 12) (.seq (.reg false [⟨some 13,.build [.nilsl,(.bool false),.nilsl] [],none,[]⟩,⟨some 14,.mv (.t 6),none,[]⟩,⟨none,.store 3 (.t 4) (.t
  13),none,[0,0]⟩,⟨some 5,.mv (.t 14),none,[1,2,0,1,2]⟩]) .ret) .skip))) (.seq (.reg false [⟨some 15,.load true 3 (.t 2),none,[]⟩,⟨some 16,.call 122 [(.t 15)],none,[0]⟩,⟨some 17,.mv (.t 1),none,[]⟩,⟨some 18,.inv (.t 16)
  "tallymark/chain.value" [(.t 17)],none,[1,2,1]⟩,⟨some 19,.ext (.t 18) 0,none,[3]⟩,⟨some 20,.ext (.t 18) 1,none,[3]⟩,⟨none,.store 3 (.t 4) (.t 19),none,[4,3,0,1,2,3,4,5]⟩,⟨some 5,.mv (.t 20),none,[5,6,0,1,2,3,4,5,6]⟩])
  .ret)))
theorem r_chain_Param_Value : fnOf Tryz.prog n_chain_Param_Value = some (c_chain_Param_Value, [.cell 4 true 3, .t 5], 21, false) := by kernel_rfl

/-- slices.Clone[[]tallymark/cms.row,tallymark/cms.row] -/
abbrev n_slices_Clone_cms_row_cms_row : FuncId := 73
def c_slices_Clone_cms_row_cms_row : C := (.seq (.reg false [⟨some 2,.mv (.d .nilsl),none,[]⟩]) (.seq (.seq (.reg false [⟨some 3,.mv (.t 0),none,[]⟩,⟨some 4,.snl false (.t 3),none,[0]⟩]) (.cond (.t 4) (.seq (.reg false [⟨some 2,.mv (.d .nilsl),none,[]⟩]) .ret)
  .skip)) (.seq (.reg false [⟨some 5,.bsl0,none,[]⟩,⟨some 6,.mv (.t 0),none,[]⟩,⟨some 7,.app 111 3 24 (.t 5) (.t 6),none,[0,1]⟩,⟨some 2,.mv (.t 7),none,[2,2,0,1,2]⟩]) .ret)))
theorem r_slices_Clone_cms_row_cms_row : fnOf Tryz.prog n_slices_Clone_cms_row_cms_row = some (c_slices_Clone_cms_row_cms_row, [.t 2], 8, false) := by kernel_rfl

/-- (*tallymark/carray.Array).Clone -/
abbrev n_carray_Array_Clone : FuncId := 74
def c_carray_Array_Clone : C := (.seq (.reg false [⟨some 2,.mv (.d .nilp),none,[]⟩]) (.seq (.reg true [⟨some 3,.mv (.t 0),none,[]⟩,⟨some 4,.chk (.t 3),none,[0]⟩,⟨some 5,.fa 0 (.t 4),none,[1]⟩,⟨some 6,.load false 1 (.t 5),none,[2]⟩,⟨some 7,.call 123
  [(.t 6)],none,[3]⟩,⟨some 8,.mv (.t 0),none,[]⟩,⟨some 9,.chk (.t 8),none,[5]⟩,⟨some 10,.fa 1 (.t 9),none,[6]⟩,⟨some 11,.load true 3 (.t 10),none,[7]⟩,⟨some 12,.build [.nilp,(.int .i64 0),(.int .i64 0),(.int .i64 0)]
  [(0,1,(.t 7)),(1,3,(.t 11))],none,[4,8]⟩,⟨some 13,.box 166 (.t 12),none,[9]⟩,⟨some 2,.mv (.t 13),none,[10,4,0,1,2,3,4,5,6,7,8,9,10]⟩]) .ret))
theorem r_carray_Array_Clone : fnOf Tryz.prog n_carray_Array_Clone = some (c_carray_Array_Clone, [.t 2], 14, false) := by kernel_rfl

/-- (tallymark/thin.Param).Add -/
abbrev n_thin_Param_Add : FuncId := 79
def c_thin_Param_Add : C := (.seq (.reg false [⟨some 4,.box 135 (.t 0),none,[]⟩,⟨some 6,.box 139 (.t 2),none,[]⟩,⟨some 8,.new 139 [(.int .i64 0),(.int .i64 0),(.bool false)],none,[]⟩,⟨some 9,.mv (.d (.int .i64 0)),none,[]⟩]) (.seq (.seq (.reg
  false [⟨some 14,.load true 2 (.t 4),none,[]⟩,⟨some 15,.load true 3 (.t 6),none,[]⟩,⟨some 16,.bsl 139 3 1 [(.int .i64 0),(.int .i64 0),(.bool false)] [(0,3,(.t 15))],none,[1]⟩,⟨some 17,.call 119 [(.t 14),(.t
  16)],none,[0,2]⟩,⟨some 10,.mv (.t 17),none,[3,3,0,1,2,3]⟩]) (.seq (.reg false [⟨some 18,.mv (.t 10),none,[]⟩,⟨some 19,.bin .neq (.t 18) (.d (.int .i64 0)),none,[0]⟩]) (.cond (.t 19) (.seq (.reg false [⟨some 20,.load
  true 3 (.t 6),none,[]⟩,⟨some 21,.mv (.t 10),none,[]⟩,⟨none,.store 3 (.t 8) (.t 20),none,[0,0]⟩,⟨some 9,.mv (.t 21),none,[1,2,0,1,2]⟩]) .ret) .skip))) (.seq (.seq (.reg false [⟨some 22,.mv (.t 3),none,[]⟩,⟨some 23,.bin
  .gtr (.t 22) (.d (.int .i64 1048576)),none,[0]⟩]) (.cond (.t 23) (.seq (.reg false [⟨some 24,.load true 3 (.t 6),none,[]⟩,⟨none,.store 3 (.t 8) (.t 24),none,[0,0]⟩,⟨some 9,.mv (.d (.int .i64 2)),none,[1,0,1]⟩]) .ret)
  .skip)) (.seq (.reg false [⟨some 25,.load true 3 (.t 6),none,[]⟩,⟨some 11,.new 139 [(.int .i64 0),(.int .i64 0),(.bool false)],none,[]⟩,⟨none,.store 3 (.t 11) (.t 25),none,[1,0,0,1]⟩]) (.seq (.seq (.reg false [⟨some
  26,.mv (.t 3),none,[]⟩,⟨some 27,.mm true [(.d (.int .i64 0)),(.t 26)],none,[0]⟩,⟨some 28,.mv (.d (.int .i64 0)),none,[]⟩]) (.block 0 (.loop (.seq (.reg false [⟨some 29,.bin .lss (.t 28) (.t 27),none,[]⟩]) (.seq (.cond
  (.t 29) .skip (.exit 0)) (.seq (.block 1 (.seq (.reg false [⟨some 31,.load true 2 (.t 4),none,[]⟩,⟨some 32,.mv (.t 1),none,[]⟩,⟨some 33,.load true 3 (.t 11),none,[]⟩,⟨some 34,.call 126 [(.t 31),(.t 32),(.t
  33)],none,[0,1,2]⟩,⟨some 30,.mv (.t 34),none,[3]⟩,⟨some 35,.ext (.t 30) 0,none,[4]⟩,⟨some 36,.ext (.t 30) 1,none,[4]⟩,⟨some 12,.new 139 [(.int .i64 0),(.int .i64 0),(.bool false)],none,[]⟩,⟨none,.store 3 (.t 12) (.t
  35),none,[7,5,3,0,1,2,3,4,5,7]⟩,⟨some 13,.mv (.t 36),none,[6,8,0,1,2,3,4,5,6,7,8]⟩]) (.seq (.seq (.reg false [⟨some 37,.mv (.t 13),none,[]⟩,⟨some 38,.bin .neq (.t 37) (.d (.int .i64 0)),none,[0]⟩]) (.cond (.t 38) (.seq
  (.reg false [⟨some 39,.load true 3 (.t 6),none,[]⟩,⟨some 40,.mv (.t 13),none,[]⟩,⟨none,.store 3 (.t 8) (.t 39),none,[0,0]⟩,⟨some 9,.mv (.t 40),none,[1,2,0,1,2]⟩]) .ret) .skip)) (.reg false [⟨some 41,.load true 3 (.t
  12),none,[]⟩,⟨none,.store 3 (.t 11) (.t 41),none,[0,0]⟩])))) (.reg false [⟨some 42,.bin .add (.t 28) (.d (.int .i64 1)),none,[]⟩,⟨some 28,.mv (.t 42),none,[0]⟩]))))))) (.seq (.reg false [⟨some 43,.load true 3 (.t
  11),none,[]⟩,⟨none,.store 3 (.t 8) (.t 43),none,[0,0]⟩,⟨some 9,.mv (.d (.int .i64 0)),none,[1,0,1]⟩]) .ret))))))
theorem r_thin_Param_Add : fnOf Tryz.prog n_thin_Param_Add = some (c_thin_Param_Add, [.cell 8 true 3, .t 9], 44, false) := by kernel_rfl

/-- tallymark/reg.unthinned -/
abbrev n_reg_unthinned : FuncId := 80
def c_reg_unthinned : C := (.seq (.reg false [⟨some 1,.box 139 (.t 0),none,[]⟩,⟨some 2,.new 64 [(.int .i64 0),(.int .i64 0),(.bool false)],none,[]⟩]) (.seq (.reg false [⟨some 3,.fa 0 (.t 1),none,[]⟩,⟨some 4,.load false 1 (.t 3),none,[0]⟩,⟨some
  5,.fa 1 (.t 1),none,[]⟩,⟨some 6,.load false 1 (.t 5),none,[2]⟩,⟨some 7,.fa 2 (.t 1),none,[]⟩,⟨some 8,.load false 1 (.t 7),none,[4]⟩,⟨some 9,.build [(.int .i64 0),(.int .i64 0),(.bool false)] [(0,1,(.t 4)),(1,1,(.t
  6)),(2,1,(.t 8))],none,[1,3,5]⟩,⟨none,.store 3 (.t 2) (.t 9),none,[6,0,1,2,3,4,5,6]⟩]) .ret))
theorem r_reg_unthinned : fnOf Tryz.prog n_reg_unthinned = some (c_reg_unthinned, [.cell 2 true 3], 10, false) := by kernel_rfl

/-- (tallymark/chain.Param).Add -/
abbrev n_chain_Param_Add : FuncId := 81
def c_chain_Param_Add : C := (.seq (.reg false [⟨some 4,.box 143 (.t 0),none,[]⟩,⟨some 5,.box 40 (.t 1),none,[]⟩,⟨some 6,.box 155 (.t 2),none,[]⟩,⟨some 8,.new 155 [(.int .i64 0),(.bool false)],none,[]⟩,⟨some 9,.mv (.d (.int .i64 0)),none,[]⟩])
  (.seq (.seq (.reg false [⟨some 14,.load true 3 (.t 4),none,[]⟩,⟨some 15,.fa 0 (.t 6),none,[]⟩,⟨some 16,.load false 1 (.t 15),none,[1]⟩,⟨some 17,.bsl 3 1 1 [(.int .i64 0)] [(0,1,(.t 16))],none,[2]⟩,⟨some 18,.call 121
  [(.t 14),(.t 17)],none,[0,3]⟩,⟨some 10,.mv (.t 18),none,[4,4,0,1,2,3,4]⟩]) (.seq (.reg false [⟨some 19,.mv (.t 10),none,[]⟩,⟨some 20,.bin .neq (.t 19) (.d (.int .i64 0)),none,[0]⟩]) (.cond (.t 20) (.seq (.reg false
  [⟨some 21,.load true 2 (.t 6),none,[]⟩,⟨some 22,.mv (.t 10),none,[]⟩,⟨none,.store 2 (.t 8) (.t 21),none,[0,0]⟩,⟨some 9,.mv (.t 22),none,[1,2,0,1,2]⟩]) .ret) .skip))) (.seq (.seq (.reg false [⟨some 23,.mv (.t
  3),none,[]⟩,⟨some 24,.bin .gtr (.t 23) (.d (.int .i64 1048576)),none,[0]⟩]) (.cond (.t 24) (.seq (.reg false [⟨some 25,.load true 2 (.t 6),none,[]⟩,⟨none,.store 2 (.t 8) (.t 25),none,[0,0]⟩,⟨some 9,.mv (.d (.int .i64
  2)),none,[1,0,1]⟩]) .ret) .skip)) (.seq (.reg false [⟨some 26,.load true 3 (.t 4),none,[]⟩,⟨some 27,.call 122 [(.t 26)],none,[0]⟩,⟨some 11,.new 203 [.nilifc],none,[]⟩,⟨none,.store 1 (.t 11) (.t 27),none,[2,1,1,0,1,2]⟩])
  (.seq (.reg false [⟨some 28,.load true 2 (.t 6),none,[]⟩,⟨some 12,.new 155 [(.int .i64 0),(.bool false)],none,[]⟩,⟨none,.store 2 (.t 12) (.t 28),none,[1,0,0,1]⟩,⟨some 13,.mv (.d (.int .i64 0)),none,[2,0,1,2]⟩]) (.seq
  (.seq (.reg false [⟨some 29,.mv (.t 3),none,[]⟩,⟨some 30,.mm true [(.d (.int .i64 0)),(.t 29)],none,[0]⟩,⟨some 31,.mv (.d (.int .i64 0)),none,[]⟩]) (.block 0 (.loop (.seq (.reg false [⟨some 32,.bin .lss (.t 31) (.t
  30),none,[]⟩]) (.seq (.cond (.t 32) .skip (.exit 0)) (.seq (.block 1 (.seq (.reg false [⟨some 34,.load true 3 (.t 4),none,[]⟩,⟨some 35,.load true 2 (.t 12),none,[]⟩,⟨some 36,.mkf (.func 128) [(.t 11),(.t
  5)],none,[]⟩,⟨some 37,.call 127 [(.t 34),(.t 35),(.t 36)],none,[0,1,2]⟩,⟨some 33,.mv (.t 37),none,[3]⟩,⟨some 38,.ext (.t 33) 0,none,[4]⟩,⟨some 39,.ext (.t 33) 1,none,[4]⟩,⟨none,.store 2 (.t 12) (.t
  38),none,[5,3,0,1,2,3,4,5]⟩,⟨some 13,.mv (.t 39),none,[6,7,0,1,2,3,4,5,6,7]⟩]) (.seq (.seq (.reg false [⟨some 40,.mv (.t 13),none,[]⟩,⟨some 41,.bin .neq (.t 40) (.d (.int .i64 0)),none,[0]⟩]) (.cond (.t 41) (.seq (.reg
  false [⟨some 42,.load true 2 (.t 6),none,[]⟩,⟨some 43,.mv (.t 13),none,[]⟩,⟨none,.store 2 (.t 8) (.t 42),none,[0,0]⟩,⟨some 9,.mv (.t 43),none,[1,2,0,1,2]⟩]) .ret) .skip)) (.seq (.reg true [⟨some 44,.fa 1 (.t
  12),none,[]⟩,⟨some 45,.load false 1 (.t 44),none,[0]⟩,⟨some 46,.mv (.t 45),none,[1]⟩,⟨some 47,.fa 0 (.t 12),some (46,true),[2]⟩,⟨some 48,.load false 1 (.t 47),some (46,true),[3,2]⟩,⟨some 49,.load true 3 (.t 4),some
  (46,true),[2]⟩,⟨some 50,.call 129 [(.t 49)],some (46,true),[5,2,2]⟩,⟨some 51,.bin .eql (.t 48) (.t 50),some (46,true),[4,6,2]⟩,⟨some 52,.pick (.t 46) (.t 51) (.d (.bool false)),none,[2,7]⟩]) (.cond (.t 52) (.exit 0)
  .skip))))) (.reg false [⟨some 53,.bin .add (.t 31) (.d (.int .i64 1)),none,[]⟩,⟨some 31,.mv (.t 53),none,[0]⟩]))))))) (.seq (.reg false [⟨some 54,.load true 2 (.t 12),none,[]⟩,⟨none,.store 2 (.t 8) (.t
  54),none,[0,0]⟩,⟨some 9,.mv (.d (.int .i64 0)),none,[1,0,1]⟩]) .ret)))))))
theorem r_chain_Param_Add : fnOf Tryz.prog n_chain_Param_Add = some (c_chain_Param_Add, [.cell 8 true 2, .t 9], 55, false) := by kernel_rfl

/-- (tallymark/reg.State).link -/
abbrev n_reg_State_link : FuncId := 82
def c_reg_State_link : C := (.seq (.reg false [⟨some 1,.box 64 (.t 0),none,[]⟩,⟨some 2,.new 155 [(.int .i64 0),(.bool false)],none,[]⟩]) (.seq (.reg false [⟨some 3,.fa 0 (.t 1),none,[]⟩,⟨some 4,.load false 1 (.t 3),none,[0]⟩,⟨some 5,.fa 2 (.t
  1),none,[]⟩,⟨some 6,.load false 1 (.t 5),none,[2]⟩,⟨some 7,.build [(.int .i64 0),(.bool false)] [(0,1,(.t 4)),(1,1,(.t 6))],none,[1,3]⟩,⟨none,.store 2 (.t 2) (.t 7),none,[4,0,1,2,3,4]⟩]) .ret))
theorem r_reg_State_link : fnOf Tryz.prog n_reg_State_link = some (c_reg_State_link, [.cell 2 true 2], 8, false) := by kernel_rfl

/-- tallymark/reg.linked -/
abbrev n_reg_linked : FuncId := 83
def c_reg_linked : C := (.seq (.reg false [⟨some 1,.box 155 (.t 0),none,[]⟩,⟨some 2,.new 64 [(.int .i64 0),(.int .i64 0),(.bool false)],none,[]⟩]) (.seq (.reg false [⟨some 3,.fa 0 (.t 1),none,[]⟩,⟨some 4,.load false 1 (.t 3),none,[0]⟩,⟨some
  5,.fa 1 (.t 1),none,[]⟩,⟨some 6,.load false 1 (.t 5),none,[2]⟩,⟨some 7,.build [(.int .i64 0),(.int .i64 0),(.bool false)] [(0,1,(.t 4)),(2,1,(.t 6))],none,[1,3]⟩,⟨none,.store 3 (.t 2) (.t 7),none,[4,0,1,2,3,4]⟩]) .ret))
theorem r_reg_linked : fnOf Tryz.prog n_reg_linked = some (c_reg_linked, [.cell 2 true 3], 8, false) := by kernel_rfl

/-- tallymark/draw.Below -/
abbrev n_draw_Below : FuncId := 84
def c_draw_Below : C := (.seq (.reg false [⟨some 4,.mv (.d (.int .u64 0)),none,[]⟩,⟨some 5,.mv (.d (.int .i64 0)),none,[0]⟩]) (.scope (.seq (.seq (.reg false [⟨some 10,.mv (.t 1),none,[]⟩,⟨some 11,.bin .eql (.t 10) (.d (.int .u64
  0)),none,[0]⟩]) (.cond (.t 11) (.seq (.reg false [⟨some 4,.mv (.d (.int .u64 0)),none,[]⟩,⟨some 5,.mv (.d (.int .i64 2)),none,[0,0]⟩]) .ret) .skip)) (.seq (.reg false [⟨some 12,.mv (.t 1),none,[]⟩,⟨some 13,.bin .sub (.t
  12) (.d (.int .u64 1)),none,[0]⟩,⟨some 14,.call 130 [(.t 13)],none,[1]⟩,⟨some 6,.mv (.t 14),none,[2,2,0,1,2]⟩]) (.seq .skip (.block 0 (.loop (.block 1 (.seq (.reg false [⟨some 7,.mv (.d (.int .u64 0)),none,[]⟩]) (.seq
  (.seq (.reg false [⟨some 15,.mv (.t 6),none,[]⟩,⟨some 16,.mv (.d (.int .i64 0)),none,[]⟩]) (.block 2 (.loop (.seq (.reg false [⟨some 17,.bin .lss (.t 16) (.t 15),none,[]⟩]) (.seq (.cond (.t 17) .skip (.exit 2)) (.seq
  (.block 3 (.seq (.reg false [⟨some 19,.mv (.t 0),none,[]⟩,⟨some 20,.call 131 [(.t 19)],none,[0]⟩,⟨some 18,.mv (.t 20),none,[1]⟩,⟨some 21,.ext (.t 18) 0,none,[2]⟩,⟨some 22,.ext (.t 18) 1,none,[2]⟩,⟨some 8,.mv (.t
  21),none,[3,1,0,1,2,3]⟩,⟨some 9,.mv (.t 22),none,[4,5,0,1,2,3,4,5]⟩]) (.seq (.seq (.reg false [⟨some 23,.mv (.t 9),none,[]⟩,⟨some 24,.bin .neq (.t 23) (.d (.int .i64 0)),none,[0]⟩]) (.cond (.t 24) (.seq (.reg false
  [⟨some 25,.mv (.t 9),none,[]⟩,⟨some 4,.mv (.d (.int .u64 0)),none,[]⟩,⟨some 5,.mv (.t 25),none,[0,1,0,1]⟩]) .ret) .skip)) (.seq (.reg false [⟨some 26,.mv (.t 7),none,[]⟩,⟨some 27,.bin .shl (.t 26) (.d (.int .u64
  1)),none,[0]⟩,⟨some 7,.mv (.t 27),none,[1,0,1]⟩]) (.seq (.reg false [⟨some 28,.mv (.t 8),none,[]⟩]) (.cond (.t 28) (.reg false [⟨some 29,.mv (.t 7),none,[]⟩,⟨some 30,.bin .or (.t 29) (.d (.int .u64 1)),none,[0]⟩,⟨some
  7,.mv (.t 30),none,[1,0,1]⟩]) .skip)))))) (.reg false [⟨some 31,.bin .add (.t 16) (.d (.int .i64 1)),none,[]⟩,⟨some 16,.mv (.t 31),none,[0]⟩]))))))) (.seq (.seq (.reg false [⟨some 32,.mv (.t 7),none,[]⟩,⟨some 33,.mv (.t
  1),none,[]⟩,⟨some 34,.bin .geq (.t 32) (.t 33),none,[0,1]⟩]) (.cond (.t 34) (.exit 1) .skip)) (.seq (.reg false [⟨some 35,.mv (.t 7),none,[]⟩,⟨some 4,.mv (.t 35),none,[0,0]⟩,⟨some 5,.mv (.d (.int .i64
  0)),none,[1,0,1]⟩]) .ret))))))))))))
theorem r_draw_Below : fnOf Tryz.prog n_draw_Below = some (c_draw_Below, [.t 4, .t 5], 36, false) := by kernel_rfl

/-- (tallymark/reg.Param).Check -/
abbrev n_reg_Param_Check : FuncId := 85
def c_reg_Param_Check : C := (.seq (.reg false [⟨some 1,.box 30 (.t 0),none,[]⟩,⟨some 2,.mv (.d (.int .i64 0)),none,[]⟩]) (.seq (.seq (.reg false [⟨some 3,.fa 0 (.t 1),none,[]⟩,⟨some 4,.load false 1 (.t 3),none,[0]⟩,⟨some 5,.bin .eql (.t 4) (.d
  (.int .i64 4)),none,[1]⟩]) (.cond (.t 5) (.seq (.reg false [⟨some 6,.load true 3 (.t 1),none,[]⟩,⟨some 7,.call 67 [(.t 6)],none,[0]⟩,⟨some 8,.call 132 [(.t 7)],none,[1,1]⟩,⟨some 2,.mv (.t 8),none,[2,2,0,1,2]⟩]) .ret)
  .skip)) (.seq (.reg false [⟨some 9,.load true 3 (.t 1),none,[]⟩,⟨some 10,.call 71 [(.t 9)],none,[0]⟩,⟨some 11,.call 133 [(.t 10)],none,[1,1]⟩,⟨some 2,.mv (.t 11),none,[2,2,0,1,2]⟩]) .ret)))
theorem r_reg_Param_Check : fnOf Tryz.prog n_reg_Param_Check = some (c_reg_Param_Check, [.t 2], 12, false) := by kernel_rfl

/-- (*tallymark/bits.Writer).Num -/
abbrev n_bits_Writer_Num : FuncId := 87
def c_bits_Writer_Num : C := (.seq (.reg false [⟨some 6,.mv (.d (.int .i64 0)),none,[]⟩]) (.seq (.seq (.reg false [⟨some 8,.mv (.t 2),none,[]⟩,⟨some 9,.call 134 [(.t 8)],none,[0]⟩,⟨some 10,.un .not (.t 9),none,[1]⟩,⟨some 11,.mv (.t
  10),none,[2,1]⟩,⟨some 12,.mv (.t 1),some (11,false),[3]⟩,⟨some 13,.mv (.t 2),some (11,false),[3]⟩,⟨some 14,.call 135 [(.t 12),(.t 13)],some (11,false),[4,5,3,3]⟩,⟨some 15,.un .not (.t 14),some (11,false),[6,3]⟩,⟨some
  16,.pick (.t 11) (.d (.bool true)) (.t 15),none,[3,7]⟩]) (.cond (.t 16) (.seq (.reg false [⟨some 6,.mv (.d (.int .i64 2)),none,[]⟩]) .ret) .skip)) (.seq (.seq (.reg false [⟨some 17,.mv (.t 2),none,[]⟩,⟨some 18,.mv (.d
  (.int .i64 0)),none,[]⟩]) (.block 0 (.loop (.seq (.reg false [⟨some 19,.bin .lss (.t 18) (.t 17),none,[]⟩]) (.seq (.cond (.t 19) .skip (.exit 0)) (.seq (.block 1 (.seq (.reg false [⟨some 20,.mv (.t 18),none,[]⟩,⟨some
  7,.mv (.t 20),none,[0,0]⟩]) (.reg false [⟨some 21,.mv (.t 0),none,[]⟩,⟨some 22,.mv (.t 1),none,[]⟩,⟨some 23,.mv (.t 2),none,[]⟩,⟨some 24,.bin .sub (.t 23) (.d (.int .i64 1)),none,[2]⟩,⟨some 25,.mv (.t 7),none,[]⟩,⟨some
  26,.bin .sub (.t 24) (.t 25),none,[3,4]⟩,⟨some 27,.bin .shr (.t 22) (.t 26),none,[1,5]⟩,⟨some 28,.bin .and (.t 27) (.d (.int .u64 1)),none,[6]⟩,⟨some 29,.bin .eql (.t 28) (.d (.int .u64 1)),none,[7]⟩,⟨some 30,.call 136
  [(.t 21),(.t 29)],none,[0,8]⟩]))) (.reg false [⟨some 31,.bin .add (.t 18) (.d (.int .i64 1)),none,[]⟩,⟨some 18,.mv (.t 31),none,[0]⟩]))))))) (.seq (.reg false [⟨some 6,.mv (.d (.int .i64 0)),none,[]⟩]) .ret))))
theorem r_bits_Writer_Num : fnOf Tryz.prog n_bits_Writer_Num = some (c_bits_Writer_Num, [.t 6], 32, false) := by kernel_rfl

/-- (*tallymark/bits.Reader).Num -/
abbrev n_bits_Reader_Num : FuncId := 90
def c_bits_Reader_Num : C := (.seq (.reg false [⟨some 4,.mv (.d (.int .u64 0)),none,[]⟩,⟨some 5,.mv (.d (.int .i64 0)),none,[0]⟩]) (.seq (.block 0 (.seq (.reg false [⟨some 8,.mv (.t 1),none,[]⟩,⟨some 9,.call 134 [(.t 8)],none,[0]⟩,⟨some 10,.un .not
  (.t 9),none,[1]⟩,⟨some 7,.mv (.t 10),none,[2,1]⟩]) (.cond (.t 7) (.seq (.reg false [⟨some 4,.mv (.d (.int .u64 0)),none,[]⟩,⟨some 5,.mv (.d (.int .i64 2)),none,[0,0]⟩]) .ret) (.seq (.reg false [⟨some 12,.mv (.t
  1),none,[]⟩,⟨some 13,.mv (.t 0),none,[]⟩,⟨some 14,.call 42 [(.t 13)],none,[1]⟩,⟨some 15,.bin .gtr (.t 12) (.t 14),none,[0,2]⟩,⟨some 11,.mv (.t 15),none,[3,2]⟩]) (.cond (.t 11) (.seq (.reg false [⟨some 4,.mv (.d (.int
  .u64 0)),none,[]⟩,⟨some 5,.mv (.d (.int .i64 5)),none,[0,0]⟩]) .ret) .skip))))) (.seq (.reg false [⟨some 6,.mv (.d (.int .u64 0)),none,[]⟩]) (.seq (.seq (.reg false [⟨some 16,.mv (.t 1),none,[]⟩,⟨some 17,.mv (.d (.int
  .i64 0)),none,[]⟩]) (.block 1 (.loop (.seq (.reg false [⟨some 18,.bin .lss (.t 17) (.t 16),none,[]⟩]) (.seq (.cond (.t 18) .skip (.exit 1)) (.seq (.block 2 (.reg false [⟨some 19,.mv (.t 6),none,[]⟩,⟨some 20,.bin .shl
  (.t 19) (.d (.int .u64 1)),none,[0]⟩,⟨some 21,.mv (.t 0),none,[]⟩,⟨some 22,.call 137 [(.t 21)],none,[2]⟩,⟨some 23,.bin .or (.t 20) (.t 22),none,[1,3]⟩,⟨some 6,.mv (.t 23),none,[4,3,0,1,2,3,4]⟩])) (.reg false [⟨some
  24,.bin .add (.t 17) (.d (.int .i64 1)),none,[]⟩,⟨some 17,.mv (.t 24),none,[0]⟩]))))))) (.seq (.reg false [⟨some 25,.mv (.t 6),none,[]⟩,⟨some 4,.mv (.t 25),none,[0,0]⟩,⟨some 5,.mv (.d (.int .i64 0)),none,[1,0,1]⟩])
  .ret)))))
theorem r_bits_Reader_Num : fnOf Tryz.prog n_bits_Reader_Num = some (c_bits_Reader_Num, [.t 4, .t 5], 26, false) := by kernel_rfl

/-- slices.Clone[[]byte,byte] -/
abbrev n_slices_Clone_byte_byte : FuncId := 92
def c_slices_Clone_byte_byte : C := (.seq (.reg false [⟨some 2,.mv (.d .nilsl),none,[]⟩]) (.seq (.seq (.reg false [⟨some 3,.mv (.t 0),none,[]⟩,⟨some 4,.snl false (.t 3),none,[0]⟩]) (.cond (.t 4) (.seq (.reg false [⟨some 2,.mv (.d .nilsl),none,[]⟩]) .ret)
  .skip)) (.seq (.reg false [⟨some 5,.bsl0,none,[]⟩,⟨some 6,.mv (.t 0),none,[]⟩,⟨some 7,.app 5 1 1 (.t 5) (.t 6),none,[0,1]⟩,⟨some 2,.mv (.t 7),none,[2,2,0,1,2]⟩]) .ret)))
theorem r_slices_Clone_byte_byte : fnOf Tryz.prog n_slices_Clone_byte_byte = some (c_slices_Clone_byte_byte, [.t 2], 8, false) := by kernel_rfl

/-- tallymark/tallymarklaw17.Within -/
abbrev n_Tlaw17_Within : FuncId := 97
def c_Tlaw17_Within : C := (.seq (.reg false [⟨some 2,.box 23 (.t 0),none,[]⟩,⟨some 3,.box 100 (.t 1),none,[]⟩,⟨some 4,.new 100 [(.int .i64 0),(.int .i64 0),(.bool false)],none,[]⟩]) (.seq (.seq (.reg false [⟨some 6,.fa 0 (.t 2),none,[]⟩,⟨some
  7,.load false 1 (.t 6),none,[0]⟩,⟨some 8,.bin .eql (.t 7) (.d (.int .i64 4)),none,[1]⟩]) (.cond (.t 8) (.seq (.reg true [⟨some 9,.fa 0 (.t 3),none,[]⟩,⟨some 10,.load false 1 (.t 9),none,[0]⟩,⟨some 11,.bin .and (.t 10)
  (.d (.int .i64 7)),none,[1]⟩,⟨some 12,.fa 1 (.t 2),none,[]⟩,⟨some 13,.load false 1 (.t 12),none,[3]⟩,⟨some 14,.bin .add (.t 13) (.d (.int .i64 1)),none,[4]⟩,⟨some 15,.bin .rem (.t 11) (.t 14),none,[2,5]⟩,⟨some 16,.fa 1
  (.t 3),none,[]⟩,⟨some 17,.load false 1 (.t 16),none,[7]⟩,⟨some 18,.bin .and (.t 17) (.d (.int .i64 3)),none,[8]⟩,⟨some 19,.fa 2 (.t 2),none,[]⟩,⟨some 20,.load false 1 (.t 19),none,[10]⟩,⟨some 21,.bin .add (.t 20) (.d
  (.int .i64 1)),none,[11]⟩,⟨some 22,.bin .rem (.t 18) (.t 21),none,[9,12]⟩,⟨some 23,.fa 0 (.t 3),none,[0,1,2,3,4,5,6,7,8]⟩,⟨none,.store 1 (.t 23) (.t 15),none,[14,6,0,1,2,3,4,5,6,7,8]⟩,⟨some 24,.fa 1 (.t
  3),none,[0,1,2,3,4,5,6,7,8,9,10,11,12,13,14,15]⟩,⟨none,.store 1 (.t 24) (.t 22),none,[16,13,15,0,1,2,3,4,5,6,7,8,9,10,11,12,13,14,15]⟩]) (.seq (.reg false [⟨some 25,.fa 2 (.t 3),none,[]⟩,⟨some 26,.load false 1 (.t
  25),none,[0]⟩,⟨some 27,.mv (.t 26),none,[1]⟩,⟨some 28,.fa 1 (.t 3),some (27,true),[2]⟩,⟨some 29,.load false 1 (.t 28),some (27,true),[3,2]⟩,⟨some 30,.fa 2 (.t 2),some (27,true),[2]⟩,⟨some 31,.load false 1 (.t 30),some
  (27,true),[5,2]⟩,⟨some 32,.bin .eql (.t 29) (.t 31),some (27,true),[4,6,2]⟩,⟨some 33,.pick (.t 27) (.t 32) (.d (.bool false)),none,[2,7]⟩,⟨some 34,.fa 2 (.t 3),none,[0,1,2,3,4,5,6,7,8]⟩,⟨none,.store 1 (.t 34) (.t
  33),none,[9,8,2,0,1,2,3,4,5,6,7,8]⟩]) (.seq (.reg false [⟨some 35,.load true 3 (.t 3),none,[]⟩,⟨none,.store 3 (.t 4) (.t 35),none,[0,0]⟩]) .ret))) .skip)) (.seq (.reg false [⟨some 36,.fa 2 (.t 2),none,[]⟩,⟨some 37,.load
  false 1 (.t 36),none,[0]⟩,⟨some 38,.bin .shl (.d (.int .i64 1)) (.t 37),none,[1]⟩,⟨some 39,.bin .sub (.t 38) (.d (.int .i64 1)),none,[2]⟩,⟨some 5,.mv (.t 39),none,[3,0,1,2,3]⟩]) (.seq (.reg false [⟨some 40,.fa 0 (.t
  3),none,[]⟩,⟨some 41,.load false 1 (.t 40),none,[0]⟩,⟨some 42,.bin .and (.t 41) (.d (.int .i64 15)),none,[1]⟩,⟨some 43,.mv (.t 5),none,[]⟩,⟨some 44,.bin .add (.t 43) (.d (.int .i64 1)),none,[3]⟩,⟨some 45,.bin .rem (.t
  42) (.t 44),none,[2,4]⟩,⟨some 46,.fa 0 (.t 3),none,[0,1,2,3,4,5]⟩,⟨none,.store 1 (.t 46) (.t 45),none,[6,5,0,1,2,3,4,5]⟩,⟨some 47,.fa 1 (.t 3),none,[0,1,2,3,4,5,6,7]⟩,⟨none,.store 1 (.t 47) (.d (.int .i64
  0)),none,[8,7,0,1,2,3,4,5,6,7]⟩]) (.seq (.reg false [⟨some 48,.fa 2 (.t 3),none,[]⟩,⟨some 49,.load false 1 (.t 48),none,[0]⟩,⟨some 50,.mv (.t 49),none,[1]⟩,⟨some 51,.fa 0 (.t 3),some (50,true),[2]⟩,⟨some 52,.load false
  1 (.t 51),some (50,true),[3,2]⟩,⟨some 53,.mv (.t 5),some (50,true),[2]⟩,⟨some 54,.bin .eql (.t 52) (.t 53),some (50,true),[4,5,2]⟩,⟨some 55,.pick (.t 50) (.t 54) (.d (.bool false)),none,[2,6]⟩,⟨some 56,.fa 2 (.t
  3),none,[0,1,2,3,4,5,6,7]⟩,⟨none,.store 1 (.t 56) (.t 55),none,[8,7,2,0,1,2,3,4,5,6,7]⟩]) (.seq (.reg false [⟨some 57,.load true 3 (.t 3),none,[]⟩,⟨none,.store 3 (.t 4) (.t 57),none,[0,0]⟩]) .ret))))))
theorem r_Tlaw17_Within : fnOf Tryz.prog n_Tlaw17_Within = some (c_Tlaw17_Within, [.cell 4 true 3], 58, false) := by kernel_rfl

/-- tallymark/pack.New -/
abbrev n_pack_New : FuncId := 98
def c_pack_New : C := (.seq (.reg false [⟨some 4,.mv (.d .nilp),none,[]⟩,⟨some 5,.mv (.d (.int .i64 0)),none,[0]⟩]) (.seq (.seq (.reg false [⟨some 6,.mv (.t 0),none,[]⟩,⟨some 7,.bin .lss (.t 6) (.d (.int .i64 0)),none,[0]⟩,⟨some 8,.mv (.t
  7),none,[1]⟩,⟨some 9,.mv (.t 0),some (8,false),[2]⟩,⟨some 10,.bin .gtr (.t 9) (.d (.int .i64 256)),some (8,false),[3,2]⟩,⟨some 11,.pick (.t 8) (.d (.bool true)) (.t 10),none,[2,4]⟩,⟨some 12,.mv (.t 11),none,[5,2]⟩,⟨some
  13,.mv (.t 1),some (12,false),[6]⟩,⟨some 14,.bin .lss (.t 13) (.d (.int .i64 1)),some (12,false),[7,6]⟩,⟨some 15,.pick (.t 12) (.d (.bool true)) (.t 14),none,[6,8]⟩,⟨some 16,.mv (.t 15),none,[9,6]⟩,⟨some 17,.mv (.t
  1),some (16,false),[10]⟩,⟨some 18,.bin .gtr (.t 17) (.d (.int .i64 32)),some (16,false),[11,10]⟩,⟨some 19,.pick (.t 16) (.d (.bool true)) (.t 18),none,[10,12]⟩]) (.cond (.t 19) (.seq (.reg false [⟨some 4,.mv (.d
  .nilp),none,[]⟩,⟨some 5,.mv (.d (.int .i64 10)),none,[0,0]⟩]) .ret) .skip)) (.seq (.reg false [⟨some 20,.mv (.t 0),none,[]⟩,⟨some 21,.mv (.t 1),none,[]⟩,⟨some 22,.bin .mul (.t 20) (.t 21),none,[0,1]⟩,⟨some 23,.bin .add
  (.t 22) (.d (.int .i64 64)),none,[2]⟩,⟨some 24,.bin .sub (.t 23) (.d (.int .i64 1)),none,[3]⟩,⟨some 25,.bin .quo (.t 24) (.d (.int .i64 64)),none,[4]⟩,⟨some 26,.mksl 28 1 8 [(.int .u64 0)] (.t 25) (.t
  25),none,[5,5]⟩,⟨some 27,.mv (.t 0),none,[]⟩,⟨some 28,.mv (.t 1),none,[]⟩,⟨some 29,.build [.nilsl,(.int .i64 0),(.int .i64 0)] [(0,1,(.t 26)),(1,1,(.t 27)),(2,1,(.t 28))],none,[6,7,8]⟩,⟨some 30,.box 218 (.t
  29),none,[9]⟩,⟨some 4,.mv (.t 30),none,[10,0,1,2,3,4,5,6,7,8,9,10]⟩,⟨some 5,.mv (.d (.int .i64 0)),none,[11,0,1,2,3,4,5,6,7,8,9,10,11]⟩]) .ret)))
theorem r_pack_New : fnOf Tryz.prog n_pack_New = some (c_pack_New, [.t 4, .t 5], 31, false) := by kernel_rfl

/-- (tallymark/reg.Param).Bits -/
abbrev n_reg_Param_Bits : FuncId := 99
def c_reg_Param_Bits : C := (.seq (.reg false [⟨some 1,.box 30 (.t 0),none,[]⟩,⟨some 2,.mv (.d (.int .i64 0)),none,[]⟩]) (.seq (.seq (.reg false [⟨some 5,.load true 3 (.t 1),none,[]⟩,⟨some 6,.call 85 [(.t 5)],none,[0]⟩,⟨some 7,.bin .neq (.t 6) (.d
  (.int .i64 0)),none,[1]⟩]) (.cond (.t 7) (.seq (.reg false [⟨some 2,.mv (.d (.int .i64 0)),none,[]⟩]) .ret) .skip)) (.seq (.reg false [⟨some 9,.load true 3 (.t 1),none,[]⟩,⟨some 10,.call 142 [(.t 9)],none,[0]⟩,⟨some
  8,.mv (.t 10),none,[1]⟩,⟨some 11,.ext (.t 8) 0,none,[2]⟩,⟨some 12,.ext (.t 8) 1,none,[2]⟩,⟨some 3,.mv (.t 11),none,[3,1,0,1,2,3]⟩,⟨some 4,.mv (.t 12),none,[4,5,0,1,2,3,4,5]⟩]) (.seq (.reg false [⟨some 13,.mv (.t
  3),none,[]⟩,⟨some 14,.mv (.t 4),none,[]⟩,⟨some 15,.bin .add (.t 13) (.t 14),none,[0,1]⟩,⟨some 16,.bin .add (.t 15) (.d (.int .i64 1)),none,[2]⟩,⟨some 2,.mv (.t 16),none,[3,0,1,2,3]⟩]) .ret))))
theorem r_reg_Param_Bits : fnOf Tryz.prog n_reg_Param_Bits = some (c_reg_Param_Bits, [.t 2], 17, false) := by kernel_rfl

/-- (tallymark/hash.Hash).sum -/
abbrev n_hash_Hash_sum : FuncId := 100
def c_hash_Hash_sum : C := (.seq (.reg false [⟨some 2,.box 62 (.t 0),none,[]⟩,⟨some 4,.mv (.d (.int .u64 0)),none,[]⟩]) (.seq (.reg true [⟨some 5,.fa 0 (.t 2),none,[]⟩,⟨some 6,.load false 1 (.t 5),none,[0]⟩,⟨some 7,.mv (.t 1),none,[]⟩,⟨some
  8,.call 143 [(.t 6),(.t 7)],none,[1,2]⟩,⟨some 9,.fa 1 (.t 2),none,[]⟩,⟨some 10,.load false 1 (.t 9),none,[4]⟩,⟨some 11,.bin .add (.t 8) (.t 10),none,[3,5]⟩,⟨some 12,.bin .rem (.t 11) (.d (.int .u64
  2305843009213693951)),none,[6]⟩,⟨some 4,.mv (.t 12),none,[7,3,0,1,2,3,4,5,6,7]⟩]) .ret))
theorem r_hash_Hash_sum : fnOf Tryz.prog n_hash_Hash_sum = some (c_hash_Hash_sum, [.t 4], 13, false) := by kernel_rfl

/-- (*tallymark/carray.Array).Set -/
abbrev n_carray_Array_Set : FuncId := 101
def c_carray_Array_Set : C := (.seq (.reg false [⟨some 5,.box 64 (.t 2),none,[]⟩,⟨some 6,.mv (.d (.int .i64 0)),none,[]⟩]) (.seq (.seq (.reg false [⟨some 14,.mv (.t 0),none,[]⟩,⟨some 15,.chk (.t 14),none,[0]⟩,⟨some 16,.fa 0 (.t 15),none,[1]⟩,⟨some
  17,.load false 1 (.t 16),none,[2]⟩,⟨some 18,.mv (.t 1),none,[]⟩,⟨some 19,.call 102 [(.t 17),(.t 18)],none,[3,4]⟩,⟨some 13,.mv (.t 19),none,[5]⟩,⟨some 20,.ext (.t 13) 0,none,[6]⟩,⟨some 21,.ext (.t 13) 1,none,[6]⟩,⟨some
  7,.mv (.t 20),none,[7,5,0,1,2,3,4,5,6,7]⟩,⟨some 8,.mv (.t 21),none,[8,9,0,1,2,3,4,5,6,7,8,9]⟩]) (.seq (.reg false [⟨some 22,.mv (.t 8),none,[]⟩,⟨some 23,.bin .neq (.t 22) (.d (.int .i64 0)),none,[0]⟩]) (.cond (.t 23)
  (.seq (.reg false [⟨some 24,.mv (.t 8),none,[]⟩,⟨some 6,.mv (.t 24),none,[0,0]⟩]) .ret) .skip))) (.seq (.reg false [⟨some 9,.new 85 [.nilsl,(.int .i64 0)],none,[]⟩]) (.seq (.seq (.reg true [⟨some 25,.mv (.t
  0),none,[]⟩,⟨some 26,.chk (.t 25),none,[0]⟩,⟨some 27,.fa 1 (.t 26),none,[1]⟩,⟨some 28,.load true 3 (.t 27),none,[2]⟩,⟨some 29,.load true 3 (.t 5),none,[]⟩,⟨some 30,.call 144 [(.t 28),(.t 9),(.t 29)],none,[3,4]⟩,⟨some
  10,.mv (.t 30),none,[5,5,0,1,2,3,4,5]⟩]) (.seq (.reg false [⟨some 31,.mv (.t 10),none,[]⟩,⟨some 32,.bin .neq (.t 31) (.d (.int .i64 0)),none,[0]⟩]) (.cond (.t 32) (.seq (.reg false [⟨some 33,.mv (.t 10),none,[]⟩,⟨some
  6,.mv (.t 33),none,[0,0]⟩]) .ret) .skip))) (.seq (.reg true [⟨some 35,.call 39 [(.t 9)],none,[]⟩,⟨some 36,.call 38 [(.t 35)],none,[0,0]⟩,⟨some 37,.mv (.t 0),none,[]⟩,⟨some 38,.chk (.t 37),none,[2]⟩,⟨some 39,.fa 0 (.t
  38),none,[3]⟩,⟨some 40,.load false 1 (.t 39),none,[4]⟩,⟨some 41,.call 103 [(.t 40)],none,[5,1]⟩,⟨some 42,.call 90 [(.t 36),(.t 41)],none,[1,6,6]⟩,⟨some 34,.mv (.t 42),none,[7]⟩,⟨some 43,.ext (.t 34) 0,none,[8]⟩,⟨some
  44,.ext (.t 34) 1,none,[8]⟩,⟨some 11,.mv (.t 43),none,[9,7,0,1,2,3,4,5,6,7,8,9]⟩,⟨some 12,.mv (.t 44),none,[10,11,0,1,2,3,4,5,6,7,8,9,10,11]⟩]) (.seq (.reg false [⟨some 45,.mv (.t 0),none,[]⟩,⟨some 46,.chk (.t
  45),none,[0]⟩,⟨some 47,.fa 0 (.t 46),none,[1]⟩,⟨some 48,.load false 1 (.t 47),none,[2]⟩,⟨some 49,.mv (.t 1),none,[]⟩,⟨some 50,.mv (.t 11),none,[]⟩,⟨some 51,.call 145 [(.t 48),(.t 49),(.t 50)],none,[3,4,5]⟩,⟨some 6,.mv
  (.t 51),none,[6,6,0,1,2,3,4,5,6]⟩]) .ret))))))
theorem r_carray_Array_Set : fnOf Tryz.prog n_carray_Array_Set = some (c_carray_Array_Set, [.t 6], 52, false) := by kernel_rfl

/-- (*tallymark/pack.Vector).Get -/
abbrev n_pack_Vector_Get : FuncId := 102
def c_pack_Vector_Get : C := (.seq (.reg false [⟨some 4,.mv (.d (.int .u64 0)),none,[]⟩,⟨some 5,.mv (.d (.int .i64 0)),none,[0]⟩]) (.seq (.seq (.reg false [⟨some 9,.mv (.t 1),none,[]⟩,⟨some 10,.bin .lss (.t 9) (.d (.int .i64 0)),none,[0]⟩,⟨some
  11,.mv (.t 10),none,[1]⟩,⟨some 12,.mv (.t 1),some (11,false),[2]⟩,⟨some 13,.mv (.t 0),some (11,false),[2]⟩,⟨some 14,.chk (.t 13),some (11,false),[4,2]⟩,⟨some 15,.fa 1 (.t 14),some (11,false),[5,2]⟩,⟨some 16,.load false
  1 (.t 15),some (11,false),[6,2]⟩,⟨some 17,.bin .geq (.t 12) (.t 16),some (11,false),[3,7,2]⟩,⟨some 18,.pick (.t 11) (.d (.bool true)) (.t 17),none,[2,8]⟩]) (.cond (.t 18) (.seq (.reg false [⟨some 4,.mv (.d (.int .u64
  0)),none,[]⟩,⟨some 5,.mv (.d (.int .i64 1)),none,[0,0]⟩]) .ret) .skip)) (.seq (.reg false [⟨some 20,.mv (.t 0),none,[]⟩,⟨some 21,.mv (.t 1),none,[]⟩,⟨some 22,.call 146 [(.t 20),(.t 21)],none,[0,1]⟩,⟨some 19,.mv (.t
  22),none,[2]⟩,⟨some 23,.ext (.t 19) 0,none,[3]⟩,⟨some 24,.ext (.t 19) 1,none,[3]⟩,⟨some 6,.mv (.t 23),none,[4,2,0,1,2,3,4]⟩,⟨some 7,.mv (.t 24),none,[5,6,0,1,2,3,4,5,6]⟩]) (.seq (.reg false [⟨some 25,.mv (.t
  0),none,[]⟩,⟨some 26,.chk (.t 25),none,[0]⟩,⟨some 27,.fa 0 (.t 26),none,[1]⟩,⟨some 28,.load false 1 (.t 27),none,[2]⟩,⟨some 29,.mv (.t 6),none,[]⟩,⟨some 30,.ix 1 (.t 28) (.t 29),none,[3,4]⟩,⟨some 31,.load false 1 (.t
  30),none,[5]⟩,⟨some 32,.mv (.t 7),none,[]⟩,⟨some 33,.bin .shr (.t 31) (.t 32),none,[6,7]⟩,⟨some 8,.mv (.t 33),none,[8,0,1,2,3,4,5,6,7,8]⟩]) (.seq (.seq (.reg false [⟨some 34,.mv (.t 7),none,[]⟩,⟨some 35,.mv (.t
  0),none,[]⟩,⟨some 36,.chk (.t 35),none,[1]⟩,⟨some 37,.fa 2 (.t 36),none,[2]⟩,⟨some 38,.load false 1 (.t 37),none,[3]⟩,⟨some 39,.bin .add (.t 34) (.t 38),none,[0,4]⟩,⟨some 40,.bin .gtr (.t 39) (.d (.int .i64
  64)),none,[5]⟩]) (.cond (.t 40) (.reg false [⟨some 41,.mv (.t 8),none,[]⟩,⟨some 42,.mv (.t 0),none,[]⟩,⟨some 43,.chk (.t 42),none,[1]⟩,⟨some 44,.fa 0 (.t 43),none,[2]⟩,⟨some 45,.load false 1 (.t 44),none,[3]⟩,⟨some
  46,.mv (.t 6),none,[]⟩,⟨some 47,.bin .add (.t 46) (.d (.int .i64 1)),none,[5]⟩,⟨some 48,.ix 1 (.t 45) (.t 47),none,[4,6]⟩,⟨some 49,.load false 1 (.t 48),none,[7]⟩,⟨some 50,.mv (.t 7),none,[]⟩,⟨some 51,.bin .sub (.d
  (.int .i64 64)) (.t 50),none,[9]⟩,⟨some 52,.bin .shl (.t 49) (.t 51),none,[8,10]⟩,⟨some 53,.bin .or (.t 41) (.t 52),none,[0,11]⟩,⟨some 8,.mv (.t 53),none,[12,0,1,2,3,4,5,6,7,8,9,10,11,12]⟩]) .skip)) (.seq (.reg false
  [⟨some 54,.mv (.t 8),none,[]⟩,⟨some 55,.mv (.t 0),none,[]⟩,⟨some 56,.call 147 [(.t 55)],none,[1]⟩,⟨some 57,.bin .and (.t 54) (.t 56),none,[0,2]⟩,⟨some 4,.mv (.t 57),none,[3,2,0,1,2,3]⟩,⟨some 5,.mv (.d (.int .i64
  0)),none,[4,0,1,2,3,4]⟩]) .ret))))))
theorem r_pack_Vector_Get : fnOf Tryz.prog n_pack_Vector_Get = some (c_pack_Vector_Get, [.t 4, .t 5], 58, false) := by kernel_rfl

/-- (*tallymark/pack.Vector).Width -/
abbrev n_pack_Vector_Width : FuncId := 103
def c_pack_Vector_Width : C := (.seq (.reg false [⟨some 2,.mv (.d (.int .i64 0)),none,[]⟩]) (.seq (.reg false [⟨some 3,.mv (.t 0),none,[]⟩,⟨some 4,.chk (.t 3),none,[0]⟩,⟨some 5,.fa 2 (.t 4),none,[1]⟩,⟨some 6,.load false 1 (.t 5),none,[2]⟩,⟨some 2,.mv
  (.t 6),none,[3,0,1,2,3]⟩]) .ret))
theorem r_pack_Vector_Width : fnOf Tryz.prog n_pack_Vector_Width = some (c_pack_Vector_Width, [.t 2], 7, false) := by kernel_rfl

/-- (tallymark/reg.Param).Read -/
abbrev n_reg_Param_Read : FuncId := 104
def c_reg_Param_Read : C := (.seq (.reg false [⟨some 2,.box 30 (.t 0),none,[]⟩,⟨some 4,.new 64 [(.int .i64 0),(.int .i64 0),(.bool false)],none,[]⟩,⟨some 5,.mv (.d (.int .i64 0)),none,[]⟩]) (.seq (.seq (.reg false [⟨some 16,.load true 3 (.t
  2),none,[]⟩,⟨some 17,.call 85 [(.t 16)],none,[0]⟩,⟨some 6,.mv (.t 17),none,[1,1,0,1]⟩]) (.seq (.reg false [⟨some 18,.mv (.t 6),none,[]⟩,⟨some 19,.bin .neq (.t 18) (.d (.int .i64 0)),none,[0]⟩]) (.cond (.t 19) (.seq
  (.reg false [⟨some 20,.build [(.int .i64 0),(.int .i64 0),(.bool false)] [],none,[]⟩,⟨some 21,.mv (.t 6),none,[]⟩,⟨none,.store 3 (.t 4) (.t 20),none,[0,0]⟩,⟨some 5,.mv (.t 21),none,[1,2,0,1,2]⟩]) .ret) .skip))) (.seq
  (.seq (.reg true [⟨some 22,.mv (.t 1),none,[]⟩,⟨some 23,.call 42 [(.t 22)],none,[0]⟩,⟨some 24,.load true 3 (.t 2),none,[]⟩,⟨some 25,.call 99 [(.t 24)],none,[2,1]⟩,⟨some 26,.bin .lss (.t 23) (.t 25),none,[1,3]⟩]) (.cond
  (.t 26) (.seq (.reg false [⟨some 27,.build [(.int .i64 0),(.int .i64 0),(.bool false)] [],none,[]⟩,⟨none,.store 3 (.t 4) (.t 27),none,[0,0]⟩,⟨some 5,.mv (.d (.int .i64 5)),none,[1,0,1]⟩]) .ret) .skip)) (.seq (.reg false
  [⟨some 29,.load true 3 (.t 2),none,[]⟩,⟨some 30,.call 142 [(.t 29)],none,[0]⟩,⟨some 28,.mv (.t 30),none,[1]⟩,⟨some 31,.ext (.t 28) 0,none,[2]⟩,⟨some 32,.ext (.t 28) 1,none,[2]⟩,⟨some 7,.mv (.t
  31),none,[3,1,0,1,2,3]⟩,⟨some 8,.mv (.t 32),none,[4,5,0,1,2,3,4,5]⟩]) (.seq (.reg false [⟨some 34,.mv (.t 1),none,[]⟩,⟨some 35,.mv (.t 7),none,[]⟩,⟨some 36,.call 90 [(.t 34),(.t 35)],none,[0,1]⟩,⟨some 33,.mv (.t
  36),none,[2]⟩,⟨some 37,.ext (.t 33) 0,none,[3]⟩,⟨some 38,.ext (.t 33) 1,none,[3]⟩,⟨some 9,.mv (.t 37),none,[4,2,0,1,2,3,4]⟩,⟨some 10,.mv (.t 38),none,[5,6,0,1,2,3,4,5,6]⟩]) (.seq (.reg false [⟨some 40,.mv (.t
  1),none,[]⟩,⟨some 41,.mv (.t 8),none,[]⟩,⟨some 42,.call 90 [(.t 40),(.t 41)],none,[0,1]⟩,⟨some 39,.mv (.t 42),none,[2]⟩,⟨some 43,.ext (.t 39) 0,none,[3]⟩,⟨some 44,.ext (.t 39) 1,none,[3]⟩,⟨some 11,.mv (.t
  43),none,[4,2,0,1,2,3,4]⟩,⟨some 12,.mv (.t 44),none,[5,6,0,1,2,3,4,5,6]⟩]) (.seq (.reg false [⟨some 46,.mv (.t 1),none,[]⟩,⟨some 47,.call 41 [(.t 46)],none,[0]⟩,⟨some 45,.mv (.t 47),none,[1]⟩,⟨some 48,.ext (.t 45)
  0,none,[2]⟩,⟨some 49,.ext (.t 45) 1,none,[2]⟩,⟨some 13,.mv (.t 48),none,[3,1,0,1,2,3]⟩,⟨some 14,.mv (.t 49),none,[4,5,0,1,2,3,4,5]⟩]) (.seq (.reg false [⟨some 50,.mv (.t 9),none,[]⟩,⟨some 51,.conv .i64 (.t
  50),none,[0]⟩,⟨some 52,.mv (.t 11),none,[]⟩,⟨some 53,.conv .i64 (.t 52),none,[2]⟩,⟨some 54,.mv (.t 13),none,[]⟩,⟨some 55,.build [(.int .i64 0),(.int .i64 0),(.bool false)] [(0,1,(.t 51)),(1,1,(.t 53)),(2,1,(.t
  54))],none,[1,3,4]⟩,⟨some 15,.new 64 [(.int .i64 0),(.int .i64 0),(.bool false)],none,[]⟩,⟨none,.store 3 (.t 15) (.t 55),none,[6,5,0,1,2,3,4,5,6]⟩]) (.seq (.seq (.reg false [⟨some 56,.load true 3 (.t 2),none,[]⟩,⟨some
  57,.load true 3 (.t 15),none,[]⟩,⟨some 58,.call 118 [(.t 56),(.t 57)],none,[0,1]⟩,⟨some 59,.un .not (.t 58),none,[2]⟩]) (.cond (.t 59) (.seq (.reg false [⟨some 60,.build [(.int .i64 0),(.int .i64 0),(.bool false)]
  [],none,[]⟩,⟨none,.store 3 (.t 4) (.t 60),none,[0,0]⟩,⟨some 5,.mv (.d (.int .i64 4)),none,[1,0,1]⟩]) .ret) .skip)) (.seq (.reg false [⟨some 61,.load true 3 (.t 15),none,[]⟩,⟨none,.store 3 (.t 4) (.t
  61),none,[0,0]⟩,⟨some 5,.mv (.d (.int .i64 0)),none,[1,0,1]⟩]) .ret))))))))))
theorem r_reg_Param_Read : fnOf Tryz.prog n_reg_Param_Read = some (c_reg_Param_Read, [.cell 4 true 3, .t 5], 62, false) := by kernel_rfl

/-- tallymark/nat.Cmp -/
abbrev n_nat_Cmp : FuncId := 105
def c_nat_Cmp : C := (.seq (.reg false [⟨some 2,.box 47 (.t 0),none,[]⟩,⟨some 3,.box 47 (.t 1),none,[]⟩,⟨some 4,.mv (.d (.int .i64 0)),none,[]⟩]) (.seq (.seq (.reg false [⟨some 9,.fa 0 (.t 2),none,[]⟩,⟨some 10,.load false 1 (.t
  9),none,[0]⟩,⟨some 11,.len (.t 10),none,[1]⟩,⟨some 12,.fa 0 (.t 3),none,[]⟩,⟨some 13,.load false 1 (.t 12),none,[3]⟩,⟨some 14,.len (.t 13),none,[4]⟩,⟨some 15,.bin .sub (.t 11) (.t 14),none,[2,5]⟩,⟨some 5,.mv (.t
  15),none,[6,0,1,2,3,4,5,6]⟩]) (.seq (.reg false [⟨some 16,.mv (.t 5),none,[]⟩,⟨some 17,.bin .neq (.t 16) (.d (.int .i64 0)),none,[0]⟩]) (.cond (.t 17) (.seq (.reg false [⟨some 18,.mv (.t 5),none,[]⟩,⟨some 19,.mm false
  [(.t 18),(.d (.int .i64 1))],none,[0]⟩,⟨some 20,.mm true [(.d (.int .i64 (-1))),(.t 19)],none,[1]⟩,⟨some 4,.mv (.t 20),none,[2,0,1,2]⟩]) .ret) .skip))) (.seq (.seq (.reg false [⟨some 21,.fa 0 (.t 2),none,[]⟩,⟨some
  22,.load false 1 (.t 21),none,[0]⟩,⟨some 23,.len (.t 22),none,[1]⟩,⟨some 24,.bin .sub (.t 23) (.d (.int .i64 1)),none,[2]⟩,⟨some 6,.mv (.t 24),none,[3,0,1,2,3]⟩]) (.block 0 (.loop (.seq (.seq (.reg false [⟨some 25,.mv
  (.t 6),none,[]⟩,⟨some 26,.bin .geq (.t 25) (.d (.int .i64 0)),none,[0]⟩]) (.cond (.t 26) .skip (.exit 0))) (.seq (.block 1 (.seq (.reg true [⟨some 29,.fa 0 (.t 2),none,[]⟩,⟨some 30,.load false 1 (.t 29),none,[0]⟩,⟨some
  31,.mv (.t 6),none,[]⟩,⟨some 32,.ix 1 (.t 30) (.t 31),none,[1,2]⟩,⟨some 33,.load false 1 (.t 32),none,[3]⟩,⟨some 34,.fa 0 (.t 3),none,[]⟩,⟨some 35,.load false 1 (.t 34),none,[5]⟩,⟨some 36,.mv (.t 6),none,[]⟩,⟨some
  37,.ix 1 (.t 35) (.t 36),none,[6,7]⟩,⟨some 38,.load false 1 (.t 37),none,[8]⟩,⟨some 7,.mv (.t 33),none,[4,0,1,2,3,4]⟩,⟨some 8,.mv (.t 38),none,[9,10,0,1,2,3,4,5,6,7,8,9,10]⟩]) (.block 2 (.seq (.reg false [⟨some 40,.mv
  (.t 7),none,[]⟩,⟨some 41,.mv (.t 8),none,[]⟩,⟨some 42,.bin .lss (.t 40) (.t 41),none,[0,1]⟩,⟨some 39,.mv (.t 42),none,[2]⟩]) (.cond (.t 39) (.seq (.reg false [⟨some 4,.mv (.d (.int .i64 (-1))),none,[]⟩]) .ret) (.seq
  (.reg false [⟨some 44,.mv (.t 7),none,[]⟩,⟨some 45,.mv (.t 8),none,[]⟩,⟨some 46,.bin .gtr (.t 44) (.t 45),none,[0,1]⟩,⟨some 43,.mv (.t 46),none,[2]⟩]) (.cond (.t 43) (.seq (.reg false [⟨some 4,.mv (.d (.int .i64
  1)),none,[]⟩]) .ret) .skip))))))) (.reg false [⟨some 27,.mv (.t 6),none,[]⟩,⟨some 28,.bin .sub (.t 27) (.d (.int .i64 1)),none,[0]⟩,⟨some 6,.mv (.t 28),none,[1,0,1]⟩])))))) (.seq (.reg false [⟨some 4,.mv (.d (.int .i64
  0)),none,[]⟩]) .ret))))
theorem r_nat_Cmp : fnOf Tryz.prog n_nat_Cmp = some (c_nat_Cmp, [.t 4], 47, false) := by kernel_rfl

/-- tallymark/whole.Make -/
abbrev n_whole_Make : FuncId := 106
def c_whole_Make : C := (.seq (.reg false [⟨some 3,.box 47 (.t 1),none,[]⟩,⟨some 4,.new 49 [.nilsl,(.bool false)],none,[]⟩]) (.seq (.reg true [⟨some 5,.load true 1 (.t 3),none,[]⟩,⟨some 6,.mv (.t 0),none,[]⟩,⟨some 7,.mv (.t 6),none,[1]⟩,⟨some
  8,.load true 1 (.t 3),some (7,true),[2]⟩,⟨some 9,.call 109 [(.t 8)],some (7,true),[3,2,2]⟩,⟨some 10,.un .not (.t 9),some (7,true),[4,2]⟩,⟨some 11,.pick (.t 7) (.t 10) (.d (.bool false)),none,[2,5]⟩,⟨some 12,.build
  [.nilsl,(.bool false)] [(0,1,(.t 5)),(1,1,(.t 11))],none,[0,6]⟩,⟨none,.store 2 (.t 4) (.t 12),none,[7,4,0,1,2,3,4,5,6,7]⟩]) .ret))
theorem r_whole_Make : fnOf Tryz.prog n_whole_Make = some (c_whole_Make, [.cell 4 true 2], 13, false) := by kernel_rfl

/-- tallymark/nat.Mul -/
abbrev n_nat_Mul : FuncId := 107
def c_nat_Mul : C := (.seq (.reg false [⟨some 2,.box 47 (.t 0),none,[]⟩,⟨some 3,.box 47 (.t 1),none,[]⟩,⟨some 4,.new 47 [.nilsl],none,[]⟩]) (.seq (.reg false [⟨some 14,.fa 0 (.t 2),none,[]⟩,⟨some 15,.load false 1 (.t 14),none,[0]⟩,⟨some
  16,.len (.t 15),none,[1]⟩,⟨some 17,.fa 0 (.t 3),none,[]⟩,⟨some 18,.load false 1 (.t 17),none,[3]⟩,⟨some 19,.len (.t 18),none,[4]⟩,⟨some 20,.bin .add (.t 16) (.t 19),none,[2,5]⟩,⟨some 21,.mksl 28 1 8 [(.int .u64 0)] (.t
  20) (.t 20),none,[6,6]⟩,⟨some 5,.mv (.t 21),none,[7,0,1,2,3,4,5,6,7]⟩]) (.seq (.seq (.reg false [⟨some 22,.fa 0 (.t 2),none,[]⟩,⟨some 23,.load false 1 (.t 22),none,[0]⟩,⟨some 24,.len (.t 23),none,[1]⟩,⟨some 25,.mv (.d
  (.int .i64 0)),none,[]⟩]) (.block 0 (.loop (.seq (.reg false [⟨some 26,.bin .lss (.t 25) (.t 24),none,[]⟩]) (.seq (.cond (.t 26) .skip (.exit 0)) (.seq (.block 1 (.seq (.reg false [⟨some 27,.mv (.t 25),none,[]⟩,⟨some
  28,.ix 1 (.t 23) (.t 25),none,[]⟩,⟨some 29,.load false 1 (.t 28),none,[1]⟩,⟨some 6,.mv (.t 27),none,[0,0,1,2]⟩,⟨some 7,.mv (.t 29),none,[2,3,0,1,2,3]⟩]) (.seq (.reg false [⟨some 8,.mv (.d (.int .u64 0)),none,[]⟩]) (.seq
  (.seq (.reg false [⟨some 30,.fa 0 (.t 3),none,[]⟩,⟨some 31,.load false 1 (.t 30),none,[0]⟩,⟨some 32,.len (.t 31),none,[1]⟩,⟨some 33,.mv (.d (.int .i64 0)),none,[]⟩]) (.block 2 (.loop (.seq (.reg false [⟨some 34,.bin
  .lss (.t 33) (.t 32),none,[]⟩]) (.seq (.cond (.t 34) .skip (.exit 2)) (.seq (.block 3 (.seq (.reg false [⟨some 35,.mv (.t 33),none,[]⟩,⟨some 36,.ix 1 (.t 31) (.t 33),none,[]⟩,⟨some 37,.load false 1 (.t
  36),none,[1]⟩,⟨some 9,.mv (.t 35),none,[0,0,1,2]⟩,⟨some 10,.mv (.t 37),none,[2,3,0,1,2,3]⟩]) (.seq (.reg false [⟨some 39,.mv (.t 7),none,[]⟩,⟨some 40,.mv (.t 10),none,[]⟩,⟨some 41,.call 148 [(.t 39),(.t
  40)],none,[0,1]⟩,⟨some 38,.mv (.t 41),none,[2]⟩,⟨some 42,.ext (.t 38) 0,none,[3]⟩,⟨some 43,.ext (.t 38) 1,none,[3]⟩,⟨some 11,.mv (.t 42),none,[4,2,0,1,2,3,4]⟩,⟨some 12,.mv (.t 43),none,[5,6,0,1,2,3,4,5,6]⟩]) (.seq (.reg
  false [⟨some 13,.mv (.d (.int .u64 0)),none,[]⟩]) (.seq (.reg false [⟨some 45,.mv (.t 12),none,[]⟩,⟨some 46,.mv (.t 5),none,[]⟩,⟨some 47,.mv (.t 6),none,[]⟩,⟨some 48,.mv (.t 9),none,[]⟩,⟨some 49,.bin .add (.t 47) (.t
  48),none,[2,3]⟩,⟨some 50,.ix 1 (.t 46) (.t 49),none,[1,4]⟩,⟨some 51,.load false 1 (.t 50),none,[5]⟩,⟨some 52,.call 149 [(.t 45),(.t 51),(.d (.int .u64 0))],none,[0,6]⟩,⟨some 44,.mv (.t 52),none,[7]⟩,⟨some 53,.ext (.t
  44) 0,none,[8]⟩,⟨some 54,.ext (.t 44) 1,none,[8]⟩,⟨some 12,.mv (.t 53),none,[9,7,0,1,2,3,4,5,6,7,8,9]⟩,⟨some 13,.mv (.t 54),none,[10,11,0,1,2,3,4,5,6,7,8,9,10,11]⟩]) (.seq (.reg false [⟨some 55,.mv (.t
  11),none,[]⟩,⟨some 56,.mv (.t 13),none,[]⟩,⟨some 57,.bin .add (.t 55) (.t 56),none,[0,1]⟩,⟨some 11,.mv (.t 57),none,[2,0,1,2]⟩]) (.seq (.reg false [⟨some 59,.mv (.t 12),none,[]⟩,⟨some 60,.mv (.t 8),none,[]⟩,⟨some
  61,.call 149 [(.t 59),(.t 60),(.d (.int .u64 0))],none,[0,1]⟩,⟨some 58,.mv (.t 61),none,[2]⟩,⟨some 62,.ext (.t 58) 0,none,[3]⟩,⟨some 63,.ext (.t 58) 1,none,[3]⟩,⟨some 12,.mv (.t 62),none,[4,2,0,1,2,3,4]⟩,⟨some 13,.mv
  (.t 63),none,[5,6,0,1,2,3,4,5,6]⟩]) (.reg false [⟨some 64,.mv (.t 5),none,[]⟩,⟨some 65,.mv (.t 6),none,[]⟩,⟨some 66,.mv (.t 9),none,[]⟩,⟨some 67,.bin .add (.t 65) (.t 66),none,[1,2]⟩,⟨some 68,.mv (.t 12),none,[]⟩,⟨some
  69,.mv (.t 11),none,[]⟩,⟨some 70,.mv (.t 13),none,[]⟩,⟨some 71,.bin .add (.t 69) (.t 70),none,[5,6]⟩,⟨some 72,.ix 1 (.t 64) (.t 67),none,[0,3,0,1,2,3,4]⟩,⟨none,.store 1 (.t 72) (.t 68),none,[8,4,0,1,2,3,4]⟩,⟨some 8,.mv
  (.t 71),none,[7,9,0,1,2,3,4,5,6,7,8,9]⟩])))))))) (.reg false [⟨some 73,.bin .add (.t 33) (.d (.int .i64 1)),none,[]⟩,⟨some 33,.mv (.t 73),none,[0]⟩]))))))) (.reg false [⟨some 74,.mv (.t 5),none,[]⟩,⟨some 75,.mv (.t
  6),none,[]⟩,⟨some 76,.fa 0 (.t 3),none,[]⟩,⟨some 77,.load false 1 (.t 76),none,[2]⟩,⟨some 78,.len (.t 77),none,[3]⟩,⟨some 79,.bin .add (.t 75) (.t 78),none,[1,4]⟩,⟨some 80,.mv (.t 8),none,[]⟩,⟨some 81,.ix 1 (.t 74) (.t
  79),none,[0,5,0,1,2,3,4,5,6]⟩,⟨none,.store 1 (.t 81) (.t 80),none,[7,6,0,1,2,3,4,5,6]⟩]))))) (.reg false [⟨some 82,.bin .add (.t 25) (.d (.int .i64 1)),none,[]⟩,⟨some 25,.mv (.t 82),none,[0]⟩]))))))) (.seq (.reg false
  [⟨some 83,.mv (.t 5),none,[]⟩,⟨some 84,.call 112 [(.t 83)],none,[0]⟩,⟨none,.store 1 (.t 4) (.t 84),none,[1,1,0,1]⟩]) .ret))))
theorem r_nat_Mul : fnOf Tryz.prog n_nat_Mul = some (c_nat_Mul, [.cell 4 true 1], 85, false) := by kernel_rfl

/-- tallymark/nat.Of -/
abbrev n_nat_Of : FuncId := 108
def c_nat_Of : C := (.seq (.reg false [⟨some 2,.new 47 [.nilsl],none,[]⟩]) (.seq (.reg false [⟨some 3,.mv (.t 0),none,[]⟩,⟨some 4,.call 150 [(.t 3)],none,[0]⟩,⟨some 5,.call 112 [(.t 4)],none,[1,1]⟩,⟨none,.store 1 (.t 2) (.t
  5),none,[2,2,0,1,2]⟩]) .ret))
theorem r_nat_Of : fnOf Tryz.prog n_nat_Of = some (c_nat_Of, [.cell 2 true 1], 6, false) := by kernel_rfl

/-- (tallymark/nat.Nat).Zero -/
abbrev n_nat_Nat_Zero : FuncId := 109
def c_nat_Nat_Zero : C := (.seq (.reg false [⟨some 1,.box 47 (.t 0),none,[]⟩,⟨some 2,.mv (.d (.bool false)),none,[]⟩]) (.seq (.reg false [⟨some 3,.fa 0 (.t 1),none,[]⟩,⟨some 4,.load false 1 (.t 3),none,[0]⟩,⟨some 5,.len (.t 4),none,[1]⟩,⟨some
  6,.bin .eql (.t 5) (.d (.int .i64 0)),none,[2]⟩,⟨some 2,.mv (.t 6),none,[3,0,1,2,3]⟩]) .ret))
theorem r_nat_Nat_Zero : fnOf Tryz.prog n_nat_Nat_Zero = some (c_nat_Nat_Zero, [.t 2], 7, false) := by kernel_rfl

/-- tallymark/nat.Add -/
abbrev n_nat_Add : FuncId := 110
def c_nat_Add : C := (.seq (.reg false [⟨some 2,.box 47 (.t 0),none,[]⟩,⟨some 3,.box 47 (.t 1),none,[]⟩,⟨some 4,.new 47 [.nilsl],none,[]⟩]) (.seq (.seq (.reg false [⟨some 10,.fa 0 (.t 2),none,[]⟩,⟨some 11,.load false 1 (.t
  10),none,[0]⟩,⟨some 12,.len (.t 11),none,[1]⟩,⟨some 13,.fa 0 (.t 3),none,[]⟩,⟨some 14,.load false 1 (.t 13),none,[3]⟩,⟨some 15,.len (.t 14),none,[4]⟩,⟨some 16,.bin .lss (.t 12) (.t 15),none,[2,5]⟩]) (.cond (.t 16) (.reg
  false [⟨some 17,.load true 1 (.t 3),none,[]⟩,⟨some 18,.load true 1 (.t 2),none,[]⟩,⟨none,.store 1 (.t 2) (.t 17),none,[0,0,1]⟩,⟨none,.store 1 (.t 3) (.t 18),none,[1,2,0,1,2]⟩]) .skip)) (.seq (.reg false [⟨some 19,.fa 0
  (.t 2),none,[]⟩,⟨some 20,.load false 1 (.t 19),none,[0]⟩,⟨some 21,.len (.t 20),none,[1]⟩,⟨some 22,.bin .add (.t 21) (.d (.int .i64 1)),none,[2]⟩,⟨some 23,.mksl 28 1 8 [(.int .u64 0)] (.t 22) (.t 22),none,[3,3]⟩,⟨some
  5,.mv (.t 23),none,[4,0,1,2,3,4]⟩]) (.seq (.reg false [⟨some 6,.mv (.d (.int .u64 0)),none,[]⟩]) (.seq (.seq (.reg false [⟨some 24,.fa 0 (.t 2),none,[]⟩,⟨some 25,.load false 1 (.t 24),none,[0]⟩,⟨some 26,.len (.t
  25),none,[1]⟩,⟨some 27,.mv (.d (.int .i64 0)),none,[]⟩]) (.block 0 (.loop (.seq (.reg false [⟨some 28,.bin .lss (.t 27) (.t 26),none,[]⟩]) (.seq (.cond (.t 28) .skip (.exit 0)) (.seq (.block 1 (.seq (.reg false [⟨some
  29,.mv (.t 27),none,[]⟩,⟨some 30,.ix 1 (.t 25) (.t 27),none,[]⟩,⟨some 31,.load false 1 (.t 30),none,[1]⟩,⟨some 7,.mv (.t 29),none,[0,0,1,2]⟩,⟨some 8,.mv (.t 31),none,[2,3,0,1,2,3]⟩]) (.seq (.reg false [⟨some 9,.mv (.d
  (.int .u64 0)),none,[]⟩]) (.seq (.seq (.reg false [⟨some 32,.mv (.t 7),none,[]⟩,⟨some 33,.fa 0 (.t 3),none,[]⟩,⟨some 34,.load false 1 (.t 33),none,[1]⟩,⟨some 35,.len (.t 34),none,[2]⟩,⟨some 36,.bin .lss (.t 32) (.t
  35),none,[0,3]⟩]) (.cond (.t 36) (.reg false [⟨some 37,.fa 0 (.t 3),none,[]⟩,⟨some 38,.load false 1 (.t 37),none,[0]⟩,⟨some 39,.mv (.t 7),none,[]⟩,⟨some 40,.ix 1 (.t 38) (.t 39),none,[1,2]⟩,⟨some 41,.load false 1 (.t
  40),none,[3]⟩,⟨some 9,.mv (.t 41),none,[4,0,1,2,3,4]⟩]) .skip)) (.reg false [⟨some 43,.mv (.t 5),none,[]⟩,⟨some 44,.mv (.t 7),none,[]⟩,⟨some 45,.mv (.t 8),none,[]⟩,⟨some 46,.mv (.t 9),none,[]⟩,⟨some 47,.mv (.t
  6),none,[]⟩,⟨some 48,.call 149 [(.t 45),(.t 46),(.t 47)],none,[2,3,4]⟩,⟨some 42,.mv (.t 48),none,[5]⟩,⟨some 49,.ext (.t 42) 0,none,[6]⟩,⟨some 50,.ext (.t 42) 1,none,[6]⟩,⟨some 51,.ix 1 (.t 43) (.t
  44),none,[0,1,0,1,2,3,4,5,6,7]⟩,⟨none,.store 1 (.t 51) (.t 49),none,[9,7,5,0,1,2,3,4,5,6,7]⟩,⟨some 6,.mv (.t 50),none,[8,10,0,1,2,3,4,5,6,7,8,9,10]⟩]))))) (.reg false [⟨some 52,.bin .add (.t 27) (.d (.int .i64
  1)),none,[]⟩,⟨some 27,.mv (.t 52),none,[0]⟩]))))))) (.seq (.reg false [⟨some 53,.mv (.t 5),none,[]⟩,⟨some 54,.fa 0 (.t 2),none,[]⟩,⟨some 55,.load false 1 (.t 54),none,[1]⟩,⟨some 56,.len (.t 55),none,[2]⟩,⟨some 57,.mv
  (.t 6),none,[]⟩,⟨some 58,.ix 1 (.t 53) (.t 56),none,[0,3,0,1,2,3,4]⟩,⟨none,.store 1 (.t 58) (.t 57),none,[5,4,0,1,2,3,4]⟩]) (.seq (.reg false [⟨some 59,.mv (.t 5),none,[]⟩,⟨some 60,.call 112 [(.t
  59)],none,[0]⟩,⟨none,.store 1 (.t 4) (.t 60),none,[1,1,0,1]⟩]) .ret)))))))
theorem r_nat_Add : fnOf Tryz.prog n_nat_Add = some (c_nat_Add, [.cell 4 true 1], 61, false) := by kernel_rfl

/-- tallymark/nat.split -/
abbrev n_nat_split : FuncId := 111
def c_nat_split : C := (.seq (.reg false [⟨some 4,.mv (.d .nilsl),none,[]⟩,⟨some 5,.mv (.d (.int .u64 0)),none,[0]⟩]) (.seq (.reg false [⟨some 9,.mv (.t 0),none,[]⟩,⟨some 10,.len (.t 9),none,[0]⟩,⟨some 11,.mksl 28 1 8 [(.int .u64 0)] (.t 10)
  (.t 10),none,[1,1]⟩,⟨some 6,.mv (.t 11),none,[2,0,1,2]⟩]) (.seq (.reg false [⟨some 7,.mv (.d (.int .u64 0)),none,[]⟩]) (.seq (.seq (.reg false [⟨some 12,.mv (.t 0),none,[]⟩,⟨some 13,.len (.t 12),none,[0]⟩,⟨some 14,.bin
  .sub (.t 13) (.d (.int .i64 1)),none,[1]⟩,⟨some 8,.mv (.t 14),none,[2,0,1,2]⟩]) (.block 0 (.loop (.seq (.seq (.reg false [⟨some 15,.mv (.t 8),none,[]⟩,⟨some 16,.bin .geq (.t 15) (.d (.int .i64 0)),none,[0]⟩]) (.cond (.t
  16) .skip (.exit 0))) (.seq (.block 1 (.reg false [⟨some 20,.mv (.t 6),none,[]⟩,⟨some 21,.mv (.t 8),none,[]⟩,⟨some 22,.mv (.t 7),none,[]⟩,⟨some 23,.mv (.t 0),none,[]⟩,⟨some 24,.mv (.t 8),none,[]⟩,⟨some 25,.ix 1 (.t 23)
  (.t 24),none,[3,4]⟩,⟨some 26,.load false 1 (.t 25),none,[5]⟩,⟨some 27,.mv (.t 1),none,[]⟩,⟨some 28,.call 151 [(.t 22),(.t 26),(.t 27)],none,[2,6,7]⟩,⟨some 19,.mv (.t 28),none,[8]⟩,⟨some 29,.ext (.t 19) 0,none,[9]⟩,⟨some
  30,.ext (.t 19) 1,none,[9]⟩,⟨some 31,.ix 1 (.t 20) (.t 21),none,[0,1,0,1,2,3,4,5,6,7,8,9,10]⟩,⟨none,.store 1 (.t 31) (.t 29),none,[12,10,8,0,1,2,3,4,5,6,7,8,9,10]⟩,⟨some 7,.mv (.t
  30),none,[11,13,0,1,2,3,4,5,6,7,8,9,10,11,12,13]⟩])) (.reg false [⟨some 17,.mv (.t 8),none,[]⟩,⟨some 18,.bin .sub (.t 17) (.d (.int .i64 1)),none,[0]⟩,⟨some 8,.mv (.t 18),none,[1,0,1]⟩])))))) (.seq (.reg false [⟨some
  32,.mv (.t 6),none,[]⟩,⟨some 33,.mv (.t 7),none,[]⟩,⟨some 4,.mv (.t 32),none,[0,0]⟩,⟨some 5,.mv (.t 33),none,[1,2,0,1,2]⟩]) .ret)))))
theorem r_nat_split : fnOf Tryz.prog n_nat_split = some (c_nat_split, [.t 4, .t 5], 34, false) := by kernel_rfl

/-- tallymark/nat.trimmed -/
abbrev n_nat_trimmed : FuncId := 112
def c_nat_trimmed : C := (.seq (.reg false [⟨some 2,.new 47 [.nilsl],none,[]⟩]) (.seq (.reg false [⟨some 4,.mv (.t 0),none,[]⟩,⟨some 5,.len (.t 4),none,[0]⟩,⟨some 3,.mv (.t 5),none,[1,0,1]⟩]) (.seq (.block 0 (.loop (.seq (.seq (.reg false
  [⟨some 6,.mv (.t 3),none,[]⟩,⟨some 7,.bin .gtr (.t 6) (.d (.int .i64 0)),none,[0]⟩,⟨some 8,.mv (.t 7),none,[1]⟩,⟨some 9,.mv (.t 0),some (8,true),[2]⟩,⟨some 10,.mv (.t 3),some (8,true),[2]⟩,⟨some 11,.bin .sub (.t 10) (.d
  (.int .i64 1)),some (8,true),[4,2]⟩,⟨some 12,.ix 1 (.t 9) (.t 11),some (8,true),[3,5,2]⟩,⟨some 13,.load false 1 (.t 12),some (8,true),[6,2]⟩,⟨some 14,.bin .eql (.t 13) (.d (.int .u64 0)),some (8,true),[7,2]⟩,⟨some
  15,.pick (.t 8) (.t 14) (.d (.bool false)),none,[2,8]⟩]) (.cond (.t 15) .skip (.exit 0))) (.block 1 (.reg false [⟨some 16,.mv (.t 3),none,[]⟩,⟨some 17,.bin .sub (.t 16) (.d (.int .i64 1)),none,[0]⟩,⟨some 3,.mv (.t
  17),none,[1,0,1]⟩]))))) (.seq (.reg false [⟨some 18,.mv (.t 0),none,[]⟩,⟨some 19,.mv (.t 3),none,[]⟩,⟨some 20,.slice 1 (.t 18) none (some (.t 19)) none,none,[0,1]⟩,⟨some 21,.build [.nilsl] [(0,1,(.t
  20))],none,[2]⟩,⟨none,.store 1 (.t 2) (.t 21),none,[3,0,1,2,3]⟩]) .ret))))
theorem r_nat_trimmed : fnOf Tryz.prog n_nat_trimmed = some (c_nat_trimmed, [.cell 2 true 1], 22, false) := by kernel_rfl

/-- strconv.FormatUint -/
abbrev n_strconv_FormatUint : FuncId := 113
def c_strconv_FormatUint : C := (.seq (.reg false [⟨some 4,.mv (.d (.str ⟨#[]⟩)),none,[]⟩]) (.seq (.reg false [⟨some 5,.mv (.t 0),none,[]⟩,⟨some 6,.mv (.t 1),none,[]⟩,⟨some 7,.call 152 [(.t 5),(.t 6)],none,[0,1]⟩,⟨some 4,.mv (.t 7),none,[2,2,0,1,2]⟩])
  .ret))
theorem r_strconv_FormatUint : fnOf Tryz.prog n_strconv_FormatUint = some (c_strconv_FormatUint, [.t 4], 8, false) := by kernel_rfl

/-- (tallymark/reg.Param).Well -/
abbrev n_reg_Param_Well : FuncId := 118
def c_reg_Param_Well : C := (.seq (.reg false [⟨some 2,.box 30 (.t 0),none,[]⟩,⟨some 3,.box 64 (.t 1),none,[]⟩,⟨some 4,.mv (.d (.bool false)),none,[]⟩]) (.seq (.seq (.reg false [⟨some 6,.load true 3 (.t 2),none,[]⟩,⟨some 7,.call 85 [(.t
  6)],none,[0]⟩,⟨some 8,.bin .neq (.t 7) (.d (.int .i64 0)),none,[1]⟩]) (.cond (.t 8) (.seq (.reg false [⟨some 4,.mv (.d (.bool false)),none,[]⟩]) .ret) .skip)) (.seq (.seq (.reg false [⟨some 9,.fa 0 (.t 2),none,[]⟩,⟨some
  10,.load false 1 (.t 9),none,[0]⟩,⟨some 11,.bin .eql (.t 10) (.d (.int .i64 4)),none,[1]⟩]) (.cond (.t 11) (.seq (.reg true [⟨some 12,.load true 3 (.t 2),none,[]⟩,⟨some 13,.call 67 [(.t 12)],none,[0]⟩,⟨some 14,.load
  true 3 (.t 3),none,[]⟩,⟨some 15,.call 69 [(.t 14)],none,[2,1]⟩,⟨some 16,.call 161 [(.t 13),(.t 15)],none,[1,3,3]⟩,⟨some 4,.mv (.t 16),none,[4,4,0,1,2,3,4]⟩]) .ret) .skip)) (.seq (.reg false [⟨some 17,.load true 3 (.t
  2),none,[]⟩,⟨some 18,.call 71 [(.t 17)],none,[0]⟩,⟨some 19,.call 129 [(.t 18)],none,[1,1]⟩,⟨some 5,.mv (.t 19),none,[2,2,0,1,2]⟩]) (.seq (.reg false [⟨some 20,.fa 1 (.t 3),none,[]⟩,⟨some 21,.load false 1 (.t
  20),none,[0]⟩,⟨some 22,.bin .eql (.t 21) (.d (.int .i64 0)),none,[1]⟩,⟨some 23,.mv (.t 22),none,[2]⟩,⟨some 24,.fa 0 (.t 3),some (23,true),[3]⟩,⟨some 25,.load false 1 (.t 24),some (23,true),[4,3]⟩,⟨some 26,.bin .geq (.t
  25) (.d (.int .i64 0)),some (23,true),[5,3]⟩,⟨some 27,.pick (.t 23) (.t 26) (.d (.bool false)),none,[3,6]⟩,⟨some 28,.mv (.t 27),none,[7,3]⟩,⟨some 29,.fa 0 (.t 3),some (28,true),[8]⟩,⟨some 30,.load false 1 (.t 29),some
  (28,true),[9,8]⟩,⟨some 31,.mv (.t 5),some (28,true),[8]⟩,⟨some 32,.bin .leq (.t 30) (.t 31),some (28,true),[10,11,8]⟩,⟨some 33,.pick (.t 28) (.t 32) (.d (.bool false)),none,[8,12]⟩,⟨some 34,.mv (.t
  33),none,[13,8]⟩,⟨some 35,.fa 2 (.t 3),some (34,true),[14]⟩,⟨some 36,.load false 1 (.t 35),some (34,true),[15,14]⟩,⟨some 37,.un .not (.t 36),some (34,true),[16,14]⟩,⟨some 38,.mv (.t 37),some (34,true),[17,14,14]⟩,⟨some
  39,.fa 0 (.t 3),some (38,false),[18]⟩,⟨some 40,.load false 1 (.t 39),some (38,false),[19,18]⟩,⟨some 41,.mv (.t 5),some (38,false),[18]⟩,⟨some 42,.bin .eql (.t 40) (.t 41),some (38,false),[20,21,18]⟩,⟨some 43,.pick (.t
  38) (.d (.bool true)) (.t 42),some (34,true),[18,22,14]⟩,⟨some 44,.pick (.t 34) (.t 43) (.d (.bool false)),none,[14,23]⟩,⟨some 4,.mv (.t
  44),none,[24,18,0,1,2,3,4,5,6,7,8,9,10,11,12,13,14,15,16,17,18,19,20,21,22,23,24]⟩]) .ret)))))
theorem r_reg_Param_Well : fnOf Tryz.prog n_reg_Param_Well = some (c_reg_Param_Well, [.t 4], 45, false) := by kernel_rfl

/-- (tallymark/thin.Param).wrong -/
abbrev n_thin_Param_wrong : FuncId := 119
def c_thin_Param_wrong : C := (.seq (.reg false [⟨some 2,.box 135 (.t 0),none,[]⟩,⟨some 4,.mv (.d (.int .i64 0)),none,[]⟩]) (.seq (.seq (.reg false [⟨some 8,.load true 2 (.t 2),none,[]⟩,⟨some 9,.call 132 [(.t 8)],none,[0]⟩,⟨some 5,.mv (.t
  9),none,[1,1,0,1]⟩]) (.seq (.reg false [⟨some 10,.mv (.t 5),none,[]⟩,⟨some 11,.bin .neq (.t 10) (.d (.int .i64 0)),none,[0]⟩]) (.cond (.t 11) (.seq (.reg false [⟨some 12,.mv (.t 5),none,[]⟩,⟨some 4,.mv (.t
  12),none,[0,0]⟩]) .ret) .skip))) (.seq (.seq (.reg false [⟨some 13,.mv (.t 1),none,[]⟩,⟨some 14,.len (.t 13),none,[0]⟩,⟨some 15,.mv (.d (.int .i64 0)),none,[]⟩]) (.block 0 (.loop (.seq (.reg false [⟨some 16,.bin .lss
  (.t 15) (.t 14),none,[]⟩]) (.seq (.cond (.t 16) .skip (.exit 0)) (.seq (.block 1 (.seq (.reg false [⟨some 17,.ix 3 (.t 13) (.t 15),none,[]⟩,⟨some 18,.load true 3 (.t 17),none,[0]⟩,⟨some 7,.new 139 [(.int .i64 0),(.int
  .i64 0),(.bool false)],none,[]⟩,⟨none,.store 3 (.t 7) (.t 18),none,[2,1,0,1,2]⟩]) (.seq (.reg false [⟨some 19,.load true 2 (.t 2),none,[]⟩,⟨some 20,.load true 3 (.t 7),none,[]⟩,⟨some 21,.call 161 [(.t 19),(.t
  20)],none,[0,1]⟩,⟨some 22,.un .not (.t 21),none,[2]⟩]) (.cond (.t 22) (.seq (.reg false [⟨some 4,.mv (.d (.int .i64 2)),none,[]⟩]) .ret) .skip)))) (.reg false [⟨some 23,.bin .add (.t 15) (.d (.int .i64
  1)),none,[]⟩,⟨some 15,.mv (.t 23),none,[0]⟩]))))))) (.seq (.reg false [⟨some 4,.mv (.d (.int .i64 0)),none,[]⟩]) .ret))))
theorem r_thin_Param_wrong : fnOf Tryz.prog n_thin_Param_wrong = some (c_thin_Param_wrong, [.t 4], 24, false) := by kernel_rfl

/-- tallymark/nat.Shl -/
abbrev n_nat_Shl : FuncId := 120
def c_nat_Shl : C := (.seq (.reg false [⟨some 2,.box 47 (.t 0),none,[]⟩,⟨some 4,.new 47 [.nilsl],none,[]⟩,⟨some 5,.mv (.d (.int .i64 0)),none,[]⟩]) (.seq (.seq (.reg false [⟨some 6,.mv (.t 1),none,[]⟩,⟨some 7,.bin .lss (.t 6) (.d (.int .i64
  0)),none,[0]⟩,⟨some 8,.mv (.t 7),none,[1]⟩,⟨some 9,.mv (.t 1),some (8,false),[2]⟩,⟨some 10,.bin .gtr (.t 9) (.d (.int .i64 8192)),some (8,false),[3,2]⟩,⟨some 11,.pick (.t 8) (.d (.bool true)) (.t 10),none,[2,4]⟩])
  (.cond (.t 11) (.seq (.reg false [⟨some 12,.build [.nilsl] [],none,[]⟩,⟨none,.store 1 (.t 4) (.t 12),none,[0,0]⟩,⟨some 5,.mv (.d (.int .i64 2)),none,[1,0,1]⟩]) .ret) .skip)) (.seq (.reg true [⟨some 13,.mv (.t
  1),none,[]⟩,⟨some 14,.bin .quo (.t 13) (.d (.int .i64 64)),none,[0]⟩,⟨some 15,.mksl 28 1 8 [(.int .u64 0)] (.t 14) (.t 14),none,[1,1]⟩,⟨some 16,.fa 0 (.t 2),none,[]⟩,⟨some 17,.load false 1 (.t 16),none,[3]⟩,⟨some 18,.mv
  (.t 1),none,[]⟩,⟨some 19,.bin .rem (.t 18) (.d (.int .i64 64)),none,[5]⟩,⟨some 20,.call 162 [(.t 17),(.t 19)],none,[4,6]⟩,⟨some 21,.app 28 1 8 (.t 15) (.t 20),none,[2,7,7]⟩,⟨some 22,.call 112 [(.t
  21)],none,[8,8]⟩,⟨none,.store 1 (.t 4) (.t 22),none,[9,9,0,1,2,3,4,5,6,7,8,9]⟩,⟨some 5,.mv (.d (.int .i64 0)),none,[10,0,1,2,3,4,5,6,7,8,9,10]⟩]) .ret)))
theorem r_nat_Shl : fnOf Tryz.prog n_nat_Shl = some (c_nat_Shl, [.cell 4 true 1, .t 5], 23, false) := by kernel_rfl

/-- (tallymark/chain.Param).at -/
abbrev n_chain_Param_at : FuncId := 121
def c_chain_Param_at : C := (.seq (.reg false [⟨some 2,.box 143 (.t 0),none,[]⟩,⟨some 4,.mv (.d (.int .i64 0)),none,[]⟩]) (.seq (.seq (.reg false [⟨some 8,.load true 3 (.t 2),none,[]⟩,⟨some 9,.call 133 [(.t 8)],none,[0]⟩,⟨some 5,.mv (.t
  9),none,[1,1,0,1]⟩]) (.seq (.reg false [⟨some 10,.mv (.t 5),none,[]⟩,⟨some 11,.bin .neq (.t 10) (.d (.int .i64 0)),none,[0]⟩]) (.cond (.t 11) (.seq (.reg false [⟨some 12,.mv (.t 5),none,[]⟩,⟨some 4,.mv (.t
  12),none,[0,0]⟩]) .ret) .skip))) (.seq (.seq (.reg false [⟨some 13,.mv (.t 1),none,[]⟩,⟨some 14,.len (.t 13),none,[0]⟩,⟨some 15,.mv (.d (.int .i64 0)),none,[]⟩]) (.block 0 (.loop (.seq (.reg false [⟨some 16,.bin .lss
  (.t 15) (.t 14),none,[]⟩]) (.seq (.cond (.t 16) .skip (.exit 0)) (.seq (.block 1 (.seq (.reg false [⟨some 17,.ix 1 (.t 13) (.t 15),none,[]⟩,⟨some 18,.load false 1 (.t 17),none,[0]⟩,⟨some 7,.mv (.t 18),none,[1,0,1]⟩])
  (.seq (.reg false [⟨some 19,.mv (.t 7),none,[]⟩,⟨some 20,.bin .lss (.t 19) (.d (.int .i64 0)),none,[0]⟩,⟨some 21,.mv (.t 20),none,[1]⟩,⟨some 22,.mv (.t 7),some (21,false),[2]⟩,⟨some 23,.load true 3 (.t 2),some
  (21,false),[2]⟩,⟨some 24,.call 129 [(.t 23)],some (21,false),[4,2,2]⟩,⟨some 25,.bin .gtr (.t 22) (.t 24),some (21,false),[3,5,2]⟩,⟨some 26,.pick (.t 21) (.d (.bool true)) (.t 25),none,[2,6]⟩]) (.cond (.t 26) (.seq (.reg
  false [⟨some 4,.mv (.d (.int .i64 2)),none,[]⟩]) .ret) .skip)))) (.reg false [⟨some 27,.bin .add (.t 15) (.d (.int .i64 1)),none,[]⟩,⟨some 15,.mv (.t 27),none,[0]⟩]))))))) (.seq (.reg false [⟨some 4,.mv (.d (.int .i64
  0)),none,[]⟩]) .ret))))
theorem r_chain_Param_at : fnOf Tryz.prog n_chain_Param_at = some (c_chain_Param_at, [.t 4], 28, false) := by kernel_rfl

/-- (tallymark/chain.Param).kind -/
abbrev n_chain_Param_kind : FuncId := 122
def c_chain_Param_kind : C := (.seq (.reg false [⟨some 1,.box 143 (.t 0),none,[]⟩,⟨some 2,.mv (.d .nilifc),none,[]⟩]) (.seq (.seq (.reg false [⟨some 3,.fa 0 (.t 1),none,[]⟩,⟨some 4,.load false 1 (.t 3),none,[0]⟩]) (.block 0 (.seq (.reg false [⟨some
  6,.bin .eql (.t 4) (.d (.int .i64 1)),none,[]⟩,⟨some 5,.mv (.t 6),none,[0]⟩]) (.cond (.t 5) (.seq (.reg false [⟨some 7,.fa 1 (.t 1),none,[]⟩,⟨some 8,.load false 1 (.t 7),none,[0]⟩,⟨some 9,.ifc 245 (.t 8),none,[1]⟩,⟨some
  2,.mv (.t 9),none,[2,0,1,2]⟩]) .ret) (.seq (.reg false [⟨some 11,.bin .eql (.t 4) (.d (.int .i64 2)),none,[]⟩,⟨some 10,.mv (.t 11),none,[0]⟩]) (.cond (.t 10) (.seq (.reg false [⟨some 12,.fa 1 (.t 1),none,[]⟩,⟨some
  13,.load false 1 (.t 12),none,[0]⟩,⟨some 14,.ifc 246 (.t 13),none,[1]⟩,⟨some 2,.mv (.t 14),none,[2,0,1,2]⟩]) .ret) (.seq (.reg false [⟨some 16,.bin .eql (.t 4) (.d (.int .i64 3)),none,[]⟩,⟨some 15,.mv (.t
  16),none,[0]⟩]) (.cond (.t 15) (.seq (.reg false [⟨some 17,.fa 1 (.t 1),none,[]⟩,⟨some 18,.load false 1 (.t 17),none,[0]⟩,⟨some 19,.ifc 247 (.t 18),none,[1]⟩,⟨some 2,.mv (.t 19),none,[2,0,1,2]⟩]) .ret) .skip))))))))
  (.seq (.reg false [⟨some 2,.mv (.d .nilifc),none,[]⟩]) .ret)))
theorem r_chain_Param_kind : fnOf Tryz.prog n_chain_Param_kind = some (c_chain_Param_kind, [.t 2], 20, false) := by kernel_rfl

/-- (*tallymark/pack.Vector).Clone -/
abbrev n_pack_Vector_Clone : FuncId := 123
def c_pack_Vector_Clone : C := (.seq (.reg false [⟨some 2,.mv (.d .nilp),none,[]⟩]) (.seq (.reg true [⟨some 3,.mv (.t 0),none,[]⟩,⟨some 4,.chk (.t 3),none,[0]⟩,⟨some 5,.fa 0 (.t 4),none,[1]⟩,⟨some 6,.load false 1 (.t 5),none,[2]⟩,⟨some 7,.call 150
  [(.t 6)],none,[3]⟩,⟨some 8,.mv (.t 0),none,[]⟩,⟨some 9,.chk (.t 8),none,[5]⟩,⟨some 10,.fa 1 (.t 9),none,[6]⟩,⟨some 11,.load false 1 (.t 10),none,[7]⟩,⟨some 12,.mv (.t 0),none,[]⟩,⟨some 13,.chk (.t 12),none,[9]⟩,⟨some
  14,.fa 2 (.t 13),none,[10]⟩,⟨some 15,.load false 1 (.t 14),none,[11]⟩,⟨some 16,.build [.nilsl,(.int .i64 0),(.int .i64 0)] [(0,1,(.t 7)),(1,1,(.t 11)),(2,1,(.t 15))],none,[4,8,12]⟩,⟨some 17,.box 218 (.t
  16),none,[13]⟩,⟨some 2,.mv (.t 17),none,[14,4,0,1,2,3,4,5,6,7,8,9,10,11,12,13,14]⟩]) .ret))
theorem r_pack_Vector_Clone : fnOf Tryz.prog n_pack_Vector_Clone = some (c_pack_Vector_Clone, [.t 2], 18, false) := by kernel_rfl

/-- (tallymark/thin.Param).one -/
abbrev n_thin_Param_one : FuncId := 126
def c_thin_Param_one : C := (.seq (.reg false [⟨some 3,.box 135 (.t 0),none,[]⟩,⟨some 5,.box 139 (.t 2),none,[]⟩,⟨some 6,.new 139 [(.int .i64 0),(.int .i64 0),(.bool false)],none,[]⟩,⟨some 7,.mv (.d (.int .i64 0)),none,[]⟩]) (.seq (.reg false
  [⟨some 11,.mv (.t 1),none,[]⟩,⟨some 12,.fa 1 (.t 5),none,[]⟩,⟨some 13,.load false 1 (.t 12),none,[1]⟩,⟨some 14,.call 164 [(.t 11),(.t 13)],none,[0,2]⟩,⟨some 10,.mv (.t 14),none,[3]⟩,⟨some 15,.ext (.t 10)
  0,none,[4]⟩,⟨some 16,.ext (.t 10) 1,none,[4]⟩,⟨some 8,.mv (.t 15),none,[5,3,0,1,2,3,4,5]⟩,⟨some 9,.mv (.t 16),none,[6,7,0,1,2,3,4,5,6,7]⟩]) (.seq (.seq (.reg false [⟨some 17,.mv (.t 8),none,[]⟩,⟨some 18,.un .not (.t
  17),none,[0]⟩]) (.cond (.t 18) (.seq (.reg false [⟨some 19,.load true 3 (.t 5),none,[]⟩,⟨some 20,.mv (.t 9),none,[]⟩,⟨none,.store 3 (.t 6) (.t 19),none,[0,0]⟩,⟨some 7,.mv (.t 20),none,[1,2,0,1,2]⟩]) .ret) .skip)) (.seq
  (.reg false [⟨some 21,.fa 0 (.t 5),none,[]⟩,⟨some 22,.load false 1 (.t 21),none,[0]⟩,⟨some 23,.bin .add (.t 22) (.d (.int .i64 1)),none,[1]⟩,⟨some 24,.fa 0 (.t 5),none,[0,1,2]⟩,⟨none,.store 1 (.t 24) (.t
  23),none,[3,2,0,1,2]⟩]) (.seq (.reg false [⟨some 25,.load true 2 (.t 3),none,[]⟩,⟨some 26,.mv (.t 1),none,[]⟩,⟨some 27,.load true 3 (.t 5),none,[]⟩,⟨some 28,.call 140 [(.t 25),(.t 26),(.t 27)],none,[0,1,2]⟩,⟨some
  29,.ext (.t 28) 0,none,[3]⟩,⟨some 30,.ext (.t 28) 1,none,[3]⟩,⟨none,.store 3 (.t 6) (.t 29),none,[4,3,0,1,2,3,4,5]⟩,⟨some 7,.mv (.t 30),none,[5,6,0,1,2,3,4,5,6]⟩]) .ret)))))
theorem r_thin_Param_one : fnOf Tryz.prog n_thin_Param_one = some (c_thin_Param_one, [.cell 6 true 3, .t 7], 31, false) := by kernel_rfl

/-- (tallymark/chain.Param).on -/
abbrev n_chain_Param_on : FuncId := 127
def c_chain_Param_on : C := (.seq (.reg false [⟨some 3,.box 143 (.t 0),none,[]⟩,⟨some 4,.box 155 (.t 1),none,[]⟩,⟨some 6,.new 155 [(.int .i64 0),(.bool false)],none,[]⟩,⟨some 7,.mv (.d (.int .i64 0)),none,[]⟩]) (.seq (.seq (.reg true [⟨some 10,.fa
  0 (.t 4),none,[]⟩,⟨some 11,.load false 1 (.t 10),none,[0]⟩,⟨some 12,.load true 3 (.t 3),none,[]⟩,⟨some 13,.call 129 [(.t 12)],none,[2]⟩,⟨some 14,.bin .eql (.t 11) (.t 13),none,[1,3]⟩]) (.cond (.t 14) (.seq (.reg false
  [⟨some 15,.fa 1 (.t 4),none,[]⟩,⟨none,.store 1 (.t 15) (.d (.bool true)),none,[0]⟩]) (.seq (.reg false [⟨some 16,.load true 2 (.t 4),none,[]⟩,⟨none,.store 2 (.t 6) (.t 16),none,[0,0]⟩,⟨some 7,.mv (.d (.int .i64
  0)),none,[1,0,1]⟩]) .ret)) .skip)) (.seq (.reg false [⟨some 18,.mv (.t 2),none,[]⟩,⟨some 19,.fa 0 (.t 4),none,[]⟩,⟨some 20,.load false 1 (.t 19),none,[1]⟩,⟨some 21,.callv (.t 18) [(.t 20)],none,[0,2]⟩,⟨some 17,.mv (.t
  21),none,[3]⟩,⟨some 22,.ext (.t 17) 0,none,[4]⟩,⟨some 23,.ext (.t 17) 1,none,[4]⟩,⟨some 8,.mv (.t 22),none,[5,3,0,1,2,3,4,5]⟩,⟨some 9,.mv (.t 23),none,[6,7,0,1,2,3,4,5,6,7]⟩]) (.seq (.seq (.reg false [⟨some 24,.mv (.t
  8),none,[]⟩]) (.cond (.t 24) (.reg false [⟨some 25,.fa 0 (.t 4),none,[]⟩,⟨some 26,.load false 1 (.t 25),none,[0]⟩,⟨some 27,.bin .add (.t 26) (.d (.int .i64 1)),none,[1]⟩,⟨some 28,.fa 0 (.t 4),none,[0,1,2]⟩,⟨none,.store
  1 (.t 28) (.t 27),none,[3,2,0,1,2]⟩]) .skip)) (.seq (.reg false [⟨some 29,.load true 2 (.t 4),none,[]⟩,⟨some 30,.mv (.t 9),none,[]⟩,⟨none,.store 2 (.t 6) (.t 29),none,[0,0]⟩,⟨some 7,.mv (.t 30),none,[1,2,0,1,2]⟩])
  .ret)))))
theorem r_chain_Param_on : fnOf Tryz.prog n_chain_Param_on = some (c_chain_Param_on, [.cell 6 true 2, .t 7], 31, false) := by kernel_rfl

/-- (tallymark/chain.Param).Add$1 -/
abbrev n_chain_Param_Add_1 : FuncId := 128
def c_chain_Param_Add_1 : C := (.seq (.reg false [⟨some 4,.mv (.d (.bool false)),none,[]⟩,⟨some 5,.mv (.d (.int .i64 0)),none,[0]⟩]) (.seq (.reg false [⟨some 6,.load false 1 (.t 1),none,[]⟩,⟨some 7,.load false 1 (.t 2),none,[]⟩,⟨some 8,.mv (.t
  0),none,[]⟩,⟨some 9,.inv (.t 6) "tallymark/chain.step" [(.t 7),(.t 8)],none,[0,1,2]⟩,⟨some 10,.ext (.t 9) 0,none,[3]⟩,⟨some 11,.ext (.t 9) 1,none,[3]⟩,⟨some 4,.mv (.t 10),none,[4,3,0,1,2,3,4,5]⟩,⟨some 5,.mv (.t
  11),none,[5,6,0,1,2,3,4,5,6]⟩]) .ret))
theorem r_chain_Param_Add_1 : fnOf Tryz.prog n_chain_Param_Add_1 = some (c_chain_Param_Add_1, [.t 4, .t 5], 12, false) := by kernel_rfl

/-- (tallymark/chain.Param).Top -/
abbrev n_chain_Param_Top : FuncId := 129
def c_chain_Param_Top : C := (.seq (.reg false [⟨some 1,.box 143 (.t 0),none,[]⟩,⟨some 2,.mv (.d (.int .i64 0)),none,[]⟩]) (.seq (.seq (.reg false [⟨some 3,.load true 3 (.t 1),none,[]⟩,⟨some 4,.call 133 [(.t 3)],none,[0]⟩,⟨some 5,.bin .neq (.t 4)
  (.d (.int .i64 0)),none,[1]⟩]) (.cond (.t 5) (.seq (.reg false [⟨some 2,.mv (.d (.int .i64 0)),none,[]⟩]) .ret) .skip)) (.seq (.reg false [⟨some 6,.fa 2 (.t 1),none,[]⟩,⟨some 7,.load false 1 (.t 6),none,[0]⟩,⟨some
  8,.bin .shl (.d (.int .i64 1)) (.t 7),none,[1]⟩,⟨some 9,.bin .sub (.t 8) (.d (.int .i64 1)),none,[2]⟩,⟨some 2,.mv (.t 9),none,[3,0,1,2,3]⟩]) .ret)))
theorem r_chain_Param_Top : fnOf Tryz.prog n_chain_Param_Top = some (c_chain_Param_Top, [.t 2], 10, false) := by kernel_rfl

/-- math/bits.Len64 -/
abbrev n_math_bits_Len64 : FuncId := 130
def c_math_bits_Len64 : C := (.seq (.reg false [⟨some 2,.mv (.d (.int .i64 0)),none,[]⟩]) (.seq (.seq (.reg false [⟨some 3,.mv (.t 0),none,[]⟩,⟨some 4,.bin .geq (.t 3) (.d (.int .u64 4294967296)),none,[0]⟩]) (.cond (.t 4) (.seq (.reg false [⟨some
  5,.mv (.t 0),none,[]⟩,⟨some 6,.bin .shr (.t 5) (.d (.int .u64 32)),none,[0]⟩,⟨some 0,.mv (.t 6),none,[1,0,1]⟩]) (.reg false [⟨some 2,.mv (.d (.int .i64 32)),none,[]⟩])) .skip)) (.seq (.seq (.reg false [⟨some 7,.mv (.t
  0),none,[]⟩,⟨some 8,.bin .geq (.t 7) (.d (.int .u64 65536)),none,[0]⟩]) (.cond (.t 8) (.seq (.reg false [⟨some 9,.mv (.t 0),none,[]⟩,⟨some 10,.bin .shr (.t 9) (.d (.int .u64 16)),none,[0]⟩,⟨some 0,.mv (.t
  10),none,[1,0,1]⟩]) (.reg false [⟨some 11,.mv (.t 2),none,[]⟩,⟨some 12,.bin .add (.t 11) (.d (.int .i64 16)),none,[0]⟩,⟨some 2,.mv (.t 12),none,[1,0,1]⟩])) .skip)) (.seq (.seq (.reg false [⟨some 13,.mv (.t
  0),none,[]⟩,⟨some 14,.bin .geq (.t 13) (.d (.int .u64 256)),none,[0]⟩]) (.cond (.t 14) (.seq (.reg false [⟨some 15,.mv (.t 0),none,[]⟩,⟨some 16,.bin .shr (.t 15) (.d (.int .u64 8)),none,[0]⟩,⟨some 0,.mv (.t
  16),none,[1,0,1]⟩]) (.reg false [⟨some 17,.mv (.t 2),none,[]⟩,⟨some 18,.bin .add (.t 17) (.d (.int .i64 8)),none,[0]⟩,⟨some 2,.mv (.t 18),none,[1,0,1]⟩])) .skip)) (.seq (.reg false [⟨some 19,.mv (.t 2),none,[]⟩,⟨some
  20,.mv (.t 0),none,[]⟩,⟨some 21,.conv .u8 (.t 20),none,[1]⟩,⟨some 22,.gstr (.d (.str
  ⟨#[0,1,2,2,3,3,3,3,4,4,4,4,4,4,4,4,5,5,5,5,5,5,5,5,5,5,5,5,5,5,5,5,6,6,6,6,6,6,6,6,6,6,6,6,6,6,6,6,6,6,6,6,6,6,6,6,6,6,6,6,6,6,6,6,7,7,7,7,7,7,7,7,7,7,7,7,7,7,7,7,7,7,7,7,7,7,7,7,7,7,7,7,7,7,7,7,7,7,7,7,7,7,7,7,7,7,7,7,7,7,7,7,7,7,7,7,7,7,7,7,7,7,7,7,7,7,7,7,8,8,8,8,8,8,8,8,8,8,8,8,8,8,8,8,8,8,8,8,8,8,8,8,8,8,8,8,8,8,8,8,8,8,8,8,8,8,8,8,8,8,8,8,8,8,8,8,8,8,8,8,8,8,8,8,8,8,8,8,8,8,8,8,8,8,8,8,8,8,8,8,8,8,8,8,8,8,8,8,8,8,8,8,8,8,8,8,8,8,8,8,8,8,8,8,8,8,8,8,8,8,8,8,8,8,8,8,8,8,8,8,8,8,8,8,8,8,8,8,8,8,8,8,8,8,8,8]⟩)) (.t 21),none,[2]⟩,⟨some 23,.conv .i64 (.t 22),none,[3]⟩,⟨some 24,.bin .add (.t 19) (.t 23),none,[0,4]⟩,⟨some 2,.mv (.t 24),none,[5,0,1,2,3,4,5]⟩]) .ret)))))
theorem r_math_bits_Len64 : fnOf Tryz.prog n_math_bits_Len64 = some (c_math_bits_Len64, [.t 2], 25, false) := by kernel_rfl

/-- (*tallymark/tape.Tape).Flip -/
abbrev n_tape_Tape_Flip : FuncId := 131
def c_tape_Tape_Flip : C := (.seq (.reg false [⟨some 2,.mv (.d (.bool false)),none,[]⟩,⟨some 3,.mv (.d (.int .i64 0)),none,[0]⟩]) (.seq (.seq (.reg true [⟨some 4,.mv (.t 0),none,[]⟩,⟨some 5,.chk (.t 4),none,[0]⟩,⟨some 6,.fa 0 (.t
  5),none,[1]⟩,⟨some 7,.fa 1 (.t 6),none,[2]⟩,⟨some 8,.load false 1 (.t 7),none,[3]⟩,⟨some 9,.mv (.t 8),none,[4]⟩,⟨some 10,.mv (.t 0),some (9,false),[5]⟩,⟨some 11,.chk (.t 10),some (9,false),[6,5]⟩,⟨some 12,.fa 0 (.t
  11),some (9,false),[7,5]⟩,⟨some 13,.fa 0 (.t 12),some (9,false),[8,5]⟩,⟨some 14,.load false 1 (.t 13),some (9,false),[9,5]⟩,⟨some 15,.mv (.t 0),some (9,false),[5]⟩,⟨some 16,.chk (.t 15),some (9,false),[11,5]⟩,⟨some
  17,.fa 2 (.t 16),some (9,false),[12,5]⟩,⟨some 18,.load false 1 (.t 17),some (9,false),[13,5]⟩,⟨some 19,.len (.t 18),some (9,false),[14,5]⟩,⟨some 20,.bin .eql (.t 14) (.t 19),some (9,false),[10,15,5]⟩,⟨some 21,.pick (.t
  9) (.d (.bool true)) (.t 20),none,[5,16]⟩]) (.cond (.t 21) (.seq (.reg false [⟨some 22,.mv (.t 0),none,[]⟩,⟨some 23,.chk (.t 22),none,[0,0]⟩,⟨some 24,.fa 0 (.t 23),none,[1,0]⟩,⟨some 25,.fa 1 (.t
  24),none,[2,0]⟩,⟨none,.store 1 (.t 25) (.d (.bool true)),none,[3,0]⟩]) (.seq (.reg false [⟨some 2,.mv (.d (.bool false)),none,[]⟩,⟨some 3,.mv (.d (.int .i64 8)),none,[0,0]⟩]) .ret)) .skip)) (.seq (.reg false [⟨some
  26,.mv (.t 0),none,[]⟩,⟨some 27,.chk (.t 26),none,[0]⟩,⟨some 28,.fa 0 (.t 27),none,[1]⟩,⟨some 29,.fa 0 (.t 28),none,[2]⟩,⟨some 30,.load false 1 (.t 29),none,[3]⟩,⟨some 31,.bin .add (.t 30) (.d (.int .i64
  1)),none,[4]⟩,⟨some 32,.chk (.t 26),none,[0,0,1,2,3,4,5]⟩,⟨some 33,.fa 0 (.t 32),none,[6,0,1,2,3,4,5]⟩,⟨some 34,.fa 0 (.t 33),none,[7,0,1,2,3,4,5]⟩,⟨none,.store 1 (.t 34) (.t 31),none,[8,5,0,1,2,3,4,5]⟩]) (.seq (.reg
  true [⟨some 35,.mv (.t 0),none,[]⟩,⟨some 36,.chk (.t 35),none,[0]⟩,⟨some 37,.fa 2 (.t 36),none,[1]⟩,⟨some 38,.load false 1 (.t 37),none,[2]⟩,⟨some 39,.mv (.t 0),none,[]⟩,⟨some 40,.chk (.t 39),none,[4]⟩,⟨some 41,.fa 0
  (.t 40),none,[5]⟩,⟨some 42,.fa 0 (.t 41),none,[6]⟩,⟨some 43,.load false 1 (.t 42),none,[7]⟩,⟨some 44,.bin .sub (.t 43) (.d (.int .i64 1)),none,[8]⟩,⟨some 45,.ix 1 (.t 38) (.t 44),none,[3,9]⟩,⟨some 46,.load false 1 (.t
  45),none,[10]⟩,⟨some 2,.mv (.t 46),none,[11,0,1,2,3,4,5,6,7,8,9,10,11]⟩,⟨some 3,.mv (.d (.int .i64 0)),none,[12,0,1,2,3,4,5,6,7,8,9,10,11,12]⟩]) .ret))))
theorem r_tape_Tape_Flip : fnOf Tryz.prog n_tape_Tape_Flip = some (c_tape_Tape_Flip, [.t 2, .t 3], 47, false) := by kernel_rfl

/-- (tallymark/thin.Param).Check -/
abbrev n_thin_Param_Check : FuncId := 132
def c_thin_Param_Check : C := (.seq (.reg false [⟨some 1,.box 135 (.t 0),none,[]⟩,⟨some 2,.mv (.d (.int .i64 0)),none,[]⟩]) (.seq (.seq (.reg false [⟨some 3,.fa 0 (.t 1),none,[]⟩,⟨some 4,.load false 1 (.t 3),none,[0]⟩,⟨some 5,.bin .lss (.t 4) (.d
  (.int .i64 1)),none,[1]⟩,⟨some 6,.mv (.t 5),none,[2]⟩,⟨some 7,.fa 0 (.t 1),some (6,false),[3]⟩,⟨some 8,.load false 1 (.t 7),some (6,false),[4,3]⟩,⟨some 9,.bin .gtr (.t 8) (.d (.int .i64 1023)),some
  (6,false),[5,3]⟩,⟨some 10,.pick (.t 6) (.d (.bool true)) (.t 9),none,[3,6]⟩,⟨some 11,.mv (.t 10),none,[7,3]⟩,⟨some 12,.fa 1 (.t 1),some (11,false),[8]⟩,⟨some 13,.load false 1 (.t 12),some (11,false),[9,8]⟩,⟨some 14,.bin
  .lss (.t 13) (.d (.int .i64 0)),some (11,false),[10,8]⟩,⟨some 15,.pick (.t 11) (.d (.bool true)) (.t 14),none,[8,11]⟩,⟨some 16,.mv (.t 15),none,[12,8]⟩,⟨some 17,.fa 1 (.t 1),some (16,false),[13]⟩,⟨some 18,.load false 1
  (.t 17),some (16,false),[14,13]⟩,⟨some 19,.bin .gtr (.t 18) (.d (.int .i64 20)),some (16,false),[15,13]⟩,⟨some 20,.pick (.t 16) (.d (.bool true)) (.t 19),none,[13,16]⟩]) (.cond (.t 20) (.seq (.reg false [⟨some 2,.mv (.d
  (.int .i64 10)),none,[]⟩]) .ret) .skip)) (.seq (.reg false [⟨some 2,.mv (.d (.int .i64 0)),none,[]⟩]) .ret)))
theorem r_thin_Param_Check : fnOf Tryz.prog n_thin_Param_Check = some (c_thin_Param_Check, [.t 2], 21, false) := by kernel_rfl

/-- (tallymark/chain.Param).Check -/
abbrev n_chain_Param_Check : FuncId := 133
def c_chain_Param_Check : C := (.seq (.reg false [⟨some 1,.box 143 (.t 0),none,[]⟩,⟨some 2,.mv (.d (.int .i64 0)),none,[]⟩]) (.seq (.reg false [⟨some 4,.load true 3 (.t 1),none,[]⟩,⟨some 5,.call 122 [(.t 4)],none,[0]⟩,⟨some 3,.mv (.t
  5),none,[1,1,0,1]⟩]) (.seq (.seq (.reg false [⟨some 6,.mv (.t 3),none,[]⟩,⟨some 7,.inl false (.t 6),none,[0]⟩,⟨some 8,.mv (.t 7),none,[1]⟩,⟨some 9,.mv (.t 3),some (8,false),[2]⟩,⟨some 10,.inv (.t 9)
  "tallymark/chain.good" [],some (8,false),[3,2,2]⟩,⟨some 11,.un .not (.t 10),some (8,false),[4,2]⟩,⟨some 12,.pick (.t 8) (.d (.bool true)) (.t 11),none,[2,5]⟩,⟨some 13,.mv (.t 12),none,[6,4]⟩,⟨some 14,.fa 2 (.t 1),some
  (13,false),[7]⟩,⟨some 15,.load false 1 (.t 14),some (13,false),[8,7]⟩,⟨some 16,.bin .lss (.t 15) (.d (.int .i64 1)),some (13,false),[9,7]⟩,⟨some 17,.pick (.t 13) (.d (.bool true)) (.t 16),none,[7,10]⟩,⟨some 18,.mv (.t
  17),none,[11,7]⟩,⟨some 19,.fa 2 (.t 1),some (18,false),[12]⟩,⟨some 20,.load false 1 (.t 19),some (18,false),[13,12]⟩,⟨some 21,.bin .gtr (.t 20) (.d (.int .i64 10)),some (18,false),[14,12]⟩,⟨some 22,.pick (.t 18) (.d
  (.bool true)) (.t 21),none,[12,15]⟩]) (.cond (.t 22) (.seq (.reg false [⟨some 2,.mv (.d (.int .i64 10)),none,[]⟩]) .ret) .skip)) (.seq (.seq (.reg true [⟨some 23,.fa 0 (.t 1),none,[]⟩,⟨some 24,.load false 1 (.t
  23),none,[0]⟩,⟨some 25,.bin .eql (.t 24) (.d (.int .i64 1)),none,[1]⟩,⟨some 26,.mv (.t 25),none,[2]⟩,⟨some 27,.fa 1 (.t 1),some (26,true),[3]⟩,⟨some 28,.load false 1 (.t 27),some (26,true),[4,3]⟩,⟨some 29,.bin .add (.t
  28) (.d (.int .i64 1)),some (26,true),[5,3]⟩,⟨some 30,.conv .u64 (.t 29),some (26,true),[6,3]⟩,⟨some 31,.call 165 [(.t 30)],some (26,true),[7,3,3]⟩,⟨some 32,.fa 2 (.t 1),some (26,true),[3]⟩,⟨some 33,.load false 1 (.t
  32),some (26,true),[9,3]⟩,⟨some 34,.bin .shl (.d (.int .i64 1)) (.t 33),some (26,true),[10,3]⟩,⟨some 35,.bin .sub (.t 34) (.d (.int .i64 1)),some (26,true),[11,3]⟩,⟨some 36,.bin .mul (.t 31) (.t 35),some
  (26,true),[8,12,3]⟩,⟨some 37,.bin .gtr (.t 36) (.d (.int .i64 8192)),some (26,true),[13,3]⟩,⟨some 38,.pick (.t 26) (.t 37) (.d (.bool false)),none,[3,14]⟩]) (.cond (.t 38) (.seq (.reg false [⟨some 2,.mv (.d (.int .i64
  10)),none,[]⟩]) .ret) .skip)) (.seq (.reg false [⟨some 2,.mv (.d (.int .i64 0)),none,[]⟩]) .ret)))))
theorem r_chain_Param_Check : fnOf Tryz.prog n_chain_Param_Check = some (c_chain_Param_Check, [.t 2], 39, false) := by kernel_rfl

/-- tallymark/bits.good -/
abbrev n_bits_good : FuncId := 134
def c_bits_good : C := (.seq (.reg false [⟨some 2,.mv (.d (.bool false)),none,[]⟩]) (.seq (.reg false [⟨some 3,.mv (.t 0),none,[]⟩,⟨some 4,.bin .geq (.t 3) (.d (.int .i64 0)),none,[0]⟩,⟨some 5,.mv (.t 4),none,[1]⟩,⟨some 6,.mv (.t 0),some
  (5,true),[2]⟩,⟨some 7,.bin .leq (.t 6) (.d (.int .i64 64)),some (5,true),[3,2]⟩,⟨some 8,.pick (.t 5) (.t 7) (.d (.bool false)),none,[2,4]⟩,⟨some 2,.mv (.t 8),none,[5,2,0,1,2,3,4,5]⟩]) .ret))
theorem r_bits_good : fnOf Tryz.prog n_bits_good = some (c_bits_good, [.t 2], 9, false) := by kernel_rfl

/-- tallymark/bits.fits -/
abbrev n_bits_fits : FuncId := 135
def c_bits_fits : C := (.seq (.reg false [⟨some 4,.mv (.d (.bool false)),none,[]⟩]) (.seq (.reg false [⟨some 5,.mv (.t 1),none,[]⟩,⟨some 6,.bin .eql (.t 5) (.d (.int .i64 64)),none,[0]⟩,⟨some 7,.mv (.t 6),none,[1]⟩,⟨some 8,.mv (.t 0),some
  (7,false),[2]⟩,⟨some 9,.mv (.t 1),some (7,false),[2]⟩,⟨some 10,.bin .shr (.t 8) (.t 9),some (7,false),[3,4,2]⟩,⟨some 11,.bin .eql (.t 10) (.d (.int .u64 0)),some (7,false),[5,2]⟩,⟨some 12,.pick (.t 7) (.d (.bool true))
  (.t 11),none,[2,6]⟩,⟨some 4,.mv (.t 12),none,[7,2,0,1,2,3,4,5,6,7]⟩]) .ret))
theorem r_bits_fits : fnOf Tryz.prog n_bits_fits = some (c_bits_fits, [.t 4], 13, false) := by kernel_rfl

/-- (*tallymark/bits.Writer).Bit -/
abbrev n_bits_Writer_Bit : FuncId := 136
def c_bits_Writer_Bit : C := (.seq (.seq (.reg false [⟨some 4,.mv (.t 0),none,[]⟩,⟨some 5,.chk (.t 4),none,[0]⟩,⟨some 6,.fa 1 (.t 5),none,[1]⟩,⟨some 7,.load false 1 (.t 6),none,[2]⟩,⟨some 8,.bin .rem (.t 7) (.d (.int .i64 8)),none,[3]⟩,⟨some 9,.bin
  .eql (.t 8) (.d (.int .i64 0)),none,[4]⟩]) (.cond (.t 9) (.reg false [⟨some 10,.mv (.t 0),none,[]⟩,⟨some 11,.mv (.t 0),none,[]⟩,⟨some 12,.chk (.t 11),none,[1]⟩,⟨some 13,.fa 0 (.t 12),none,[2]⟩,⟨some 14,.load false 1 (.t
  13),none,[3]⟩,⟨some 15,.bsl 5 1 1 [(.int .u8 0)] [(0,1,(.d (.int .u8 0)))],none,[]⟩,⟨some 16,.app 5 1 1 (.t 14) (.t 15),none,[4,5]⟩,⟨some 17,.chk (.t 10),none,[0,0,1,2,3,4,5,6]⟩,⟨some 18,.fa 0 (.t
  17),none,[7,0,1,2,3,4,5,6]⟩,⟨none,.store 1 (.t 18) (.t 16),none,[8,6,6,0,1,2,3,4,5,6]⟩]) .skip)) (.seq (.seq (.reg false [⟨some 19,.mv (.t 1),none,[]⟩]) (.cond (.t 19) (.reg true [⟨some 20,.mv (.t 0),none,[]⟩,⟨some
  21,.chk (.t 20),none,[0]⟩,⟨some 22,.fa 0 (.t 21),none,[1]⟩,⟨some 23,.load false 1 (.t 22),none,[2]⟩,⟨some 24,.mv (.t 0),none,[]⟩,⟨some 25,.chk (.t 24),none,[4]⟩,⟨some 26,.fa 1 (.t 25),none,[5]⟩,⟨some 27,.load false 1
  (.t 26),none,[6]⟩,⟨some 28,.bin .quo (.t 27) (.d (.int .i64 8)),none,[7]⟩,⟨some 29,.ix 1 (.t 23) (.t 28),none,[3,8]⟩,⟨some 30,.load false 1 (.t 29),none,[9]⟩,⟨some 31,.mv (.t 0),none,[]⟩,⟨some 32,.chk (.t
  31),none,[11]⟩,⟨some 33,.fa 1 (.t 32),none,[12]⟩,⟨some 34,.load false 1 (.t 33),none,[13]⟩,⟨some 35,.bin .rem (.t 34) (.d (.int .i64 8)),none,[14]⟩,⟨some 36,.bin .sub (.d (.int .i64 7)) (.t 35),none,[15]⟩,⟨some 37,.bin
  .shl (.d (.int .u8 1)) (.t 36),none,[16]⟩,⟨some 38,.bin .or (.t 30) (.t 37),none,[10,17]⟩,⟨some 39,.ix 1 (.t 23) (.t 28),none,[3,8,0,1,2,3,4,5,6,7,8,9,10,11,12,13,14,15,16,17,18]⟩,⟨none,.store 1 (.t 39) (.t
  38),none,[19,18,0,1,2,3,4,5,6,7,8,9,10,11,12,13,14,15,16,17,18]⟩]) .skip)) (.reg false [⟨some 40,.mv (.t 0),none,[]⟩,⟨some 41,.chk (.t 40),none,[0]⟩,⟨some 42,.fa 1 (.t 41),none,[1]⟩,⟨some 43,.load false 1 (.t
  42),none,[2]⟩,⟨some 44,.bin .add (.t 43) (.d (.int .i64 1)),none,[3]⟩,⟨some 45,.chk (.t 40),none,[0,0,1,2,3,4]⟩,⟨some 46,.fa 1 (.t 45),none,[5,0,1,2,3,4]⟩,⟨none,.store 1 (.t 46) (.t 44),none,[6,4,0,1,2,3,4]⟩])))
theorem r_bits_Writer_Bit : fnOf Tryz.prog n_bits_Writer_Bit = some (c_bits_Writer_Bit, [], 47, false) := by kernel_rfl

/-- (*tallymark/bits.Reader).next -/
abbrev n_bits_Reader_next : FuncId := 137
def c_bits_Reader_next : C := (.seq (.reg false [⟨some 2,.mv (.d (.int .u64 0)),none,[]⟩]) (.seq (.reg true [⟨some 4,.mv (.t 0),none,[]⟩,⟨some 5,.chk (.t 4),none,[0]⟩,⟨some 6,.fa 0 (.t 5),none,[1]⟩,⟨some 7,.load false 1 (.t 6),none,[2]⟩,⟨some 8,.mv
  (.t 0),none,[]⟩,⟨some 9,.chk (.t 8),none,[4]⟩,⟨some 10,.fa 1 (.t 9),none,[5]⟩,⟨some 11,.load false 1 (.t 10),none,[6]⟩,⟨some 12,.bin .quo (.t 11) (.d (.int .i64 8)),none,[7]⟩,⟨some 13,.ix 1 (.t 7) (.t
  12),none,[3,8]⟩,⟨some 14,.load false 1 (.t 13),none,[9]⟩,⟨some 15,.mv (.t 0),none,[]⟩,⟨some 16,.chk (.t 15),none,[11]⟩,⟨some 17,.fa 1 (.t 16),none,[12]⟩,⟨some 18,.load false 1 (.t 17),none,[13]⟩,⟨some 19,.bin .rem (.t
  18) (.d (.int .i64 8)),none,[14]⟩,⟨some 20,.bin .sub (.d (.int .i64 7)) (.t 19),none,[15]⟩,⟨some 21,.bin .shr (.t 14) (.t 20),none,[10,16]⟩,⟨some 22,.bin .and (.t 21) (.d (.int .u8 1)),none,[17]⟩,⟨some 3,.mv (.t
  22),none,[18,0,1,2,3,4,5,6,7,8,9,10,11,12,13,14,15,16,17,18]⟩]) (.seq (.reg false [⟨some 23,.mv (.t 0),none,[]⟩,⟨some 24,.chk (.t 23),none,[0]⟩,⟨some 25,.fa 1 (.t 24),none,[1]⟩,⟨some 26,.load false 1 (.t
  25),none,[2]⟩,⟨some 27,.bin .add (.t 26) (.d (.int .i64 1)),none,[3]⟩,⟨some 28,.chk (.t 23),none,[0,0,1,2,3,4]⟩,⟨some 29,.fa 1 (.t 28),none,[5,0,1,2,3,4]⟩,⟨none,.store 1 (.t 29) (.t 27),none,[6,4,0,1,2,3,4]⟩]) (.seq
  (.reg false [⟨some 30,.mv (.t 3),none,[]⟩,⟨some 31,.conv .u64 (.t 30),none,[0]⟩,⟨some 2,.mv (.t 31),none,[1,0,1]⟩]) .ret))))
theorem r_bits_Reader_next : fnOf Tryz.prog n_bits_Reader_next = some (c_bits_Reader_next, [.t 2], 32, false) := by kernel_rfl

/-- tallymark/thin.thinned -/
abbrev n_thin_thinned : FuncId := 139
def c_thin_thinned : C := (.seq (.reg false [⟨some 4,.box 139 (.t 1),none,[]⟩,⟨some 6,.new 139 [(.int .i64 0),(.int .i64 0),(.bool false)],none,[]⟩,⟨some 7,.mv (.d (.int .i64 0)),none,[]⟩]) (.seq (.seq (.reg false [⟨some 10,.mv (.t
  2),none,[]⟩,⟨some 11,.mm true [(.d (.int .i64 0)),(.t 10)],none,[0]⟩,⟨some 12,.mv (.d (.int .i64 0)),none,[]⟩]) (.block 0 (.loop (.seq (.reg false [⟨some 13,.bin .lss (.t 12) (.t 11),none,[]⟩]) (.seq (.cond (.t 13)
  .skip (.exit 0)) (.seq (.block 1 (.seq (.reg false [⟨some 15,.mv (.t 0),none,[]⟩,⟨some 16,.fa 0 (.t 4),none,[]⟩,⟨some 17,.load false 1 (.t 16),none,[1]⟩,⟨some 18,.call 166 [(.t 15),(.t 17)],none,[0,2]⟩,⟨some 14,.mv (.t
  18),none,[3]⟩,⟨some 19,.ext (.t 14) 0,none,[4]⟩,⟨some 20,.ext (.t 14) 1,none,[4]⟩,⟨some 8,.mv (.t 19),none,[5,3,0,1,2,3,4,5]⟩,⟨some 9,.mv (.t 20),none,[6,7,0,1,2,3,4,5,6,7]⟩]) (.seq (.seq (.reg false [⟨some 21,.mv (.t
  9),none,[]⟩,⟨some 22,.bin .neq (.t 21) (.d (.int .i64 0)),none,[0]⟩]) (.cond (.t 22) (.seq (.reg false [⟨some 23,.load true 3 (.t 4),none,[]⟩,⟨some 24,.mv (.t 9),none,[]⟩,⟨none,.store 3 (.t 6) (.t 23),none,[0,0]⟩,⟨some
  7,.mv (.t 24),none,[1,2,0,1,2]⟩]) .ret) .skip)) (.seq (.reg false [⟨some 25,.mv (.t 8),none,[]⟩,⟨some 26,.fa 0 (.t 4),none,[0]⟩,⟨none,.store 1 (.t 26) (.t 25),none,[1,0,0]⟩]) (.reg false [⟨some 27,.fa 1 (.t
  4),none,[]⟩,⟨some 28,.load false 1 (.t 27),none,[0]⟩,⟨some 29,.bin .add (.t 28) (.d (.int .i64 1)),none,[1]⟩,⟨some 30,.fa 1 (.t 4),none,[0,1,2]⟩,⟨none,.store 1 (.t 30) (.t 29),none,[3,2,0,1,2]⟩]))))) (.reg false [⟨some
  31,.bin .add (.t 12) (.d (.int .i64 1)),none,[]⟩,⟨some 12,.mv (.t 31),none,[0]⟩]))))))) (.seq (.reg false [⟨some 32,.load true 3 (.t 4),none,[]⟩,⟨none,.store 3 (.t 6) (.t 32),none,[0,0]⟩,⟨some 7,.mv (.d (.int .i64
  0)),none,[1,0,1]⟩]) .ret)))
theorem r_thin_thinned : fnOf Tryz.prog n_thin_thinned = some (c_thin_thinned, [.cell 6 true 3, .t 7], 33, false) := by kernel_rfl

/-- (tallymark/thin.Param).down -/
abbrev n_thin_Param_down : FuncId := 140
def c_thin_Param_down : C := (.seq (.reg false [⟨some 3,.box 135 (.t 0),none,[]⟩,⟨some 5,.box 139 (.t 2),none,[]⟩,⟨some 6,.new 139 [(.int .i64 0),(.int .i64 0),(.bool false)],none,[]⟩,⟨some 7,.mv (.d (.int .i64 0)),none,[]⟩]) (.seq (.block 0 (.loop
  (.seq (.seq (.reg false [⟨some 10,.fa 0 (.t 5),none,[]⟩,⟨some 11,.load false 1 (.t 10),none,[0]⟩,⟨some 12,.fa 0 (.t 3),none,[]⟩,⟨some 13,.load false 1 (.t 12),none,[2]⟩,⟨some 14,.bin .gtr (.t 11) (.t 13),none,[1,3]⟩])
  (.cond (.t 14) .skip (.exit 0))) (.block 1 (.seq (.seq (.reg false [⟨some 15,.fa 1 (.t 5),none,[]⟩,⟨some 16,.load false 1 (.t 15),none,[0]⟩,⟨some 17,.fa 1 (.t 3),none,[]⟩,⟨some 18,.load false 1 (.t 17),none,[2]⟩,⟨some
  19,.bin .eql (.t 16) (.t 18),none,[1,3]⟩]) (.cond (.t 19) (.seq (.reg false [⟨some 20,.fa 0 (.t 3),none,[]⟩,⟨some 21,.load false 1 (.t 20),none,[0]⟩,⟨some 22,.fa 0 (.t 5),none,[0,1]⟩,⟨none,.store 1 (.t 22) (.t
  21),none,[2,1,0,1]⟩,⟨some 23,.fa 2 (.t 5),none,[0,1,2,3]⟩,⟨none,.store 1 (.t 23) (.d (.bool true)),none,[4,3,0,1,2,3]⟩]) (.exit 0)) .skip)) (.seq (.reg false [⟨some 25,.mv (.t 1),none,[]⟩,⟨some 26,.load true 3 (.t
  5),none,[]⟩,⟨some 27,.call 139 [(.t 25),(.t 26),(.d (.int .i64 1))],none,[0,1]⟩,⟨some 24,.mv (.t 27),none,[2]⟩,⟨some 28,.ext (.t 24) 0,none,[3]⟩,⟨some 29,.ext (.t 24) 1,none,[3]⟩,⟨some 8,.new 139 [(.int .i64 0),(.int
  .i64 0),(.bool false)],none,[]⟩,⟨none,.store 3 (.t 8) (.t 28),none,[6,4,2,0,1,2,3,4,6]⟩,⟨some 9,.mv (.t 29),none,[5,7,0,1,2,3,4,5,6,7]⟩]) (.seq (.seq (.reg false [⟨some 30,.mv (.t 9),none,[]⟩,⟨some 31,.bin .neq (.t 30)
  (.d (.int .i64 0)),none,[0]⟩]) (.cond (.t 31) (.seq (.reg false [⟨some 32,.load true 3 (.t 5),none,[]⟩,⟨some 33,.mv (.t 9),none,[]⟩,⟨none,.store 3 (.t 6) (.t 32),none,[0,0]⟩,⟨some 7,.mv (.t 33),none,[1,2,0,1,2]⟩]) .ret)
  .skip)) (.reg false [⟨some 34,.load true 3 (.t 8),none,[]⟩,⟨none,.store 3 (.t 5) (.t 34),none,[0,0]⟩])))))))) (.seq (.reg false [⟨some 35,.load true 3 (.t 5),none,[]⟩,⟨none,.store 3 (.t 6) (.t 35),none,[0,0]⟩,⟨some
  7,.mv (.d (.int .i64 0)),none,[1,0,1]⟩]) .ret)))
theorem r_thin_Param_down : fnOf Tryz.prog n_thin_Param_down = some (c_thin_Param_down, [.cell 6 true 3, .t 7], 36, false) := by kernel_rfl

/-- (tallymark/reg.Param).widths -/
abbrev n_reg_Param_widths : FuncId := 142
def c_reg_Param_widths : C := (.seq (.reg false [⟨some 1,.box 30 (.t 0),none,[]⟩,⟨some 2,.mv (.d (.int .i64 0)),none,[]⟩,⟨some 3,.mv (.d (.int .i64 0)),none,[1]⟩]) (.seq (.seq (.reg false [⟨some 4,.fa 0 (.t 1),none,[]⟩,⟨some 5,.load false 1 (.t
  4),none,[0]⟩,⟨some 6,.bin .eql (.t 5) (.d (.int .i64 4)),none,[1]⟩]) (.cond (.t 6) (.seq (.reg true [⟨some 7,.fa 1 (.t 1),none,[]⟩,⟨some 8,.load false 1 (.t 7),none,[0]⟩,⟨some 9,.conv .u64 (.t 8),none,[1]⟩,⟨some
  10,.call 165 [(.t 9)],none,[2]⟩,⟨some 11,.fa 2 (.t 1),none,[]⟩,⟨some 12,.load false 1 (.t 11),none,[4]⟩,⟨some 13,.conv .u64 (.t 12),none,[5]⟩,⟨some 14,.call 165 [(.t 13)],none,[6,3]⟩,⟨some 2,.mv (.t
  10),none,[3,7,0,1,2,3]⟩,⟨some 3,.mv (.t 14),none,[7,8,0,1,2,3,4,5,6,7,8]⟩]) .ret) .skip)) (.seq (.reg false [⟨some 15,.fa 2 (.t 1),none,[]⟩,⟨some 16,.load false 1 (.t 15),none,[0]⟩,⟨some 2,.mv (.t
  16),none,[1,0,1]⟩,⟨some 3,.mv (.d (.int .i64 0)),none,[2,0,1,2]⟩]) .ret)))
theorem r_reg_Param_widths : fnOf Tryz.prog n_reg_Param_widths = some (c_reg_Param_widths, [.t 2, .t 3], 17, false) := by kernel_rfl

/-- tallymark/hash.Mul -/
abbrev n_hash_Mul : FuncId := 143
def c_hash_Mul : C := (.seq (.reg false [⟨some 4,.mv (.d (.int .u64 0)),none,[]⟩]) (.seq (.reg false [⟨some 8,.mv (.t 0),none,[]⟩,⟨some 9,.bin .rem (.t 8) (.d (.int .u64 2305843009213693951)),none,[0]⟩,⟨some 10,.mv (.t 1),none,[]⟩,⟨some
  11,.bin .rem (.t 10) (.d (.int .u64 2305843009213693951)),none,[2]⟩,⟨some 12,.call 148 [(.t 9),(.t 11)],none,[1,3]⟩,⟨some 7,.mv (.t 12),none,[4]⟩,⟨some 13,.ext (.t 7) 0,none,[5]⟩,⟨some 14,.ext (.t 7) 1,none,[5]⟩,⟨some
  5,.mv (.t 13),none,[6,4,0,1,2,3,4,5,6]⟩,⟨some 6,.mv (.t 14),none,[7,8,0,1,2,3,4,5,6,7,8]⟩]) (.seq (.reg false [⟨some 15,.mv (.t 6),none,[]⟩,⟨some 16,.bin .and (.t 15) (.d (.int .u64 2305843009213693951)),none,[0]⟩,⟨some
  17,.mv (.t 5),none,[]⟩,⟨some 18,.bin .shl (.t 17) (.d (.int .u64 3)),none,[2]⟩,⟨some 19,.mv (.t 6),none,[]⟩,⟨some 20,.bin .shr (.t 19) (.d (.int .u64 61)),none,[4]⟩,⟨some 21,.bin .or (.t 18) (.t 20),none,[3,5]⟩,⟨some
  22,.bin .add (.t 16) (.t 21),none,[1,6]⟩,⟨some 23,.bin .rem (.t 22) (.d (.int .u64 2305843009213693951)),none,[7]⟩,⟨some 4,.mv (.t 23),none,[8,0,1,2,3,4,5,6,7,8]⟩]) .ret)))
theorem r_hash_Mul : fnOf Tryz.prog n_hash_Mul = some (c_hash_Mul, [.t 4], 24, false) := by kernel_rfl

/-- (tallymark/reg.Param).Write -/
abbrev n_reg_Param_Write : FuncId := 144
def c_reg_Param_Write : C := (.seq (.reg false [⟨some 3,.box 30 (.t 0),none,[]⟩,⟨some 5,.box 64 (.t 2),none,[]⟩,⟨some 6,.mv (.d (.int .i64 0)),none,[]⟩]) (.seq (.seq (.reg false [⟨some 10,.load true 3 (.t 3),none,[]⟩,⟨some 11,.load true 3 (.t
  5),none,[]⟩,⟨some 12,.bsl 64 3 1 [(.int .i64 0),(.int .i64 0),(.bool false)] [(0,3,(.t 11))],none,[1]⟩,⟨some 13,.call 66 [(.t 10),(.t 12)],none,[0,2]⟩,⟨some 7,.mv (.t 13),none,[3,3,0,1,2,3]⟩]) (.seq (.reg false [⟨some
  14,.mv (.t 7),none,[]⟩,⟨some 15,.bin .neq (.t 14) (.d (.int .i64 0)),none,[0]⟩]) (.cond (.t 15) (.seq (.reg false [⟨some 16,.mv (.t 7),none,[]⟩,⟨some 6,.mv (.t 16),none,[0,0]⟩]) .ret) .skip))) (.seq (.reg false [⟨some
  18,.load true 3 (.t 3),none,[]⟩,⟨some 19,.call 142 [(.t 18)],none,[0]⟩,⟨some 17,.mv (.t 19),none,[1]⟩,⟨some 20,.ext (.t 17) 0,none,[2]⟩,⟨some 21,.ext (.t 17) 1,none,[2]⟩,⟨some 8,.mv (.t 20),none,[3,1,0,1,2,3]⟩,⟨some
  9,.mv (.t 21),none,[4,5,0,1,2,3,4,5]⟩]) (.seq (.reg false [⟨some 22,.mv (.t 1),none,[]⟩,⟨some 23,.fa 0 (.t 5),none,[]⟩,⟨some 24,.load false 1 (.t 23),none,[1]⟩,⟨some 25,.conv .u64 (.t 24),none,[2]⟩,⟨some 26,.mv (.t
  8),none,[]⟩,⟨some 27,.call 87 [(.t 22),(.t 25),(.t 26)],none,[0,3,4]⟩]) (.seq (.reg false [⟨some 28,.mv (.t 1),none,[]⟩,⟨some 29,.fa 1 (.t 5),none,[]⟩,⟨some 30,.load false 1 (.t 29),none,[1]⟩,⟨some 31,.conv .u64 (.t
  30),none,[2]⟩,⟨some 32,.mv (.t 9),none,[]⟩,⟨some 33,.call 87 [(.t 28),(.t 31),(.t 32)],none,[0,3,4]⟩]) (.seq (.reg false [⟨some 34,.mv (.t 1),none,[]⟩,⟨some 35,.fa 2 (.t 5),none,[]⟩,⟨some 36,.load false 1 (.t
  35),none,[1]⟩,⟨some 37,.call 136 [(.t 34),(.t 36)],none,[0,2]⟩]) (.seq (.reg false [⟨some 6,.mv (.d (.int .i64 0)),none,[]⟩]) .ret)))))))
theorem r_reg_Param_Write : fnOf Tryz.prog n_reg_Param_Write = some (c_reg_Param_Write, [.t 6], 38, false) := by kernel_rfl

/-- (*tallymark/pack.Vector).Set -/
abbrev n_pack_Vector_Set : FuncId := 145
def c_pack_Vector_Set : C := (.seq (.reg false [⟨some 6,.mv (.d (.int .i64 0)),none,[]⟩]) (.seq (.block 0 (.seq (.reg false [⟨some 11,.mv (.t 1),none,[]⟩,⟨some 12,.bin .lss (.t 11) (.d (.int .i64 0)),none,[0]⟩,⟨some 13,.mv (.t 12),none,[1]⟩,⟨some
  14,.mv (.t 1),some (13,false),[2]⟩,⟨some 15,.mv (.t 0),some (13,false),[2]⟩,⟨some 16,.chk (.t 15),some (13,false),[4,2]⟩,⟨some 17,.fa 1 (.t 16),some (13,false),[5,2]⟩,⟨some 18,.load false 1 (.t 17),some
  (13,false),[6,2]⟩,⟨some 19,.bin .geq (.t 14) (.t 18),some (13,false),[3,7,2]⟩,⟨some 20,.pick (.t 13) (.d (.bool true)) (.t 19),none,[2,8]⟩,⟨some 10,.mv (.t 20),none,[9,2]⟩]) (.cond (.t 10) (.seq (.reg false [⟨some 6,.mv
  (.d (.int .i64 1)),none,[]⟩]) .ret) (.seq (.reg false [⟨some 22,.mv (.t 2),none,[]⟩,⟨some 23,.mv (.t 0),none,[]⟩,⟨some 24,.call 147 [(.t 23)],none,[1]⟩,⟨some 25,.bin .gtr (.t 22) (.t 24),none,[0,2]⟩,⟨some 21,.mv (.t
  25),none,[3,2]⟩]) (.cond (.t 21) (.seq (.reg false [⟨some 6,.mv (.d (.int .i64 2)),none,[]⟩]) .ret) .skip))))) (.seq (.reg false [⟨some 27,.mv (.t 0),none,[]⟩,⟨some 28,.mv (.t 1),none,[]⟩,⟨some 29,.call 146 [(.t 27),(.t
  28)],none,[0,1]⟩,⟨some 26,.mv (.t 29),none,[2]⟩,⟨some 30,.ext (.t 26) 0,none,[3]⟩,⟨some 31,.ext (.t 26) 1,none,[3]⟩,⟨some 7,.mv (.t 30),none,[4,2,0,1,2,3,4]⟩,⟨some 8,.mv (.t 31),none,[5,6,0,1,2,3,4,5,6]⟩]) (.seq (.reg
  true [⟨some 32,.mv (.t 0),none,[]⟩,⟨some 33,.chk (.t 32),none,[0]⟩,⟨some 34,.fa 0 (.t 33),none,[1]⟩,⟨some 35,.load false 1 (.t 34),none,[2]⟩,⟨some 36,.mv (.t 7),none,[]⟩,⟨some 37,.mv (.t 0),none,[]⟩,⟨some 38,.chk (.t
  37),none,[5]⟩,⟨some 39,.fa 0 (.t 38),none,[6]⟩,⟨some 40,.load false 1 (.t 39),none,[7]⟩,⟨some 41,.mv (.t 7),none,[]⟩,⟨some 42,.ix 1 (.t 40) (.t 41),none,[8,9]⟩,⟨some 43,.load false 1 (.t 42),none,[10]⟩,⟨some 44,.mv (.t
  0),none,[]⟩,⟨some 45,.call 147 [(.t 44)],none,[12]⟩,⟨some 46,.mv (.t 8),none,[]⟩,⟨some 47,.bin .shl (.t 45) (.t 46),none,[13,14]⟩,⟨some 48,.bin .andNot (.t 43) (.t 47),none,[11,15]⟩,⟨some 49,.mv (.t 2),none,[]⟩,⟨some
  50,.mv (.t 8),none,[]⟩,⟨some 51,.bin .shl (.t 49) (.t 50),none,[17,18]⟩,⟨some 52,.bin .or (.t 48) (.t 51),none,[16,19]⟩,⟨some 53,.ix 1 (.t 35) (.t
  36),none,[3,4,0,1,2,3,4,5,6,7,8,9,10,11,12,13,14,15,16,17,18,19,20]⟩,⟨none,.store 1 (.t 53) (.t 52),none,[21,20,13,0,1,2,3,4,5,6,7,8,9,10,11,12,13,14,15,16,17,18,19,20]⟩]) (.seq (.seq (.reg false [⟨some 54,.mv (.t
  8),none,[]⟩,⟨some 55,.mv (.t 0),none,[]⟩,⟨some 56,.chk (.t 55),none,[1]⟩,⟨some 57,.fa 2 (.t 56),none,[2]⟩,⟨some 58,.load false 1 (.t 57),none,[3]⟩,⟨some 59,.bin .add (.t 54) (.t 58),none,[0,4]⟩,⟨some 60,.bin .gtr (.t
  59) (.d (.int .i64 64)),none,[5]⟩]) (.cond (.t 60) (.seq (.reg false [⟨some 61,.mv (.t 8),none,[]⟩,⟨some 62,.bin .sub (.d (.int .i64 64)) (.t 61),none,[0]⟩,⟨some 9,.mv (.t 62),none,[1,0,1]⟩]) (.reg true [⟨some 63,.mv
  (.t 0),none,[]⟩,⟨some 64,.chk (.t 63),none,[0]⟩,⟨some 65,.fa 0 (.t 64),none,[1]⟩,⟨some 66,.load false 1 (.t 65),none,[2]⟩,⟨some 67,.mv (.t 7),none,[]⟩,⟨some 68,.bin .add (.t 67) (.d (.int .i64 1)),none,[4]⟩,⟨some 69,.mv
  (.t 0),none,[]⟩,⟨some 70,.chk (.t 69),none,[6]⟩,⟨some 71,.fa 0 (.t 70),none,[7]⟩,⟨some 72,.load false 1 (.t 71),none,[8]⟩,⟨some 73,.mv (.t 7),none,[]⟩,⟨some 74,.bin .add (.t 73) (.d (.int .i64 1)),none,[10]⟩,⟨some
  75,.ix 1 (.t 72) (.t 74),none,[9,11]⟩,⟨some 76,.load false 1 (.t 75),none,[12]⟩,⟨some 77,.mv (.t 0),none,[]⟩,⟨some 78,.call 147 [(.t 77)],none,[14]⟩,⟨some 79,.mv (.t 9),none,[]⟩,⟨some 80,.bin .shr (.t 78) (.t
  79),none,[15,16]⟩,⟨some 81,.bin .andNot (.t 76) (.t 80),none,[13,17]⟩,⟨some 82,.mv (.t 2),none,[]⟩,⟨some 83,.mv (.t 9),none,[]⟩,⟨some 84,.bin .shr (.t 82) (.t 83),none,[19,20]⟩,⟨some 85,.bin .or (.t 81) (.t
  84),none,[18,21]⟩,⟨some 86,.ix 1 (.t 66) (.t 68),none,[3,5,0,1,2,3,4,5,6,7,8,9,10,11,12,13,14,15,16,17,18,19,20,21,22]⟩,⟨none,.store 1 (.t 86) (.t
  85),none,[23,22,15,0,1,2,3,4,5,6,7,8,9,10,11,12,13,14,15,16,17,18,19,20,21,22]⟩])) .skip)) (.seq (.reg false [⟨some 6,.mv (.d (.int .i64 0)),none,[]⟩]) .ret))))))
theorem r_pack_Vector_Set : fnOf Tryz.prog n_pack_Vector_Set = some (c_pack_Vector_Set, [.t 6], 87, false) := by kernel_rfl

/-- (*tallymark/pack.Vector).place -/
abbrev n_pack_Vector_place : FuncId := 146
def c_pack_Vector_place : C := (.seq (.reg false [⟨some 4,.mv (.d (.int .i64 0)),none,[]⟩,⟨some 5,.mv (.d (.int .i64 0)),none,[0]⟩]) (.seq (.reg true [⟨some 6,.mv (.t 1),none,[]⟩,⟨some 7,.mv (.t 0),none,[]⟩,⟨some 8,.chk (.t 7),none,[1]⟩,⟨some 9,.fa 2
  (.t 8),none,[2]⟩,⟨some 10,.load false 1 (.t 9),none,[3]⟩,⟨some 11,.bin .mul (.t 6) (.t 10),none,[0,4]⟩,⟨some 12,.bin .quo (.t 11) (.d (.int .i64 64)),none,[5]⟩,⟨some 13,.mv (.t 1),none,[]⟩,⟨some 14,.mv (.t
  0),none,[]⟩,⟨some 15,.chk (.t 14),none,[8]⟩,⟨some 16,.fa 2 (.t 15),none,[9]⟩,⟨some 17,.load false 1 (.t 16),none,[10]⟩,⟨some 18,.bin .mul (.t 13) (.t 17),none,[7,11]⟩,⟨some 19,.bin .rem (.t 18) (.d (.int .i64
  64)),none,[12]⟩,⟨some 4,.mv (.t 12),none,[6,0,1,2,3,4,5,6]⟩,⟨some 5,.mv (.t 19),none,[13,14,0,1,2,3,4,5,6,7,8,9,10,11,12,13,14]⟩]) .ret))
theorem r_pack_Vector_place : fnOf Tryz.prog n_pack_Vector_place = some (c_pack_Vector_place, [.t 4, .t 5], 20, false) := by kernel_rfl

/-- (*tallymark/pack.Vector).mask -/
abbrev n_pack_Vector_mask : FuncId := 147
def c_pack_Vector_mask : C := (.seq (.reg false [⟨some 2,.mv (.d (.int .u64 0)),none,[]⟩]) (.seq (.reg false [⟨some 3,.mv (.t 0),none,[]⟩,⟨some 4,.chk (.t 3),none,[0]⟩,⟨some 5,.fa 2 (.t 4),none,[1]⟩,⟨some 6,.load false 1 (.t 5),none,[2]⟩,⟨some
  7,.bin .shl (.d (.int .u64 1)) (.t 6),none,[3]⟩,⟨some 8,.bin .sub (.t 7) (.d (.int .u64 1)),none,[4]⟩,⟨some 2,.mv (.t 8),none,[5,0,1,2,3,4,5]⟩]) .ret))
theorem r_pack_Vector_mask : fnOf Tryz.prog n_pack_Vector_mask = some (c_pack_Vector_mask, [.t 2], 9, false) := by kernel_rfl

/-- math/bits.Mul64 -/
abbrev n_math_bits_Mul64 : FuncId := 148
def c_math_bits_Mul64 : C := (.seq (.reg false [⟨some 4,.mv (.d (.int .u64 0)),none,[]⟩,⟨some 5,.mv (.d (.int .u64 0)),none,[0]⟩]) (.seq (.reg false [⟨some 14,.mv (.t 0),none,[]⟩,⟨some 15,.bin .and (.t 14) (.d (.int .u64
  4294967295)),none,[0]⟩,⟨some 6,.mv (.t 15),none,[1,0,1]⟩]) (.seq (.reg false [⟨some 16,.mv (.t 0),none,[]⟩,⟨some 17,.bin .shr (.t 16) (.d (.int .u64 32)),none,[0]⟩,⟨some 7,.mv (.t 17),none,[1,0,1]⟩]) (.seq (.reg false
  [⟨some 18,.mv (.t 1),none,[]⟩,⟨some 19,.bin .and (.t 18) (.d (.int .u64 4294967295)),none,[0]⟩,⟨some 8,.mv (.t 19),none,[1,0,1]⟩]) (.seq (.reg false [⟨some 20,.mv (.t 1),none,[]⟩,⟨some 21,.bin .shr (.t 20) (.d (.int
  .u64 32)),none,[0]⟩,⟨some 9,.mv (.t 21),none,[1,0,1]⟩]) (.seq (.reg false [⟨some 22,.mv (.t 6),none,[]⟩,⟨some 23,.mv (.t 8),none,[]⟩,⟨some 24,.bin .mul (.t 22) (.t 23),none,[0,1]⟩,⟨some 10,.mv (.t 24),none,[2,0,1,2]⟩])
  (.seq (.reg false [⟨some 25,.mv (.t 7),none,[]⟩,⟨some 26,.mv (.t 8),none,[]⟩,⟨some 27,.bin .mul (.t 25) (.t 26),none,[0,1]⟩,⟨some 28,.mv (.t 10),none,[]⟩,⟨some 29,.bin .shr (.t 28) (.d (.int .u64 32)),none,[3]⟩,⟨some
  30,.bin .add (.t 27) (.t 29),none,[2,4]⟩,⟨some 11,.mv (.t 30),none,[5,0,1,2,3,4,5]⟩]) (.seq (.reg false [⟨some 31,.mv (.t 11),none,[]⟩,⟨some 32,.bin .and (.t 31) (.d (.int .u64 4294967295)),none,[0]⟩,⟨some 12,.mv (.t
  32),none,[1,0,1]⟩]) (.seq (.reg false [⟨some 33,.mv (.t 11),none,[]⟩,⟨some 34,.bin .shr (.t 33) (.d (.int .u64 32)),none,[0]⟩,⟨some 13,.mv (.t 34),none,[1,0,1]⟩]) (.seq (.reg false [⟨some 35,.mv (.t 12),none,[]⟩,⟨some
  36,.mv (.t 6),none,[]⟩,⟨some 37,.mv (.t 9),none,[]⟩,⟨some 38,.bin .mul (.t 36) (.t 37),none,[1,2]⟩,⟨some 39,.bin .add (.t 35) (.t 38),none,[0,3]⟩,⟨some 12,.mv (.t 39),none,[4,0,1,2,3,4]⟩]) (.seq (.reg false [⟨some
  40,.mv (.t 7),none,[]⟩,⟨some 41,.mv (.t 9),none,[]⟩,⟨some 42,.bin .mul (.t 40) (.t 41),none,[0,1]⟩,⟨some 43,.mv (.t 13),none,[]⟩,⟨some 44,.bin .add (.t 42) (.t 43),none,[2,3]⟩,⟨some 45,.mv (.t 12),none,[]⟩,⟨some 46,.bin
  .shr (.t 45) (.d (.int .u64 32)),none,[5]⟩,⟨some 47,.bin .add (.t 44) (.t 46),none,[4,6]⟩,⟨some 4,.mv (.t 47),none,[7,0,1,2,3,4,5,6,7]⟩]) (.seq (.reg false [⟨some 48,.mv (.t 0),none,[]⟩,⟨some 49,.mv (.t
  1),none,[]⟩,⟨some 50,.bin .mul (.t 48) (.t 49),none,[0,1]⟩,⟨some 5,.mv (.t 50),none,[2,0,1,2]⟩]) .ret))))))))))))
theorem r_math_bits_Mul64 : fnOf Tryz.prog n_math_bits_Mul64 = some (c_math_bits_Mul64, [.t 4, .t 5], 51, false) := by kernel_rfl

/-- slices.Clone[[]uint64,uint64] -/
abbrev n_slices_Clone_uint64_uint64 : FuncId := 150
def c_slices_Clone_uint64_uint64 : C := (.seq (.reg false [⟨some 2,.mv (.d .nilsl),none,[]⟩]) (.seq (.seq (.reg false [⟨some 3,.mv (.t 0),none,[]⟩,⟨some 4,.snl false (.t 3),none,[0]⟩]) (.cond (.t 4) (.seq (.reg false [⟨some 2,.mv (.d .nilsl),none,[]⟩]) .ret)
  .skip)) (.seq (.reg false [⟨some 5,.bsl0,none,[]⟩,⟨some 6,.mv (.t 0),none,[]⟩,⟨some 7,.app 28 1 8 (.t 5) (.t 6),none,[0,1]⟩,⟨some 2,.mv (.t 7),none,[2,2,0,1,2]⟩]) .ret)))
theorem r_slices_Clone_uint64_uint64 : fnOf Tryz.prog n_slices_Clone_uint64_uint64 = some (c_slices_Clone_uint64_uint64, [.t 2], 8, false) := by kernel_rfl

/-- math/bits.Div64 -/
abbrev n_math_bits_Div64 : FuncId := 151
def c_math_bits_Div64 : C := (.seq (.reg false [⟨some 6,.mv (.d (.int .u64 0)),none,[]⟩,⟨some 7,.mv (.d (.int .u64 0)),none,[0]⟩]) (.seq (.seq (.reg false [⟨some 19,.mv (.t 2),none,[]⟩,⟨some 20,.bin .eql (.t 19) (.d (.int .u64 0)),none,[0]⟩])
  (.cond (.t 20) (.reg false [⟨some 21,.load false 1 .bad,none,[]⟩,⟨none,.bad,none,[0]⟩]) .skip)) (.seq (.seq (.reg false [⟨some 22,.mv (.t 2),none,[]⟩,⟨some 23,.mv (.t 0),none,[]⟩,⟨some 24,.bin .leq (.t 22) (.t
  23),none,[0,1]⟩]) (.cond (.t 24) (.reg false [⟨some 25,.load false 1 .bad,none,[]⟩,⟨none,.bad,none,[0]⟩]) .skip)) (.seq (.seq (.reg false [⟨some 26,.mv (.t 0),none,[]⟩,⟨some 27,.bin .eql (.t 26) (.d (.int .u64
  0)),none,[0]⟩]) (.cond (.t 27) (.seq (.reg true [⟨some 28,.mv (.t 1),none,[]⟩,⟨some 29,.mv (.t 2),none,[]⟩,⟨some 30,.bin .quo (.t 28) (.t 29),none,[0,1]⟩,⟨some 31,.mv (.t 1),none,[]⟩,⟨some 32,.mv (.t 2),none,[]⟩,⟨some
  33,.bin .rem (.t 31) (.t 32),none,[3,4]⟩,⟨some 6,.mv (.t 30),none,[2,0,1,2]⟩,⟨some 7,.mv (.t 33),none,[5,6,0,1,2,3,4,5,6]⟩]) .ret) .skip)) (.seq (.reg false [⟨some 34,.mv (.t 2),none,[]⟩,⟨some 35,.call 167 [(.t
  34)],none,[0]⟩,⟨some 36,.conv .u64 (.t 35),none,[1]⟩,⟨some 8,.mv (.t 36),none,[2,1,0,1,2]⟩]) (.seq (.reg false [⟨some 37,.mv (.t 2),none,[]⟩,⟨some 38,.mv (.t 8),none,[]⟩,⟨some 39,.bin .shl (.t 37) (.t
  38),none,[0,1]⟩,⟨some 2,.mv (.t 39),none,[2,0,1,2]⟩]) (.seq (.reg false [⟨some 40,.mv (.t 2),none,[]⟩,⟨some 41,.bin .shr (.t 40) (.d (.int .u64 32)),none,[0]⟩,⟨some 9,.mv (.t 41),none,[1,0,1]⟩]) (.seq (.reg false [⟨some
  42,.mv (.t 2),none,[]⟩,⟨some 43,.bin .and (.t 42) (.d (.int .u64 4294967295)),none,[0]⟩,⟨some 10,.mv (.t 43),none,[1,0,1]⟩]) (.seq (.reg false [⟨some 44,.mv (.t 0),none,[]⟩,⟨some 45,.mv (.t 8),none,[]⟩,⟨some 46,.bin
  .shl (.t 44) (.t 45),none,[0,1]⟩,⟨some 47,.mv (.t 1),none,[]⟩,⟨some 48,.mv (.t 8),none,[]⟩,⟨some 49,.bin .sub (.d (.int .u64 64)) (.t 48),none,[4]⟩,⟨some 50,.bin .shr (.t 47) (.t 49),none,[3,5]⟩,⟨some 51,.bin .or (.t
  46) (.t 50),none,[2,6]⟩,⟨some 11,.mv (.t 51),none,[7,0,1,2,3,4,5,6,7]⟩]) (.seq (.reg false [⟨some 52,.mv (.t 1),none,[]⟩,⟨some 53,.mv (.t 8),none,[]⟩,⟨some 54,.bin .shl (.t 52) (.t 53),none,[0,1]⟩,⟨some 12,.mv (.t
  54),none,[2,0,1,2]⟩]) (.seq (.reg false [⟨some 55,.mv (.t 12),none,[]⟩,⟨some 56,.bin .shr (.t 55) (.d (.int .u64 32)),none,[0]⟩,⟨some 13,.mv (.t 56),none,[1,0,1]⟩]) (.seq (.reg false [⟨some 57,.mv (.t 12),none,[]⟩,⟨some
  58,.bin .and (.t 57) (.d (.int .u64 4294967295)),none,[0]⟩,⟨some 14,.mv (.t 58),none,[1,0,1]⟩]) (.seq (.reg false [⟨some 59,.mv (.t 11),none,[]⟩,⟨some 60,.mv (.t 9),none,[]⟩,⟨some 61,.bin .quo (.t 59) (.t
  60),none,[0,1]⟩,⟨some 15,.mv (.t 61),none,[2,0,1,2]⟩]) (.seq (.reg false [⟨some 62,.mv (.t 11),none,[]⟩,⟨some 63,.mv (.t 15),none,[]⟩,⟨some 64,.mv (.t 9),none,[]⟩,⟨some 65,.bin .mul (.t 63) (.t 64),none,[1,2]⟩,⟨some
  66,.bin .sub (.t 62) (.t 65),none,[0,3]⟩,⟨some 16,.mv (.t 66),none,[4,0,1,2,3,4]⟩]) (.seq (.block 0 (.loop (.seq (.seq (.reg false [⟨some 67,.mv (.t 15),none,[]⟩,⟨some 68,.bin .geq (.t 67) (.d (.int .u64
  4294967296)),none,[0]⟩,⟨some 69,.mv (.t 68),none,[1]⟩,⟨some 70,.mv (.t 15),some (69,false),[2]⟩,⟨some 71,.mv (.t 10),some (69,false),[2]⟩,⟨some 72,.bin .mul (.t 70) (.t 71),some (69,false),[3,4,2]⟩,⟨some 73,.mv (.t
  16),some (69,false),[2]⟩,⟨some 74,.bin .mul (.d (.int .u64 4294967296)) (.t 73),some (69,false),[6,2]⟩,⟨some 75,.mv (.t 13),some (69,false),[2]⟩,⟨some 76,.bin .add (.t 74) (.t 75),some (69,false),[7,8,2]⟩,⟨some 77,.bin
  .gtr (.t 72) (.t 76),some (69,false),[5,9,2]⟩,⟨some 78,.pick (.t 69) (.d (.bool true)) (.t 77),none,[2,10]⟩]) (.cond (.t 78) .skip (.exit 0))) (.block 1 (.seq (.reg false [⟨some 79,.mv (.t 15),none,[]⟩,⟨some 80,.bin
  .sub (.t 79) (.d (.int .u64 1)),none,[0]⟩,⟨some 15,.mv (.t 80),none,[1,0,1]⟩]) (.seq (.reg false [⟨some 81,.mv (.t 16),none,[]⟩,⟨some 82,.mv (.t 9),none,[]⟩,⟨some 83,.bin .add (.t 81) (.t 82),none,[0,1]⟩,⟨some 16,.mv
  (.t 83),none,[2,0,1,2]⟩]) (.seq (.reg false [⟨some 84,.mv (.t 16),none,[]⟩,⟨some 85,.bin .geq (.t 84) (.d (.int .u64 4294967296)),none,[0]⟩]) (.cond (.t 85) (.exit 0) .skip)))))))) (.seq (.reg false [⟨some 86,.mv (.t
  11),none,[]⟩,⟨some 87,.bin .mul (.t 86) (.d (.int .u64 4294967296)),none,[0]⟩,⟨some 88,.mv (.t 13),none,[]⟩,⟨some 89,.bin .add (.t 87) (.t 88),none,[1,2]⟩,⟨some 90,.mv (.t 15),none,[]⟩,⟨some 91,.mv (.t 2),none,[]⟩,⟨some
  92,.bin .mul (.t 90) (.t 91),none,[4,5]⟩,⟨some 93,.bin .sub (.t 89) (.t 92),none,[3,6]⟩,⟨some 17,.mv (.t 93),none,[7,0,1,2,3,4,5,6,7]⟩]) (.seq (.reg false [⟨some 94,.mv (.t 17),none,[]⟩,⟨some 95,.mv (.t
  9),none,[]⟩,⟨some 96,.bin .quo (.t 94) (.t 95),none,[0,1]⟩,⟨some 18,.mv (.t 96),none,[2,0,1,2]⟩]) (.seq (.reg false [⟨some 97,.mv (.t 17),none,[]⟩,⟨some 98,.mv (.t 18),none,[]⟩,⟨some 99,.mv (.t 9),none,[]⟩,⟨some
  100,.bin .mul (.t 98) (.t 99),none,[1,2]⟩,⟨some 101,.bin .sub (.t 97) (.t 100),none,[0,3]⟩,⟨some 16,.mv (.t 101),none,[4,0,1,2,3,4]⟩]) (.seq (.block 2 (.loop (.seq (.seq (.reg false [⟨some 102,.mv (.t 18),none,[]⟩,⟨some
  103,.bin .geq (.t 102) (.d (.int .u64 4294967296)),none,[0]⟩,⟨some 104,.mv (.t 103),none,[1]⟩,⟨some 105,.mv (.t 18),some (104,false),[2]⟩,⟨some 106,.mv (.t 10),some (104,false),[2]⟩,⟨some 107,.bin .mul (.t 105) (.t
  106),some (104,false),[3,4,2]⟩,⟨some 108,.mv (.t 16),some (104,false),[2]⟩,⟨some 109,.bin .mul (.d (.int .u64 4294967296)) (.t 108),some (104,false),[6,2]⟩,⟨some 110,.mv (.t 14),some (104,false),[2]⟩,⟨some 111,.bin .add
  (.t 109) (.t 110),some (104,false),[7,8,2]⟩,⟨some 112,.bin .gtr (.t 107) (.t 111),some (104,false),[5,9,2]⟩,⟨some 113,.pick (.t 104) (.d (.bool true)) (.t 112),none,[2,10]⟩]) (.cond (.t 113) .skip (.exit 2))) (.block 3
  (.seq (.reg false [⟨some 114,.mv (.t 18),none,[]⟩,⟨some 115,.bin .sub (.t 114) (.d (.int .u64 1)),none,[0]⟩,⟨some 18,.mv (.t 115),none,[1,0,1]⟩]) (.seq (.reg false [⟨some 116,.mv (.t 16),none,[]⟩,⟨some 117,.mv (.t
  9),none,[]⟩,⟨some 118,.bin .add (.t 116) (.t 117),none,[0,1]⟩,⟨some 16,.mv (.t 118),none,[2,0,1,2]⟩]) (.seq (.reg false [⟨some 119,.mv (.t 16),none,[]⟩,⟨some 120,.bin .geq (.t 119) (.d (.int .u64
  4294967296)),none,[0]⟩]) (.cond (.t 120) (.exit 2) .skip)))))))) (.seq (.reg false [⟨some 121,.mv (.t 15),none,[]⟩,⟨some 122,.bin .mul (.t 121) (.d (.int .u64 4294967296)),none,[0]⟩,⟨some 123,.mv (.t 18),none,[]⟩,⟨some
  124,.bin .add (.t 122) (.t 123),none,[1,2]⟩,⟨some 125,.mv (.t 17),none,[]⟩,⟨some 126,.bin .mul (.t 125) (.d (.int .u64 4294967296)),none,[4]⟩,⟨some 127,.mv (.t 14),none,[]⟩,⟨some 128,.bin .add (.t 126) (.t
  127),none,[5,6]⟩,⟨some 129,.mv (.t 18),none,[]⟩,⟨some 130,.mv (.t 2),none,[]⟩,⟨some 131,.bin .mul (.t 129) (.t 130),none,[8,9]⟩,⟨some 132,.bin .sub (.t 128) (.t 131),none,[7,10]⟩,⟨some 133,.mv (.t 8),none,[]⟩,⟨some
  134,.bin .shr (.t 132) (.t 133),none,[11,12]⟩,⟨some 6,.mv (.t 124),none,[3,0,1,2,3]⟩,⟨some 7,.mv (.t 134),none,[13,14,0,1,2,3,4,5,6,7,8,9,10,11,12,13,14]⟩]) .ret))))))))))))))))))))
theorem r_math_bits_Div64 : fnOf Tryz.prog n_math_bits_Div64 = some (c_math_bits_Div64, [.t 6, .t 7], 135, false) := by kernel_rfl

/-- internal/strconv.FormatUint -/
abbrev n_internal_strconv_FormatUint : FuncId := 152
def c_internal_strconv_FormatUint : C := (.seq (.reg false [⟨some 4,.mv (.d (.str ⟨#[]⟩)),none,[]⟩]) (.seq (.seq (.reg false [⟨some 9,.mv (.t 1),none,[]⟩,⟨some 10,.bin .eql (.t 9) (.d (.int .i64 10)),none,[0]⟩]) (.cond (.t 10) (.seq (.seq (.reg false [⟨some
  11,.mv (.t 0),none,[]⟩,⟨some 12,.bin .lss (.t 11) (.d (.int .u64 100)),none,[0]⟩]) (.cond (.t 12) (.seq (.reg false [⟨some 13,.mv (.t 0),none,[]⟩,⟨some 14,.conv .i64 (.t 13),none,[0]⟩,⟨some 15,.call 168 [(.t
  14)],none,[1]⟩,⟨some 4,.mv (.t 15),none,[2,2,0,1,2]⟩]) .ret) .skip)) (.seq (.reg false [⟨some 5,.new 252 [(.int .u8 0),(.int .u8 0),(.int .u8 0),(.int .u8 0),(.int .u8 0),(.int .u8 0),(.int .u8 0),(.int .u8 0),(.int .u8
  0),(.int .u8 0),(.int .u8 0),(.int .u8 0),(.int .u8 0),(.int .u8 0),(.int .u8 0),(.int .u8 0),(.int .u8 0),(.int .u8 0),(.int .u8 0),(.int .u8 0),(.int .u8 0),(.int .u8 0),(.int .u8 0),(.int .u8 0)],none,[]⟩]) (.seq
  (.reg false [⟨some 16,.mv (.t 0),none,[]⟩,⟨some 17,.call 169 [(.t 16)],none,[0]⟩,⟨some 6,.mv (.t 17),none,[1,1,0,1]⟩]) (.seq (.reg false [⟨some 18,.mv (.t 6),none,[]⟩,⟨some 19,.bad,none,[0]⟩,⟨some 20,.mv (.t
  0),none,[]⟩,⟨some 21,.call 170 [(.t 19),(.t 20)],none,[1,2]⟩]) (.seq (.reg false [⟨some 22,.mv (.t 6),none,[]⟩,⟨some 23,.bad,none,[0]⟩,⟨some 24,.bad,none,[1]⟩,⟨some 4,.mv (.t 24),none,[2,0,1,2]⟩]) .ret))))) .skip))
  (.seq (.reg false [⟨some 26,.mv (.t 0),none,[]⟩,⟨some 27,.mv (.t 1),none,[]⟩,⟨some 28,.call 171 [(.d .nilsl),(.t 26),(.t 27),(.d (.bool false)),(.d (.bool false))],none,[0,1]⟩,⟨some 25,.mv (.t 28),none,[2]⟩,⟨some
  29,.ext (.t 25) 0,none,[3]⟩,⟨some 30,.ext (.t 25) 1,none,[3]⟩,⟨some 7,.mv (.t 29),none,[4,2,0,1,2,3,4]⟩,⟨some 8,.mv (.t 30),none,[5,6,0,1,2,3,4,5,6]⟩]) (.seq (.reg false [⟨some 31,.mv (.t 8),none,[]⟩,⟨some 4,.mv (.t
  31),none,[0,0]⟩]) .ret))))
theorem r_internal_strconv_FormatUint : fnOf Tryz.prog n_internal_strconv_FormatUint = some (c_internal_strconv_FormatUint, [.t 4], 32, false) := by kernel_rfl

/-- (tallymark/thin.Param).Well -/
abbrev n_thin_Param_Well : FuncId := 161
def c_thin_Param_Well : C := (.seq (.reg false [⟨some 2,.box 135 (.t 0),none,[]⟩,⟨some 3,.box 139 (.t 1),none,[]⟩,⟨some 4,.mv (.d (.bool false)),none,[]⟩]) (.seq (.reg false [⟨some 6,.fa 0 (.t 3),none,[]⟩,⟨some 7,.load false 1 (.t
  6),none,[0]⟩,⟨some 8,.bin .geq (.t 7) (.d (.int .i64 0)),none,[1]⟩,⟨some 9,.mv (.t 8),none,[2]⟩,⟨some 10,.fa 0 (.t 3),some (9,true),[3]⟩,⟨some 11,.load false 1 (.t 10),some (9,true),[4,3]⟩,⟨some 12,.fa 0 (.t 2),some
  (9,true),[3]⟩,⟨some 13,.load false 1 (.t 12),some (9,true),[6,3]⟩,⟨some 14,.bin .leq (.t 11) (.t 13),some (9,true),[5,7,3]⟩,⟨some 15,.pick (.t 9) (.t 14) (.d (.bool false)),none,[3,8]⟩,⟨some 16,.mv (.t
  15),none,[9,3]⟩,⟨some 17,.fa 1 (.t 3),some (16,true),[10]⟩,⟨some 18,.load false 1 (.t 17),some (16,true),[11,10]⟩,⟨some 19,.bin .geq (.t 18) (.d (.int .i64 0)),some (16,true),[12,10]⟩,⟨some 20,.pick (.t 16) (.t 19) (.d
  (.bool false)),none,[10,13]⟩,⟨some 21,.mv (.t 20),none,[14,10]⟩,⟨some 22,.fa 1 (.t 3),some (21,true),[15]⟩,⟨some 23,.load false 1 (.t 22),some (21,true),[16,15]⟩,⟨some 24,.fa 1 (.t 2),some (21,true),[15]⟩,⟨some 25,.load
  false 1 (.t 24),some (21,true),[18,15]⟩,⟨some 26,.bin .leq (.t 23) (.t 25),some (21,true),[17,19,15]⟩,⟨some 27,.pick (.t 21) (.t 26) (.d (.bool false)),none,[15,20]⟩,⟨some 5,.mv (.t
  27),none,[21,15,0,1,2,3,4,5,6,7,8,9,10,11,12,13,14,15,16,17,18,19,20,21]⟩]) (.seq (.reg false [⟨some 28,.load true 2 (.t 2),none,[]⟩,⟨some 29,.call 132 [(.t 28)],none,[0]⟩,⟨some 30,.bin .eql (.t 29) (.d (.int .i64
  0)),none,[1]⟩,⟨some 31,.mv (.t 30),none,[2,1]⟩,⟨some 32,.mv (.t 5),some (31,true),[3]⟩,⟨some 33,.pick (.t 31) (.t 32) (.d (.bool false)),none,[3,4]⟩,⟨some 34,.mv (.t 33),none,[5,3]⟩,⟨some 35,.fa 2 (.t 3),some
  (34,true),[6]⟩,⟨some 36,.load false 1 (.t 35),some (34,true),[7,6]⟩,⟨some 37,.un .not (.t 36),some (34,true),[8,6]⟩,⟨some 38,.mv (.t 37),some (34,true),[9,6,6]⟩,⟨some 39,.fa 1 (.t 3),some (38,false),[10]⟩,⟨some 40,.load
  false 1 (.t 39),some (38,false),[11,10]⟩,⟨some 41,.fa 1 (.t 2),some (38,false),[10]⟩,⟨some 42,.load false 1 (.t 41),some (38,false),[13,10]⟩,⟨some 43,.bin .eql (.t 40) (.t 42),some (38,false),[12,14,10]⟩,⟨some 44,.pick
  (.t 38) (.d (.bool true)) (.t 43),some (34,true),[10,15,6]⟩,⟨some 45,.pick (.t 34) (.t 44) (.d (.bool false)),none,[6,16]⟩,⟨some 4,.mv (.t 45),none,[17,10,0,1,2,3,4,5,6,7,8,9,10,11,12,13,14,15,16,17]⟩]) .ret)))
theorem r_thin_Param_Well : fnOf Tryz.prog n_thin_Param_Well = some (c_thin_Param_Well, [.t 4], 46, false) := by kernel_rfl

/-- tallymark/nat.moved -/
abbrev n_nat_moved : FuncId := 162
def c_nat_moved : C := (.seq (.reg false [⟨some 4,.mv (.d .nilsl),none,[]⟩]) (.seq (.reg false [⟨some 8,.mv (.t 0),none,[]⟩,⟨some 9,.len (.t 8),none,[0]⟩,⟨some 10,.bin .add (.t 9) (.d (.int .i64 1)),none,[1]⟩,⟨some 11,.mksl 28 1 8 [(.int .u64
  0)] (.t 10) (.t 10),none,[2,2]⟩,⟨some 5,.mv (.t 11),none,[3,0,1,2,3]⟩]) (.seq (.seq (.reg false [⟨some 12,.mv (.t 0),none,[]⟩,⟨some 13,.len (.t 12),none,[0]⟩,⟨some 14,.mv (.d (.int .i64 0)),none,[]⟩]) (.block 0 (.loop
  (.seq (.reg false [⟨some 15,.bin .lss (.t 14) (.t 13),none,[]⟩]) (.seq (.cond (.t 15) .skip (.exit 0)) (.seq (.block 1 (.seq (.reg false [⟨some 16,.mv (.t 14),none,[]⟩,⟨some 17,.ix 1 (.t 12) (.t 14),none,[]⟩,⟨some
  18,.load false 1 (.t 17),none,[1]⟩,⟨some 6,.mv (.t 16),none,[0,0,1,2]⟩,⟨some 7,.mv (.t 18),none,[2,3,0,1,2,3]⟩]) (.seq (.reg true [⟨some 19,.mv (.t 5),none,[]⟩,⟨some 20,.mv (.t 6),none,[]⟩,⟨some 21,.ix 1 (.t 19) (.t
  20),none,[0,1]⟩,⟨some 22,.load false 1 (.t 21),none,[2]⟩,⟨some 23,.mv (.t 7),none,[]⟩,⟨some 24,.mv (.t 1),none,[]⟩,⟨some 25,.bin .shl (.t 23) (.t 24),none,[4,5]⟩,⟨some 26,.bin .or (.t 22) (.t 25),none,[3,6]⟩,⟨some
  27,.ix 1 (.t 19) (.t 20),none,[0,1,0,1,2,3,4,5,6,7]⟩,⟨none,.store 1 (.t 27) (.t 26),none,[8,7,0,1,2,3,4,5,6,7]⟩]) (.reg false [⟨some 28,.mv (.t 5),none,[]⟩,⟨some 29,.mv (.t 6),none,[]⟩,⟨some 30,.bin .add (.t 29) (.d
  (.int .i64 1)),none,[1]⟩,⟨some 31,.mv (.t 7),none,[]⟩,⟨some 32,.mv (.t 1),none,[]⟩,⟨some 33,.bin .sub (.d (.int .i64 64)) (.t 32),none,[4]⟩,⟨some 34,.bin .shr (.t 31) (.t 33),none,[3,5]⟩,⟨some 35,.ix 1 (.t 28) (.t
  30),none,[0,2,0,1,2,3,4,5,6]⟩,⟨none,.store 1 (.t 35) (.t 34),none,[7,6,0,1,2,3,4,5,6]⟩])))) (.reg false [⟨some 36,.bin .add (.t 14) (.d (.int .i64 1)),none,[]⟩,⟨some 14,.mv (.t 36),none,[0]⟩]))))))) (.seq (.reg false
  [⟨some 37,.mv (.t 5),none,[]⟩,⟨some 4,.mv (.t 37),none,[0,0]⟩]) .ret))))
theorem r_nat_moved : fnOf Tryz.prog n_nat_moved = some (c_nat_moved, [.t 4], 38, false) := by kernel_rfl

/-- tallymark/flip.Half -/
abbrev n_flip_Half : FuncId := 164
def c_flip_Half : C := (.seq (.reg false [⟨some 4,.mv (.d (.bool false)),none,[]⟩,⟨some 5,.mv (.d (.int .i64 0)),none,[0]⟩]) (.seq (.seq (.reg false [⟨some 8,.mv (.t 1),none,[]⟩,⟨some 9,.mm true [(.d (.int .i64 0)),(.t 8)],none,[0]⟩,⟨some
  10,.mv (.d (.int .i64 0)),none,[]⟩]) (.block 0 (.loop (.seq (.reg false [⟨some 11,.bin .lss (.t 10) (.t 9),none,[]⟩]) (.seq (.cond (.t 11) .skip (.exit 0)) (.seq (.block 1 (.seq (.reg false [⟨some 13,.mv (.t
  0),none,[]⟩,⟨some 14,.call 131 [(.t 13)],none,[0]⟩,⟨some 12,.mv (.t 14),none,[1]⟩,⟨some 15,.ext (.t 12) 0,none,[2]⟩,⟨some 16,.ext (.t 12) 1,none,[2]⟩,⟨some 6,.mv (.t 15),none,[3,1,0,1,2,3]⟩,⟨some 7,.mv (.t
  16),none,[4,5,0,1,2,3,4,5]⟩]) (.seq (.reg false [⟨some 17,.mv (.t 6),none,[]⟩,⟨some 18,.un .not (.t 17),none,[0]⟩]) (.cond (.t 18) (.seq (.reg false [⟨some 19,.mv (.t 7),none,[]⟩,⟨some 4,.mv (.d (.bool
  false)),none,[]⟩,⟨some 5,.mv (.t 19),none,[0,1,0,1]⟩]) .ret) .skip)))) (.reg false [⟨some 20,.bin .add (.t 10) (.d (.int .i64 1)),none,[]⟩,⟨some 10,.mv (.t 20),none,[0]⟩]))))))) (.seq (.reg false [⟨some 4,.mv (.d (.bool
  true)),none,[]⟩,⟨some 5,.mv (.d (.int .i64 0)),none,[0,0]⟩]) .ret)))
theorem r_flip_Half : fnOf Tryz.prog n_flip_Half = some (c_flip_Half, [.t 4, .t 5], 21, false) := by kernel_rfl

/-- math/bits.Len -/
abbrev n_math_bits_Len : FuncId := 165
def c_math_bits_Len : C := (.seq (.reg false [⟨some 2,.mv (.d (.int .i64 0)),none,[]⟩]) (.seq (.cond (.d (.bool false)) (.seq (.reg false [⟨some 3,.mv (.t 0),none,[]⟩,⟨some 4,.conv .u32 (.t 3),none,[0]⟩,⟨some 5,.call 176 [(.t 4)],none,[1]⟩,⟨some
  2,.mv (.t 5),none,[2,2,0,1,2]⟩]) .ret) .skip) (.seq (.reg false [⟨some 6,.mv (.t 0),none,[]⟩,⟨some 7,.call 130 [(.t 6)],none,[0]⟩,⟨some 2,.mv (.t 7),none,[1,1,0,1]⟩]) .ret)))
theorem r_math_bits_Len : fnOf Tryz.prog n_math_bits_Len = some (c_math_bits_Len, [.t 2], 8, false) := by kernel_rfl

/-- tallymark/draw.Binomial -/
abbrev n_draw_Binomial : FuncId := 166
def c_draw_Binomial : C := (.seq (.reg false [⟨some 4,.mv (.d (.int .i64 0)),none,[]⟩,⟨some 5,.mv (.d (.int .i64 0)),none,[0]⟩]) (.seq (.reg false [⟨some 6,.mv (.d (.int .i64 0)),none,[]⟩]) (.seq (.seq (.reg false [⟨some 9,.mv (.t
  1),none,[]⟩,⟨some 10,.mm true [(.d (.int .i64 0)),(.t 9)],none,[0]⟩,⟨some 11,.mv (.d (.int .i64 0)),none,[]⟩]) (.block 0 (.loop (.seq (.reg false [⟨some 12,.bin .lss (.t 11) (.t 10),none,[]⟩]) (.seq (.cond (.t 12) .skip
  (.exit 0)) (.seq (.block 1 (.seq (.reg false [⟨some 14,.mv (.t 0),none,[]⟩,⟨some 15,.call 131 [(.t 14)],none,[0]⟩,⟨some 13,.mv (.t 15),none,[1]⟩,⟨some 16,.ext (.t 13) 0,none,[2]⟩,⟨some 17,.ext (.t 13) 1,none,[2]⟩,⟨some
  7,.mv (.t 16),none,[3,1,0,1,2,3]⟩,⟨some 8,.mv (.t 17),none,[4,5,0,1,2,3,4,5]⟩]) (.seq (.seq (.reg false [⟨some 18,.mv (.t 8),none,[]⟩,⟨some 19,.bin .neq (.t 18) (.d (.int .i64 0)),none,[0]⟩]) (.cond (.t 19) (.seq (.reg
  false [⟨some 20,.mv (.t 8),none,[]⟩,⟨some 4,.mv (.d (.int .i64 0)),none,[]⟩,⟨some 5,.mv (.t 20),none,[0,1,0,1]⟩]) .ret) .skip)) (.seq (.reg false [⟨some 21,.mv (.t 7),none,[]⟩]) (.cond (.t 21) (.reg false [⟨some 22,.mv
  (.t 6),none,[]⟩,⟨some 23,.bin .add (.t 22) (.d (.int .i64 1)),none,[0]⟩,⟨some 6,.mv (.t 23),none,[1,0,1]⟩]) .skip))))) (.reg false [⟨some 24,.bin .add (.t 11) (.d (.int .i64 1)),none,[]⟩,⟨some 11,.mv (.t
  24),none,[0]⟩]))))))) (.seq (.reg false [⟨some 25,.mv (.t 6),none,[]⟩,⟨some 4,.mv (.t 25),none,[0,0]⟩,⟨some 5,.mv (.d (.int .i64 0)),none,[1,0,1]⟩]) .ret))))
theorem r_draw_Binomial : fnOf Tryz.prog n_draw_Binomial = some (c_draw_Binomial, [.t 4, .t 5], 26, false) := by kernel_rfl

/-- math/bits.LeadingZeros64 -/
abbrev n_math_bits_LeadingZeros64 : FuncId := 167
def c_math_bits_LeadingZeros64 : C := (.seq (.reg false [⟨some 2,.mv (.d (.int .i64 0)),none,[]⟩]) (.seq (.reg false [⟨some 3,.mv (.t 0),none,[]⟩,⟨some 4,.call 130 [(.t 3)],none,[0]⟩,⟨some 5,.bin .sub (.d (.int .i64 64)) (.t 4),none,[1]⟩,⟨some 2,.mv (.t
  5),none,[2,1,0,1,2]⟩]) .ret))
theorem r_math_bits_LeadingZeros64 : fnOf Tryz.prog n_math_bits_LeadingZeros64 = some (c_math_bits_LeadingZeros64, [.t 2], 6, false) := by kernel_rfl

/-- internal/strconv.small -/
abbrev n_internal_strconv_small : FuncId := 168
def c_internal_strconv_small : C := (.seq (.reg false [⟨some 2,.mv (.d (.str ⟨#[]⟩)),none,[]⟩]) (.seq (.seq (.reg false [⟨some 3,.mv (.t 0),none,[]⟩,⟨some 4,.bin .lss (.t 3) (.d (.int .i64 10)),none,[0]⟩]) (.cond (.t 4) (.seq (.reg false [⟨some 5,.mv (.t
  0),none,[]⟩,⟨some 6,.mv (.t 0),none,[]⟩,⟨some 7,.bin .add (.t 6) (.d (.int .i64 1)),none,[1]⟩,⟨some 8,.sstr (.d (.str
  ⟨#[48,49,50,51,52,53,54,55,56,57,97,98,99,100,101,102,103,104,105,106,107,108,109,110,111,112,113,114,115,116,117,118,119,120,121,122]⟩)) (some (.t 5)) (some (.t 7)),none,[0,2]⟩,⟨some 2,.mv (.t 8),none,[3,0,1,2,3]⟩])
  .ret) .skip)) (.seq (.reg false [⟨some 9,.mv (.t 0),none,[]⟩,⟨some 10,.bin .mul (.t 9) (.d (.int .i64 2)),none,[0]⟩,⟨some 11,.mv (.t 0),none,[]⟩,⟨some 12,.bin .mul (.t 11) (.d (.int .i64 2)),none,[2]⟩,⟨some 13,.bin .add
  (.t 12) (.d (.int .i64 2)),none,[3]⟩,⟨some 14,.sstr (.d (.str
  ⟨#[48,48,48,49,48,50,48,51,48,52,48,53,48,54,48,55,48,56,48,57,49,48,49,49,49,50,49,51,49,52,49,53,49,54,49,55,49,56,49,57,50,48,50,49,50,50,50,51,50,52,50,53,50,54,50,55,50,56,50,57,51,48,51,49,51,50,51,51,51,52,51,53,51,54,51,55,51,56,51,57,52,48,52,49,52,50,52,51,52,52,52,53,52,54,52,55,52,56,52,57,53,48,53,49,53,50,53,51,53,52,53,53,53,54,53,55,53,56,53,57,54,48,54,49,54,50,54,51,54,52,54,53,54,54,54,55,54,56,54,57,55,48,55,49,55,50,55,51,55,52,55,53,55,54,55,55,55,56,55,57,56,48,56,49,56,50,56,51,56,52,56,53,56,54,56,55,56,56,56,57,57,48,57,49,57,50,57,51,57,52,57,53,57,54,57,55,57,56,57,57]⟩)) (some (.t 10)) (some (.t 13)),none,[1,4]⟩,⟨some 2,.mv (.t 14),none,[5,0,1,2,3,4,5]⟩]) .ret)))
theorem r_internal_strconv_small : fnOf Tryz.prog n_internal_strconv_small = some (c_internal_strconv_small, [.t 2], 15, false) := by kernel_rfl

/-- (tallymark/nat.Nat).Bits -/
abbrev n_nat_Nat_Bits : FuncId := 201
def c_nat_Nat_Bits : C := (.seq (.reg false [⟨some 1,.box 47 (.t 0),none,[]⟩,⟨some 2,.mv (.d (.int .i64 0)),none,[]⟩]) (.seq (.reg false [⟨some 4,.fa 0 (.t 1),none,[]⟩,⟨some 5,.load false 1 (.t 4),none,[0]⟩,⟨some 6,.len (.t 5),none,[1]⟩,⟨some
  3,.mv (.t 6),none,[2,0,1,2]⟩]) (.seq (.seq (.reg false [⟨some 7,.mv (.t 3),none,[]⟩,⟨some 8,.bin .eql (.t 7) (.d (.int .i64 0)),none,[0]⟩]) (.cond (.t 8) (.seq (.reg false [⟨some 2,.mv (.d (.int .i64 0)),none,[]⟩])
  .ret) .skip)) (.seq (.reg false [⟨some 9,.mv (.t 3),none,[]⟩,⟨some 10,.bin .sub (.t 9) (.d (.int .i64 1)),none,[0]⟩,⟨some 11,.bin .mul (.d (.int .i64 64)) (.t 10),none,[1]⟩,⟨some 12,.fa 0 (.t 1),none,[]⟩,⟨some 13,.load
  false 1 (.t 12),none,[3]⟩,⟨some 14,.mv (.t 3),none,[]⟩,⟨some 15,.bin .sub (.t 14) (.d (.int .i64 1)),none,[5]⟩,⟨some 16,.ix 1 (.t 13) (.t 15),none,[4,6]⟩,⟨some 17,.load false 1 (.t 16),none,[7]⟩,⟨some 18,.call 130 [(.t
  17)],none,[8]⟩,⟨some 19,.bin .add (.t 11) (.t 18),none,[2,9]⟩,⟨some 2,.mv (.t 19),none,[10,9,0,1,2,3,4,5,6,7,8,9,10]⟩]) .ret))))
theorem r_nat_Nat_Bits : fnOf Tryz.prog n_nat_Nat_Bits = some (c_nat_Nat_Bits, [.t 2], 20, false) := by kernel_rfl

/-- (tallymark/whole.Whole).Neg -/
abbrev n_whole_Whole_Neg : FuncId := 202
def c_whole_Whole_Neg : C := (.seq (.reg false [⟨some 1,.box 49 (.t 0),none,[]⟩,⟨some 2,.mv (.d (.bool false)),none,[]⟩]) (.seq (.reg false [⟨some 3,.fa 1 (.t 1),none,[]⟩,⟨some 4,.load false 1 (.t 3),none,[0]⟩,⟨some 2,.mv (.t 4),none,[1,0,1]⟩])
  .ret))
theorem r_whole_Whole_Neg : fnOf Tryz.prog n_whole_Whole_Neg = some (c_whole_Whole_Neg, [.t 2], 5, false) := by kernel_rfl

/-- (tallymark/chain.aMorris).good -/
abbrev n_chain_aMorris_good : FuncId := 206
def c_chain_aMorris_good : C := (.seq (.reg false [⟨some 2,.mv (.d (.bool false)),none,[]⟩]) (.seq (.reg false [⟨some 3,.mv (.t 0),none,[]⟩,⟨some 4,.call 211 [(.t 3)],none,[0]⟩,⟨some 2,.mv (.t 4),none,[1,1,0,1]⟩]) .ret))
theorem r_chain_aMorris_good : fnOf Tryz.prog n_chain_aMorris_good = some (c_chain_aMorris_good, [.t 2], 5, false) := by kernel_rfl

/-- (tallymark/chain.aMorris).step -/
abbrev n_chain_aMorris_step : FuncId := 208
def c_chain_aMorris_step : C := (.seq (.reg false [⟨some 6,.mv (.d (.bool false)),none,[]⟩,⟨some 7,.mv (.d (.int .i64 0)),none,[0]⟩]) (.seq (.reg false [⟨some 8,.mv (.t 1),none,[]⟩,⟨some 9,.mv (.t 0),none,[]⟩,⟨some 10,.mv (.t 2),none,[]⟩,⟨some
  11,.call 212 [(.t 8),(.t 9),(.t 10)],none,[0,1,2]⟩,⟨some 12,.ext (.t 11) 0,none,[3]⟩,⟨some 13,.ext (.t 11) 1,none,[3]⟩,⟨some 6,.mv (.t 12),none,[4,3,0,1,2,3,4,5]⟩,⟨some 7,.mv (.t 13),none,[5,6,0,1,2,3,4,5,6]⟩]) .ret))
theorem r_chain_aMorris_step : fnOf Tryz.prog n_chain_aMorris_step = some (c_chain_aMorris_step, [.t 6, .t 7], 14, false) := by kernel_rfl


end
end Go.Proofs.YtijbgbpjionfjaaGreatDoor.Am
