/- Parts of the proof: CodeD0. -/
import Derived.Test.YtijbgbpjionfjaaGreatDoorPb
set_option linter.unusedVariables false
set_option linter.unusedSimpArgs false
set_option maxRecDepth 100000
namespace Go.Proofs.YtijbgbpjionfjaaGreatDoor.Am
section
open Go.Proofs.YtijbgbpjionfjaaGreatDoor.Am
theorem mix : Tryz.prog.follows .mixedOrders = true := by kernel_rfl

abbrev t_nat_Nat : Nat := 47
abbrev t_tape_Tape : Nat := 117
/-- tallymark/tallymarklaw21.CmsMerges -/
abbrev o_5m : FuncId := 8
def o_a5 : C := (.seq (.reg false [⟨some 3,.box 26 (.t 0),none,[]⟩,⟨some 4,.box 96 (.t 1),none,[]⟩,⟨some 6,.mv (.d (.bool false)),none,[]⟩]) (.seq (.seq (.reg false [⟨some 29,.call 9 [],none,[]⟩,⟨some 30,.un .not (.t 29),none,[0]⟩])
 (.cond (.t 30) (.seq (.reg false [⟨some 6,.mv (.d (.bool false)),none,[]⟩]) .ret) .skip)) (.seq (.reg false [⟨some 31,.mv (.t 2),none,[]⟩,⟨some 32,.call 28 [(.t 31),(.d (.int .i64 400))],none,[0]⟩,⟨some 2,.mv (.t
 32),none,[1,1,0,1]⟩]) (.seq (.reg false [⟨some 33,.mv (.t 2),none,[]⟩,⟨some 34,.len (.t 33),none,[0]⟩,⟨some 35,.bin .quo (.t 34) (.d (.int .i64 3)),none,[1]⟩,⟨some 7,.mv (.t 35),none,[2,0,1,2]⟩]) (.seq (.reg true [⟨some
 36,.load true 6 (.t 3),none,[]⟩,⟨some 37,.ixa 2 1 (.t 4) (.d (.int .i64 0)),none,[]⟩,⟨some 38,.load false 1 (.t 37),none,[1]⟩,⟨some 39,.mv (.t 2),none,[]⟩,⟨some 40,.mv (.t 7),none,[]⟩,⟨some 41,.slice 1 (.t 39) none
 (some (.t 40)) none,none,[3,4]⟩,⟨some 42,.call 13 [(.t 41)],none,[5]⟩,⟨some 43,.call 21 [(.t 36),(.t 38),(.t 42)],none,[0,2,6,6]⟩,⟨some 44,.load true 6 (.t 3),none,[]⟩,⟨some 45,.ixa 2 1 (.t 4) (.d (.int .i64
 1)),none,[]⟩,⟨some 46,.load false 1 (.t 45),none,[9]⟩,⟨some 47,.mv (.t 2),none,[]⟩,⟨some 48,.mv (.t 7),none,[]⟩,⟨some 49,.mv (.t 7),none,[]⟩,⟨some 50,.bin .mul (.d (.int .i64 2)) (.t 49),none,[13]⟩,⟨some 51,.slice 1 (.t
 47) (some (.t 48)) (some (.t 50)) none,none,[11,12,14]⟩,⟨some 52,.call 13 [(.t 51)],none,[15,7]⟩,⟨some 53,.call 21 [(.t 44),(.t 46),(.t 52)],none,[8,10,16,16]⟩,⟨some 8,.mv (.t 43),none,[7,17,0,1,2,3,4,5,6,7]⟩,⟨some
 9,.mv (.t 53),none,[17,18,0,1,2,3,4,5,6,7,8,9,10,11,12,13,14,15,16,17,18]⟩]) (.seq (.seq (.reg false [⟨some 54,.mv (.t 8),none,[]⟩,⟨some 55,.pnl false (.t 54),none,[0]⟩,⟨some 56,.mv (.t 55),none,[1]⟩,⟨some 57,.mv (.t
 9),some (56,false),[2]⟩,⟨some 58,.pnl false (.t 57),some (56,false),[3,2]⟩,⟨some 59,.pick (.t 56) (.d (.bool true)) (.t 58),none,[2,4]⟩]) (.cond (.t 59) (.seq (.reg false [⟨some 6,.mv (.d (.bool false)),none,[]⟩]) .ret)
 .skip)) (.seq (.reg false [⟨some 60,.mv (.t 8),none,[]⟩,⟨some 61,.call 26 [(.t 60)],none,[0]⟩,⟨some 10,.new 32 [(.int .i64 0),(.int .i64 0),(.int .i64 0),(.int .i64 0),(.int .i64 0)],none,[]⟩,⟨none,.store 5 (.t 10) (.t
 61),none,[2,1,1,0,1,2]⟩]) (.seq (.reg false [⟨some 62,.mv (.t 8),none,[]⟩,⟨some 63,.call 29 [(.t 62)],none,[0]⟩,⟨some 64,.mv (.t 9),none,[]⟩,⟨some 65,.call 29 [(.t 64)],none,[2,1]⟩,⟨some 11,.mv (.t
 63),none,[1,3,0,1]⟩,⟨some 12,.mv (.t 65),none,[3,4,0,1,2,3,4]⟩]) (.seq (.reg true [⟨some 66,.mv (.t 2),none,[]⟩,⟨some 67,.mv (.t 7),none,[]⟩,⟨some 68,.bin .mul (.d (.int .i64 2)) (.t 67),none,[1]⟩,⟨some 69,.slice 1 (.t
 66) (some (.t 68)) none none,none,[0,2]⟩,⟨some 70,.call 13 [(.t 69)],none,[3]⟩,⟨some 71,.mv (.t 2),none,[]⟩,⟨some 72,.mv (.t 7),none,[]⟩,⟨some 73,.bin .mul (.d (.int .i64 2)) (.t 72),none,[6]⟩,⟨some 74,.slice 1 (.t 71)
 (some (.t 73)) none none,none,[5,7]⟩,⟨some 75,.call 13 [(.t 74)],none,[8,4]⟩,⟨some 13,.mv (.t 70),none,[4,9,0,1,2,3,4]⟩,⟨some 14,.mv (.t 75),none,[9,10,0,1,2,3,4,5,6,7,8,9,10]⟩]) (.seq (.reg false [⟨some 76,.mv (.t
 8),none,[]⟩,⟨some 77,.mv (.t 13),none,[]⟩,⟨some 78,.mv (.t 9),none,[]⟩,⟨some 79,.call 43 [(.t 76),(.t 77),(.t 78)],none,[0,1,2]⟩,⟨some 15,.mv (.t 79),none,[3,3,0,1,2,3]⟩]) (.seq (.seq (.reg false [⟨some 80,.fa 0 (.t
 10),none,[]⟩,⟨some 81,.load false 1 (.t 80),none,[0]⟩,⟨some 82,.mv (.d (.int .i64 0)),none,[]⟩]) (.block 0 (.loop (.seq (.reg false [⟨some 83,.bin .lss (.t 82) (.t 81),none,[]⟩]) (.seq (.cond (.t 83) .skip (.exit 0))
 (.seq (.block 1 (.seq (.reg false [⟨some 84,.mv (.t 82),none,[]⟩,⟨some 16,.mv (.t 84),none,[0,0]⟩]) (.seq (.reg false [⟨some 85,.fa 1 (.t 10),none,[]⟩,⟨some 86,.load false 1 (.t 85),none,[0]⟩,⟨some 87,.mv (.d (.int .i64
 0)),none,[]⟩]) (.block 2 (.loop (.seq (.reg false [⟨some 88,.bin .lss (.t 87) (.t 86),none,[]⟩]) (.seq (.cond (.t 88) .skip (.exit 2)) (.seq (.block 3 (.seq (.reg false [⟨some 89,.mv (.t 87),none,[]⟩,⟨some 17,.mv (.t
 89),none,[0,0]⟩]) (.seq (.reg false [⟨some 91,.mv (.t 11),none,[]⟩,⟨some 92,.mv (.t 16),none,[]⟩,⟨some 93,.mv (.t 17),none,[]⟩,⟨some 94,.call 24 [(.t 91),(.t 92),(.t 93)],none,[0,1,2]⟩,⟨some 90,.mv (.t
 94),none,[3]⟩,⟨some 95,.ext (.t 90) 0,none,[4]⟩,⟨some 96,.ext (.t 90) 1,none,[4]⟩,⟨some 18,.new 64 [(.int .i64 0),(.int .i64 0),(.bool false)],none,[]⟩,⟨none,.store 3 (.t 18) (.t 95),none,[7,5,3,0,1,2,3,4,5,7]⟩,⟨some
 19,.mv (.t 96),none,[6,8,0,1,2,3,4,5,6,7,8]⟩]) (.seq (.reg false [⟨some 98,.mv (.t 12),none,[]⟩,⟨some 99,.mv (.t 16),none,[]⟩,⟨some 100,.mv (.t 17),none,[]⟩,⟨some 101,.call 24 [(.t 98),(.t 99),(.t
 100)],none,[0,1,2]⟩,⟨some 97,.mv (.t 101),none,[3]⟩,⟨some 102,.ext (.t 97) 0,none,[4]⟩,⟨some 103,.ext (.t 97) 1,none,[4]⟩,⟨some 20,.new 64 [(.int .i64 0),(.int .i64 0),(.bool false)],none,[]⟩,⟨none,.store 3 (.t 20) (.t
 102),none,[7,5,3,0,1,2,3,4,5,7]⟩,⟨some 21,.mv (.t 103),none,[6,8,0,1,2,3,4,5,6,7,8]⟩]) (.seq (.reg false [⟨some 105,.fa 2 (.t 10),none,[]⟩,⟨some 106,.load true 3 (.t 105),none,[0]⟩,⟨some 107,.mv (.t 14),none,[]⟩,⟨some
 108,.load true 3 (.t 18),none,[]⟩,⟨some 109,.load true 3 (.t 20),none,[]⟩,⟨some 110,.call 44 [(.t 106),(.t 107),(.t 108),(.t 109)],none,[1,2,3,4]⟩,⟨some 104,.mv (.t 110),none,[5]⟩,⟨some 111,.ext (.t 104)
 0,none,[6]⟩,⟨some 112,.ext (.t 104) 1,none,[6]⟩,⟨some 22,.new 64 [(.int .i64 0),(.int .i64 0),(.bool false)],none,[]⟩,⟨none,.store 3 (.t 22) (.t 111),none,[9,7,5,0,1,2,3,4,5,6,7,9]⟩,⟨some 23,.mv (.t
 112),none,[8,10,0,1,2,3,4,5,6,7,8,9,10]⟩]) (.seq (.seq (.reg false [⟨some 113,.mv (.t 23),none,[]⟩,⟨some 114,.bin .neq (.t 113) (.d (.int .i64 0)),none,[0]⟩]) (.cond (.t 114) (.seq (.reg false [⟨some 115,.mv (.t
 15),none,[]⟩,⟨some 116,.mv (.t 23),none,[]⟩,⟨some 117,.bin .eql (.t 115) (.t 116),none,[0,1]⟩,⟨some 118,.mv (.t 117),none,[2]⟩,⟨some 119,.mv (.t 8),some (118,true),[3]⟩,⟨some 120,.mv (.t 11),some (118,true),[3]⟩,⟨some
 121,.call 30 [(.t 119),(.t 120)],some (118,true),[4,5,3,3]⟩,⟨some 122,.pick (.t 118) (.t 121) (.d (.bool false)),none,[3,6]⟩,⟨some 123,.mv (.t 122),none,[7,6]⟩,⟨some 124,.mv (.t 9),some (123,true),[8]⟩,⟨some 125,.mv (.t
 12),some (123,true),[8]⟩,⟨some 126,.call 30 [(.t 124),(.t 125)],some (123,true),[9,10,8,8]⟩,⟨some 127,.pick (.t 123) (.t 126) (.d (.bool false)),none,[8,11]⟩,⟨some 128,.mv (.t 127),none,[12,11]⟩,⟨some 129,.mv (.t
 13),some (128,true),[13]⟩,⟨some 130,.call 17 [(.t 129)],some (128,true),[14,13,13]⟩,⟨some 131,.mv (.t 14),some (128,true),[13]⟩,⟨some 132,.call 17 [(.t 131)],some (128,true),[16,15,13]⟩,⟨some 133,.bin .eql (.t 130) (.t
 132),some (128,true),[15,17,13]⟩,⟨some 134,.pick (.t 128) (.t 133) (.d (.bool false)),none,[13,18]⟩,⟨some 6,.mv (.t 134),none,[19,17,0,1,2,3,4,5,6,7,8,9,10,11,12,13,14,15,16,17,18,19]⟩]) .ret) .skip)) (.seq (.reg false
 [⟨some 136,.mv (.t 8),none,[]⟩,⟨some 137,.mv (.t 16),none,[]⟩,⟨some 138,.mv (.t 17),none,[]⟩,⟨some 139,.call 24 [(.t 136),(.t 137),(.t 138)],none,[0,1,2]⟩,⟨some 135,.mv (.t 139),none,[3]⟩,⟨some 140,.ext (.t 135)
 0,none,[4]⟩,⟨some 141,.ext (.t 135) 1,none,[4]⟩,⟨some 24,.new 64 [(.int .i64 0),(.int .i64 0),(.bool false)],none,[]⟩,⟨none,.store 3 (.t 24) (.t 140),none,[7,5,3,0,1,2,3,4,5,7]⟩,⟨some 25,.mv (.t
 141),none,[6,8,0,1,2,3,4,5,6,7,8]⟩]) (.seq (.reg false [⟨some 142,.mv (.t 15),none,[]⟩,⟨some 143,.bin .eql (.t 142) (.d (.int .i64 0)),none,[0]⟩,⟨some 144,.mv (.t 143),none,[1]⟩,⟨some 145,.load true 3 (.t 24),some
 (144,true),[2]⟩,⟨some 146,.load true 3 (.t 22),some (144,true),[2]⟩,⟨some 147,.aeq true [0,0,1] (.t 145) (.t 146),some (144,true),[3,4,2]⟩,⟨some 148,.pick (.t 144) (.t 147) (.d (.bool false)),none,[2,5]⟩]) (.cond (.t
 148) (.seq (.reg false [⟨some 6,.mv (.d (.bool false)),none,[]⟩]) .ret) .skip))))))))) (.reg false [⟨some 149,.bin .add (.t 87) (.d (.int .i64 1)),none,[]⟩,⟨some 87,.mv (.t 149),none,[0]⟩]))))))))) (.reg false [⟨some
 150,.bin .add (.t 82) (.d (.int .i64 1)),none,[]⟩,⟨some 82,.mv (.t 150),none,[0]⟩]))))))) (.seq (.reg false [⟨some 151,.mv (.t 8),none,[]⟩,⟨some 152,.call 23 [(.t 151)],none,[0]⟩,⟨some 26,.mv (.t 152),none,[1,1,0,1]⟩])
 (.seq (.reg false [⟨some 153,.mv (.t 26),none,[]⟩,⟨some 154,.mv (.t 26),none,[]⟩,⟨some 155,.ix 2 (.t 154) (.d (.int .i64 0)),none,[1]⟩,⟨some 156,.fa 1 (.t 155),none,[2]⟩,⟨some 157,.load false 1 (.t 156),none,[3]⟩,⟨some
 158,.bin .add (.t 157) (.d (.int .u64 1)),none,[4]⟩,⟨some 159,.bin .rem (.t 158) (.d (.int .u64 2305843009213693951)),none,[5]⟩,⟨some 160,.ix 2 (.t 153) (.d (.int .i64 0)),none,[0,0,1,2,3,4,5,6]⟩,⟨some 161,.fa 1 (.t
 160),none,[7,0,1,2,3,4,5,6]⟩,⟨none,.store 1 (.t 161) (.t 159),none,[8,6,0,1,2,3,4,5,6]⟩]) (.seq (.reg false [⟨some 163,.load true 5 (.t 10),none,[]⟩,⟨some 164,.mv (.t 26),none,[]⟩,⟨some 165,.call 11 [(.t 163),(.t
 164)],none,[0,1]⟩,⟨some 162,.mv (.t 165),none,[2]⟩,⟨some 166,.ext (.t 162) 0,none,[3]⟩,⟨some 167,.ext (.t 162) 1,none,[3]⟩,⟨some 27,.mv (.t 166),none,[4,2,0,1,2,3,4]⟩,⟨some 28,.mv (.t 167),none,[5,6,0,1,2,3,4,5,6]⟩])
 (.seq (.reg false [⟨some 168,.mv (.t 15),none,[]⟩,⟨some 169,.bin .eql (.t 168) (.d (.int .i64 0)),none,[0]⟩,⟨some 170,.mv (.t 169),none,[1]⟩,⟨some 171,.mv (.t 8),some (170,true),[2]⟩,⟨some 172,.call 20 [(.t 171)],some
 (170,true),[3,2,2]⟩,⟨some 173,.mv (.t 11),some (170,true),[2]⟩,⟨some 174,.call 20 [(.t 173)],some (170,true),[5,4,2]⟩,⟨some 175,.mv (.t 12),some (170,true),[2]⟩,⟨some 176,.call 20 [(.t 175)],some
 (170,true),[7,6,2]⟩,⟨some 177,.bin .add (.t 174) (.t 176),some (170,true),[6,8,2]⟩,⟨some 178,.bin .eql (.t 172) (.t 177),some (170,true),[4,9,2]⟩,⟨some 179,.pick (.t 170) (.t 178) (.d (.bool false)),none,[2,10]⟩,⟨some
 180,.mv (.t 179),none,[11,8]⟩,⟨some 181,.mv (.t 9),some (180,true),[12]⟩,⟨some 182,.mv (.t 12),some (180,true),[12]⟩,⟨some 183,.call 30 [(.t 181),(.t 182)],some (180,true),[13,14,12,12]⟩,⟨some 184,.pick (.t 180) (.t
 183) (.d (.bool false)),none,[12,15]⟩,⟨some 185,.mv (.t 184),none,[16,15]⟩,⟨some 186,.mv (.t 13),some (185,true),[17]⟩,⟨some 187,.call 17 [(.t 186)],some (185,true),[18,17,17]⟩,⟨some 188,.mv (.t 14),some
 (185,true),[17]⟩,⟨some 189,.call 17 [(.t 188)],some (185,true),[20,19,17]⟩,⟨some 190,.bin .eql (.t 187) (.t 189),some (185,true),[19,21,17]⟩,⟨some 191,.pick (.t 185) (.t 190) (.d (.bool false)),none,[17,22]⟩,⟨some
 192,.mv (.t 191),none,[23,21]⟩,⟨some 193,.mv (.t 27),some (192,true),[24]⟩,⟨some 194,.pnl true (.t 193),some (192,true),[25,24]⟩,⟨some 195,.pick (.t 192) (.t 194) (.d (.bool false)),none,[24,26]⟩,⟨some 196,.mv (.t
 195),none,[27,24]⟩,⟨some 197,.mv (.t 8),some (196,true),[28]⟩,⟨some 198,.mv (.t 13),some (196,true),[28]⟩,⟨some 199,.mv (.t 27),some (196,true),[28]⟩,⟨some 200,.call 43 [(.t 197),(.t 198),(.t 199)],some
 (196,true),[29,30,31,28,28]⟩,⟨some 201,.bin .eql (.t 200) (.d (.int .i64 10)),some (196,true),[32,28]⟩,⟨some 202,.pick (.t 196) (.t 201) (.d (.bool false)),none,[28,33]⟩,⟨some 203,.mv (.t 202),none,[34,32]⟩,⟨some
 204,.mv (.t 8),some (203,true),[35]⟩,⟨some 205,.mv (.t 27),some (203,true),[35]⟩,⟨some 206,.call 30 [(.t 204),(.t 205)],some (203,true),[36,37,35,35]⟩,⟨some 207,.un .not (.t 206),some (203,true),[38,35]⟩,⟨some 208,.pick
 (.t 203) (.t 207) (.d (.bool false)),none,[35,39]⟩,⟨some 6,.mv (.t 208),none,[40,38,0,1,2,3,4,5,6,7,8,9,10,11,12,13,14,15,16,17,18,19,20,21,22,23,24,25,26,27,28,29,30,31,32,33,34,35,36,37,38,39,40]⟩]) .ret)))))))))))))))
theorem o_a6 : fnOf Tryz.prog o_5m = some (o_a5, [.t 6], 209, false) := by kernel_rfl

/-- tallymark/tallymarklaw21.awake -/
abbrev o_a7 : FuncId := 9
def o_a8 : C := (.seq (.reg false [⟨some 0,.mv (.d (.bool false)),none,[]⟩]) (.seq (.reg false [⟨some 6,.build [(.int .i64 0),(.int .i64 0),(.int .i64 0)] [(0,1,(.d (.int .i64 2))),(1,1,(.d (.int .i64 3))),(2,1,(.d (.int .i64
 4)))],none,[]⟩,⟨some 7,.build [(.int .i64 0),(.int .i64 0),(.int .i64 0),(.int .i64 0),(.int .i64 0)] [(0,1,(.d (.int .i64 1))),(1,1,(.d (.int .i64 1))),(2,3,(.t 6))],none,[0]⟩,⟨some 8,.build [(.int .u64 0),(.int .u64
 0)] [(0,1,(.d (.int .u64 1)))],none,[]⟩,⟨some 9,.bsl 62 2 1 [(.int .u64 0),(.int .u64 0)] [(0,2,(.t 8))],none,[2]⟩,⟨some 10,.call 11 [(.t 7),(.t 9)],none,[1,3]⟩,⟨some 5,.mv (.t 10),none,[4]⟩,⟨some 11,.ext (.t 5)
 0,none,[5]⟩,⟨some 12,.ext (.t 5) 1,none,[5]⟩,⟨some 1,.mv (.t 11),none,[6,4,0,1,2,3,4,5,6]⟩,⟨some 2,.mv (.t 12),none,[7,8,0,1,2,3,4,5,6,7,8]⟩]) (.seq (.seq (.reg false [⟨some 13,.mv (.t 2),none,[]⟩,⟨some 14,.bin .neq (.t
 13) (.d (.int .i64 0)),none,[0]⟩,⟨some 15,.mv (.t 14),none,[1]⟩,⟨some 16,.mv (.t 1),some (15,false),[2]⟩,⟨some 17,.pnl false (.t 16),some (15,false),[3,2]⟩,⟨some 18,.pick (.t 15) (.d (.bool true)) (.t
 17),none,[2,4]⟩,⟨some 19,.mv (.t 18),none,[5,2]⟩,⟨some 20,.mv (.t 1),some (19,false),[6]⟩,⟨some 21,.call 13 [(.d .nilsl)],some (19,false),[6,6]⟩,⟨some 22,.call 14 [(.t 20),(.t 21),(.d (.int .u64 5)),(.d (.int .i64
 3))],some (19,false),[7,8,8,6]⟩,⟨some 23,.bin .neq (.t 22) (.d (.int .i64 0)),some (19,false),[9,6]⟩,⟨some 24,.pick (.t 19) (.d (.bool true)) (.t 23),none,[6,10]⟩,⟨some 25,.mv (.t 24),none,[11,9]⟩,⟨some 26,.mv (.t
 1),some (25,false),[12]⟩,⟨some 27,.call 13 [(.d .nilsl)],some (25,false),[12,12]⟩,⟨some 28,.call 14 [(.t 26),(.t 27),(.d (.int .u64 9)),(.d (.int .i64 2))],some (25,false),[13,14,14,12]⟩,⟨some 29,.bin .neq (.t 28) (.d
 (.int .i64 0)),some (25,false),[15,12]⟩,⟨some 30,.pick (.t 25) (.d (.bool true)) (.t 29),none,[12,16]⟩]) (.cond (.t 30) (.seq (.reg false [⟨some 0,.mv (.d (.bool false)),none,[]⟩]) .ret) .skip)) (.seq (.reg false [⟨some
 32,.mv (.t 1),none,[]⟩,⟨some 33,.call 16 [(.t 32),(.d (.int .u64 77))],none,[0]⟩,⟨some 31,.mv (.t 33),none,[1]⟩,⟨some 34,.ext (.t 31) 0,none,[2]⟩,⟨some 35,.ext (.t 31) 1,none,[2]⟩,⟨some 3,.new 51 [.nilsl,(.bool
 false),.nilsl],none,[]⟩,⟨none,.store 3 (.t 3) (.t 34),none,[5,3,1,0,1,2,3,5]⟩,⟨some 4,.mv (.t 35),none,[4,6,0,1,2,3,4,5,6]⟩]) (.seq (.reg false [⟨some 36,.mv (.t 4),none,[]⟩,⟨some 37,.bin .eql (.t 36) (.d (.int .i64
 0)),none,[0]⟩,⟨some 38,.mv (.t 37),none,[1]⟩,⟨some 39,.load true 3 (.t 3),some (38,true),[2]⟩,⟨some 40,.call 22 [(.t 39)],some (38,true),[3,2,2]⟩,⟨some 41,.bin .eql (.t 40) (.d (.str ⟨#[53]⟩)),some
 (38,true),[4,2]⟩,⟨some 42,.pick (.t 38) (.t 41) (.d (.bool false)),none,[2,5]⟩,⟨some 43,.mv (.t 42),none,[6,4]⟩,⟨some 44,.mv (.t 1),some (43,true),[7]⟩,⟨some 45,.call 20 [(.t 44)],some (43,true),[8,7,7]⟩,⟨some 46,.bin
 .eql (.t 45) (.d (.int .i64 5)),some (43,true),[9,7]⟩,⟨some 47,.pick (.t 43) (.t 46) (.d (.bool false)),none,[7,10]⟩,⟨some 0,.mv (.t 47),none,[11,9,0,1,2,3,4,5,6,7,8,9,10,11]⟩]) .ret)))))
theorem o_lc : fnOf Tryz.prog o_a7 = some (o_a8, [.t 0], 48, false) := by kernel_rfl

/-- (tallymark/tallymarklaw21.Draw).Param -/
abbrev o_5n : FuncId := 10
def o_a9 : C := (.seq (.reg false [⟨some 1,.box 26 (.t 0),none,[]⟩,⟨some 2,.new 32 [(.int .i64 0),(.int .i64 0),(.int .i64 0),(.int .i64 0),(.int .i64 0)],none,[]⟩]) (.seq (.reg false [⟨some 6,.fa 2 (.t 1),none,[]⟩,⟨some 7,.load true 3
 (.t 6),none,[0]⟩,⟨some 8,.build [(.int .i64 0),(.int .i64 0),(.bool false)] [],none,[]⟩,⟨some 9,.call 45 [(.t 7),(.t 8)],none,[1,2]⟩,⟨some 5,.mv (.t 9),none,[3]⟩,⟨some 10,.ext (.t 5) 0,none,[4]⟩,⟨some 11,.ext (.t 5)
 1,none,[4]⟩,⟨some 3,.new 23 [(.int .i64 0),(.int .i64 0),(.int .i64 0)],none,[]⟩,⟨some 4,.new 100 [(.int .i64 0),(.int .i64 0),(.bool false)],none,[]⟩,⟨none,.store 3 (.t 3) (.t
 10),none,[7,5,3,0,1,2,3,4,5,7,8]⟩,⟨none,.store 3 (.t 4) (.t 11),none,[8,6,9,0,1,2,3,4,5,6,7,8,9]⟩]) (.seq (.reg true [⟨some 12,.fa 0 (.t 1),none,[]⟩,⟨some 13,.load false 1 (.t 12),none,[0]⟩,⟨some 14,.bin .and (.t 13)
 (.d (.int .i64 3)),none,[1]⟩,⟨some 15,.bin .add (.d (.int .i64 1)) (.t 14),none,[2]⟩,⟨some 16,.fa 1 (.t 1),none,[]⟩,⟨some 17,.load false 1 (.t 16),none,[4]⟩,⟨some 18,.bin .and (.t 17) (.d (.int .i64
 255)),none,[5]⟩,⟨some 19,.bin .rem (.t 18) (.d (.int .i64 64)),none,[6]⟩,⟨some 20,.bin .add (.d (.int .i64 1)) (.t 19),none,[7]⟩,⟨some 21,.load true 3 (.t 3),none,[]⟩,⟨some 22,.call 46 [(.t 21)],none,[9]⟩,⟨some
 23,.build [(.int .i64 0),(.int .i64 0),(.int .i64 0),(.int .i64 0),(.int .i64 0)] [(0,1,(.t 15)),(1,1,(.t 20)),(2,3,(.t 22))],none,[3,8,10]⟩,⟨none,.store 5 (.t 2) (.t 23),none,[11,10,0,1,2,3,4,5,6,7,8,9,10,11]⟩]) .ret)))
theorem o_ld : fnOf Tryz.prog o_5n = some (o_a9, [.cell 2 true 5], 24, false) := by kernel_rfl

/-- tallymark/cms.With -/
abbrev o_aa : FuncId := 11
def o_ab : C := (.seq (.reg false [⟨some 2,.box 32 (.t 0),none,[]⟩,⟨some 4,.mv (.d .nilp),none,[]⟩,⟨some 5,.mv (.d (.int .i64 0)),none,[1]⟩]) (.seq (.seq (.reg false [⟨some 13,.load true 5 (.t 2),none,[]⟩,⟨some 14,.call 34 [(.t
 13)],none,[0]⟩,⟨some 6,.mv (.t 14),none,[1,1,0,1]⟩]) (.block 0 (.seq (.reg false [⟨some 16,.mv (.t 6),none,[]⟩,⟨some 17,.bin .neq (.t 16) (.d (.int .i64 0)),none,[0]⟩,⟨some 15,.mv (.t 17),none,[1]⟩]) (.cond (.t 15)
 (.seq (.reg false [⟨some 18,.mv (.t 6),none,[]⟩,⟨some 4,.mv (.d .nilp),none,[]⟩,⟨some 5,.mv (.t 18),none,[0,1,0,1]⟩]) .ret) (.seq (.reg false [⟨some 20,.mv (.t 1),none,[]⟩,⟨some 21,.len (.t 20),none,[0]⟩,⟨some 22,.fa 0
 (.t 2),none,[]⟩,⟨some 23,.load false 1 (.t 22),none,[2]⟩,⟨some 24,.bin .neq (.t 21) (.t 23),none,[1,3]⟩,⟨some 19,.mv (.t 24),none,[4]⟩]) (.cond (.t 19) (.seq (.reg false [⟨some 4,.mv (.d .nilp),none,[]⟩,⟨some 5,.mv (.d
 (.int .i64 10)),none,[0,0]⟩]) .ret) .skip)))))) (.seq (.reg false [⟨some 25,.load true 5 (.t 2),none,[]⟩,⟨some 26,.build [(.int .i64 0),(.int .i64 0),(.int .i64 0),(.int .i64 0),(.int .i64 0),.nilsl,(.int .i64 0)]
 [(0,5,(.t 25))],none,[0]⟩,⟨some 27,.box 106 (.t 26),none,[1]⟩,⟨some 7,.mv (.t 27),none,[2,0,1,2]⟩]) (.seq (.seq (.reg false [⟨some 28,.mv (.t 1),none,[]⟩,⟨some 29,.len (.t 28),none,[0]⟩,⟨some 30,.mv (.d (.int .i64
 0)),none,[]⟩]) (.block 1 (.loop (.seq (.reg false [⟨some 31,.bin .lss (.t 30) (.t 29),none,[]⟩]) (.seq (.cond (.t 31) .skip (.exit 1)) (.seq (.block 2 (.seq (.reg false [⟨some 32,.ix 2 (.t 28) (.t 30),none,[]⟩,⟨some
 33,.load true 2 (.t 32),none,[0]⟩,⟨some 9,.new 62 [(.int .u64 0),(.int .u64 0)],none,[]⟩,⟨none,.store 2 (.t 9) (.t 33),none,[2,1,0,1,2]⟩]) (.seq (.seq (.reg false [⟨some 34,.load true 2 (.t 9),none,[]⟩,⟨some 35,.call 47
 [(.t 34)],none,[0]⟩,⟨some 10,.mv (.t 35),none,[1,1,0,1]⟩]) (.seq (.reg false [⟨some 36,.mv (.t 10),none,[]⟩,⟨some 37,.bin .neq (.t 36) (.d (.int .i64 0)),none,[0]⟩]) (.cond (.t 37) (.seq (.reg false [⟨some 38,.mv (.t
 10),none,[]⟩,⟨some 4,.mv (.d .nilp),none,[]⟩,⟨some 5,.mv (.t 38),none,[0,1,0,1]⟩]) .ret) .skip))) (.seq (.reg false [⟨some 40,.fa 2 (.t 2),none,[]⟩,⟨some 41,.load true 3 (.t 40),none,[0]⟩,⟨some 42,.fa 1 (.t
 2),none,[]⟩,⟨some 43,.load false 1 (.t 42),none,[2]⟩,⟨some 44,.call 48 [(.t 41),(.t 43)],none,[1,3]⟩,⟨some 39,.mv (.t 44),none,[4]⟩,⟨some 45,.ext (.t 39) 0,none,[5]⟩,⟨some 46,.ext (.t 39) 1,none,[5]⟩,⟨some 11,.mv (.t
 45),none,[6,4,0,1,2,3,4,5,6]⟩,⟨some 12,.mv (.t 46),none,[7,8,0,1,2,3,4,5,6,7,8]⟩]) (.seq (.seq (.reg false [⟨some 47,.mv (.t 12),none,[]⟩,⟨some 48,.bin .neq (.t 47) (.d (.int .i64 0)),none,[0]⟩]) (.cond (.t 48) (.seq
 (.reg false [⟨some 49,.mv (.t 12),none,[]⟩,⟨some 4,.mv (.d .nilp),none,[]⟩,⟨some 5,.mv (.t 49),none,[0,1,0,1]⟩]) .ret) .skip)) (.reg true [⟨some 50,.mv (.t 7),none,[]⟩,⟨some 51,.mv (.t 7),none,[]⟩,⟨some 52,.chk (.t
 51),none,[1]⟩,⟨some 53,.fa 5 (.t 52),none,[2]⟩,⟨some 54,.load false 1 (.t 53),none,[3]⟩,⟨some 55,.load true 2 (.t 9),none,[]⟩,⟨some 56,.mv (.t 11),none,[]⟩,⟨some 57,.build [(.int .u64 0),(.int .u64 0),.nilp] [(0,2,(.t
 55)),(2,1,(.t 56))],none,[5,6]⟩,⟨some 58,.bsl 111 3 1 [(.int .u64 0),(.int .u64 0),.nilp] [(0,3,(.t 57))],none,[7]⟩,⟨some 59,.app 111 3 24 (.t 54) (.t 58),none,[4,8]⟩,⟨some 60,.chk (.t
 50),none,[0,0,1,2,3,4,5,6,7,8,9]⟩,⟨some 61,.fa 5 (.t 60),none,[10,0,1,2,3,4,5,6,7,8,9]⟩,⟨none,.store 1 (.t 61) (.t 59),none,[11,9,9,0,1,2,3,4,5,6,7,8,9]⟩])))))) (.reg false [⟨some 62,.bin .add (.t 30) (.d (.int .i64
 1)),none,[]⟩,⟨some 30,.mv (.t 62),none,[0]⟩]))))))) (.seq (.reg false [⟨some 63,.mv (.t 7),none,[]⟩,⟨some 4,.mv (.t 63),none,[0,0]⟩,⟨some 5,.mv (.d (.int .i64 0)),none,[1,0,1]⟩]) .ret)))))
theorem o_le : fnOf Tryz.prog o_aa = some (o_ab, [.t 4, .t 5], 64, false) := by kernel_rfl

/-- (tallymark/tallymarklaw21.Draw).Hashes -/
abbrev o_ac : FuncId := 12
def o_ad : C := (.seq (.reg false [⟨some 1,.box 26 (.t 0),none,[]⟩,⟨some 2,.mv (.d .nilsl),none,[]⟩]) (.seq (.reg false [⟨some 3,.mv (.d .nilsl),none,[]⟩]) (.seq (.reg false [⟨some 6,.mkf (.func 49) [(.t 1)],none,[]⟩,⟨some 4,.mv (.t
 6),none,[0,0]⟩]) (.seq (.seq (.reg false [⟨some 7,.fa 0 (.t 1),none,[]⟩,⟨some 8,.load false 1 (.t 7),none,[0]⟩,⟨some 9,.bin .and (.t 8) (.d (.int .i64 3)),none,[1]⟩,⟨some 10,.bin .add (.d (.int .i64 1)) (.t
 9),none,[2]⟩,⟨some 11,.mv (.d (.int .i64 0)),none,[]⟩]) (.block 0 (.loop (.seq (.reg false [⟨some 12,.bin .lss (.t 11) (.t 10),none,[]⟩]) (.seq (.cond (.t 12) .skip (.exit 0)) (.seq (.block 1 (.seq (.reg false [⟨some
 13,.mv (.t 11),none,[]⟩,⟨some 5,.mv (.t 13),none,[0,0]⟩]) (.reg false [⟨some 14,.mv (.t 3),none,[]⟩,⟨some 15,.mv (.t 4),none,[]⟩,⟨some 16,.mv (.t 5),none,[]⟩,⟨some 17,.bin .mul (.d (.int .i64 2)) (.t 16),none,[2]⟩,⟨some
 18,.callv (.t 15) [(.t 17)],none,[1,3]⟩,⟨some 19,.mv (.t 4),none,[]⟩,⟨some 20,.mv (.t 5),none,[]⟩,⟨some 21,.bin .mul (.d (.int .i64 2)) (.t 20),none,[6]⟩,⟨some 22,.bin .add (.t 21) (.d (.int .i64 1)),none,[7]⟩,⟨some
 23,.callv (.t 19) [(.t 22)],none,[5,8,4]⟩,⟨some 24,.build [(.int .u64 0),(.int .u64 0)] [(0,1,(.t 18)),(1,1,(.t 23))],none,[4,9]⟩,⟨some 25,.bsl 62 2 1 [(.int .u64 0),(.int .u64 0)] [(0,2,(.t 24))],none,[10]⟩,⟨some
 26,.app 62 2 16 (.t 14) (.t 25),none,[0,11,9]⟩,⟨some 3,.mv (.t 26),none,[12,12,0,1,2,3,4,5,6,7,8,9,10,11,12]⟩]))) (.reg false [⟨some 27,.bin .add (.t 11) (.d (.int .i64 1)),none,[]⟩,⟨some 11,.mv (.t
 27),none,[0]⟩]))))))) (.seq (.reg false [⟨some 28,.mv (.t 3),none,[]⟩,⟨some 2,.mv (.t 28),none,[0,0]⟩]) .ret)))))
theorem o_lf : fnOf Tryz.prog o_ac = some (o_ad, [.t 2], 29, false) := by kernel_rfl

/-- tallymark/tape.New -/
abbrev o_1o : FuncId := 13
def o_ae : C := (.seq (.reg false [⟨some 2,.mv (.d .nilp),none,[]⟩]) (.seq (.reg false [⟨some 3,.mv (.t 0),none,[]⟩,⟨some 4,.mv (.t 0),none,[]⟩,⟨some 5,.len (.t 4),none,[1]⟩,⟨some 6,.mm false [(.t 5),(.d (.int .i64
 1048576))],none,[2]⟩,⟨some 7,.slice 1 (.t 3) none (some (.t 6)) none,none,[0,3]⟩,⟨some 8,.call 50 [(.t 7)],none,[4]⟩,⟨some 9,.build [(.int .i64 0),(.bool false),.nilsl] [(2,1,(.t 8))],none,[5]⟩,⟨some 10,.box 117 (.t
 9),none,[6]⟩,⟨some 2,.mv (.t 10),none,[7,5,0,1,2,3,4,5,6,7]⟩]) .ret))
theorem o_lg : fnOf Tryz.prog o_1o = some (o_ae, [.t 2], 11, false) := by kernel_rfl

/-- (*tallymark/cms.Sketch).Update -/
abbrev o_1p : FuncId := 14
def o_2b : C := (.seq (.reg false [⟨some 8,.mv (.d (.int .i64 0)),none,[]⟩]) (.seq (.block 0 (.seq (.reg false [⟨some 16,.mv (.t 2),none,[]⟩,⟨some 17,.bin .geq (.t 16) (.d (.int .u64 2305843009213693951)),none,[0]⟩,⟨some 18,.mv (.t
 17),none,[1]⟩,⟨some 19,.mv (.t 3),some (18,false),[2]⟩,⟨some 20,.bin .lss (.t 19) (.d (.int .i64 0)),some (18,false),[3,2]⟩,⟨some 21,.pick (.t 18) (.d (.bool true)) (.t 20),none,[2,4]⟩,⟨some 22,.mv (.t
 21),none,[5,2]⟩,⟨some 23,.mv (.t 3),some (22,false),[6]⟩,⟨some 24,.bin .gtr (.t 23) (.d (.int .i64 1048576)),some (22,false),[7,6]⟩,⟨some 25,.pick (.t 22) (.d (.bool true)) (.t 24),none,[6,8]⟩,⟨some 15,.mv (.t
 25),none,[9,6]⟩]) (.cond (.t 15) (.seq (.reg false [⟨some 8,.mv (.d (.int .i64 2)),none,[]⟩]) .ret) (.seq (.reg false [⟨some 27,.mv (.t 0),none,[]⟩,⟨some 28,.chk (.t 27),none,[0]⟩,⟨some 29,.fa 6 (.t 28),none,[1]⟩,⟨some
 30,.load false 1 (.t 29),none,[2]⟩,⟨some 31,.mv (.t 3),none,[]⟩,⟨some 32,.bin .add (.t 30) (.t 31),none,[3,4]⟩,⟨some 33,.bin .gtr (.t 32) (.d (.int .i64 1099511627776)),none,[5]⟩,⟨some 26,.mv (.t 33),none,[6]⟩]) (.cond
 (.t 26) (.seq (.reg false [⟨some 8,.mv (.d (.int .i64 3)),none,[]⟩]) .ret) .skip))))) (.seq (.reg false [⟨some 34,.mv (.t 0),none,[]⟩,⟨some 35,.call 29 [(.t 34)],none,[0]⟩,⟨some 9,.mv (.t 35),none,[1,1,0,1]⟩]) (.seq
 (.seq (.reg false [⟨some 36,.mv (.t 9),none,[]⟩,⟨some 37,.chk (.t 36),none,[0]⟩,⟨some 38,.fa 5 (.t 37),none,[1]⟩,⟨some 39,.load false 1 (.t 38),none,[2]⟩,⟨some 40,.len (.t 39),none,[3]⟩,⟨some 41,.mv (.d (.int .i64
 0)),none,[]⟩]) (.block 1 (.loop (.seq (.reg false [⟨some 42,.bin .lss (.t 41) (.t 40),none,[]⟩]) (.seq (.cond (.t 42) .skip (.exit 1)) (.seq (.block 2 (.seq (.reg false [⟨some 43,.ix 3 (.t 39) (.t 41),none,[]⟩,⟨some
 44,.load true 3 (.t 43),none,[0]⟩,⟨some 11,.new 111 [(.int .u64 0),(.int .u64 0),.nilp],none,[]⟩,⟨none,.store 3 (.t 11) (.t 44),none,[2,1,0,1,2]⟩]) (.seq (.reg true [⟨some 46,.fa 0 (.t 11),none,[]⟩,⟨some 47,.load true 2
 (.t 46),none,[0]⟩,⟨some 48,.mv (.t 2),none,[]⟩,⟨some 49,.mv (.t 0),none,[]⟩,⟨some 50,.chk (.t 49),none,[3]⟩,⟨some 51,.fa 0 (.t 50),none,[4]⟩,⟨some 52,.fa 1 (.t 51),none,[5]⟩,⟨some 53,.load false 1 (.t
 52),none,[6]⟩,⟨some 54,.call 51 [(.t 47),(.t 48),(.t 53)],none,[1,2,7]⟩,⟨some 45,.mv (.t 54),none,[8]⟩,⟨some 55,.ext (.t 45) 0,none,[9]⟩,⟨some 56,.ext (.t 45) 1,none,[9]⟩,⟨some 12,.mv (.t
 55),none,[10,8,0,1,2,3,4,5,6,7,8,9,10]⟩,⟨some 13,.mv (.t 56),none,[11,12,0,1,2,3,4,5,6,7,8,9,10,11,12]⟩]) (.seq (.reg false [⟨some 57,.fa 2 (.t 11),none,[]⟩,⟨some 58,.load false 1 (.t 57),none,[0]⟩,⟨some 59,.mv (.t
 1),none,[]⟩,⟨some 60,.mv (.t 12),none,[]⟩,⟨some 61,.mv (.t 3),none,[]⟩,⟨some 62,.call 52 [(.t 58),(.t 59),(.t 60),(.t 61)],none,[1,2,3,4]⟩,⟨some 14,.mv (.t 62),none,[5,5,0,1,2,3,4,5]⟩]) (.seq (.reg false [⟨some 63,.mv
 (.t 14),none,[]⟩,⟨some 64,.bin .neq (.t 63) (.d (.int .i64 0)),none,[0]⟩]) (.cond (.t 64) (.seq (.reg false [⟨some 65,.mv (.t 14),none,[]⟩,⟨some 8,.mv (.t 65),none,[0,0]⟩]) .ret) .skip)))))) (.reg false [⟨some 66,.bin
 .add (.t 41) (.d (.int .i64 1)),none,[]⟩,⟨some 41,.mv (.t 66),none,[0]⟩]))))))) (.seq (.reg false [⟨some 67,.mv (.t 9),none,[]⟩,⟨some 68,.chk (.t 67),none,[0]⟩,⟨some 69,.fa 6 (.t 68),none,[1]⟩,⟨some 70,.load false 1 (.t
 69),none,[2]⟩,⟨some 71,.mv (.t 3),none,[]⟩,⟨some 72,.bin .add (.t 70) (.t 71),none,[3,4]⟩,⟨some 73,.chk (.t 67),none,[0,0,1,2,3,4,5]⟩,⟨some 74,.fa 6 (.t 73),none,[6,0,1,2,3,4,5]⟩,⟨none,.store 1 (.t 74) (.t
 72),none,[7,5,0,1,2,3,4,5]⟩]) (.seq (.reg false [⟨some 75,.mv (.t 0),none,[]⟩,⟨some 76,.mv (.t 9),none,[]⟩,⟨some 77,.chk (.t 76),none,[1]⟩,⟨some 78,.load true 7 (.t 77),none,[2]⟩,⟨some 79,.chk (.t
 75),none,[0,0,1,2,3]⟩,⟨none,.store 7 (.t 79) (.t 78),none,[4,3,0,1,2,3]⟩]) (.seq (.reg false [⟨some 8,.mv (.d (.int .i64 0)),none,[]⟩]) .ret)))))))
theorem o_3b : fnOf Tryz.prog o_1p = some (o_2b, [.t 8], 80, false) := by kernel_rfl

/-- (tallymark/tallymarklaw21.Update).key -/
abbrev o_af : FuncId := 15
def o_ag : C := (.seq (.reg false [⟨some 1,.box 43 (.t 0),none,[]⟩,⟨some 2,.mv (.d (.int .u64 0)),none,[]⟩]) (.seq (.reg false [⟨some 3,.fa 0 (.t 1),none,[]⟩,⟨some 4,.load false 1 (.t 3),none,[0]⟩,⟨some 5,.bin .rem (.t 4) (.d (.int
 .u64 2305843009213693951)),none,[1]⟩,⟨some 2,.mv (.t 5),none,[2,0,1,2]⟩]) .ret))
theorem o_lh : fnOf Tryz.prog o_af = some (o_ag, [.t 2], 6, false) := by kernel_rfl

/-- (*tallymark/cms.Sketch).Query -/
abbrev o_ah : FuncId := 16
def o_ai : C := (.seq (.reg false [⟨some 4,.new 51 [.nilsl,(.bool false),.nilsl],none,[]⟩,⟨some 5,.mv (.d (.int .i64 0)),none,[]⟩]) (.seq (.reg false [⟨some 6,.new 51 [.nilsl,(.bool false),.nilsl],none,[]⟩]) (.seq (.seq (.reg false
 [⟨some 14,.mv (.t 0),none,[]⟩,⟨some 15,.chk (.t 14),none,[0]⟩,⟨some 16,.fa 5 (.t 15),none,[1]⟩,⟨some 17,.load false 1 (.t 16),none,[2]⟩,⟨some 18,.len (.t 17),none,[3]⟩,⟨some 19,.mv (.d (.int .i64 0)),none,[]⟩]) (.block
 0 (.loop (.seq (.reg false [⟨some 20,.bin .lss (.t 19) (.t 18),none,[]⟩]) (.seq (.cond (.t 20) .skip (.exit 0)) (.seq (.block 1 (.seq (.reg false [⟨some 21,.mv (.t 19),none,[]⟩,⟨some 22,.ix 3 (.t 17) (.t
 19),none,[]⟩,⟨some 23,.load true 3 (.t 22),none,[1]⟩,⟨some 8,.new 111 [(.int .u64 0),(.int .u64 0),.nilp],none,[]⟩,⟨some 7,.mv (.t 21),none,[0,0,1,2,3]⟩,⟨none,.store 3 (.t 8) (.t 23),none,[3,2,4,0,1,2,3,4]⟩]) (.seq
 (.reg true [⟨some 25,.fa 0 (.t 8),none,[]⟩,⟨some 26,.load true 2 (.t 25),none,[0]⟩,⟨some 27,.mv (.t 1),none,[]⟩,⟨some 28,.mv (.t 0),none,[]⟩,⟨some 29,.chk (.t 28),none,[3]⟩,⟨some 30,.fa 0 (.t 29),none,[4]⟩,⟨some 31,.fa
 1 (.t 30),none,[5]⟩,⟨some 32,.load false 1 (.t 31),none,[6]⟩,⟨some 33,.call 51 [(.t 26),(.t 27),(.t 32)],none,[1,2,7]⟩,⟨some 24,.mv (.t 33),none,[8]⟩,⟨some 34,.ext (.t 24) 0,none,[9]⟩,⟨some 35,.ext (.t 24)
 1,none,[9]⟩,⟨some 9,.mv (.t 34),none,[10,8,0,1,2,3,4,5,6,7,8,9,10]⟩,⟨some 10,.mv (.t 35),none,[11,12,0,1,2,3,4,5,6,7,8,9,10,11,12]⟩]) (.seq (.seq (.reg false [⟨some 36,.mv (.t 10),none,[]⟩,⟨some 37,.bin .neq (.t 36) (.d
 (.int .i64 0)),none,[0]⟩]) (.cond (.t 37) (.seq (.reg false [⟨some 38,.build [.nilsl,(.bool false),.nilsl] [],none,[]⟩,⟨some 39,.mv (.t 10),none,[]⟩,⟨none,.store 3 (.t 4) (.t 38),none,[0,0]⟩,⟨some 5,.mv (.t
 39),none,[1,2,0,1,2]⟩]) .ret) .skip)) (.seq (.reg false [⟨some 41,.fa 2 (.t 8),none,[]⟩,⟨some 42,.load false 1 (.t 41),none,[0]⟩,⟨some 43,.mv (.t 9),none,[]⟩,⟨some 44,.call 53 [(.t 42),(.t 43)],none,[1,2]⟩,⟨some 40,.mv
 (.t 44),none,[3]⟩,⟨some 45,.ext (.t 40) 0,none,[4]⟩,⟨some 46,.ext (.t 40) 1,none,[4]⟩,⟨some 11,.new 64 [(.int .i64 0),(.int .i64 0),(.bool false)],none,[]⟩,⟨none,.store 3 (.t 11) (.t
 45),none,[7,5,3,0,1,2,3,4,5,7]⟩,⟨some 12,.mv (.t 46),none,[6,8,0,1,2,3,4,5,6,7,8]⟩]) (.seq (.reg true [⟨some 48,.mv (.t 0),none,[]⟩,⟨some 49,.chk (.t 48),none,[0]⟩,⟨some 50,.fa 0 (.t 49),none,[1]⟩,⟨some 51,.fa 2 (.t
 50),none,[2]⟩,⟨some 52,.load true 3 (.t 51),none,[3]⟩,⟨some 53,.load true 3 (.t 11),none,[]⟩,⟨some 54,.call 27 [(.t 52),(.t 53)],none,[4,5]⟩,⟨some 47,.mv (.t 54),none,[6]⟩,⟨some 55,.ext (.t 47) 0,none,[7]⟩,⟨some 56,.ext
 (.t 47) 1,none,[7]⟩,⟨some 13,.new 51 [.nilsl,(.bool false),.nilsl],none,[]⟩,⟨none,.store 3 (.t 13) (.t 55),none,[10,8,6,0,1,2,3,4,5,6,7,8,10]⟩,⟨some 10,.mv (.t 56),none,[9,11,0,1,2,3,4,5,6,7,8,9,10,11]⟩]) (.seq (.seq
 (.reg false [⟨some 57,.mv (.t 10),none,[]⟩,⟨some 58,.bin .neq (.t 57) (.d (.int .i64 0)),none,[0]⟩]) (.cond (.t 58) (.seq (.reg false [⟨some 59,.build [.nilsl,(.bool false),.nilsl] [],none,[]⟩,⟨some 60,.mv (.t
 10),none,[]⟩,⟨none,.store 3 (.t 4) (.t 59),none,[0,0]⟩,⟨some 5,.mv (.t 60),none,[1,2,0,1,2]⟩]) .ret) .skip)) (.seq (.reg false [⟨some 61,.mv (.t 7),none,[]⟩,⟨some 62,.bin .eql (.t 61) (.d (.int .i64 0)),none,[0]⟩,⟨some
 63,.mv (.t 62),none,[1]⟩,⟨some 64,.load true 3 (.t 13),some (63,false),[2]⟩,⟨some 65,.load true 3 (.t 6),some (63,false),[2]⟩,⟨some 66,.call 18 [(.t 64),(.t 65)],some (63,false),[3,4,2,2]⟩,⟨some 67,.bin .lss (.t 66) (.d
 (.int .i64 0)),some (63,false),[5,2]⟩,⟨some 68,.pick (.t 63) (.d (.bool true)) (.t 67),none,[2,6]⟩]) (.cond (.t 68) (.reg false [⟨some 69,.load true 3 (.t 13),none,[]⟩,⟨none,.store 3 (.t 6) (.t 69),none,[0,0]⟩])
 .skip))))))))) (.reg false [⟨some 70,.bin .add (.t 19) (.d (.int .i64 1)),none,[]⟩,⟨some 19,.mv (.t 70),none,[0]⟩]))))))) (.seq (.reg false [⟨some 71,.load true 3 (.t 6),none,[]⟩,⟨none,.store 3 (.t 4) (.t
 71),none,[0,0]⟩,⟨some 5,.mv (.d (.int .i64 0)),none,[1,0,1]⟩]) .ret))))
theorem o_li : fnOf Tryz.prog o_ah = some (o_ai, [.cell 4 true 3, .t 5], 72, false) := by kernel_rfl

/-- (*tallymark/tape.Tape).Read -/
abbrev o_aj : FuncId := 17
def o_ak : C := (.seq (.reg false [⟨some 2,.mv (.d (.int .i64 0)),none,[]⟩]) (.seq (.reg false [⟨some 3,.mv (.t 0),none,[]⟩,⟨some 4,.chk (.t 3),none,[0]⟩,⟨some 5,.fa 0 (.t 4),none,[1]⟩,⟨some 6,.fa 0 (.t 5),none,[2]⟩,⟨some 7,.load false
 1 (.t 6),none,[3]⟩,⟨some 2,.mv (.t 7),none,[4,0,1,2,3,4]⟩]) .ret))
theorem o_lj : fnOf Tryz.prog o_aj = some (o_ak, [.t 2], 8, false) := by kernel_rfl

/-- (*tallymark/cms.Sketch).Total -/
abbrev o_al : FuncId := 20
def o_am : C := (.seq (.reg false [⟨some 2,.mv (.d (.int .i64 0)),none,[]⟩]) (.seq (.reg false [⟨some 3,.mv (.t 0),none,[]⟩,⟨some 4,.chk (.t 3),none,[0]⟩,⟨some 5,.fa 6 (.t 4),none,[1]⟩,⟨some 6,.load false 1 (.t 5),none,[2]⟩,⟨some 2,.mv
 (.t 6),none,[3,0,1,2,3]⟩]) .ret))
theorem o_lk : fnOf Tryz.prog o_al = some (o_am, [.t 2], 7, false) := by kernel_rfl

/-- tallymark/tallymarklaw21.build -/
abbrev o_an : FuncId := 21
def o_ao : C := (.seq (.reg false [⟨some 3,.box 26 (.t 0),none,[]⟩,⟨some 6,.mv (.d .nilp),none,[]⟩]) (.seq (.reg true [⟨some 11,.load true 6 (.t 3),none,[]⟩,⟨some 12,.call 10 [(.t 11)],none,[0]⟩,⟨some 13,.load true 6 (.t
 3),none,[]⟩,⟨some 14,.call 12 [(.t 13)],none,[2,1]⟩,⟨some 15,.call 11 [(.t 12),(.t 14)],none,[1,3,3]⟩,⟨some 10,.mv (.t 15),none,[4]⟩,⟨some 16,.ext (.t 10) 0,none,[5]⟩,⟨some 17,.ext (.t 10) 1,none,[5]⟩,⟨some 7,.mv (.t
 16),none,[6,4,0,1,2,3,4,5,6]⟩,⟨some 8,.mv (.t 17),none,[7,8,0,1,2,3,4,5,6,7,8]⟩]) (.seq (.seq (.reg false [⟨some 18,.mv (.t 8),none,[]⟩,⟨some 19,.bin .neq (.t 18) (.d (.int .i64 0)),none,[0]⟩,⟨some 20,.mv (.t
 19),none,[1]⟩,⟨some 21,.mv (.t 7),some (20,false),[2]⟩,⟨some 22,.pnl false (.t 21),some (20,false),[3,2]⟩,⟨some 23,.pick (.t 20) (.d (.bool true)) (.t 22),none,[2,4]⟩]) (.cond (.t 23) (.seq (.reg false [⟨some 6,.mv (.d
 .nilp),none,[]⟩]) .ret) .skip)) (.seq (.seq (.reg false [⟨some 9,.mv (.d (.int .i64 0)),none,[]⟩]) (.block 0 (.loop (.seq (.seq (.reg false [⟨some 24,.mv (.t 9),none,[]⟩,⟨some 25,.mv (.t 1),none,[]⟩,⟨some 26,.len (.t
 25),none,[1]⟩,⟨some 27,.bin .lss (.t 24) (.t 26),none,[0,2]⟩,⟨some 28,.mv (.t 27),none,[3]⟩,⟨some 29,.mv (.t 9),some (28,true),[4]⟩,⟨some 30,.bin .lss (.t 29) (.d (.int .i64 12)),some (28,true),[5,4]⟩,⟨some 31,.pick (.t
 28) (.t 30) (.d (.bool false)),none,[4,6]⟩]) (.cond (.t 31) .skip (.exit 0))) (.seq (.block 1 (.reg true [⟨some 34,.mv (.t 7),none,[]⟩,⟨some 35,.mv (.t 2),none,[]⟩,⟨some 36,.mv (.t 1),none,[]⟩,⟨some 37,.mv (.t
 9),none,[]⟩,⟨some 38,.ix 2 (.t 36) (.t 37),none,[2,3]⟩,⟨some 39,.load true 2 (.t 38),none,[4]⟩,⟨some 40,.call 15 [(.t 39)],none,[5]⟩,⟨some 41,.mv (.t 1),none,[]⟩,⟨some 42,.mv (.t 9),none,[]⟩,⟨some 43,.ix 2 (.t 41) (.t
 42),none,[7,8]⟩,⟨some 44,.fa 1 (.t 43),none,[9]⟩,⟨some 45,.load false 1 (.t 44),none,[10]⟩,⟨some 46,.bin .and (.t 45) (.d (.int .i64 7)),none,[11]⟩,⟨some 47,.call 14 [(.t 34),(.t 35),(.t 40),(.t
 46)],none,[0,1,6,12,6]⟩])) (.reg false [⟨some 32,.mv (.t 9),none,[]⟩,⟨some 33,.bin .add (.t 32) (.d (.int .i64 1)),none,[0]⟩,⟨some 9,.mv (.t 33),none,[1,0,1]⟩])))))) (.seq (.reg false [⟨some 48,.mv (.t 7),none,[]⟩,⟨some
 6,.mv (.t 48),none,[0,0]⟩]) .ret)))))
theorem o_ll : fnOf Tryz.prog o_an = some (o_ao, [.t 6], 49, false) := by kernel_rfl

/-- (tallymark/rat.Rat).Text -/
abbrev o_ap : FuncId := 22
def o_aq : C := (.seq (.reg false [⟨some 1,.box 51 (.t 0),none,[]⟩,⟨some 2,.mv (.d (.str ⟨#[]⟩)),none,[]⟩]) (.seq (.seq (.reg false [⟨some 3,.load true 3 (.t 1),none,[]⟩,⟨some 4,.call 58 [(.t 3)],none,[0]⟩]) (.cond (.t 4) (.seq (.reg
 false [⟨some 5,.fa 0 (.t 1),none,[]⟩,⟨some 6,.load true 2 (.t 5),none,[0]⟩,⟨some 7,.call 59 [(.t 6)],none,[1]⟩,⟨some 2,.mv (.t 7),none,[2,2,0,1,2]⟩]) .ret) .skip)) (.seq (.reg true [⟨some 8,.fa 0 (.t 1),none,[]⟩,⟨some
 9,.load true 2 (.t 8),none,[0]⟩,⟨some 10,.call 59 [(.t 9)],none,[1]⟩,⟨some 11,.bin .add (.t 10) (.d (.str ⟨#[47]⟩)),none,[2]⟩,⟨some 12,.load true 3 (.t 1),none,[]⟩,⟨some 13,.call 60 [(.t 12)],none,[4,2]⟩,⟨some 14,.call
 61 [(.t 13)],none,[5,5]⟩,⟨some 15,.bin .add (.t 11) (.t 14),none,[3,6]⟩,⟨some 2,.mv (.t 15),none,[7,6,0,1,2,3,4,5,6,7]⟩]) .ret)))
theorem o_lm : fnOf Tryz.prog o_ap = some (o_aq, [.t 2], 16, false) := by kernel_rfl

/-- (*tallymark/cms.Sketch).Hashes -/
abbrev o_ar : FuncId := 23
def o_as : C := (.seq (.reg false [⟨some 2,.mv (.d .nilsl),none,[]⟩]) (.seq (.reg false [⟨some 3,.mv (.d .nilsl),none,[]⟩]) (.seq (.seq (.reg false [⟨some 6,.mv (.t 0),none,[]⟩,⟨some 7,.chk (.t 6),none,[0]⟩,⟨some 8,.fa 5 (.t
 7),none,[1]⟩,⟨some 9,.load false 1 (.t 8),none,[2]⟩,⟨some 10,.len (.t 9),none,[3]⟩,⟨some 11,.mv (.d (.int .i64 0)),none,[]⟩]) (.block 0 (.loop (.seq (.reg false [⟨some 12,.bin .lss (.t 11) (.t 10),none,[]⟩]) (.seq
 (.cond (.t 12) .skip (.exit 0)) (.seq (.block 1 (.seq (.reg false [⟨some 13,.ix 3 (.t 9) (.t 11),none,[]⟩,⟨some 14,.load true 3 (.t 13),none,[0]⟩,⟨some 5,.new 111 [(.int .u64 0),(.int .u64
 0),.nilp],none,[]⟩,⟨none,.store 3 (.t 5) (.t 14),none,[2,1,0,1,2]⟩]) (.reg false [⟨some 15,.mv (.t 3),none,[]⟩,⟨some 16,.fa 0 (.t 5),none,[]⟩,⟨some 17,.load true 2 (.t 16),none,[1]⟩,⟨some 18,.bsl 62 2 1 [(.int .u64
 0),(.int .u64 0)] [(0,2,(.t 17))],none,[2]⟩,⟨some 19,.app 62 2 16 (.t 15) (.t 18),none,[0,3]⟩,⟨some 3,.mv (.t 19),none,[4,4,0,1,2,3,4]⟩]))) (.reg false [⟨some 20,.bin .add (.t 11) (.d (.int .i64 1)),none,[]⟩,⟨some
 11,.mv (.t 20),none,[0]⟩]))))))) (.seq (.reg false [⟨some 21,.mv (.t 3),none,[]⟩,⟨some 2,.mv (.t 21),none,[0,0]⟩]) .ret))))
theorem o_ln : fnOf Tryz.prog o_ar = some (o_as, [.t 2], 22, false) := by kernel_rfl

/-- (*tallymark/cms.Sketch).Cell -/
abbrev o_at : FuncId := 24
def o_au : C := (.seq (.reg false [⟨some 6,.new 64 [(.int .i64 0),(.int .i64 0),(.bool false)],none,[]⟩,⟨some 7,.mv (.d (.int .i64 0)),none,[]⟩]) (.seq (.seq (.reg false [⟨some 8,.mv (.t 1),none,[]⟩,⟨some 9,.bin .lss (.t 8) (.d (.int
 .i64 0)),none,[0]⟩,⟨some 10,.mv (.t 9),none,[1]⟩,⟨some 11,.mv (.t 1),some (10,false),[2]⟩,⟨some 12,.mv (.t 0),some (10,false),[2]⟩,⟨some 13,.chk (.t 12),some (10,false),[4,2]⟩,⟨some 14,.fa 5 (.t 13),some
 (10,false),[5,2]⟩,⟨some 15,.load false 1 (.t 14),some (10,false),[6,2]⟩,⟨some 16,.len (.t 15),some (10,false),[7,2]⟩,⟨some 17,.bin .geq (.t 11) (.t 16),some (10,false),[3,8,2]⟩,⟨some 18,.pick (.t 10) (.d (.bool true))
 (.t 17),none,[2,9]⟩]) (.cond (.t 18) (.seq (.reg false [⟨some 19,.build [(.int .i64 0),(.int .i64 0),(.bool false)] [],none,[]⟩,⟨none,.store 3 (.t 6) (.t 19),none,[0,0]⟩,⟨some 7,.mv (.d (.int .i64 1)),none,[1,0,1]⟩])
 .ret) .skip)) (.seq (.reg false [⟨some 20,.mv (.t 0),none,[]⟩,⟨some 21,.chk (.t 20),none,[0]⟩,⟨some 22,.fa 5 (.t 21),none,[1]⟩,⟨some 23,.load false 1 (.t 22),none,[2]⟩,⟨some 24,.mv (.t 1),none,[]⟩,⟨some 25,.ix 3 (.t 23)
 (.t 24),none,[3,4]⟩,⟨some 26,.fa 2 (.t 25),none,[5]⟩,⟨some 27,.load false 1 (.t 26),none,[6]⟩,⟨some 28,.mv (.t 2),none,[]⟩,⟨some 29,.call 53 [(.t 27),(.t 28)],none,[7,8]⟩,⟨some 30,.ext (.t 29) 0,none,[9]⟩,⟨some 31,.ext
 (.t 29) 1,none,[9]⟩,⟨none,.store 3 (.t 6) (.t 30),none,[10,9,0,1,2,3,4,5,6,7,8,9,10,11]⟩,⟨some 7,.mv (.t 31),none,[11,12,0,1,2,3,4,5,6,7,8,9,10,11,12]⟩]) .ret)))
theorem o_lo : fnOf Tryz.prog o_at = some (o_au, [.cell 6 true 3, .t 7], 32, false) := by kernel_rfl

/-- (*tallymark/cms.Sketch).Param -/
abbrev o_av : FuncId := 26
def o_aw : C := (.seq (.reg false [⟨some 2,.new 32 [(.int .i64 0),(.int .i64 0),(.int .i64 0),(.int .i64 0),(.int .i64 0)],none,[]⟩]) (.seq (.reg false [⟨some 3,.mv (.t 0),none,[]⟩,⟨some 4,.chk (.t 3),none,[0]⟩,⟨some 5,.fa 0 (.t
 4),none,[1]⟩,⟨some 6,.load true 5 (.t 5),none,[2]⟩,⟨none,.store 5 (.t 2) (.t 6),none,[3,0,1,2,3]⟩]) .ret))
theorem o_lp : fnOf Tryz.prog o_av = some (o_aw, [.cell 2 true 5], 7, false) := by kernel_rfl

/-- (tallymark/reg.Param).Value -/
abbrev o_ax : FuncId := 27
def o_ay : C := (.seq (.reg false [⟨some 2,.box 30 (.t 0),none,[]⟩,⟨some 3,.box 64 (.t 1),none,[]⟩,⟨some 4,.new 51 [.nilsl,(.bool false),.nilsl],none,[]⟩,⟨some 5,.mv (.d (.int .i64 0)),none,[]⟩]) (.seq (.seq (.reg false [⟨some 9,.load
 true 3 (.t 2),none,[]⟩,⟨some 10,.load true 3 (.t 3),none,[]⟩,⟨some 11,.bsl 64 3 1 [(.int .i64 0),(.int .i64 0),(.bool false)] [(0,3,(.t 10))],none,[1]⟩,⟨some 12,.call 66 [(.t 9),(.t 11)],none,[0,2]⟩,⟨some 6,.mv (.t
 12),none,[3,3,0,1,2,3]⟩]) (.seq (.reg false [⟨some 13,.mv (.t 6),none,[]⟩,⟨some 14,.bin .neq (.t 13) (.d (.int .i64 0)),none,[0]⟩]) (.cond (.t 14) (.seq (.reg false [⟨some 15,.build [.nilsl,(.bool false),.nilsl]
 [],none,[]⟩,⟨some 16,.mv (.t 6),none,[]⟩,⟨none,.store 3 (.t 4) (.t 15),none,[0,0]⟩,⟨some 5,.mv (.t 16),none,[1,2,0,1,2]⟩]) .ret) .skip))) (.seq (.seq (.reg false [⟨some 17,.fa 0 (.t 2),none,[]⟩,⟨some 18,.load false 1
 (.t 17),none,[0]⟩,⟨some 19,.bin .eql (.t 18) (.d (.int .i64 4)),none,[1]⟩]) (.cond (.t 19) (.seq (.reg true [⟨some 21,.load true 3 (.t 2),none,[]⟩,⟨some 22,.call 67 [(.t 21)],none,[0]⟩,⟨some 23,.load true 3 (.t
 3),none,[]⟩,⟨some 24,.call 69 [(.t 23)],none,[2,1]⟩,⟨some 25,.call 68 [(.t 22),(.t 24)],none,[1,3,3]⟩,⟨some 20,.mv (.t 25),none,[4]⟩,⟨some 26,.ext (.t 20) 0,none,[5]⟩,⟨some 27,.ext (.t 20) 1,none,[5]⟩,⟨some 7,.new 47
 [.nilsl],none,[]⟩,⟨none,.store 1 (.t 7) (.t 26),none,[8,6,4,0,1,2,3,4,5,6,8]⟩,⟨some 8,.mv (.t 27),none,[7,9,0,1,2,3,4,5,6,7,8,9]⟩]) (.seq (.reg false [⟨some 28,.load true 1 (.t 7),none,[]⟩,⟨some 29,.call 70 [(.t
 28)],none,[0]⟩,⟨some 30,.mv (.t 8),none,[]⟩,⟨none,.store 3 (.t 4) (.t 29),none,[1,1,0,1]⟩,⟨some 5,.mv (.t 30),none,[2,3,0,1,2,3]⟩]) .ret)) .skip)) (.seq (.reg true [⟨some 31,.load true 3 (.t 2),none,[]⟩,⟨some 32,.call
 71 [(.t 31)],none,[0]⟩,⟨some 33,.fa 0 (.t 3),none,[]⟩,⟨some 34,.load false 1 (.t 33),none,[2]⟩,⟨some 35,.call 72 [(.t 32),(.t 34)],none,[1,3,1]⟩,⟨some 36,.ext (.t 35) 0,none,[4]⟩,⟨some 37,.ext (.t 35)
 1,none,[4]⟩,⟨none,.store 3 (.t 4) (.t 36),none,[5,4,0,1,2,3,4,5,6]⟩,⟨some 5,.mv (.t 37),none,[6,7,0,1,2,3,4,5,6,7]⟩]) .ret))))
theorem o_lq : fnOf Tryz.prog o_ax = some (o_ay, [.cell 4 true 3, .t 5], 38, false) := by kernel_rfl

/-- tallymark/tallymarklaw09.Few -/
abbrev o_az : FuncId := 28
def o_b0 : C := (.seq (.reg false [⟨some 4,.mv (.d .nilsl),none,[]⟩]) (.seq (.seq (.reg false [⟨some 5,.mv (.t 0),none,[]⟩,⟨some 6,.len (.t 5),none,[0]⟩,⟨some 7,.mv (.t 1),none,[]⟩,⟨some 8,.bin .gtr (.t 6) (.t 7),none,[1,2]⟩]) (.cond
 (.t 8) (.seq (.reg false [⟨some 9,.mv (.t 0),none,[]⟩,⟨some 10,.mv (.t 1),none,[]⟩,⟨some 11,.slice 1 (.t 9) none (some (.t 10)) none,none,[0,1]⟩,⟨some 4,.mv (.t 11),none,[2,0,1,2]⟩]) .ret) .skip)) (.seq (.reg false
 [⟨some 12,.mv (.t 0),none,[]⟩,⟨some 4,.mv (.t 12),none,[0,0]⟩]) .ret)))
theorem o_lr : fnOf Tryz.prog o_az = some (o_b0, [.t 4], 13, false) := by kernel_rfl

/-- (*tallymark/cms.Sketch).Clone -/
abbrev o_o : FuncId := 29
def o_t : C := (.seq (.reg false [⟨some 2,.mv (.d .nilp),none,[]⟩]) (.seq (.reg false [⟨some 6,.mv (.t 0),none,[]⟩,⟨some 7,.chk (.t 6),none,[0]⟩,⟨some 8,.load true 7 (.t 7),none,[1]⟩,⟨some 3,.new 106 [(.int .i64 0),(.int .i64 0),(.int
 .i64 0),(.int .i64 0),(.int .i64 0),.nilsl,(.int .i64 0)],none,[]⟩,⟨none,.store 7 (.t 3) (.t 8),none,[3,2,0,1,2,3]⟩]) (.seq (.reg false [⟨some 9,.mv (.t 0),none,[]⟩,⟨some 10,.chk (.t 9),none,[0]⟩,⟨some 11,.fa 5 (.t
 10),none,[1]⟩,⟨some 12,.load false 1 (.t 11),none,[2]⟩,⟨some 13,.call 73 [(.t 12)],none,[3]⟩,⟨some 14,.fa 5 (.t 3),none,[0,1,2,3,4]⟩,⟨none,.store 1 (.t 14) (.t 13),none,[5,4,4,0,1,2,3,4]⟩]) (.seq (.seq (.reg false
 [⟨some 15,.mv (.t 0),none,[]⟩,⟨some 16,.chk (.t 15),none,[0]⟩,⟨some 17,.fa 5 (.t 16),none,[1]⟩,⟨some 18,.load false 1 (.t 17),none,[2]⟩,⟨some 19,.len (.t 18),none,[3]⟩,⟨some 20,.mv (.d (.int .i64 0)),none,[]⟩]) (.block
 0 (.loop (.seq (.reg false [⟨some 21,.bin .lss (.t 20) (.t 19),none,[]⟩]) (.seq (.cond (.t 21) .skip (.exit 0)) (.seq (.block 1 (.seq (.reg false [⟨some 22,.mv (.t 20),none,[]⟩,⟨some 23,.ix 3 (.t 18) (.t
 20),none,[]⟩,⟨some 24,.load true 3 (.t 23),none,[1]⟩,⟨some 5,.new 111 [(.int .u64 0),(.int .u64 0),.nilp],none,[]⟩,⟨some 4,.mv (.t 22),none,[0,0,1,2,3]⟩,⟨none,.store 3 (.t 5) (.t 24),none,[3,2,4,0,1,2,3,4]⟩]) (.reg true
 [⟨some 25,.fa 5 (.t 3),none,[]⟩,⟨some 26,.load false 1 (.t 25),none,[0]⟩,⟨some 27,.mv (.t 4),none,[]⟩,⟨some 28,.fa 2 (.t 5),none,[]⟩,⟨some 29,.load false 1 (.t 28),none,[3]⟩,⟨some 30,.call 74 [(.t 29)],none,[4]⟩,⟨some
 31,.ix 3 (.t 26) (.t 27),none,[1,2,0,1,2,3,4,5]⟩,⟨some 32,.fa 2 (.t 31),none,[6,0,1,2,3,4,5]⟩,⟨none,.store 1 (.t 32) (.t 30),none,[7,5,5,0,1,2,3,4,5]⟩]))) (.reg false [⟨some 33,.bin .add (.t 20) (.d (.int .i64
 1)),none,[]⟩,⟨some 20,.mv (.t 33),none,[0]⟩]))))))) (.seq (.reg false [⟨some 2,.mv (.t 3),none,[]⟩]) .ret)))))
theorem o_10 : fnOf Tryz.prog o_o = some (o_t, [.t 2], 34, false) := by kernel_rfl

/-- (*tallymark/cms.Sketch).Same -/
abbrev o_b1 : FuncId := 30
def o_b2 : C := (.seq (.reg false [⟨some 4,.mv (.d (.bool false)),none,[]⟩]) (.seq (.reg false [⟨some 5,.mv (.fn 75),none,[]⟩]) (.seq (.reg true [⟨some 6,.mv (.t 0),none,[]⟩,⟨some 7,.mv (.t 1),none,[]⟩,⟨some 8,.call 77 [(.t 6),(.t
 7)],none,[0,1]⟩,⟨some 9,.mv (.t 8),none,[2,2]⟩,⟨some 10,.mv (.t 0),some (9,true),[3]⟩,⟨some 11,.chk (.t 10),some (9,true),[4,3]⟩,⟨some 12,.fa 6 (.t 11),some (9,true),[5,3]⟩,⟨some 13,.load false 1 (.t 12),some
 (9,true),[6,3]⟩,⟨some 14,.mv (.t 1),some (9,true),[3]⟩,⟨some 15,.chk (.t 14),some (9,true),[8,3]⟩,⟨some 16,.fa 6 (.t 15),some (9,true),[9,3]⟩,⟨some 17,.load false 1 (.t 16),some (9,true),[10,3]⟩,⟨some 18,.bin .eql (.t
 13) (.t 17),some (9,true),[7,11,3]⟩,⟨some 19,.pick (.t 9) (.t 18) (.d (.bool false)),none,[3,12]⟩,⟨some 20,.mv (.t 19),none,[13,3]⟩,⟨some 21,.mv (.t 0),some (20,true),[14]⟩,⟨some 22,.chk (.t 21),some
 (20,true),[15,14]⟩,⟨some 23,.fa 5 (.t 22),some (20,true),[16,14]⟩,⟨some 24,.load false 1 (.t 23),some (20,true),[17,14]⟩,⟨some 25,.mv (.t 1),some (20,true),[14]⟩,⟨some 26,.chk (.t 25),some (20,true),[19,14]⟩,⟨some
 27,.fa 5 (.t 26),some (20,true),[20,14]⟩,⟨some 28,.load false 1 (.t 27),some (20,true),[21,14]⟩,⟨some 29,.mv (.t 5),some (20,true),[14]⟩,⟨some 30,.call 78 [(.t 24),(.t 28),(.t 29)],some (20,true),[18,22,23,14,14]⟩,⟨some
 31,.pick (.t 20) (.t 30) (.d (.bool false)),none,[14,24]⟩,⟨some 4,.mv (.t 31),none,[25,24,0,1,2,3,4,5,6,7,8,9,10,11,12,13,14,15,16,17,18,19,20,21,22,23,24,25]⟩]) .ret)))
theorem o_ls : fnOf Tryz.prog o_b1 = some (o_b2, [.t 4], 32, false) := by kernel_rfl

/-- (tallymark/reg.Param).Add -/
abbrev o_b3 : FuncId := 31
def o_5o : C := (.seq (.reg false [⟨some 4,.box 30 (.t 0),none,[]⟩,⟨some 6,.box 64 (.t 2),none,[]⟩,⟨some 8,.new 64 [(.int .i64 0),(.int .i64 0),(.bool false)],none,[]⟩,⟨some 9,.mv (.d (.int .i64 0)),none,[]⟩]) (.seq (.seq (.reg false
 [⟨some 15,.load true 3 (.t 4),none,[]⟩,⟨some 16,.load true 3 (.t 6),none,[]⟩,⟨some 17,.bsl 64 3 1 [(.int .i64 0),(.int .i64 0),(.bool false)] [(0,3,(.t 16))],none,[1]⟩,⟨some 18,.call 66 [(.t 15),(.t
 17)],none,[0,2]⟩,⟨some 10,.mv (.t 18),none,[3,3,0,1,2,3]⟩]) (.seq (.reg false [⟨some 19,.mv (.t 10),none,[]⟩,⟨some 20,.bin .neq (.t 19) (.d (.int .i64 0)),none,[0]⟩]) (.cond (.t 20) (.seq (.reg false [⟨some 21,.load
 true 3 (.t 6),none,[]⟩,⟨some 22,.mv (.t 10),none,[]⟩,⟨none,.store 3 (.t 8) (.t 21),none,[0,0]⟩,⟨some 9,.mv (.t 22),none,[1,2,0,1,2]⟩]) .ret) .skip))) (.seq (.seq (.reg false [⟨some 23,.fa 0 (.t 4),none,[]⟩,⟨some
 24,.load false 1 (.t 23),none,[0]⟩,⟨some 25,.bin .eql (.t 24) (.d (.int .i64 4)),none,[1]⟩]) (.cond (.t 25) (.seq (.reg true [⟨some 27,.load true 3 (.t 4),none,[]⟩,⟨some 28,.call 67 [(.t 27)],none,[0]⟩,⟨some 29,.mv (.t
 1),none,[]⟩,⟨some 30,.load true 3 (.t 6),none,[]⟩,⟨some 31,.call 69 [(.t 30)],none,[3,1]⟩,⟨some 32,.mv (.t 3),none,[]⟩,⟨some 33,.call 79 [(.t 28),(.t 29),(.t 31),(.t 32)],none,[1,2,4,5,4]⟩,⟨some 26,.mv (.t
 33),none,[6]⟩,⟨some 34,.ext (.t 26) 0,none,[7]⟩,⟨some 35,.ext (.t 26) 1,none,[7]⟩,⟨some 11,.new 139 [(.int .i64 0),(.int .i64 0),(.bool false)],none,[]⟩,⟨none,.store 3 (.t 11) (.t
 34),none,[10,8,6,0,1,2,3,4,5,6,7,8,10]⟩,⟨some 12,.mv (.t 35),none,[9,11,0,1,2,3,4,5,6,7,8,9,10,11]⟩]) (.seq (.reg false [⟨some 36,.load true 3 (.t 11),none,[]⟩,⟨some 37,.call 80 [(.t 36)],none,[0]⟩,⟨some 38,.mv (.t
 12),none,[]⟩,⟨none,.store 3 (.t 8) (.t 37),none,[1,1,0,1]⟩,⟨some 9,.mv (.t 38),none,[2,3,0,1,2,3]⟩]) .ret)) .skip)) (.seq (.reg true [⟨some 40,.load true 3 (.t 4),none,[]⟩,⟨some 41,.call 71 [(.t 40)],none,[0]⟩,⟨some
 42,.mv (.t 1),none,[]⟩,⟨some 43,.load true 3 (.t 6),none,[]⟩,⟨some 44,.call 82 [(.t 43)],none,[3,1]⟩,⟨some 45,.mv (.t 3),none,[]⟩,⟨some 46,.call 81 [(.t 41),(.t 42),(.t 44),(.t 45)],none,[1,2,4,5,4]⟩,⟨some 39,.mv (.t
 46),none,[6]⟩,⟨some 47,.ext (.t 39) 0,none,[7]⟩,⟨some 48,.ext (.t 39) 1,none,[7]⟩,⟨some 13,.new 155 [(.int .i64 0),(.bool false)],none,[]⟩,⟨none,.store 2 (.t 13) (.t 47),none,[10,8,6,0,1,2,3,4,5,6,7,8,10]⟩,⟨some 14,.mv
 (.t 48),none,[9,11,0,1,2,3,4,5,6,7,8,9,10,11]⟩]) (.seq (.reg false [⟨some 49,.load true 2 (.t 13),none,[]⟩,⟨some 50,.call 83 [(.t 49)],none,[0]⟩,⟨some 51,.mv (.t 14),none,[]⟩,⟨none,.store 3 (.t 8) (.t
 50),none,[1,1,0,1]⟩,⟨some 9,.mv (.t 51),none,[2,3,0,1,2,3]⟩]) .ret)))))
theorem o_lt : fnOf Tryz.prog o_b3 = some (o_5o, [.cell 8 true 3, .t 9], 52, false) := by kernel_rfl

/-- (tallymark/cms.Param).Check -/
abbrev o_b4 : FuncId := 34
def o_b5 : C := (.seq (.reg false [⟨some 1,.box 32 (.t 0),none,[]⟩,⟨some 2,.mv (.d (.int .i64 0)),none,[]⟩]) (.seq (.seq (.reg false [⟨some 3,.fa 0 (.t 1),none,[]⟩,⟨some 4,.load false 1 (.t 3),none,[0]⟩,⟨some 5,.bin .lss (.t 4) (.d
 (.int .i64 1)),none,[1]⟩,⟨some 6,.mv (.t 5),none,[2]⟩,⟨some 7,.fa 0 (.t 1),some (6,false),[3]⟩,⟨some 8,.load false 1 (.t 7),some (6,false),[4,3]⟩,⟨some 9,.bin .gtr (.t 8) (.d (.int .i64 4)),some (6,false),[5,3]⟩,⟨some
 10,.pick (.t 6) (.d (.bool true)) (.t 9),none,[3,6]⟩,⟨some 11,.mv (.t 10),none,[7,3]⟩,⟨some 12,.fa 1 (.t 1),some (11,false),[8]⟩,⟨some 13,.load false 1 (.t 12),some (11,false),[9,8]⟩,⟨some 14,.bin .lss (.t 13) (.d (.int
 .i64 1)),some (11,false),[10,8]⟩,⟨some 15,.pick (.t 11) (.d (.bool true)) (.t 14),none,[8,11]⟩,⟨some 16,.mv (.t 15),none,[12,8]⟩,⟨some 17,.fa 1 (.t 1),some (16,false),[13]⟩,⟨some 18,.load false 1 (.t 17),some
 (16,false),[14,13]⟩,⟨some 19,.bin .gtr (.t 18) (.d (.int .i64 64)),some (16,false),[15,13]⟩,⟨some 20,.pick (.t 16) (.d (.bool true)) (.t 19),none,[13,16]⟩]) (.cond (.t 20) (.seq (.reg false [⟨some 2,.mv (.d (.int .i64
 10)),none,[]⟩]) .ret) .skip)) (.seq (.reg false [⟨some 21,.fa 2 (.t 1),none,[]⟩,⟨some 22,.load true 3 (.t 21),none,[0]⟩,⟨some 23,.call 85 [(.t 22)],none,[1]⟩,⟨some 2,.mv (.t 23),none,[2,2,0,1,2]⟩]) .ret)))
theorem o_lu : fnOf Tryz.prog o_b4 = some (o_b5, [.t 2], 24, false) := by kernel_rfl

/-- tallymark/bits.Read -/
abbrev o_2c : FuncId := 38
def o_b6 : C := (.seq (.reg false [⟨some 2,.mv (.d .nilp),none,[]⟩]) (.seq (.reg false [⟨some 3,.mv (.t 0),none,[]⟩,⟨some 4,.call 92 [(.t 3)],none,[0]⟩,⟨some 5,.build [.nilsl,(.int .i64 0)] [(0,1,(.t 4))],none,[1]⟩,⟨some 6,.box 174 (.t
 5),none,[2]⟩,⟨some 2,.mv (.t 6),none,[3,1,0,1,2,3]⟩]) .ret))
theorem o_lv : fnOf Tryz.prog o_2c = some (o_b6, [.t 2], 7, false) := by kernel_rfl

/-- (*tallymark/bits.Writer).Bytes -/
abbrev o_b7 : FuncId := 39
def o_b8 : C := (.seq (.reg false [⟨some 2,.mv (.d .nilsl),none,[]⟩]) (.seq (.reg false [⟨some 4,.mv (.t 0),none,[]⟩,⟨some 5,.chk (.t 4),none,[0]⟩,⟨some 6,.fa 0 (.t 5),none,[1]⟩,⟨some 7,.load false 1 (.t 6),none,[2]⟩,⟨some 8,.len (.t
 7),none,[3]⟩,⟨some 9,.mksl 5 1 1 [(.int .u8 0)] (.t 8) (.t 8),none,[4,4]⟩,⟨some 3,.mv (.t 9),none,[5,0,1,2,3,4,5]⟩]) (.seq (.reg false [⟨some 10,.mv (.t 3),none,[]⟩,⟨some 11,.mv (.t 0),none,[]⟩,⟨some 12,.chk (.t
 11),none,[1]⟩,⟨some 13,.fa 0 (.t 12),none,[2]⟩,⟨some 14,.load false 1 (.t 13),none,[3]⟩,⟨some 15,.cpy 1 (.t 10) (.t 14),none,[0,4]⟩]) (.seq (.reg false [⟨some 16,.mv (.t 3),none,[]⟩,⟨some 2,.mv (.t 16),none,[0,0]⟩])
 .ret))))
theorem o_lw : fnOf Tryz.prog o_b7 = some (o_b8, [.t 2], 17, false) := by kernel_rfl

/-- (*tallymark/bits.Reader).Bit -/
abbrev o_b9 : FuncId := 41
def o_ba : C := (.seq (.reg false [⟨some 2,.mv (.d (.bool false)),none,[]⟩,⟨some 3,.mv (.d (.int .i64 0)),none,[0]⟩]) (.seq (.reg false [⟨some 7,.mv (.t 0),none,[]⟩,⟨some 8,.call 90 [(.t 7),(.d (.int .i64 1))],none,[0]⟩,⟨some 6,.mv (.t
 8),none,[1]⟩,⟨some 9,.ext (.t 6) 0,none,[2]⟩,⟨some 10,.ext (.t 6) 1,none,[2]⟩,⟨some 4,.mv (.t 9),none,[3,1,0,1,2,3]⟩,⟨some 5,.mv (.t 10),none,[4,5,0,1,2,3,4,5]⟩]) (.seq (.reg false [⟨some 11,.mv (.t 4),none,[]⟩,⟨some
 12,.bin .eql (.t 11) (.d (.int .u64 1)),none,[0]⟩,⟨some 13,.mv (.t 5),none,[]⟩,⟨some 2,.mv (.t 12),none,[1,0,1]⟩,⟨some 3,.mv (.t 13),none,[2,3,0,1,2,3]⟩]) .ret)))
theorem o_lx : fnOf Tryz.prog o_b9 = some (o_ba, [.t 2, .t 3], 14, false) := by kernel_rfl

/-- (*tallymark/bits.Reader).Left -/
abbrev o_bb : FuncId := 42
def o_bc : C := (.seq (.reg false [⟨some 2,.mv (.d (.int .i64 0)),none,[]⟩]) (.seq (.reg true [⟨some 3,.mv (.t 0),none,[]⟩,⟨some 4,.chk (.t 3),none,[0]⟩,⟨some 5,.fa 0 (.t 4),none,[1]⟩,⟨some 6,.load false 1 (.t 5),none,[2]⟩,⟨some 7,.len
 (.t 6),none,[3]⟩,⟨some 8,.bin .mul (.d (.int .i64 8)) (.t 7),none,[4]⟩,⟨some 9,.mv (.t 0),none,[]⟩,⟨some 10,.chk (.t 9),none,[6]⟩,⟨some 11,.fa 1 (.t 10),none,[7]⟩,⟨some 12,.load false 1 (.t 11),none,[8]⟩,⟨some 13,.bin
 .sub (.t 8) (.t 12),none,[5,9]⟩,⟨some 2,.mv (.t 13),none,[10,0,1,2,3,4,5,6,7,8,9,10]⟩]) .ret))
theorem o_ly : fnOf Tryz.prog o_bb = some (o_bc, [.t 2], 14, false) := by kernel_rfl

/-- (*tallymark/cms.Sketch).Merge -/
abbrev o_19 : FuncId := 43
def o_1q : C := (.seq (.reg false [⟨some 6,.mv (.d (.int .i64 0)),none,[]⟩]) (.seq (.block 0 (.seq (.reg false [⟨some 12,.mv (.t 0),none,[]⟩,⟨some 13,.mv (.t 2),none,[]⟩,⟨some 14,.call 77 [(.t 12),(.t 13)],none,[0,1]⟩,⟨some 15,.un .not
 (.t 14),none,[2]⟩,⟨some 11,.mv (.t 15),none,[3,2]⟩]) (.cond (.t 11) (.seq (.reg false [⟨some 6,.mv (.d (.int .i64 10)),none,[]⟩]) .ret) (.seq (.reg true [⟨some 17,.mv (.t 0),none,[]⟩,⟨some 18,.chk (.t
 17),none,[0]⟩,⟨some 19,.fa 6 (.t 18),none,[1]⟩,⟨some 20,.load false 1 (.t 19),none,[2]⟩,⟨some 21,.mv (.t 2),none,[]⟩,⟨some 22,.chk (.t 21),none,[4]⟩,⟨some 23,.fa 6 (.t 22),none,[5]⟩,⟨some 24,.load false 1 (.t
 23),none,[6]⟩,⟨some 25,.bin .add (.t 20) (.t 24),none,[3,7]⟩,⟨some 26,.bin .gtr (.t 25) (.d (.int .i64 1099511627776)),none,[8]⟩,⟨some 16,.mv (.t 26),none,[9]⟩]) (.cond (.t 16) (.seq (.reg false [⟨some 6,.mv (.d (.int
 .i64 3)),none,[]⟩]) .ret) .skip))))) (.seq (.reg false [⟨some 27,.mv (.t 0),none,[]⟩,⟨some 28,.call 29 [(.t 27)],none,[0]⟩,⟨some 7,.mv (.t 28),none,[1,1,0,1]⟩]) (.seq (.seq (.reg false [⟨some 29,.mv (.t
 7),none,[]⟩,⟨some 30,.chk (.t 29),none,[0]⟩,⟨some 31,.fa 5 (.t 30),none,[1]⟩,⟨some 32,.load false 1 (.t 31),none,[2]⟩,⟨some 33,.len (.t 32),none,[3]⟩,⟨some 34,.mv (.d (.int .i64 0)),none,[]⟩]) (.block 1 (.loop (.seq
 (.reg false [⟨some 35,.bin .lss (.t 34) (.t 33),none,[]⟩]) (.seq (.cond (.t 35) .skip (.exit 1)) (.seq (.block 2 (.seq (.reg false [⟨some 36,.mv (.t 34),none,[]⟩,⟨some 37,.ix 3 (.t 32) (.t 34),none,[]⟩,⟨some 38,.load
 true 3 (.t 37),none,[1]⟩,⟨some 9,.new 111 [(.int .u64 0),(.int .u64 0),.nilp],none,[]⟩,⟨some 8,.mv (.t 36),none,[0,0,1,2,3]⟩,⟨none,.store 3 (.t 9) (.t 38),none,[3,2,4,0,1,2,3,4]⟩]) (.seq (.reg true [⟨some 39,.fa 2 (.t
 9),none,[]⟩,⟨some 40,.load false 1 (.t 39),none,[0]⟩,⟨some 41,.mv (.t 1),none,[]⟩,⟨some 42,.mv (.t 2),none,[]⟩,⟨some 43,.chk (.t 42),none,[3]⟩,⟨some 44,.fa 5 (.t 43),none,[4]⟩,⟨some 45,.load false 1 (.t
 44),none,[5]⟩,⟨some 46,.mv (.t 8),none,[]⟩,⟨some 47,.ix 3 (.t 45) (.t 46),none,[6,7]⟩,⟨some 48,.fa 2 (.t 47),none,[8]⟩,⟨some 49,.load false 1 (.t 48),none,[9]⟩,⟨some 50,.call 94 [(.t 40),(.t 41),(.t
 49)],none,[1,2,10]⟩,⟨some 10,.mv (.t 50),none,[11,11,0,1,2,3,4,5,6,7,8,9,10,11]⟩]) (.seq (.reg false [⟨some 51,.mv (.t 10),none,[]⟩,⟨some 52,.bin .neq (.t 51) (.d (.int .i64 0)),none,[0]⟩]) (.cond (.t 52) (.seq (.reg
 false [⟨some 53,.mv (.t 10),none,[]⟩,⟨some 6,.mv (.t 53),none,[0,0]⟩]) .ret) .skip))))) (.reg false [⟨some 54,.bin .add (.t 34) (.d (.int .i64 1)),none,[]⟩,⟨some 34,.mv (.t 54),none,[0]⟩]))))))) (.seq (.reg true [⟨some
 55,.mv (.t 7),none,[]⟩,⟨some 56,.chk (.t 55),none,[0]⟩,⟨some 57,.fa 6 (.t 56),none,[1]⟩,⟨some 58,.load false 1 (.t 57),none,[2]⟩,⟨some 59,.mv (.t 2),none,[]⟩,⟨some 60,.chk (.t 59),none,[4]⟩,⟨some 61,.fa 6 (.t
 60),none,[5]⟩,⟨some 62,.load false 1 (.t 61),none,[6]⟩,⟨some 63,.bin .add (.t 58) (.t 62),none,[3,7]⟩,⟨some 64,.chk (.t 55),none,[0,0,1,2,3,4,5,6,7,8]⟩,⟨some 65,.fa 6 (.t 64),none,[9,0,1,2,3,4,5,6,7,8]⟩,⟨none,.store 1
 (.t 65) (.t 63),none,[10,8,0,1,2,3,4,5,6,7,8]⟩]) (.seq (.reg false [⟨some 66,.mv (.t 0),none,[]⟩,⟨some 67,.mv (.t 7),none,[]⟩,⟨some 68,.chk (.t 67),none,[1]⟩,⟨some 69,.load true 7 (.t 68),none,[2]⟩,⟨some 70,.chk (.t
 66),none,[0,0,1,2,3]⟩,⟨none,.store 7 (.t 70) (.t 69),none,[4,3,0,1,2,3]⟩]) (.seq (.reg false [⟨some 6,.mv (.d (.int .i64 0)),none,[]⟩]) .ret)))))))
theorem o_2d : fnOf Tryz.prog o_19 = some (o_1q, [.t 6], 71, false) := by kernel_rfl

/-- (tallymark/reg.Param).Merge -/
abbrev o_bd : FuncId := 44
def o_5p : C := (.seq (.reg false [⟨some 4,.box 30 (.t 0),none,[]⟩,⟨some 6,.box 64 (.t 2),none,[]⟩,⟨some 7,.box 64 (.t 3),none,[]⟩,⟨some 8,.new 64 [(.int .i64 0),(.int .i64 0),(.bool false)],none,[]⟩,⟨some 9,.mv (.d (.int .i64
 0)),none,[]⟩]) (.seq (.seq (.reg false [⟨some 15,.load true 3 (.t 4),none,[]⟩,⟨some 16,.load true 3 (.t 6),none,[]⟩,⟨some 17,.load true 3 (.t 7),none,[]⟩,⟨some 18,.bsl 64 3 2 [(.int .i64 0),(.int .i64 0),(.bool
 false),(.int .i64 0),(.int .i64 0),(.bool false)] [(0,3,(.t 16)),(3,3,(.t 17))],none,[1,2]⟩,⟨some 19,.call 66 [(.t 15),(.t 18)],none,[0,3]⟩,⟨some 10,.mv (.t 19),none,[4,4,0,1,2,3,4]⟩]) (.seq (.reg false [⟨some 20,.mv
 (.t 10),none,[]⟩,⟨some 21,.bin .neq (.t 20) (.d (.int .i64 0)),none,[0]⟩]) (.cond (.t 21) (.seq (.reg false [⟨some 22,.load true 3 (.t 6),none,[]⟩,⟨some 23,.mv (.t 10),none,[]⟩,⟨none,.store 3 (.t 8) (.t
 22),none,[0,0]⟩,⟨some 9,.mv (.t 23),none,[1,2,0,1,2]⟩]) .ret) .skip))) (.seq (.seq (.reg false [⟨some 24,.fa 0 (.t 4),none,[]⟩,⟨some 25,.load false 1 (.t 24),none,[0]⟩,⟨some 26,.bin .eql (.t 25) (.d (.int .i64
 4)),none,[1]⟩]) (.cond (.t 26) (.seq (.reg true [⟨some 28,.load true 3 (.t 4),none,[]⟩,⟨some 29,.call 67 [(.t 28)],none,[0]⟩,⟨some 30,.mv (.t 1),none,[]⟩,⟨some 31,.load true 3 (.t 6),none,[]⟩,⟨some 32,.call 69 [(.t
 31)],none,[3,1]⟩,⟨some 33,.load true 3 (.t 7),none,[]⟩,⟨some 34,.call 69 [(.t 33)],none,[5,4]⟩,⟨some 35,.call 95 [(.t 29),(.t 30),(.t 32),(.t 34)],none,[1,2,4,6,6]⟩,⟨some 27,.mv (.t 35),none,[7]⟩,⟨some 36,.ext (.t 27)
 0,none,[8]⟩,⟨some 37,.ext (.t 27) 1,none,[8]⟩,⟨some 11,.new 139 [(.int .i64 0),(.int .i64 0),(.bool false)],none,[]⟩,⟨none,.store 3 (.t 11) (.t 36),none,[11,9,7,0,1,2,3,4,5,6,7,8,9,11]⟩,⟨some 12,.mv (.t
 37),none,[10,12,0,1,2,3,4,5,6,7,8,9,10,11,12]⟩]) (.seq (.reg false [⟨some 38,.load true 3 (.t 11),none,[]⟩,⟨some 39,.call 80 [(.t 38)],none,[0]⟩,⟨some 40,.mv (.t 12),none,[]⟩,⟨none,.store 3 (.t 8) (.t
 39),none,[1,1,0,1]⟩,⟨some 9,.mv (.t 40),none,[2,3,0,1,2,3]⟩]) .ret)) .skip)) (.seq (.reg true [⟨some 42,.load true 3 (.t 4),none,[]⟩,⟨some 43,.call 71 [(.t 42)],none,[0]⟩,⟨some 44,.mv (.t 1),none,[]⟩,⟨some 45,.load true
 3 (.t 6),none,[]⟩,⟨some 46,.call 82 [(.t 45)],none,[3,1]⟩,⟨some 47,.load true 3 (.t 7),none,[]⟩,⟨some 48,.call 82 [(.t 47)],none,[5,4]⟩,⟨some 49,.call 96 [(.t 43),(.t 44),(.t 46),(.t 48)],none,[1,2,4,6,6]⟩,⟨some 41,.mv
 (.t 49),none,[7]⟩,⟨some 50,.ext (.t 41) 0,none,[8]⟩,⟨some 51,.ext (.t 41) 1,none,[8]⟩,⟨some 13,.new 155 [(.int .i64 0),(.bool false)],none,[]⟩,⟨none,.store 2 (.t 13) (.t 50),none,[11,9,7,0,1,2,3,4,5,6,7,8,9,11]⟩,⟨some
 14,.mv (.t 51),none,[10,12,0,1,2,3,4,5,6,7,8,9,10,11,12]⟩]) (.seq (.reg false [⟨some 52,.load true 2 (.t 13),none,[]⟩,⟨some 53,.call 83 [(.t 52)],none,[0]⟩,⟨some 54,.mv (.t 14),none,[]⟩,⟨none,.store 3 (.t 8) (.t
 53),none,[1,1,0,1]⟩,⟨some 9,.mv (.t 54),none,[2,3,0,1,2,3]⟩]) .ret)))))
theorem o_lz : fnOf Tryz.prog o_bd = some (o_5p, [.cell 8 true 3, .t 9], 55, false) := by kernel_rfl

/-- tallymark/tallymarklaw17.Small -/
abbrev o_be : FuncId := 45
def o_2e : C := (.seq (.reg false [⟨some 2,.box 23 (.t 0),none,[]⟩,⟨some 3,.box 100 (.t 1),none,[]⟩,⟨some 4,.new 23 [(.int .i64 0),(.int .i64 0),(.int .i64 0)],none,[]⟩,⟨some 5,.new 100 [(.int .i64 0),(.int .i64 0),(.bool
 false)],none,[]⟩]) (.seq (.reg false [⟨some 6,.fa 0 (.t 2),none,[]⟩,⟨some 7,.load false 1 (.t 6),none,[0]⟩,⟨some 8,.bin .rem (.t 7) (.d (.int .i64 4)),none,[1]⟩,⟨some 9,.bin .add (.t 8) (.d (.int .i64
 4)),none,[2]⟩,⟨some 10,.bin .rem (.t 9) (.d (.int .i64 4)),none,[3]⟩,⟨some 11,.bin .add (.d (.int .i64 1)) (.t 10),none,[4]⟩,⟨some 12,.fa 0 (.t 2),none,[0,1,2,3,4,5]⟩,⟨none,.store 1 (.t 12) (.t
 11),none,[6,5,0,1,2,3,4,5]⟩]) (.seq (.seq (.reg false [⟨some 13,.fa 0 (.t 2),none,[]⟩,⟨some 14,.load false 1 (.t 13),none,[0]⟩]) (.block 0 (.seq (.reg false [⟨some 25,.bin .eql (.t 14) (.d (.int .i64 1)),none,[]⟩,⟨some
 24,.mv (.t 25),none,[0]⟩]) (.cond (.t 24) (.reg false [⟨some 26,.fa 1 (.t 2),none,[]⟩,⟨some 27,.load false 1 (.t 26),none,[0]⟩,⟨some 28,.bin .and (.t 27) (.d (.int .i64 3)),none,[1]⟩,⟨some 29,.bin .add (.d (.int .i64
 1)) (.t 28),none,[2]⟩,⟨some 30,.fa 2 (.t 2),none,[]⟩,⟨some 31,.load false 1 (.t 30),none,[4]⟩,⟨some 32,.bin .and (.t 31) (.d (.int .i64 255)),none,[5]⟩,⟨some 33,.bin .rem (.t 32) (.d (.int .i64 4)),none,[6]⟩,⟨some
 34,.bin .add (.d (.int .i64 1)) (.t 33),none,[7]⟩,⟨some 35,.fa 1 (.t 2),none,[0,1,2,3,4,5]⟩,⟨none,.store 1 (.t 35) (.t 29),none,[9,3,0,1,2,3,4,5]⟩,⟨some 36,.fa 2 (.t 2),none,[0,1,2,3,4,5,6,7,8,9,10]⟩,⟨none,.store 1 (.t
 36) (.t 34),none,[11,8,10,0,1,2,3,4,5,6,7,8,9,10]⟩]) (.seq (.reg false [⟨some 38,.bin .eql (.t 14) (.d (.int .i64 2)),none,[]⟩,⟨some 37,.mv (.t 38),none,[0]⟩]) (.cond (.t 37) (.reg false [⟨some 39,.fa 1 (.t
 2),none,[]⟩,⟨some 40,.load false 1 (.t 39),none,[0]⟩,⟨some 41,.bin .and (.t 40) (.d (.int .i64 1)),none,[1]⟩,⟨some 42,.fa 2 (.t 2),none,[]⟩,⟨some 43,.load false 1 (.t 42),none,[3]⟩,⟨some 44,.bin .and (.t 43) (.d (.int
 .i64 255)),none,[4]⟩,⟨some 45,.bin .rem (.t 44) (.d (.int .i64 4)),none,[5]⟩,⟨some 46,.bin .add (.d (.int .i64 1)) (.t 45),none,[6]⟩,⟨some 47,.fa 1 (.t 2),none,[0,1,2,3,4]⟩,⟨none,.store 1 (.t 47) (.t
 41),none,[8,2,0,1,2,3,4]⟩,⟨some 48,.fa 2 (.t 2),none,[0,1,2,3,4,5,6,7,8,9]⟩,⟨none,.store 1 (.t 48) (.t 46),none,[10,7,9,0,1,2,3,4,5,6,7,8,9]⟩]) (.seq (.reg false [⟨some 50,.bin .eql (.t 14) (.d (.int .i64
 3)),none,[]⟩,⟨some 49,.mv (.t 50),none,[0]⟩]) (.cond (.t 49) (.reg false [⟨some 51,.fa 1 (.t 2),none,[]⟩,⟨some 52,.load false 1 (.t 51),none,[0]⟩,⟨some 53,.bin .and (.t 52) (.d (.int .i64 1)),none,[1]⟩,⟨some 54,.bin
 .add (.d (.int .i64 1)) (.t 53),none,[2]⟩,⟨some 55,.fa 2 (.t 2),none,[]⟩,⟨some 56,.load false 1 (.t 55),none,[4]⟩,⟨some 57,.bin .and (.t 56) (.d (.int .i64 255)),none,[5]⟩,⟨some 58,.bin .rem (.t 57) (.d (.int .i64
 4)),none,[6]⟩,⟨some 59,.bin .add (.d (.int .i64 1)) (.t 58),none,[7]⟩,⟨some 60,.fa 1 (.t 2),none,[0,1,2,3,4,5]⟩,⟨none,.store 1 (.t 60) (.t 54),none,[9,3,0,1,2,3,4,5]⟩,⟨some 61,.fa 2 (.t
 2),none,[0,1,2,3,4,5,6,7,8,9,10]⟩,⟨none,.store 1 (.t 61) (.t 59),none,[11,8,10,0,1,2,3,4,5,6,7,8,9,10]⟩]) (.reg false [⟨some 15,.fa 1 (.t 2),none,[]⟩,⟨some 16,.load false 1 (.t 15),none,[0]⟩,⟨some 17,.bin .and (.t 16)
 (.d (.int .i64 7)),none,[1]⟩,⟨some 18,.bin .add (.d (.int .i64 1)) (.t 17),none,[2]⟩,⟨some 19,.fa 2 (.t 2),none,[]⟩,⟨some 20,.load false 1 (.t 19),none,[4]⟩,⟨some 21,.bin .and (.t 20) (.d (.int .i64 3)),none,[5]⟩,⟨some
 22,.fa 1 (.t 2),none,[0,1,2,3,4,5]⟩,⟨none,.store 1 (.t 22) (.t 18),none,[7,3,0,1,2,3,4,5]⟩,⟨some 23,.fa 2 (.t 2),none,[0,1,2,3,4,5,6,7,8]⟩,⟨none,.store 1 (.t 23) (.t 21),none,[9,6,8,0,1,2,3,4,5,6,7,8]⟩]))))))))) (.seq
 (.reg true [⟨some 62,.load true 3 (.t 2),none,[]⟩,⟨some 63,.load true 3 (.t 2),none,[]⟩,⟨some 64,.load true 3 (.t 3),none,[]⟩,⟨some 65,.call 97 [(.t 63),(.t 64)],none,[1,2]⟩,⟨none,.store 3 (.t 4) (.t
 62),none,[0,3,0]⟩,⟨none,.store 3 (.t 5) (.t 65),none,[3,4,0,1,2,3,4]⟩]) .ret))))
theorem o_3c : fnOf Tryz.prog o_be = some (o_2e, [.cell 4 true 3, .cell 5 true 3], 66, false) := by kernel_rfl

/-- tallymark/tallymarklaw17.Own -/
abbrev o_bf : FuncId := 46
def o_bg : C := (.seq (.reg false [⟨some 1,.box 23 (.t 0),none,[]⟩,⟨some 2,.new 30 [(.int .i64 0),(.int .i64 0),(.int .i64 0)],none,[]⟩]) (.seq (.reg false [⟨some 3,.fa 0 (.t 1),none,[]⟩,⟨some 4,.load false 1 (.t 3),none,[0]⟩,⟨some
 5,.fa 1 (.t 1),none,[]⟩,⟨some 6,.load false 1 (.t 5),none,[2]⟩,⟨some 7,.fa 2 (.t 1),none,[]⟩,⟨some 8,.load false 1 (.t 7),none,[4]⟩,⟨some 9,.build [(.int .i64 0),(.int .i64 0),(.int .i64 0)] [(0,1,(.t 4)),(1,1,(.t
 6)),(2,1,(.t 8))],none,[1,3,5]⟩,⟨none,.store 3 (.t 2) (.t 9),none,[6,0,1,2,3,4,5,6]⟩]) .ret))
theorem o_m0 : fnOf Tryz.prog o_bf = some (o_bg, [.cell 2 true 3], 10, false) := by kernel_rfl

/-- (tallymark/hash.Hash).Check -/
abbrev o_bh : FuncId := 47
def o_bi : C := (.seq (.reg false [⟨some 1,.box 62 (.t 0),none,[]⟩,⟨some 2,.mv (.d (.int .i64 0)),none,[]⟩]) (.seq (.seq (.reg false [⟨some 3,.fa 0 (.t 1),none,[]⟩,⟨some 4,.load false 1 (.t 3),none,[0]⟩,⟨some 5,.bin .geq (.t 4) (.d
 (.int .u64 2305843009213693951)),none,[1]⟩,⟨some 6,.mv (.t 5),none,[2]⟩,⟨some 7,.fa 1 (.t 1),some (6,false),[3]⟩,⟨some 8,.load false 1 (.t 7),some (6,false),[4,3]⟩,⟨some 9,.bin .geq (.t 8) (.d (.int .u64
 2305843009213693951)),some (6,false),[5,3]⟩,⟨some 10,.pick (.t 6) (.d (.bool true)) (.t 9),none,[3,6]⟩]) (.cond (.t 10) (.seq (.reg false [⟨some 2,.mv (.d (.int .i64 2)),none,[]⟩]) .ret) .skip)) (.seq (.reg false [⟨some
 2,.mv (.d (.int .i64 0)),none,[]⟩]) .ret)))
theorem o_m1 : fnOf Tryz.prog o_bh = some (o_bi, [.t 2], 11, false) := by kernel_rfl

/-- tallymark/carray.New -/
abbrev o_bj : FuncId := 48
def o_bk : C := (.seq (.reg false [⟨some 2,.box 30 (.t 0),none,[]⟩,⟨some 4,.mv (.d .nilp),none,[]⟩,⟨some 5,.mv (.d (.int .i64 0)),none,[1]⟩]) (.seq (.seq (.reg false [⟨some 8,.load true 3 (.t 2),none,[]⟩,⟨some 9,.call 85 [(.t
 8)],none,[0]⟩,⟨some 10,.bin .neq (.t 9) (.d (.int .i64 0)),none,[1]⟩,⟨some 11,.mv (.t 10),none,[2,1]⟩,⟨some 12,.mv (.t 1),some (11,false),[3]⟩,⟨some 13,.bin .lss (.t 12) (.d (.int .i64 1)),some (11,false),[4,3]⟩,⟨some
 14,.pick (.t 11) (.d (.bool true)) (.t 13),none,[3,5]⟩,⟨some 15,.mv (.t 14),none,[6,3]⟩,⟨some 16,.mv (.t 1),some (15,false),[7]⟩,⟨some 17,.bin .gtr (.t 16) (.d (.int .i64 256)),some (15,false),[8,7]⟩,⟨some 18,.pick (.t
 15) (.d (.bool true)) (.t 17),none,[7,9]⟩]) (.cond (.t 18) (.seq (.reg false [⟨some 4,.mv (.d .nilp),none,[]⟩,⟨some 5,.mv (.d (.int .i64 10)),none,[0,0]⟩]) .ret) .skip)) (.seq (.reg false [⟨some 20,.mv (.t
 1),none,[]⟩,⟨some 21,.load true 3 (.t 2),none,[]⟩,⟨some 22,.call 99 [(.t 21)],none,[1]⟩,⟨some 23,.call 98 [(.t 20),(.t 22)],none,[0,2,2]⟩,⟨some 19,.mv (.t 23),none,[3]⟩,⟨some 24,.ext (.t 19) 0,none,[4]⟩,⟨some 25,.ext
 (.t 19) 1,none,[4]⟩,⟨some 6,.mv (.t 24),none,[5,3,0,1,2,3,4,5]⟩,⟨some 7,.mv (.t 25),none,[6,7,0,1,2,3,4,5,6,7]⟩]) (.seq (.seq (.reg false [⟨some 26,.mv (.t 7),none,[]⟩,⟨some 27,.bin .neq (.t 26) (.d (.int .i64
 0)),none,[0]⟩]) (.cond (.t 27) (.seq (.reg false [⟨some 28,.mv (.t 7),none,[]⟩,⟨some 4,.mv (.d .nilp),none,[]⟩,⟨some 5,.mv (.t 28),none,[0,1,0,1]⟩]) .ret) .skip)) (.seq (.reg false [⟨some 29,.mv (.t 6),none,[]⟩,⟨some
 30,.load true 3 (.t 2),none,[]⟩,⟨some 31,.build [.nilp,(.int .i64 0),(.int .i64 0),(.int .i64 0)] [(0,1,(.t 29)),(1,3,(.t 30))],none,[0,1]⟩,⟨some 32,.box 166 (.t 31),none,[2]⟩,⟨some 4,.mv (.t 32),none,[3,0,1,2,3]⟩,⟨some
 5,.mv (.d (.int .i64 0)),none,[4,0,1,2,3,4]⟩]) .ret)))))
theorem o_m2 : fnOf Tryz.prog o_bj = some (o_bk, [.t 4, .t 5], 33, false) := by kernel_rfl

/-- (tallymark/tallymarklaw21.Draw).Hashes$1 -/
abbrev o_5q : FuncId := 49
def o_bl : C := (.seq (.reg false [⟨some 3,.mv (.d (.int .u64 0)),none,[]⟩]) (.seq (.seq (.reg false [⟨some 4,.mv (.t 0),none,[]⟩,⟨some 5,.fa 5 (.t 1),none,[]⟩,⟨some 6,.load false 1 (.t 5),none,[1]⟩,⟨some 7,.len (.t 6),none,[2]⟩,⟨some
 8,.bin .lss (.t 4) (.t 7),none,[0,3]⟩]) (.cond (.t 8) (.seq (.reg false [⟨some 9,.fa 5 (.t 1),none,[]⟩,⟨some 10,.load false 1 (.t 9),none,[0]⟩,⟨some 11,.mv (.t 0),none,[]⟩,⟨some 12,.ix 1 (.t 10) (.t
 11),none,[1,2]⟩,⟨some 13,.load false 1 (.t 12),none,[3]⟩,⟨some 14,.bin .rem (.t 13) (.d (.int .u64 2305843009213693951)),none,[4]⟩,⟨some 3,.mv (.t 14),none,[5,0,1,2,3,4,5]⟩]) .ret) .skip)) (.seq (.reg false [⟨some
 15,.mv (.t 0),none,[]⟩,⟨some 16,.bin .add (.t 15) (.d (.int .i64 1)),none,[0]⟩,⟨some 17,.conv .u64 (.t 16),none,[1]⟩,⟨some 3,.mv (.t 17),none,[2,0,1,2]⟩]) .ret)))
theorem o_m3 : fnOf Tryz.prog o_5q = some (o_bl, [.t 3], 18, false) := by kernel_rfl

/-- slices.Clone[[]bool,bool] -/
abbrev o_bm : FuncId := 50
def o_bn : C := (.seq (.reg false [⟨some 2,.mv (.d .nilsl),none,[]⟩]) (.seq (.seq (.reg false [⟨some 3,.mv (.t 0),none,[]⟩,⟨some 4,.snl false (.t 3),none,[0]⟩]) (.cond (.t 4) (.seq (.reg false [⟨some 2,.mv (.d .nilsl),none,[]⟩]) .ret)
 .skip)) (.seq (.reg false [⟨some 5,.bsl0,none,[]⟩,⟨some 6,.mv (.t 0),none,[]⟩,⟨some 7,.app 4 1 1 (.t 5) (.t 6),none,[0,1]⟩,⟨some 2,.mv (.t 7),none,[2,2,0,1,2]⟩]) .ret)))
theorem o_m4 : fnOf Tryz.prog o_bm = some (o_bn, [.t 2], 8, false) := by kernel_rfl

/-- (tallymark/hash.Hash).Of -/
abbrev o_bo : FuncId := 51
def o_bp : C := (.seq (.reg false [⟨some 3,.box 62 (.t 0),none,[]⟩,⟨some 6,.mv (.d (.int .i64 0)),none,[]⟩,⟨some 7,.mv (.d (.int .i64 0)),none,[1]⟩]) (.seq (.seq (.reg false [⟨some 9,.load true 2 (.t 3),none,[]⟩,⟨some 10,.call 47 [(.t
 9)],none,[0]⟩,⟨some 8,.mv (.t 10),none,[1,1,0,1]⟩]) (.block 0 (.seq (.reg false [⟨some 12,.mv (.t 8),none,[]⟩,⟨some 13,.bin .neq (.t 12) (.d (.int .i64 0)),none,[0]⟩,⟨some 11,.mv (.t 13),none,[1]⟩]) (.cond (.t 11) (.seq
 (.reg false [⟨some 14,.mv (.t 8),none,[]⟩,⟨some 6,.mv (.d (.int .i64 0)),none,[]⟩,⟨some 7,.mv (.t 14),none,[0,1,0,1]⟩]) .ret) (.seq (.reg false [⟨some 16,.mv (.t 1),none,[]⟩,⟨some 17,.bin .geq (.t 16) (.d (.int .u64
 2305843009213693951)),none,[0]⟩,⟨some 15,.mv (.t 17),none,[1]⟩]) (.cond (.t 15) (.seq (.reg false [⟨some 6,.mv (.d (.int .i64 0)),none,[]⟩,⟨some 7,.mv (.d (.int .i64 2)),none,[0,0]⟩]) .ret) (.seq (.reg false [⟨some
 19,.mv (.t 2),none,[]⟩,⟨some 20,.bin .lss (.t 19) (.d (.int .i64 1)),none,[0]⟩,⟨some 21,.mv (.t 20),none,[1]⟩,⟨some 22,.mv (.t 2),some (21,false),[2]⟩,⟨some 23,.bin .gtr (.t 22) (.d (.int .i64 64)),some
 (21,false),[3,2]⟩,⟨some 24,.pick (.t 21) (.d (.bool true)) (.t 23),none,[2,4]⟩,⟨some 18,.mv (.t 24),none,[5,2]⟩]) (.cond (.t 18) (.seq (.reg false [⟨some 6,.mv (.d (.int .i64 0)),none,[]⟩,⟨some 7,.mv (.d (.int .i64
 10)),none,[0,0]⟩]) .ret) .skip)))))))) (.seq (.reg false [⟨some 25,.load true 2 (.t 3),none,[]⟩,⟨some 26,.mv (.t 1),none,[]⟩,⟨some 27,.call 100 [(.t 25),(.t 26)],none,[0,1]⟩,⟨some 28,.mv (.t 2),none,[]⟩,⟨some 29,.conv
 .u64 (.t 28),none,[3]⟩,⟨some 30,.bin .rem (.t 27) (.t 29),none,[2,4]⟩,⟨some 31,.conv .i64 (.t 30),none,[5]⟩,⟨some 6,.mv (.t 31),none,[6,2,0,1,2,3,4,5,6]⟩,⟨some 7,.mv (.d (.int .i64 0)),none,[7,0,1,2,3,4,5,6,7]⟩]) .ret)))
theorem o_m5 : fnOf Tryz.prog o_bo = some (o_bp, [.t 6, .t 7], 32, false) := by kernel_rfl

/-- (*tallymark/carray.Array).Add -/
abbrev o_5r : FuncId := 52
def o_5s : C := (.seq (.reg false [⟨some 8,.mv (.d (.int .i64 0)),none,[]⟩]) (.seq (.reg false [⟨some 12,.mv (.t 0),none,[]⟩,⟨some 13,.mv (.t 2),none,[]⟩,⟨some 14,.call 53 [(.t 12),(.t 13)],none,[0,1]⟩,⟨some 11,.mv (.t
 14),none,[2]⟩,⟨some 15,.ext (.t 11) 0,none,[3]⟩,⟨some 16,.ext (.t 11) 1,none,[3]⟩,⟨some 9,.new 64 [(.int .i64 0),(.int .i64 0),(.bool false)],none,[]⟩,⟨none,.store 3 (.t 9) (.t 15),none,[6,4,2,0,1,2,3,4,6]⟩,⟨some 10,.mv
 (.t 16),none,[5,7,0,1,2,3,4,5,6,7]⟩]) (.seq (.seq (.reg false [⟨some 17,.mv (.t 10),none,[]⟩,⟨some 18,.bin .neq (.t 17) (.d (.int .i64 0)),none,[0]⟩]) (.cond (.t 18) (.seq (.reg false [⟨some 19,.mv (.t
 10),none,[]⟩,⟨some 8,.mv (.t 19),none,[0,0]⟩]) .ret) .skip)) (.seq (.seq (.reg true [⟨some 21,.mv (.t 0),none,[]⟩,⟨some 22,.chk (.t 21),none,[0]⟩,⟨some 23,.fa 1 (.t 22),none,[1]⟩,⟨some 24,.load true 3 (.t
 23),none,[2]⟩,⟨some 25,.mv (.t 1),none,[]⟩,⟨some 26,.load true 3 (.t 9),none,[]⟩,⟨some 27,.mv (.t 3),none,[]⟩,⟨some 28,.call 31 [(.t 24),(.t 25),(.t 26),(.t 27)],none,[3,4,5,6]⟩,⟨some 20,.mv (.t 28),none,[7]⟩,⟨some
 29,.ext (.t 20) 0,none,[8]⟩,⟨some 30,.ext (.t 20) 1,none,[8]⟩,⟨none,.store 3 (.t 9) (.t 29),none,[9,7,0,1,2,3,4,5,6,7,8,9]⟩,⟨some 10,.mv (.t 30),none,[10,11,0,1,2,3,4,5,6,7,8,9,10,11]⟩]) (.seq (.reg false [⟨some 31,.mv
 (.t 10),none,[]⟩,⟨some 32,.bin .neq (.t 31) (.d (.int .i64 0)),none,[0]⟩]) (.cond (.t 32) (.seq (.reg false [⟨some 33,.mv (.t 10),none,[]⟩,⟨some 8,.mv (.t 33),none,[0,0]⟩]) .ret) .skip))) (.seq (.reg false [⟨some 34,.mv
 (.t 0),none,[]⟩,⟨some 35,.mv (.t 2),none,[]⟩,⟨some 36,.load true 3 (.t 9),none,[]⟩,⟨some 37,.call 101 [(.t 34),(.t 35),(.t 36)],none,[0,1,2]⟩,⟨some 8,.mv (.t 37),none,[3,3,0,1,2,3]⟩]) .ret)))))
theorem o_m6 : fnOf Tryz.prog o_5r = some (o_5s, [.t 8], 38, false) := by kernel_rfl

/-- (*tallymark/carray.Array).Get -/
abbrev o_5t : FuncId := 53
def o_5u : C := (.seq (.reg false [⟨some 4,.new 64 [(.int .i64 0),(.int .i64 0),(.bool false)],none,[]⟩,⟨some 5,.mv (.d (.int .i64 0)),none,[]⟩]) (.seq (.reg false [⟨some 10,.mv (.t 0),none,[]⟩,⟨some 11,.chk (.t 10),none,[0]⟩,⟨some
 12,.fa 0 (.t 11),none,[1]⟩,⟨some 13,.load false 1 (.t 12),none,[2]⟩,⟨some 14,.mv (.t 1),none,[]⟩,⟨some 15,.call 102 [(.t 13),(.t 14)],none,[3,4]⟩,⟨some 9,.mv (.t 15),none,[5]⟩,⟨some 16,.ext (.t 9) 0,none,[6]⟩,⟨some
 17,.ext (.t 9) 1,none,[6]⟩,⟨some 6,.mv (.t 16),none,[7,5,0,1,2,3,4,5,6,7]⟩,⟨some 7,.mv (.t 17),none,[8,9,0,1,2,3,4,5,6,7,8,9]⟩]) (.seq (.seq (.reg false [⟨some 18,.mv (.t 7),none,[]⟩,⟨some 19,.bin .neq (.t 18) (.d (.int
 .i64 0)),none,[0]⟩]) (.cond (.t 19) (.seq (.reg false [⟨some 20,.build [(.int .i64 0),(.int .i64 0),(.bool false)] [],none,[]⟩,⟨some 21,.mv (.t 7),none,[]⟩,⟨none,.store 3 (.t 4) (.t 20),none,[0,0]⟩,⟨some 5,.mv (.t
 21),none,[1,2,0,1,2]⟩]) .ret) .skip)) (.seq (.reg false [⟨some 8,.new 85 [.nilsl,(.int .i64 0)],none,[]⟩]) (.seq (.reg false [⟨some 22,.mv (.t 6),none,[]⟩,⟨some 23,.mv (.t 0),none,[]⟩,⟨some 24,.chk (.t
 23),none,[1]⟩,⟨some 25,.fa 0 (.t 24),none,[2]⟩,⟨some 26,.load false 1 (.t 25),none,[3]⟩,⟨some 27,.call 103 [(.t 26)],none,[4]⟩,⟨some 28,.call 87 [(.t 8),(.t 22),(.t 27)],none,[0,5,5]⟩]) (.seq (.reg true [⟨some 29,.mv
 (.t 0),none,[]⟩,⟨some 30,.chk (.t 29),none,[0]⟩,⟨some 31,.fa 1 (.t 30),none,[1]⟩,⟨some 32,.load true 3 (.t 31),none,[2]⟩,⟨some 33,.call 39 [(.t 8)],none,[]⟩,⟨some 34,.call 38 [(.t 33)],none,[4,4]⟩,⟨some 35,.call 104
 [(.t 32),(.t 34)],none,[3,5,5]⟩,⟨some 36,.ext (.t 35) 0,none,[6]⟩,⟨some 37,.ext (.t 35) 1,none,[6]⟩,⟨none,.store 3 (.t 4) (.t 36),none,[7,6,0,1,2,3,4,5,6,7,8]⟩,⟨some 5,.mv (.t 37),none,[8,9,0,1,2,3,4,5,6,7,8,9]⟩])
 .ret))))))
theorem o_bq : fnOf Tryz.prog o_5t = some (o_5u, [.cell 4 true 3, .t 5], 38, false) := by kernel_rfl

/-- (tallymark/rat.Rat).Whole -/
abbrev o_br : FuncId := 58
def o_bs : C := (.seq (.reg false [⟨some 1,.box 51 (.t 0),none,[]⟩,⟨some 2,.mv (.d (.bool false)),none,[]⟩]) (.seq (.reg false [⟨some 3,.fa 2 (.t 1),none,[]⟩,⟨some 4,.load true 1 (.t 3),none,[0]⟩,⟨some 5,.call 109 [(.t
 4)],none,[1]⟩,⟨some 2,.mv (.t 5),none,[2,2,0,1,2]⟩]) .ret))
theorem o_m7 : fnOf Tryz.prog o_br = some (o_bs, [.t 2], 6, false) := by kernel_rfl

/-- (tallymark/whole.Whole).Text -/
abbrev o_bt : FuncId := 59
def o_bu : C := (.seq (.reg false [⟨some 1,.box 49 (.t 0),none,[]⟩,⟨some 2,.mv (.d (.str ⟨#[]⟩)),none,[]⟩]) (.seq (.seq (.reg false [⟨some 3,.fa 1 (.t 1),none,[]⟩,⟨some 4,.load false 1 (.t 3),none,[0]⟩]) (.cond (.t 4) (.seq (.reg false
 [⟨some 5,.fa 0 (.t 1),none,[]⟩,⟨some 6,.load true 1 (.t 5),none,[0]⟩,⟨some 7,.call 61 [(.t 6)],none,[1]⟩,⟨some 8,.bin .add (.d (.str ⟨#[45]⟩)) (.t 7),none,[2]⟩,⟨some 2,.mv (.t 8),none,[3,2,0,1,2,3]⟩]) .ret) .skip))
 (.seq (.reg false [⟨some 9,.fa 0 (.t 1),none,[]⟩,⟨some 10,.load true 1 (.t 9),none,[0]⟩,⟨some 11,.call 61 [(.t 10)],none,[1]⟩,⟨some 2,.mv (.t 11),none,[2,2,0,1,2]⟩]) .ret)))
theorem o_m8 : fnOf Tryz.prog o_bt = some (o_bu, [.t 2], 12, false) := by kernel_rfl

/-- (tallymark/nat.Nat).Text -/
abbrev o_bv : FuncId := 61
def o_bw : C := (.seq (.reg false [⟨some 1,.box 47 (.t 0),none,[]⟩,⟨some 2,.mv (.d (.str ⟨#[]⟩)),none,[]⟩]) (.seq (.seq (.reg false [⟨some 8,.load true 1 (.t 1),none,[]⟩,⟨some 9,.call 109 [(.t 8)],none,[0]⟩]) (.cond (.t 9) (.seq (.reg
 false [⟨some 2,.mv (.d (.str ⟨#[48]⟩)),none,[]⟩]) .ret) .skip)) (.seq (.reg false [⟨some 3,.mv (.d (.str ⟨#[]⟩)),none,[]⟩]) (.seq (.seq (.reg false [⟨some 10,.fa 0 (.t 1),none,[]⟩,⟨some 11,.load false 1 (.t
 10),none,[0]⟩,⟨some 4,.mv (.t 11),none,[1,0,1]⟩]) (.block 0 (.loop (.seq (.seq (.reg false [⟨some 12,.mv (.t 4),none,[]⟩,⟨some 13,.len (.t 12),none,[0]⟩,⟨some 14,.bin .gtr (.t 13) (.d (.int .i64 0)),none,[1]⟩]) (.cond
 (.t 14) .skip (.exit 0))) (.block 1 (.seq (.reg false [⟨some 16,.mv (.t 4),none,[]⟩,⟨some 17,.call 111 [(.t 16),(.d (.int .u64 1000000000000000000))],none,[0]⟩,⟨some 15,.mv (.t 17),none,[1]⟩,⟨some 18,.ext (.t 15)
 0,none,[2]⟩,⟨some 19,.ext (.t 15) 1,none,[2]⟩,⟨some 5,.mv (.t 18),none,[3,1,0,1,2,3]⟩,⟨some 6,.mv (.t 19),none,[4,5,0,1,2,3,4,5]⟩]) (.seq (.reg false [⟨some 20,.mv (.t 5),none,[]⟩,⟨some 21,.call 112 [(.t
 20)],none,[0]⟩,⟨some 22,.fld false 0 1 (.t 21),none,[1]⟩,⟨some 4,.mv (.t 22),none,[2,1,0,1,2]⟩]) (.seq (.reg false [⟨some 23,.mv (.t 6),none,[]⟩,⟨some 24,.call 113 [(.t 23),(.d (.int .i64 10))],none,[0]⟩,⟨some 7,.mv (.t
 24),none,[1,1,0,1]⟩]) (.seq (.seq (.reg false [⟨some 25,.mv (.t 4),none,[]⟩,⟨some 26,.len (.t 25),none,[0]⟩,⟨some 27,.bin .gtr (.t 26) (.d (.int .i64 0)),none,[1]⟩]) (.cond (.t 27) (.reg false [⟨some 28,.mv (.t
 7),none,[]⟩,⟨some 29,.lens (.t 28),none,[0]⟩,⟨some 30,.bin .sub (.d (.int .i64 18)) (.t 29),none,[1]⟩,⟨some 31,.call 114 [(.d (.str ⟨#[48]⟩)),(.t 30)],none,[2]⟩,⟨some 32,.mv (.t 7),none,[]⟩,⟨some 33,.bin .add (.t 31)
 (.t 32),none,[3,4]⟩,⟨some 7,.mv (.t 33),none,[5,3,0,1,2,3,4,5]⟩]) .skip)) (.reg false [⟨some 34,.mv (.t 7),none,[]⟩,⟨some 35,.mv (.t 3),none,[]⟩,⟨some 36,.bin .add (.t 34) (.t 35),none,[0,1]⟩,⟨some 3,.mv (.t
 36),none,[2,0,1,2]⟩])))))))))) (.seq (.reg false [⟨some 37,.mv (.t 3),none,[]⟩,⟨some 2,.mv (.t 37),none,[0,0]⟩]) .ret)))))
theorem o_m9 : fnOf Tryz.prog o_bv = some (o_bw, [.t 2], 38, false) := by kernel_rfl

/-- (tallymark/reg.Param).wrong -/
abbrev o_5v : FuncId := 66
def o_5w : C := (.seq (.reg false [⟨some 2,.box 30 (.t 0),none,[]⟩,⟨some 4,.mv (.d (.int .i64 0)),none,[]⟩]) (.seq (.seq (.reg false [⟨some 8,.load true 3 (.t 2),none,[]⟩,⟨some 9,.call 85 [(.t 8)],none,[0]⟩,⟨some 5,.mv (.t
 9),none,[1,1,0,1]⟩]) (.seq (.reg false [⟨some 10,.mv (.t 5),none,[]⟩,⟨some 11,.bin .neq (.t 10) (.d (.int .i64 0)),none,[0]⟩]) (.cond (.t 11) (.seq (.reg false [⟨some 12,.mv (.t 5),none,[]⟩,⟨some 4,.mv (.t
 12),none,[0,0]⟩]) .ret) .skip))) (.seq (.seq (.reg false [⟨some 13,.mv (.t 1),none,[]⟩,⟨some 14,.len (.t 13),none,[0]⟩,⟨some 15,.mv (.d (.int .i64 0)),none,[]⟩]) (.block 0 (.loop (.seq (.reg false [⟨some 16,.bin .lss
 (.t 15) (.t 14),none,[]⟩]) (.seq (.cond (.t 16) .skip (.exit 0)) (.seq (.block 1 (.seq (.reg false [⟨some 17,.ix 3 (.t 13) (.t 15),none,[]⟩,⟨some 18,.load true 3 (.t 17),none,[0]⟩,⟨some 7,.new 64 [(.int .i64 0),(.int
 .i64 0),(.bool false)],none,[]⟩,⟨none,.store 3 (.t 7) (.t 18),none,[2,1,0,1,2]⟩]) (.seq (.reg false [⟨some 19,.load true 3 (.t 2),none,[]⟩,⟨some 20,.load true 3 (.t 7),none,[]⟩,⟨some 21,.call 118 [(.t 19),(.t
 20)],none,[0,1]⟩,⟨some 22,.un .not (.t 21),none,[2]⟩]) (.cond (.t 22) (.seq (.reg false [⟨some 4,.mv (.d (.int .i64 2)),none,[]⟩]) .ret) .skip)))) (.reg false [⟨some 23,.bin .add (.t 15) (.d (.int .i64
 1)),none,[]⟩,⟨some 15,.mv (.t 23),none,[0]⟩]))))))) (.seq (.reg false [⟨some 4,.mv (.d (.int .i64 0)),none,[]⟩]) .ret))))
theorem o_bx : fnOf Tryz.prog o_5v = some (o_5w, [.t 4], 24, false) := by kernel_rfl

/-- (tallymark/reg.Param).thin -/
abbrev o_by : FuncId := 67
def o_bz : C := (.seq (.reg false [⟨some 1,.box 30 (.t 0),none,[]⟩,⟨some 2,.new 135 [(.int .i64 0),(.int .i64 0)],none,[]⟩]) (.seq (.reg false [⟨some 3,.fa 1 (.t 1),none,[]⟩,⟨some 4,.load false 1 (.t 3),none,[0]⟩,⟨some 5,.fa 2 (.t
 1),none,[]⟩,⟨some 6,.load false 1 (.t 5),none,[2]⟩,⟨some 7,.build [(.int .i64 0),(.int .i64 0)] [(0,1,(.t 4)),(1,1,(.t 6))],none,[1,3]⟩,⟨none,.store 2 (.t 2) (.t 7),none,[4,0,1,2,3,4]⟩]) .ret))
theorem o_ma : fnOf Tryz.prog o_by = some (o_bz, [.cell 2 true 2], 8, false) := by kernel_rfl

/-- (tallymark/reg.State).thinned -/
abbrev o_c0 : FuncId := 69
def o_c1 : C := (.seq (.reg false [⟨some 1,.box 64 (.t 0),none,[]⟩,⟨some 2,.new 139 [(.int .i64 0),(.int .i64 0),(.bool false)],none,[]⟩]) (.seq (.reg false [⟨some 3,.fa 0 (.t 1),none,[]⟩,⟨some 4,.load false 1 (.t 3),none,[0]⟩,⟨some
 5,.fa 1 (.t 1),none,[]⟩,⟨some 6,.load false 1 (.t 5),none,[2]⟩,⟨some 7,.fa 2 (.t 1),none,[]⟩,⟨some 8,.load false 1 (.t 7),none,[4]⟩,⟨some 9,.build [(.int .i64 0),(.int .i64 0),(.bool false)] [(0,1,(.t 4)),(1,1,(.t
 6)),(2,1,(.t 8))],none,[1,3,5]⟩,⟨none,.store 3 (.t 2) (.t 9),none,[6,0,1,2,3,4,5,6]⟩]) .ret))
theorem o_mb : fnOf Tryz.prog o_c0 = some (o_c1, [.cell 2 true 3], 10, false) := by kernel_rfl

/-- tallymark/rat.Nat -/
abbrev o_c2 : FuncId := 70
def o_c3 : C := (.seq (.reg false [⟨some 1,.box 47 (.t 0),none,[]⟩,⟨some 2,.new 51 [.nilsl,(.bool false),.nilsl],none,[]⟩]) (.seq (.reg false [⟨some 3,.load true 1 (.t 1),none,[]⟩,⟨some 4,.call 106 [(.d (.bool false)),(.t
 3)],none,[0]⟩,⟨some 5,.build [.nilsl,(.bool false),.nilsl] [(0,2,(.t 4))],none,[1]⟩,⟨none,.store 3 (.t 2) (.t 5),none,[2,1,0,1,2]⟩]) .ret))
theorem o_mc : fnOf Tryz.prog o_c2 = some (o_c3, [.cell 2 true 3], 6, false) := by kernel_rfl

/-- (tallymark/reg.Param).chain -/
abbrev o_c4 : FuncId := 71
def o_c5 : C := (.seq (.reg false [⟨some 1,.box 30 (.t 0),none,[]⟩,⟨some 2,.new 143 [(.int .i64 0),(.int .i64 0),(.int .i64 0)],none,[]⟩]) (.seq (.reg false [⟨some 3,.fa 0 (.t 1),none,[]⟩,⟨some 4,.load false 1 (.t 3),none,[0]⟩,⟨some
 5,.fa 1 (.t 1),none,[]⟩,⟨some 6,.load false 1 (.t 5),none,[2]⟩,⟨some 7,.fa 2 (.t 1),none,[]⟩,⟨some 8,.load false 1 (.t 7),none,[4]⟩,⟨some 9,.build [(.int .i64 0),(.int .i64 0),(.int .i64 0)] [(0,1,(.t 4)),(1,1,(.t
 6)),(2,1,(.t 8))],none,[1,3,5]⟩,⟨none,.store 3 (.t 2) (.t 9),none,[6,0,1,2,3,4,5,6]⟩]) .ret))
theorem o_md : fnOf Tryz.prog o_c4 = some (o_c5, [.cell 2 true 3], 10, false) := by kernel_rfl

/-- (tallymark/chain.Param).Value -/
abbrev o_c6 : FuncId := 72
def o_c7 : C := (.seq (.reg false [⟨some 2,.box 143 (.t 0),none,[]⟩,⟨some 4,.new 51 [.nilsl,(.bool false),.nilsl],none,[]⟩,⟨some 5,.mv (.d (.int .i64 0)),none,[]⟩]) (.seq (.seq (.reg false [⟨some 7,.load true 3 (.t 2),none,[]⟩,⟨some
 8,.mv (.t 1),none,[]⟩,⟨some 9,.bsl 3 1 1 [(.int .i64 0)] [(0,1,(.t 8))],none,[1]⟩,⟨some 10,.call 121 [(.t 7),(.t 9)],none,[0,2]⟩,⟨some 6,.mv (.t 10),none,[3,3,0,1,2,3]⟩]) (.seq (.reg false [⟨some 11,.mv (.t
 6),none,[]⟩,⟨some 12,.bin .neq (.t 11) (.d (.int .i64 0)),none,[0]⟩]) (.cond (.t 12) (.seq (.reg false [⟨some 13,.build [.nilsl,(.bool false),.nilsl] [],none,[]⟩,⟨some 14,.mv (.t 6),none,[]⟩,⟨none,.store 3 (.t 4) (.t
 13),none,[0,0]⟩,⟨some 5,.mv (.t 14),none,[1,2,0,1,2]⟩]) .ret) .skip))) (.seq (.reg false [⟨some 15,.load true 3 (.t 2),none,[]⟩,⟨some 16,.call 122 [(.t 15)],none,[0]⟩,⟨some 17,.mv (.t 1),none,[]⟩,⟨some 18,.inv (.t 16)
 "tallymark/chain.value" [(.t 17)],none,[1,2,1]⟩,⟨some 19,.ext (.t 18) 0,none,[3]⟩,⟨some 20,.ext (.t 18) 1,none,[3]⟩,⟨none,.store 3 (.t 4) (.t 19),none,[4,3,0,1,2,3,4,5]⟩,⟨some 5,.mv (.t 20),none,[5,6,0,1,2,3,4,5,6]⟩])
 .ret)))
theorem o_me : fnOf Tryz.prog o_c6 = some (o_c7, [.cell 4 true 3, .t 5], 21, false) := by kernel_rfl

/-- slices.Clone[[]tallymark/cms.row,tallymark/cms.row] -/
abbrev o_c8 : FuncId := 73
def o_c9 : C := (.seq (.reg false [⟨some 2,.mv (.d .nilsl),none,[]⟩]) (.seq (.seq (.reg false [⟨some 3,.mv (.t 0),none,[]⟩,⟨some 4,.snl false (.t 3),none,[0]⟩]) (.cond (.t 4) (.seq (.reg false [⟨some 2,.mv (.d .nilsl),none,[]⟩]) .ret)
 .skip)) (.seq (.reg false [⟨some 5,.bsl0,none,[]⟩,⟨some 6,.mv (.t 0),none,[]⟩,⟨some 7,.app 111 3 24 (.t 5) (.t 6),none,[0,1]⟩,⟨some 2,.mv (.t 7),none,[2,2,0,1,2]⟩]) .ret)))
theorem o_mf : fnOf Tryz.prog o_c8 = some (o_c9, [.t 2], 8, false) := by kernel_rfl

/-- (*tallymark/carray.Array).Clone -/
abbrev o_5x : FuncId := 74
def o_5y : C := (.seq (.reg false [⟨some 2,.mv (.d .nilp),none,[]⟩]) (.seq (.reg true [⟨some 3,.mv (.t 0),none,[]⟩,⟨some 4,.chk (.t 3),none,[0]⟩,⟨some 5,.fa 0 (.t 4),none,[1]⟩,⟨some 6,.load false 1 (.t 5),none,[2]⟩,⟨some 7,.call 123
 [(.t 6)],none,[3]⟩,⟨some 8,.mv (.t 0),none,[]⟩,⟨some 9,.chk (.t 8),none,[5]⟩,⟨some 10,.fa 1 (.t 9),none,[6]⟩,⟨some 11,.load true 3 (.t 10),none,[7]⟩,⟨some 12,.build [.nilp,(.int .i64 0),(.int .i64 0),(.int .i64 0)]
 [(0,1,(.t 7)),(1,3,(.t 11))],none,[4,8]⟩,⟨some 13,.box 166 (.t 12),none,[9]⟩,⟨some 2,.mv (.t 13),none,[10,4,0,1,2,3,4,5,6,7,8,9,10]⟩]) .ret))
theorem o_ca : fnOf Tryz.prog o_5x = some (o_5y, [.t 2], 14, false) := by kernel_rfl

/-- (*tallymark/cms.Sketch).Same$1 -/
abbrev o_5z : FuncId := 75
def o_cb : C := (.seq (.reg false [⟨some 2,.box 111 (.t 0),none,[]⟩,⟨some 3,.box 111 (.t 1),none,[]⟩,⟨some 4,.mv (.d (.bool false)),none,[]⟩]) (.seq (.reg false [⟨some 5,.fa 2 (.t 2),none,[]⟩,⟨some 6,.load false 1 (.t
 5),none,[0]⟩,⟨some 7,.fa 2 (.t 3),none,[]⟩,⟨some 8,.load false 1 (.t 7),none,[2]⟩,⟨some 9,.call 76 [(.t 6),(.t 8)],none,[1,3]⟩,⟨some 4,.mv (.t 9),none,[4,4,0,1,2,3,4]⟩]) .ret))
theorem o_mg : fnOf Tryz.prog o_5z = some (o_cb, [.t 4], 10, false) := by kernel_rfl

/-- (*tallymark/carray.Array).Same -/
abbrev o_cc : FuncId := 76
def o_cd : C := (.seq (.reg false [⟨some 4,.mv (.d (.bool false)),none,[]⟩]) (.seq (.reg true [⟨some 5,.mv (.t 0),none,[]⟩,⟨some 6,.chk (.t 5),none,[0]⟩,⟨some 7,.fa 1 (.t 6),none,[1]⟩,⟨some 8,.load true 3 (.t 7),none,[2]⟩,⟨some 9,.mv
 (.t 1),none,[]⟩,⟨some 10,.chk (.t 9),none,[4]⟩,⟨some 11,.fa 1 (.t 10),none,[5]⟩,⟨some 12,.load true 3 (.t 11),none,[6]⟩,⟨some 13,.aeq false [0,0,0] (.t 8) (.t 12),none,[3,7]⟩,⟨some 14,.mv (.t 13),none,[8]⟩,⟨some 15,.mv
 (.t 0),some (14,true),[9]⟩,⟨some 16,.chk (.t 15),some (14,true),[10,9]⟩,⟨some 17,.fa 0 (.t 16),some (14,true),[11,9]⟩,⟨some 18,.load false 1 (.t 17),some (14,true),[12,9]⟩,⟨some 19,.mv (.t 1),some (14,true),[9]⟩,⟨some
 20,.chk (.t 19),some (14,true),[14,9]⟩,⟨some 21,.fa 0 (.t 20),some (14,true),[15,9]⟩,⟨some 22,.load false 1 (.t 21),some (14,true),[16,9]⟩,⟨some 23,.call 124 [(.t 18),(.t 22)],some (14,true),[13,17,9,9]⟩,⟨some 24,.pick
 (.t 14) (.t 23) (.d (.bool false)),none,[9,18]⟩,⟨some 4,.mv (.t 24),none,[19,18,0,1,2,3,4,5,6,7,8,9,10,11,12,13,14,15,16,17,18,19]⟩]) .ret))
theorem o_mh : fnOf Tryz.prog o_cc = some (o_cd, [.t 4], 25, false) := by kernel_rfl

/-- (*tallymark/cms.Sketch).alike -/
abbrev o_ce : FuncId := 77
def o_cf : C := (.seq (.reg false [⟨some 4,.mv (.d (.bool false)),none,[]⟩]) (.seq (.reg true [⟨some 5,.mv (.t 0),none,[]⟩,⟨some 6,.chk (.t 5),none,[0]⟩,⟨some 7,.fa 0 (.t 6),none,[1]⟩,⟨some 8,.load true 5 (.t 7),none,[2]⟩,⟨some 9,.mv
 (.t 1),none,[]⟩,⟨some 10,.chk (.t 9),none,[4]⟩,⟨some 11,.fa 0 (.t 10),none,[5]⟩,⟨some 12,.load true 5 (.t 11),none,[6]⟩,⟨some 13,.aeq false [0,0,0,0,0] (.t 8) (.t 12),none,[3,7]⟩,⟨some 14,.mv (.t 13),none,[8]⟩,⟨some
 15,.mv (.t 0),some (14,true),[9]⟩,⟨some 16,.call 23 [(.t 15)],some (14,true),[10,9,9]⟩,⟨some 17,.mv (.t 1),some (14,true),[9]⟩,⟨some 18,.call 23 [(.t 17)],some (14,true),[12,11,9]⟩,⟨some 19,.call 125 [(.t 16),(.t
 18)],some (14,true),[11,13,13,9]⟩,⟨some 20,.pick (.t 14) (.t 19) (.d (.bool false)),none,[9,14]⟩,⟨some 4,.mv (.t 20),none,[15,14,0,1,2,3,4,5,6,7,8,9,10,11,12,13,14,15]⟩]) .ret))
theorem o_mi : fnOf Tryz.prog o_ce = some (o_cf, [.t 4], 21, false) := by kernel_rfl

/-- slices.EqualFunc[[]tallymark/cms.row,[]tallymark/cms.row,tallymark/cms.row,tallymark/cms.row] -/
abbrev o_cg : FuncId := 78
def o_ch : C := (.seq (.reg false [⟨some 6,.mv (.d (.bool false)),none,[]⟩]) (.seq (.seq (.reg false [⟨some 10,.mv (.t 0),none,[]⟩,⟨some 11,.len (.t 10),none,[0]⟩,⟨some 12,.mv (.t 1),none,[]⟩,⟨some 13,.len (.t 12),none,[2]⟩,⟨some
 14,.bin .neq (.t 11) (.t 13),none,[1,3]⟩]) (.cond (.t 14) (.seq (.reg false [⟨some 6,.mv (.d (.bool false)),none,[]⟩]) .ret) .skip)) (.seq (.seq (.reg false [⟨some 15,.mv (.t 0),none,[]⟩,⟨some 16,.len (.t
 15),none,[0]⟩,⟨some 17,.mv (.d (.int .i64 0)),none,[]⟩]) (.block 0 (.loop (.seq (.reg false [⟨some 18,.bin .lss (.t 17) (.t 16),none,[]⟩]) (.seq (.cond (.t 18) .skip (.exit 0)) (.seq (.block 1 (.seq (.reg false [⟨some
 19,.mv (.t 17),none,[]⟩,⟨some 20,.ix 3 (.t 15) (.t 17),none,[]⟩,⟨some 21,.load true 3 (.t 20),none,[1]⟩,⟨some 8,.new 111 [(.int .u64 0),(.int .u64 0),.nilp],none,[]⟩,⟨some 7,.mv (.t 19),none,[0,0,1,2,3]⟩,⟨none,.store 3
 (.t 8) (.t 21),none,[3,2,4,0,1,2,3,4]⟩]) (.seq (.reg false [⟨some 22,.mv (.t 1),none,[]⟩,⟨some 23,.mv (.t 7),none,[]⟩,⟨some 24,.ix 3 (.t 22) (.t 23),none,[0,1]⟩,⟨some 25,.load true 3 (.t 24),none,[2]⟩,⟨some 9,.new 111
 [(.int .u64 0),(.int .u64 0),.nilp],none,[]⟩,⟨none,.store 3 (.t 9) (.t 25),none,[4,3,0,1,2,3,4]⟩]) (.seq (.reg false [⟨some 26,.mv (.t 2),none,[]⟩,⟨some 27,.load true 3 (.t 8),none,[]⟩,⟨some 28,.load true 3 (.t
 9),none,[]⟩,⟨some 29,.callv (.t 26) [(.t 27),(.t 28)],none,[0,1,2]⟩,⟨some 30,.un .not (.t 29),none,[3]⟩]) (.cond (.t 30) (.seq (.reg false [⟨some 6,.mv (.d (.bool false)),none,[]⟩]) .ret) .skip))))) (.reg false [⟨some
 31,.bin .add (.t 17) (.d (.int .i64 1)),none,[]⟩,⟨some 17,.mv (.t 31),none,[0]⟩]))))))) (.seq (.reg false [⟨some 6,.mv (.d (.bool true)),none,[]⟩]) .ret))))
theorem o_mj : fnOf Tryz.prog o_cg = some (o_ch, [.t 6], 32, false) := by kernel_rfl

/-- (tallymark/thin.Param).Add -/
abbrev o_ci : FuncId := 79
def o_cj : C := (.seq (.reg false [⟨some 4,.box 135 (.t 0),none,[]⟩,⟨some 6,.box 139 (.t 2),none,[]⟩,⟨some 8,.new 139 [(.int .i64 0),(.int .i64 0),(.bool false)],none,[]⟩,⟨some 9,.mv (.d (.int .i64 0)),none,[]⟩]) (.seq (.seq (.reg
 false [⟨some 14,.load true 2 (.t 4),none,[]⟩,⟨some 15,.load true 3 (.t 6),none,[]⟩,⟨some 16,.bsl 139 3 1 [(.int .i64 0),(.int .i64 0),(.bool false)] [(0,3,(.t 15))],none,[1]⟩,⟨some 17,.call 119 [(.t 14),(.t
 16)],none,[0,2]⟩,⟨some 10,.mv (.t 17),none,[3,3,0,1,2,3]⟩]) (.seq (.reg false [⟨some 18,.mv (.t 10),none,[]⟩,⟨some 19,.bin .neq (.t 18) (.d (.int .i64 0)),none,[0]⟩]) (.cond (.t 19) (.seq (.reg false [⟨some 20,.load
 true 3 (.t 6),none,[]⟩,⟨some 21,.mv (.t 10),none,[]⟩,⟨none,.store 3 (.t 8) (.t 20),none,[0,0]⟩,⟨some 9,.mv (.t 21),none,[1,2,0,1,2]⟩]) .ret) .skip))) (.seq (.seq (.reg false [⟨some 22,.mv (.t 3),none,[]⟩,⟨some 23,.bin
 .gtr (.t 22) (.d (.int .i64 1048576)),none,[0]⟩]) (.cond (.t 23) (.seq (.reg false [⟨some 24,.load true 3 (.t 6),none,[]⟩,⟨none,.store 3 (.t 8) (.t 24),none,[0,0]⟩,⟨some 9,.mv (.d (.int .i64 2)),none,[1,0,1]⟩]) .ret)
 .skip)) (.seq (.reg false [⟨some 25,.load true 3 (.t 6),none,[]⟩,⟨some 11,.new 139 [(.int .i64 0),(.int .i64 0),(.bool false)],none,[]⟩,⟨none,.store 3 (.t 11) (.t 25),none,[1,0,0,1]⟩]) (.seq (.seq (.reg false [⟨some
 26,.mv (.t 3),none,[]⟩,⟨some 27,.mm true [(.d (.int .i64 0)),(.t 26)],none,[0]⟩,⟨some 28,.mv (.d (.int .i64 0)),none,[]⟩]) (.block 0 (.loop (.seq (.reg false [⟨some 29,.bin .lss (.t 28) (.t 27),none,[]⟩]) (.seq (.cond
 (.t 29) .skip (.exit 0)) (.seq (.block 1 (.seq (.reg false [⟨some 31,.load true 2 (.t 4),none,[]⟩,⟨some 32,.mv (.t 1),none,[]⟩,⟨some 33,.load true 3 (.t 11),none,[]⟩,⟨some 34,.call 126 [(.t 31),(.t 32),(.t
 33)],none,[0,1,2]⟩,⟨some 30,.mv (.t 34),none,[3]⟩,⟨some 35,.ext (.t 30) 0,none,[4]⟩,⟨some 36,.ext (.t 30) 1,none,[4]⟩,⟨some 12,.new 139 [(.int .i64 0),(.int .i64 0),(.bool false)],none,[]⟩,⟨none,.store 3 (.t 12) (.t
 35),none,[7,5,3,0,1,2,3,4,5,7]⟩,⟨some 13,.mv (.t 36),none,[6,8,0,1,2,3,4,5,6,7,8]⟩]) (.seq (.seq (.reg false [⟨some 37,.mv (.t 13),none,[]⟩,⟨some 38,.bin .neq (.t 37) (.d (.int .i64 0)),none,[0]⟩]) (.cond (.t 38) (.seq
 (.reg false [⟨some 39,.load true 3 (.t 6),none,[]⟩,⟨some 40,.mv (.t 13),none,[]⟩,⟨none,.store 3 (.t 8) (.t 39),none,[0,0]⟩,⟨some 9,.mv (.t 40),none,[1,2,0,1,2]⟩]) .ret) .skip)) (.reg false [⟨some 41,.load true 3 (.t
 12),none,[]⟩,⟨none,.store 3 (.t 11) (.t 41),none,[0,0]⟩])))) (.reg false [⟨some 42,.bin .add (.t 28) (.d (.int .i64 1)),none,[]⟩,⟨some 28,.mv (.t 42),none,[0]⟩]))))))) (.seq (.reg false [⟨some 43,.load true 3 (.t
 11),none,[]⟩,⟨none,.store 3 (.t 8) (.t 43),none,[0,0]⟩,⟨some 9,.mv (.d (.int .i64 0)),none,[1,0,1]⟩]) .ret))))))
theorem o_mk : fnOf Tryz.prog o_ci = some (o_cj, [.cell 8 true 3, .t 9], 44, false) := by kernel_rfl

/-- tallymark/reg.unthinned -/
abbrev o_ck : FuncId := 80
def o_cl : C := (.seq (.reg false [⟨some 1,.box 139 (.t 0),none,[]⟩,⟨some 2,.new 64 [(.int .i64 0),(.int .i64 0),(.bool false)],none,[]⟩]) (.seq (.reg false [⟨some 3,.fa 0 (.t 1),none,[]⟩,⟨some 4,.load false 1 (.t 3),none,[0]⟩,⟨some
 5,.fa 1 (.t 1),none,[]⟩,⟨some 6,.load false 1 (.t 5),none,[2]⟩,⟨some 7,.fa 2 (.t 1),none,[]⟩,⟨some 8,.load false 1 (.t 7),none,[4]⟩,⟨some 9,.build [(.int .i64 0),(.int .i64 0),(.bool false)] [(0,1,(.t 4)),(1,1,(.t
 6)),(2,1,(.t 8))],none,[1,3,5]⟩,⟨none,.store 3 (.t 2) (.t 9),none,[6,0,1,2,3,4,5,6]⟩]) .ret))
theorem o_ml : fnOf Tryz.prog o_ck = some (o_cl, [.cell 2 true 3], 10, false) := by kernel_rfl

/-- (tallymark/chain.Param).Add -/
abbrev o_60 : FuncId := 81
def o_cm : C := (.seq (.reg false [⟨some 4,.box 143 (.t 0),none,[]⟩,⟨some 5,.box 40 (.t 1),none,[]⟩,⟨some 6,.box 155 (.t 2),none,[]⟩,⟨some 8,.new 155 [(.int .i64 0),(.bool false)],none,[]⟩,⟨some 9,.mv (.d (.int .i64 0)),none,[]⟩])
 (.seq (.seq (.reg false [⟨some 14,.load true 3 (.t 4),none,[]⟩,⟨some 15,.fa 0 (.t 6),none,[]⟩,⟨some 16,.load false 1 (.t 15),none,[1]⟩,⟨some 17,.bsl 3 1 1 [(.int .i64 0)] [(0,1,(.t 16))],none,[2]⟩,⟨some 18,.call 121
 [(.t 14),(.t 17)],none,[0,3]⟩,⟨some 10,.mv (.t 18),none,[4,4,0,1,2,3,4]⟩]) (.seq (.reg false [⟨some 19,.mv (.t 10),none,[]⟩,⟨some 20,.bin .neq (.t 19) (.d (.int .i64 0)),none,[0]⟩]) (.cond (.t 20) (.seq (.reg false
 [⟨some 21,.load true 2 (.t 6),none,[]⟩,⟨some 22,.mv (.t 10),none,[]⟩,⟨none,.store 2 (.t 8) (.t 21),none,[0,0]⟩,⟨some 9,.mv (.t 22),none,[1,2,0,1,2]⟩]) .ret) .skip))) (.seq (.seq (.reg false [⟨some 23,.mv (.t
 3),none,[]⟩,⟨some 24,.bin .gtr (.t 23) (.d (.int .i64 1048576)),none,[0]⟩]) (.cond (.t 24) (.seq (.reg false [⟨some 25,.load true 2 (.t 6),none,[]⟩,⟨none,.store 2 (.t 8) (.t 25),none,[0,0]⟩,⟨some 9,.mv (.d (.int .i64
 2)),none,[1,0,1]⟩]) .ret) .skip)) (.seq (.reg false [⟨some 26,.load true 3 (.t 4),none,[]⟩,⟨some 27,.call 122 [(.t 26)],none,[0]⟩,⟨some 11,.new 203 [.nilifc],none,[]⟩,⟨none,.store 1 (.t 11) (.t 27),none,[2,1,1,0,1,2]⟩])
 (.seq (.reg false [⟨some 28,.load true 2 (.t 6),none,[]⟩,⟨some 12,.new 155 [(.int .i64 0),(.bool false)],none,[]⟩,⟨none,.store 2 (.t 12) (.t 28),none,[1,0,0,1]⟩,⟨some 13,.mv (.d (.int .i64 0)),none,[2,0,1,2]⟩]) (.seq
 (.seq (.reg false [⟨some 29,.mv (.t 3),none,[]⟩,⟨some 30,.mm true [(.d (.int .i64 0)),(.t 29)],none,[0]⟩,⟨some 31,.mv (.d (.int .i64 0)),none,[]⟩]) (.block 0 (.loop (.seq (.reg false [⟨some 32,.bin .lss (.t 31) (.t
 30),none,[]⟩]) (.seq (.cond (.t 32) .skip (.exit 0)) (.seq (.block 1 (.seq (.reg false [⟨some 34,.load true 3 (.t 4),none,[]⟩,⟨some 35,.load true 2 (.t 12),none,[]⟩,⟨some 36,.mkf (.func 128) [(.t 11),(.t
 5)],none,[]⟩,⟨some 37,.call 127 [(.t 34),(.t 35),(.t 36)],none,[0,1,2]⟩,⟨some 33,.mv (.t 37),none,[3]⟩,⟨some 38,.ext (.t 33) 0,none,[4]⟩,⟨some 39,.ext (.t 33) 1,none,[4]⟩,⟨none,.store 2 (.t 12) (.t
 38),none,[5,3,0,1,2,3,4,5]⟩,⟨some 13,.mv (.t 39),none,[6,7,0,1,2,3,4,5,6,7]⟩]) (.seq (.seq (.reg false [⟨some 40,.mv (.t 13),none,[]⟩,⟨some 41,.bin .neq (.t 40) (.d (.int .i64 0)),none,[0]⟩]) (.cond (.t 41) (.seq (.reg
 false [⟨some 42,.load true 2 (.t 6),none,[]⟩,⟨some 43,.mv (.t 13),none,[]⟩,⟨none,.store 2 (.t 8) (.t 42),none,[0,0]⟩,⟨some 9,.mv (.t 43),none,[1,2,0,1,2]⟩]) .ret) .skip)) (.seq (.reg true [⟨some 44,.fa 1 (.t
 12),none,[]⟩,⟨some 45,.load false 1 (.t 44),none,[0]⟩,⟨some 46,.mv (.t 45),none,[1]⟩,⟨some 47,.fa 0 (.t 12),some (46,true),[2]⟩,⟨some 48,.load false 1 (.t 47),some (46,true),[3,2]⟩,⟨some 49,.load true 3 (.t 4),some
 (46,true),[2]⟩,⟨some 50,.call 129 [(.t 49)],some (46,true),[5,2,2]⟩,⟨some 51,.bin .eql (.t 48) (.t 50),some (46,true),[4,6,2]⟩,⟨some 52,.pick (.t 46) (.t 51) (.d (.bool false)),none,[2,7]⟩]) (.cond (.t 52) (.exit 0)
 .skip))))) (.reg false [⟨some 53,.bin .add (.t 31) (.d (.int .i64 1)),none,[]⟩,⟨some 31,.mv (.t 53),none,[0]⟩]))))))) (.seq (.reg false [⟨some 54,.load true 2 (.t 12),none,[]⟩,⟨none,.store 2 (.t 8) (.t
 54),none,[0,0]⟩,⟨some 9,.mv (.d (.int .i64 0)),none,[1,0,1]⟩]) .ret)))))))
theorem o_mm : fnOf Tryz.prog o_60 = some (o_cm, [.cell 8 true 2, .t 9], 55, false) := by kernel_rfl

/-- (tallymark/reg.State).link -/
abbrev o_cn : FuncId := 82
def o_co : C := (.seq (.reg false [⟨some 1,.box 64 (.t 0),none,[]⟩,⟨some 2,.new 155 [(.int .i64 0),(.bool false)],none,[]⟩]) (.seq (.reg false [⟨some 3,.fa 0 (.t 1),none,[]⟩,⟨some 4,.load false 1 (.t 3),none,[0]⟩,⟨some 5,.fa 2 (.t
 1),none,[]⟩,⟨some 6,.load false 1 (.t 5),none,[2]⟩,⟨some 7,.build [(.int .i64 0),(.bool false)] [(0,1,(.t 4)),(1,1,(.t 6))],none,[1,3]⟩,⟨none,.store 2 (.t 2) (.t 7),none,[4,0,1,2,3,4]⟩]) .ret))
theorem o_mn : fnOf Tryz.prog o_cn = some (o_co, [.cell 2 true 2], 8, false) := by kernel_rfl

/-- tallymark/reg.linked -/
abbrev o_cp : FuncId := 83
def o_cq : C := (.seq (.reg false [⟨some 1,.box 155 (.t 0),none,[]⟩,⟨some 2,.new 64 [(.int .i64 0),(.int .i64 0),(.bool false)],none,[]⟩]) (.seq (.reg false [⟨some 3,.fa 0 (.t 1),none,[]⟩,⟨some 4,.load false 1 (.t 3),none,[0]⟩,⟨some
 5,.fa 1 (.t 1),none,[]⟩,⟨some 6,.load false 1 (.t 5),none,[2]⟩,⟨some 7,.build [(.int .i64 0),(.int .i64 0),(.bool false)] [(0,1,(.t 4)),(2,1,(.t 6))],none,[1,3]⟩,⟨none,.store 3 (.t 2) (.t 7),none,[4,0,1,2,3,4]⟩]) .ret))
theorem o_mo : fnOf Tryz.prog o_cp = some (o_cq, [.cell 2 true 3], 8, false) := by kernel_rfl

/-- (tallymark/reg.Param).Check -/
abbrev o_cr : FuncId := 85
def o_61 : C := (.seq (.reg false [⟨some 1,.box 30 (.t 0),none,[]⟩,⟨some 2,.mv (.d (.int .i64 0)),none,[]⟩]) (.seq (.seq (.reg false [⟨some 3,.fa 0 (.t 1),none,[]⟩,⟨some 4,.load false 1 (.t 3),none,[0]⟩,⟨some 5,.bin .eql (.t 4) (.d
 (.int .i64 4)),none,[1]⟩]) (.cond (.t 5) (.seq (.reg false [⟨some 6,.load true 3 (.t 1),none,[]⟩,⟨some 7,.call 67 [(.t 6)],none,[0]⟩,⟨some 8,.call 132 [(.t 7)],none,[1,1]⟩,⟨some 2,.mv (.t 8),none,[2,2,0,1,2]⟩]) .ret)
 .skip)) (.seq (.reg false [⟨some 9,.load true 3 (.t 1),none,[]⟩,⟨some 10,.call 71 [(.t 9)],none,[0]⟩,⟨some 11,.call 133 [(.t 10)],none,[1,1]⟩,⟨some 2,.mv (.t 11),none,[2,2,0,1,2]⟩]) .ret)))
theorem o_mp : fnOf Tryz.prog o_cr = some (o_61, [.t 2], 12, false) := by kernel_rfl

/-- (*tallymark/bits.Writer).Num -/
abbrev o_62 : FuncId := 87
def o_3d : C := (.seq (.reg false [⟨some 6,.mv (.d (.int .i64 0)),none,[]⟩]) (.seq (.seq (.reg false [⟨some 8,.mv (.t 2),none,[]⟩,⟨some 9,.call 134 [(.t 8)],none,[0]⟩,⟨some 10,.un .not (.t 9),none,[1]⟩,⟨some 11,.mv (.t
 10),none,[2,1]⟩,⟨some 12,.mv (.t 1),some (11,false),[3]⟩,⟨some 13,.mv (.t 2),some (11,false),[3]⟩,⟨some 14,.call 135 [(.t 12),(.t 13)],some (11,false),[4,5,3,3]⟩,⟨some 15,.un .not (.t 14),some (11,false),[6,3]⟩,⟨some
 16,.pick (.t 11) (.d (.bool true)) (.t 15),none,[3,7]⟩]) (.cond (.t 16) (.seq (.reg false [⟨some 6,.mv (.d (.int .i64 2)),none,[]⟩]) .ret) .skip)) (.seq (.seq (.reg false [⟨some 17,.mv (.t 2),none,[]⟩,⟨some 18,.mv (.d
 (.int .i64 0)),none,[]⟩]) (.block 0 (.loop (.seq (.reg false [⟨some 19,.bin .lss (.t 18) (.t 17),none,[]⟩]) (.seq (.cond (.t 19) .skip (.exit 0)) (.seq (.block 1 (.seq (.reg false [⟨some 20,.mv (.t 18),none,[]⟩,⟨some
 7,.mv (.t 20),none,[0,0]⟩]) (.reg false [⟨some 21,.mv (.t 0),none,[]⟩,⟨some 22,.mv (.t 1),none,[]⟩,⟨some 23,.mv (.t 2),none,[]⟩,⟨some 24,.bin .sub (.t 23) (.d (.int .i64 1)),none,[2]⟩,⟨some 25,.mv (.t 7),none,[]⟩,⟨some
 26,.bin .sub (.t 24) (.t 25),none,[3,4]⟩,⟨some 27,.bin .shr (.t 22) (.t 26),none,[1,5]⟩,⟨some 28,.bin .and (.t 27) (.d (.int .u64 1)),none,[6]⟩,⟨some 29,.bin .eql (.t 28) (.d (.int .u64 1)),none,[7]⟩,⟨some 30,.call 136
 [(.t 21),(.t 29)],none,[0,8]⟩]))) (.reg false [⟨some 31,.bin .add (.t 18) (.d (.int .i64 1)),none,[]⟩,⟨some 18,.mv (.t 31),none,[0]⟩]))))))) (.seq (.reg false [⟨some 6,.mv (.d (.int .i64 0)),none,[]⟩]) .ret))))
theorem o_63 : fnOf Tryz.prog o_62 = some (o_3d, [.t 6], 32, false) := by kernel_rfl

/-- (*tallymark/bits.Reader).Num -/
abbrev o_cs : FuncId := 90
def o_ct : C := (.seq (.reg false [⟨some 4,.mv (.d (.int .u64 0)),none,[]⟩,⟨some 5,.mv (.d (.int .i64 0)),none,[0]⟩]) (.seq (.block 0 (.seq (.reg false [⟨some 8,.mv (.t 1),none,[]⟩,⟨some 9,.call 134 [(.t 8)],none,[0]⟩,⟨some 10,.un .not
 (.t 9),none,[1]⟩,⟨some 7,.mv (.t 10),none,[2,1]⟩]) (.cond (.t 7) (.seq (.reg false [⟨some 4,.mv (.d (.int .u64 0)),none,[]⟩,⟨some 5,.mv (.d (.int .i64 2)),none,[0,0]⟩]) .ret) (.seq (.reg false [⟨some 12,.mv (.t
 1),none,[]⟩,⟨some 13,.mv (.t 0),none,[]⟩,⟨some 14,.call 42 [(.t 13)],none,[1]⟩,⟨some 15,.bin .gtr (.t 12) (.t 14),none,[0,2]⟩,⟨some 11,.mv (.t 15),none,[3,2]⟩]) (.cond (.t 11) (.seq (.reg false [⟨some 4,.mv (.d (.int
 .u64 0)),none,[]⟩,⟨some 5,.mv (.d (.int .i64 5)),none,[0,0]⟩]) .ret) .skip))))) (.seq (.reg false [⟨some 6,.mv (.d (.int .u64 0)),none,[]⟩]) (.seq (.seq (.reg false [⟨some 16,.mv (.t 1),none,[]⟩,⟨some 17,.mv (.d (.int
 .i64 0)),none,[]⟩]) (.block 1 (.loop (.seq (.reg false [⟨some 18,.bin .lss (.t 17) (.t 16),none,[]⟩]) (.seq (.cond (.t 18) .skip (.exit 1)) (.seq (.block 2 (.reg false [⟨some 19,.mv (.t 6),none,[]⟩,⟨some 20,.bin .shl
 (.t 19) (.d (.int .u64 1)),none,[0]⟩,⟨some 21,.mv (.t 0),none,[]⟩,⟨some 22,.call 137 [(.t 21)],none,[2]⟩,⟨some 23,.bin .or (.t 20) (.t 22),none,[1,3]⟩,⟨some 6,.mv (.t 23),none,[4,3,0,1,2,3,4]⟩])) (.reg false [⟨some
 24,.bin .add (.t 17) (.d (.int .i64 1)),none,[]⟩,⟨some 17,.mv (.t 24),none,[0]⟩]))))))) (.seq (.reg false [⟨some 25,.mv (.t 6),none,[]⟩,⟨some 4,.mv (.t 25),none,[0,0]⟩,⟨some 5,.mv (.d (.int .i64 0)),none,[1,0,1]⟩])
 .ret)))))
theorem o_mq : fnOf Tryz.prog o_cs = some (o_ct, [.t 4, .t 5], 26, false) := by kernel_rfl

/-- slices.Clone[[]byte,byte] -/
abbrev o_cu : FuncId := 92
def o_cv : C := (.seq (.reg false [⟨some 2,.mv (.d .nilsl),none,[]⟩]) (.seq (.seq (.reg false [⟨some 3,.mv (.t 0),none,[]⟩,⟨some 4,.snl false (.t 3),none,[0]⟩]) (.cond (.t 4) (.seq (.reg false [⟨some 2,.mv (.d .nilsl),none,[]⟩]) .ret)
 .skip)) (.seq (.reg false [⟨some 5,.bsl0,none,[]⟩,⟨some 6,.mv (.t 0),none,[]⟩,⟨some 7,.app 5 1 1 (.t 5) (.t 6),none,[0,1]⟩,⟨some 2,.mv (.t 7),none,[2,2,0,1,2]⟩]) .ret)))
theorem o_mr : fnOf Tryz.prog o_cu = some (o_cv, [.t 2], 8, false) := by kernel_rfl

/-- (*tallymark/carray.Array).Merge -/
abbrev o_64 : FuncId := 94
def o_65 : C := (.seq (.reg false [⟨some 6,.mv (.d (.int .i64 0)),none,[]⟩]) (.seq (.seq (.reg true [⟨some 15,.mv (.t 0),none,[]⟩,⟨some 16,.chk (.t 15),none,[0]⟩,⟨some 17,.fa 1 (.t 16),none,[1]⟩,⟨some 18,.load true 3 (.t
 17),none,[2]⟩,⟨some 19,.mv (.t 2),none,[]⟩,⟨some 20,.chk (.t 19),none,[4]⟩,⟨some 21,.fa 1 (.t 20),none,[5]⟩,⟨some 22,.load true 3 (.t 21),none,[6]⟩,⟨some 23,.aeq true [0,0,0] (.t 18) (.t 22),none,[3,7]⟩,⟨some 24,.mv (.t
 23),none,[8]⟩,⟨some 25,.mv (.t 0),some (24,false),[9]⟩,⟨some 26,.chk (.t 25),some (24,false),[10,9]⟩,⟨some 27,.fa 0 (.t 26),some (24,false),[11,9]⟩,⟨some 28,.load false 1 (.t 27),some (24,false),[12,9]⟩,⟨some 29,.call
 138 [(.t 28)],some (24,false),[13,9,9]⟩,⟨some 30,.mv (.t 2),some (24,false),[9]⟩,⟨some 31,.chk (.t 30),some (24,false),[15,9]⟩,⟨some 32,.fa 0 (.t 31),some (24,false),[16,9]⟩,⟨some 33,.load false 1 (.t 32),some
 (24,false),[17,9]⟩,⟨some 34,.call 138 [(.t 33)],some (24,false),[18,14,9]⟩,⟨some 35,.bin .neq (.t 29) (.t 34),some (24,false),[14,19,9]⟩,⟨some 36,.pick (.t 24) (.d (.bool true)) (.t 35),none,[9,20]⟩]) (.cond (.t 36)
 (.seq (.reg false [⟨some 6,.mv (.d (.int .i64 10)),none,[]⟩]) .ret) .skip)) (.seq (.reg false [⟨some 37,.mv (.t 0),none,[]⟩,⟨some 38,.call 74 [(.t 37)],none,[0]⟩,⟨some 7,.mv (.t 38),none,[1,1,0,1]⟩]) (.seq (.seq (.reg
 false [⟨some 39,.mv (.t 0),none,[]⟩,⟨some 40,.chk (.t 39),none,[0]⟩,⟨some 41,.fa 0 (.t 40),none,[1]⟩,⟨some 42,.load false 1 (.t 41),none,[2]⟩,⟨some 43,.call 138 [(.t 42)],none,[3]⟩,⟨some 44,.mv (.d (.int .i64
 0)),none,[]⟩]) (.block 0 (.loop (.seq (.reg false [⟨some 45,.bin .lss (.t 44) (.t 43),none,[]⟩]) (.seq (.cond (.t 45) .skip (.exit 0)) (.seq (.block 1 (.seq (.reg false [⟨some 46,.mv (.t 44),none,[]⟩,⟨some 8,.mv (.t
 46),none,[0,0]⟩]) (.seq (.reg false [⟨some 48,.mv (.t 0),none,[]⟩,⟨some 49,.mv (.t 8),none,[]⟩,⟨some 50,.call 53 [(.t 48),(.t 49)],none,[0,1]⟩,⟨some 47,.mv (.t 50),none,[2]⟩,⟨some 51,.ext (.t 47) 0,none,[3]⟩,⟨some
 52,.ext (.t 47) 1,none,[3]⟩,⟨some 9,.new 64 [(.int .i64 0),(.int .i64 0),(.bool false)],none,[]⟩,⟨none,.store 3 (.t 9) (.t 51),none,[6,4,2,0,1,2,3,4,6]⟩,⟨some 10,.mv (.t 52),none,[5,7,0,1,2,3,4,5,6,7]⟩]) (.seq (.reg
 false [⟨some 54,.mv (.t 2),none,[]⟩,⟨some 55,.mv (.t 8),none,[]⟩,⟨some 56,.call 53 [(.t 54),(.t 55)],none,[0,1]⟩,⟨some 53,.mv (.t 56),none,[2]⟩,⟨some 57,.ext (.t 53) 0,none,[3]⟩,⟨some 58,.ext (.t 53) 1,none,[3]⟩,⟨some
 11,.new 64 [(.int .i64 0),(.int .i64 0),(.bool false)],none,[]⟩,⟨none,.store 3 (.t 11) (.t 57),none,[6,4,2,0,1,2,3,4,6]⟩,⟨some 12,.mv (.t 58),none,[5,7,0,1,2,3,4,5,6,7]⟩]) (.seq (.reg true [⟨some 60,.mv (.t
 0),none,[]⟩,⟨some 61,.chk (.t 60),none,[0]⟩,⟨some 62,.fa 1 (.t 61),none,[1]⟩,⟨some 63,.load true 3 (.t 62),none,[2]⟩,⟨some 64,.mv (.t 1),none,[]⟩,⟨some 65,.load true 3 (.t 9),none,[]⟩,⟨some 66,.load true 3 (.t
 11),none,[]⟩,⟨some 67,.call 44 [(.t 63),(.t 64),(.t 65),(.t 66)],none,[3,4,5,6]⟩,⟨some 59,.mv (.t 67),none,[7]⟩,⟨some 68,.ext (.t 59) 0,none,[8]⟩,⟨some 69,.ext (.t 59) 1,none,[8]⟩,⟨some 13,.new 64 [(.int .i64 0),(.int
 .i64 0),(.bool false)],none,[]⟩,⟨none,.store 3 (.t 13) (.t 68),none,[11,9,7,0,1,2,3,4,5,6,7,8,9,11]⟩,⟨some 14,.mv (.t 69),none,[10,12,0,1,2,3,4,5,6,7,8,9,10,11,12]⟩]) (.seq (.seq (.reg false [⟨some 70,.mv (.t
 14),none,[]⟩,⟨some 71,.bin .neq (.t 70) (.d (.int .i64 0)),none,[0]⟩]) (.cond (.t 71) (.seq (.reg false [⟨some 72,.mv (.t 14),none,[]⟩,⟨some 6,.mv (.t 72),none,[0,0]⟩]) .ret) .skip)) (.reg false [⟨some 73,.mv (.t
 7),none,[]⟩,⟨some 74,.mv (.t 8),none,[]⟩,⟨some 75,.load true 3 (.t 13),none,[]⟩,⟨some 76,.call 101 [(.t 73),(.t 74),(.t 75)],none,[0,1,2]⟩]))))))) (.reg false [⟨some 77,.bin .add (.t 44) (.d (.int .i64
 1)),none,[]⟩,⟨some 44,.mv (.t 77),none,[0]⟩]))))))) (.seq (.reg false [⟨some 78,.mv (.t 0),none,[]⟩,⟨some 79,.mv (.t 7),none,[]⟩,⟨some 80,.chk (.t 79),none,[1]⟩,⟨some 81,.fa 0 (.t 80),none,[2]⟩,⟨some 82,.load false 1
 (.t 81),none,[3]⟩,⟨some 83,.chk (.t 78),none,[0,0,1,2,3,4]⟩,⟨some 84,.fa 0 (.t 83),none,[5,0,1,2,3,4]⟩,⟨none,.store 1 (.t 84) (.t 82),none,[6,4,0,1,2,3,4]⟩]) (.seq (.reg false [⟨some 6,.mv (.d (.int .i64 0)),none,[]⟩])
 .ret))))))
theorem o_cw : fnOf Tryz.prog o_64 = some (o_65, [.t 6], 85, false) := by kernel_rfl

/-- (tallymark/thin.Param).Merge -/
abbrev o_cx : FuncId := 95
def o_cy : C := (.seq (.reg false [⟨some 4,.box 135 (.t 0),none,[]⟩,⟨some 6,.box 139 (.t 2),none,[]⟩,⟨some 7,.box 139 (.t 3),none,[]⟩,⟨some 8,.new 139 [(.int .i64 0),(.int .i64 0),(.bool false)],none,[]⟩,⟨some 9,.mv (.d (.int .i64
 0)),none,[]⟩]) (.seq (.seq (.reg false [⟨some 15,.load true 2 (.t 4),none,[]⟩,⟨some 16,.load true 3 (.t 6),none,[]⟩,⟨some 17,.load true 3 (.t 7),none,[]⟩,⟨some 18,.bsl 139 3 2 [(.int .i64 0),(.int .i64 0),(.bool
 false),(.int .i64 0),(.int .i64 0),(.bool false)] [(0,3,(.t 16)),(3,3,(.t 17))],none,[1,2]⟩,⟨some 19,.call 119 [(.t 15),(.t 18)],none,[0,3]⟩,⟨some 10,.mv (.t 19),none,[4,4,0,1,2,3,4]⟩]) (.seq (.reg false [⟨some 20,.mv
 (.t 10),none,[]⟩,⟨some 21,.bin .neq (.t 20) (.d (.int .i64 0)),none,[0]⟩]) (.cond (.t 21) (.seq (.reg false [⟨some 22,.load true 3 (.t 6),none,[]⟩,⟨some 23,.mv (.t 10),none,[]⟩,⟨none,.store 3 (.t 8) (.t
 22),none,[0,0]⟩,⟨some 9,.mv (.t 23),none,[1,2,0,1,2]⟩]) .ret) .skip))) (.seq (.reg false [⟨some 25,.mv (.t 1),none,[]⟩,⟨some 26,.load true 3 (.t 6),none,[]⟩,⟨some 27,.fa 1 (.t 7),none,[]⟩,⟨some 28,.load false 1 (.t
 27),none,[2]⟩,⟨some 29,.fa 1 (.t 6),none,[]⟩,⟨some 30,.load false 1 (.t 29),none,[4]⟩,⟨some 31,.bin .sub (.t 28) (.t 30),none,[3,5]⟩,⟨some 32,.call 139 [(.t 25),(.t 26),(.t 31)],none,[0,1,6]⟩,⟨some 24,.mv (.t
 32),none,[7]⟩,⟨some 33,.ext (.t 24) 0,none,[8]⟩,⟨some 34,.ext (.t 24) 1,none,[8]⟩,⟨some 11,.new 139 [(.int .i64 0),(.int .i64 0),(.bool false)],none,[]⟩,⟨none,.store 3 (.t 11) (.t
 33),none,[11,9,7,0,1,2,3,4,5,6,7,8,9,11]⟩,⟨some 12,.mv (.t 34),none,[10,12,0,1,2,3,4,5,6,7,8,9,10,11,12]⟩]) (.seq (.seq (.reg false [⟨some 35,.mv (.t 12),none,[]⟩,⟨some 36,.bin .neq (.t 35) (.d (.int .i64
 0)),none,[0]⟩]) (.cond (.t 36) (.seq (.reg false [⟨some 37,.load true 3 (.t 6),none,[]⟩,⟨some 38,.mv (.t 12),none,[]⟩,⟨none,.store 3 (.t 8) (.t 37),none,[0,0]⟩,⟨some 9,.mv (.t 38),none,[1,2,0,1,2]⟩]) .ret) .skip)) (.seq
 (.reg false [⟨some 40,.mv (.t 1),none,[]⟩,⟨some 41,.load true 3 (.t 7),none,[]⟩,⟨some 42,.fa 1 (.t 6),none,[]⟩,⟨some 43,.load false 1 (.t 42),none,[2]⟩,⟨some 44,.fa 1 (.t 7),none,[]⟩,⟨some 45,.load false 1 (.t
 44),none,[4]⟩,⟨some 46,.bin .sub (.t 43) (.t 45),none,[3,5]⟩,⟨some 47,.call 139 [(.t 40),(.t 41),(.t 46)],none,[0,1,6]⟩,⟨some 39,.mv (.t 47),none,[7]⟩,⟨some 48,.ext (.t 39) 0,none,[8]⟩,⟨some 49,.ext (.t 39)
 1,none,[8]⟩,⟨some 13,.new 139 [(.int .i64 0),(.int .i64 0),(.bool false)],none,[]⟩,⟨none,.store 3 (.t 13) (.t 48),none,[11,9,7,0,1,2,3,4,5,6,7,8,9,11]⟩,⟨some 12,.mv (.t 49),none,[10,12,0,1,2,3,4,5,6,7,8,9,10,11,12]⟩])
 (.seq (.seq (.reg false [⟨some 50,.mv (.t 12),none,[]⟩,⟨some 51,.bin .neq (.t 50) (.d (.int .i64 0)),none,[0]⟩]) (.cond (.t 51) (.seq (.reg false [⟨some 52,.load true 3 (.t 6),none,[]⟩,⟨some 53,.mv (.t
 12),none,[]⟩,⟨none,.store 3 (.t 8) (.t 52),none,[0,0]⟩,⟨some 9,.mv (.t 53),none,[1,2,0,1,2]⟩]) .ret) .skip)) (.seq (.reg false [⟨some 55,.load true 2 (.t 4),none,[]⟩,⟨some 56,.mv (.t 1),none,[]⟩,⟨some 57,.fa 0 (.t
 11),none,[]⟩,⟨some 58,.load false 1 (.t 57),none,[2]⟩,⟨some 59,.fa 0 (.t 13),none,[]⟩,⟨some 60,.load false 1 (.t 59),none,[4]⟩,⟨some 61,.bin .add (.t 58) (.t 60),none,[3,5]⟩,⟨some 62,.fa 1 (.t 11),none,[]⟩,⟨some
 63,.load false 1 (.t 62),none,[7]⟩,⟨some 64,.fa 2 (.t 6),none,[]⟩,⟨some 65,.load false 1 (.t 64),none,[9]⟩,⟨some 66,.mv (.t 65),none,[10]⟩,⟨some 67,.fa 2 (.t 7),some (66,false),[11]⟩,⟨some 68,.load false 1 (.t 67),some
 (66,false),[12,11]⟩,⟨some 69,.pick (.t 66) (.d (.bool true)) (.t 68),none,[11,13]⟩,⟨some 70,.build [(.int .i64 0),(.int .i64 0),(.bool false)] [(0,1,(.t 61)),(1,1,(.t 63)),(2,1,(.t 69))],none,[6,8,14]⟩,⟨some 71,.call
 140 [(.t 55),(.t 56),(.t 70)],none,[0,1,15,11]⟩,⟨some 54,.mv (.t 71),none,[16]⟩,⟨some 72,.ext (.t 54) 0,none,[17]⟩,⟨some 73,.ext (.t 54) 1,none,[17]⟩,⟨some 14,.new 139 [(.int .i64 0),(.int .i64 0),(.bool
 false)],none,[]⟩,⟨none,.store 3 (.t 14) (.t 72),none,[20,18,16,0,1,2,3,4,5,6,7,8,9,10,11,12,13,14,15,16,17,18,20]⟩,⟨some 12,.mv (.t 73),none,[19,21,0,1,2,3,4,5,6,7,8,9,10,11,12,13,14,15,16,17,18,19,20,21]⟩]) (.seq (.seq
 (.reg false [⟨some 74,.mv (.t 12),none,[]⟩,⟨some 75,.bin .neq (.t 74) (.d (.int .i64 0)),none,[0]⟩]) (.cond (.t 75) (.seq (.reg false [⟨some 76,.load true 3 (.t 6),none,[]⟩,⟨some 77,.mv (.t 12),none,[]⟩,⟨none,.store 3
 (.t 8) (.t 76),none,[0,0]⟩,⟨some 9,.mv (.t 77),none,[1,2,0,1,2]⟩]) .ret) .skip)) (.seq (.reg false [⟨some 78,.load true 3 (.t 14),none,[]⟩,⟨none,.store 3 (.t 8) (.t 78),none,[0,0]⟩,⟨some 9,.mv (.d (.int .i64
 0)),none,[1,0,1]⟩]) .ret)))))))))
theorem o_ms : fnOf Tryz.prog o_cx = some (o_cy, [.cell 8 true 3, .t 9], 79, false) := by kernel_rfl

/-- (tallymark/chain.Param).Merge -/
abbrev o_66 : FuncId := 96
def o_cz : C := (.seq (.reg false [⟨some 4,.box 143 (.t 0),none,[]⟩,⟨some 5,.box 40 (.t 1),none,[]⟩,⟨some 6,.box 155 (.t 2),none,[]⟩,⟨some 7,.box 155 (.t 3),none,[]⟩,⟨some 8,.new 155 [(.int .i64 0),(.bool false)],none,[]⟩,⟨some 9,.mv
 (.d (.int .i64 0)),none,[]⟩]) (.seq (.seq (.reg false [⟨some 15,.load true 3 (.t 4),none,[]⟩,⟨some 16,.fa 0 (.t 6),none,[]⟩,⟨some 17,.load false 1 (.t 16),none,[1]⟩,⟨some 18,.fa 0 (.t 7),none,[]⟩,⟨some 19,.load false 1
 (.t 18),none,[3]⟩,⟨some 20,.bsl 3 1 2 [(.int .i64 0),(.int .i64 0)] [(0,1,(.t 17)),(1,1,(.t 19))],none,[2,4]⟩,⟨some 21,.call 121 [(.t 15),(.t 20)],none,[0,5]⟩,⟨some 10,.mv (.t 21),none,[6,6,0,1,2,3,4,5,6]⟩]) (.seq (.reg
 false [⟨some 22,.mv (.t 10),none,[]⟩,⟨some 23,.bin .neq (.t 22) (.d (.int .i64 0)),none,[0]⟩]) (.cond (.t 23) (.seq (.reg false [⟨some 24,.load true 2 (.t 6),none,[]⟩,⟨some 25,.mv (.t 10),none,[]⟩,⟨none,.store 2 (.t 8)
 (.t 24),none,[0,0]⟩,⟨some 9,.mv (.t 25),none,[1,2,0,1,2]⟩]) .ret) .skip))) (.seq (.reg false [⟨some 26,.load true 3 (.t 4),none,[]⟩,⟨some 27,.call 122 [(.t 26)],none,[0]⟩,⟨some 11,.new 203
 [.nilifc],none,[]⟩,⟨none,.store 1 (.t 11) (.t 27),none,[2,1,1,0,1,2]⟩]) (.seq (.reg false [⟨some 28,.load true 2 (.t 6),none,[]⟩,⟨some 12,.new 155 [(.int .i64 0),(.bool false)],none,[]⟩,⟨none,.store 2 (.t 12) (.t
 28),none,[1,0,0,1]⟩,⟨some 13,.mv (.d (.int .i64 0)),none,[2,0,1,2]⟩]) (.seq (.seq (.reg false [⟨some 29,.fa 0 (.t 7),none,[]⟩,⟨some 30,.load false 1 (.t 29),none,[0]⟩,⟨some 31,.mv (.d (.int .i64 0)),none,[]⟩]) (.block 0
 (.loop (.seq (.reg false [⟨some 32,.bin .lss (.t 31) (.t 30),none,[]⟩]) (.seq (.cond (.t 32) .skip (.exit 0)) (.seq (.block 1 (.seq (.reg false [⟨some 33,.mv (.t 31),none,[]⟩,⟨some 14,.new 3 [(.int .i64
 0)],none,[]⟩,⟨none,.store 1 (.t 14) (.t 33),none,[1,0,0,1]⟩]) (.seq (.reg false [⟨some 35,.load true 3 (.t 4),none,[]⟩,⟨some 36,.load true 2 (.t 12),none,[]⟩,⟨some 37,.mkf (.func 141) [(.t 11),(.t 5),(.t
 14)],none,[]⟩,⟨some 38,.call 127 [(.t 35),(.t 36),(.t 37)],none,[0,1,2]⟩,⟨some 34,.mv (.t 38),none,[3]⟩,⟨some 39,.ext (.t 34) 0,none,[4]⟩,⟨some 40,.ext (.t 34) 1,none,[4]⟩,⟨none,.store 2 (.t 12) (.t
 39),none,[5,3,0,1,2,3,4,5]⟩,⟨some 13,.mv (.t 40),none,[6,7,0,1,2,3,4,5,6,7]⟩]) (.seq (.reg false [⟨some 41,.mv (.t 13),none,[]⟩,⟨some 42,.bin .neq (.t 41) (.d (.int .i64 0)),none,[0]⟩]) (.cond (.t 42) (.seq (.reg false
 [⟨some 43,.load true 2 (.t 6),none,[]⟩,⟨some 44,.mv (.t 13),none,[]⟩,⟨none,.store 2 (.t 8) (.t 43),none,[0,0]⟩,⟨some 9,.mv (.t 44),none,[1,2,0,1,2]⟩]) .ret) .skip))))) (.reg false [⟨some 45,.bin .add (.t 31) (.d (.int
 .i64 1)),none,[]⟩,⟨some 31,.mv (.t 45),none,[0]⟩]))))))) (.seq (.reg false [⟨some 46,.fa 1 (.t 12),none,[]⟩,⟨some 47,.load false 1 (.t 46),none,[0]⟩,⟨some 48,.mv (.t 47),none,[1]⟩,⟨some 49,.fa 1 (.t 7),some
 (48,false),[2]⟩,⟨some 50,.load false 1 (.t 49),some (48,false),[3,2]⟩,⟨some 51,.pick (.t 48) (.d (.bool true)) (.t 50),none,[2,4]⟩,⟨some 52,.fa 1 (.t 12),none,[0,1,2,3,4,5]⟩,⟨none,.store 1 (.t 52) (.t
 51),none,[6,5,2,0,1,2,3,4,5]⟩]) (.seq (.reg false [⟨some 53,.load true 2 (.t 12),none,[]⟩,⟨none,.store 2 (.t 8) (.t 53),none,[0,0]⟩,⟨some 9,.mv (.d (.int .i64 0)),none,[1,0,1]⟩]) .ret)))))))
theorem o_mt : fnOf Tryz.prog o_66 = some (o_cz, [.cell 8 true 2, .t 9], 54, false) := by kernel_rfl

/-- tallymark/tallymarklaw17.Within -/
abbrev o_d0 : FuncId := 97
def o_67 : C := (.seq (.reg false [⟨some 2,.box 23 (.t 0),none,[]⟩,⟨some 3,.box 100 (.t 1),none,[]⟩,⟨some 4,.new 100 [(.int .i64 0),(.int .i64 0),(.bool false)],none,[]⟩]) (.seq (.seq (.reg false [⟨some 6,.fa 0 (.t 2),none,[]⟩,⟨some
 7,.load false 1 (.t 6),none,[0]⟩,⟨some 8,.bin .eql (.t 7) (.d (.int .i64 4)),none,[1]⟩]) (.cond (.t 8) (.seq (.reg true [⟨some 9,.fa 0 (.t 3),none,[]⟩,⟨some 10,.load false 1 (.t 9),none,[0]⟩,⟨some 11,.bin .and (.t 10)
 (.d (.int .i64 7)),none,[1]⟩,⟨some 12,.fa 1 (.t 2),none,[]⟩,⟨some 13,.load false 1 (.t 12),none,[3]⟩,⟨some 14,.bin .add (.t 13) (.d (.int .i64 1)),none,[4]⟩,⟨some 15,.bin .rem (.t 11) (.t 14),none,[2,5]⟩,⟨some 16,.fa 1
 (.t 3),none,[]⟩,⟨some 17,.load false 1 (.t 16),none,[7]⟩,⟨some 18,.bin .and (.t 17) (.d (.int .i64 3)),none,[8]⟩,⟨some 19,.fa 2 (.t 2),none,[]⟩,⟨some 20,.load false 1 (.t 19),none,[10]⟩,⟨some 21,.bin .add (.t 20) (.d
 (.int .i64 1)),none,[11]⟩,⟨some 22,.bin .rem (.t 18) (.t 21),none,[9,12]⟩,⟨some 23,.fa 0 (.t 3),none,[0,1,2,3,4,5,6,7,8]⟩,⟨none,.store 1 (.t 23) (.t 15),none,[14,6,0,1,2,3,4,5,6,7,8]⟩,⟨some 24,.fa 1 (.t
 3),none,[0,1,2,3,4,5,6,7,8,9,10,11,12,13,14,15]⟩,⟨none,.store 1 (.t 24) (.t 22),none,[16,13,15,0,1,2,3,4,5,6,7,8,9,10,11,12,13,14,15]⟩]) (.seq (.reg false [⟨some 25,.fa 2 (.t 3),none,[]⟩,⟨some 26,.load false 1 (.t
 25),none,[0]⟩,⟨some 27,.mv (.t 26),none,[1]⟩,⟨some 28,.fa 1 (.t 3),some (27,true),[2]⟩,⟨some 29,.load false 1 (.t 28),some (27,true),[3,2]⟩,⟨some 30,.fa 2 (.t 2),some (27,true),[2]⟩,⟨some 31,.load false 1 (.t 30),some
 (27,true),[5,2]⟩,⟨some 32,.bin .eql (.t 29) (.t 31),some (27,true),[4,6,2]⟩,⟨some 33,.pick (.t 27) (.t 32) (.d (.bool false)),none,[2,7]⟩,⟨some 34,.fa 2 (.t 3),none,[0,1,2,3,4,5,6,7,8]⟩,⟨none,.store 1 (.t 34) (.t
 33),none,[9,8,2,0,1,2,3,4,5,6,7,8]⟩]) (.seq (.reg false [⟨some 35,.load true 3 (.t 3),none,[]⟩,⟨none,.store 3 (.t 4) (.t 35),none,[0,0]⟩]) .ret))) .skip)) (.seq (.reg false [⟨some 36,.fa 2 (.t 2),none,[]⟩,⟨some 37,.load
 false 1 (.t 36),none,[0]⟩,⟨some 38,.bin .shl (.d (.int .i64 1)) (.t 37),none,[1]⟩,⟨some 39,.bin .sub (.t 38) (.d (.int .i64 1)),none,[2]⟩,⟨some 5,.mv (.t 39),none,[3,0,1,2,3]⟩]) (.seq (.reg false [⟨some 40,.fa 0 (.t
 3),none,[]⟩,⟨some 41,.load false 1 (.t 40),none,[0]⟩,⟨some 42,.bin .and (.t 41) (.d (.int .i64 15)),none,[1]⟩,⟨some 43,.mv (.t 5),none,[]⟩,⟨some 44,.bin .add (.t 43) (.d (.int .i64 1)),none,[3]⟩,⟨some 45,.bin .rem (.t
 42) (.t 44),none,[2,4]⟩,⟨some 46,.fa 0 (.t 3),none,[0,1,2,3,4,5]⟩,⟨none,.store 1 (.t 46) (.t 45),none,[6,5,0,1,2,3,4,5]⟩,⟨some 47,.fa 1 (.t 3),none,[0,1,2,3,4,5,6,7]⟩,⟨none,.store 1 (.t 47) (.d (.int .i64
 0)),none,[8,7,0,1,2,3,4,5,6,7]⟩]) (.seq (.reg false [⟨some 48,.fa 2 (.t 3),none,[]⟩,⟨some 49,.load false 1 (.t 48),none,[0]⟩,⟨some 50,.mv (.t 49),none,[1]⟩,⟨some 51,.fa 0 (.t 3),some (50,true),[2]⟩,⟨some 52,.load false
 1 (.t 51),some (50,true),[3,2]⟩,⟨some 53,.mv (.t 5),some (50,true),[2]⟩,⟨some 54,.bin .eql (.t 52) (.t 53),some (50,true),[4,5,2]⟩,⟨some 55,.pick (.t 50) (.t 54) (.d (.bool false)),none,[2,6]⟩,⟨some 56,.fa 2 (.t
 3),none,[0,1,2,3,4,5,6,7]⟩,⟨none,.store 1 (.t 56) (.t 55),none,[8,7,2,0,1,2,3,4,5,6,7]⟩]) (.seq (.reg false [⟨some 57,.load true 3 (.t 3),none,[]⟩,⟨none,.store 3 (.t 4) (.t 57),none,[0,0]⟩]) .ret))))))
theorem o_d1 : fnOf Tryz.prog o_d0 = some (o_67, [.cell 4 true 3], 58, false) := by kernel_rfl

/-- tallymark/pack.New -/
abbrev o_d2 : FuncId := 98
def o_d3 : C := (.seq (.reg false [⟨some 4,.mv (.d .nilp),none,[]⟩,⟨some 5,.mv (.d (.int .i64 0)),none,[0]⟩]) (.seq (.seq (.reg false [⟨some 6,.mv (.t 0),none,[]⟩,⟨some 7,.bin .lss (.t 6) (.d (.int .i64 0)),none,[0]⟩,⟨some 8,.mv (.t
 7),none,[1]⟩,⟨some 9,.mv (.t 0),some (8,false),[2]⟩,⟨some 10,.bin .gtr (.t 9) (.d (.int .i64 256)),some (8,false),[3,2]⟩,⟨some 11,.pick (.t 8) (.d (.bool true)) (.t 10),none,[2,4]⟩,⟨some 12,.mv (.t 11),none,[5,2]⟩,⟨some
 13,.mv (.t 1),some (12,false),[6]⟩,⟨some 14,.bin .lss (.t 13) (.d (.int .i64 1)),some (12,false),[7,6]⟩,⟨some 15,.pick (.t 12) (.d (.bool true)) (.t 14),none,[6,8]⟩,⟨some 16,.mv (.t 15),none,[9,6]⟩,⟨some 17,.mv (.t
 1),some (16,false),[10]⟩,⟨some 18,.bin .gtr (.t 17) (.d (.int .i64 32)),some (16,false),[11,10]⟩,⟨some 19,.pick (.t 16) (.d (.bool true)) (.t 18),none,[10,12]⟩]) (.cond (.t 19) (.seq (.reg false [⟨some 4,.mv (.d
 .nilp),none,[]⟩,⟨some 5,.mv (.d (.int .i64 10)),none,[0,0]⟩]) .ret) .skip)) (.seq (.reg false [⟨some 20,.mv (.t 0),none,[]⟩,⟨some 21,.mv (.t 1),none,[]⟩,⟨some 22,.bin .mul (.t 20) (.t 21),none,[0,1]⟩,⟨some 23,.bin .add
 (.t 22) (.d (.int .i64 64)),none,[2]⟩,⟨some 24,.bin .sub (.t 23) (.d (.int .i64 1)),none,[3]⟩,⟨some 25,.bin .quo (.t 24) (.d (.int .i64 64)),none,[4]⟩,⟨some 26,.mksl 28 1 8 [(.int .u64 0)] (.t 25) (.t
 25),none,[5,5]⟩,⟨some 27,.mv (.t 0),none,[]⟩,⟨some 28,.mv (.t 1),none,[]⟩,⟨some 29,.build [.nilsl,(.int .i64 0),(.int .i64 0)] [(0,1,(.t 26)),(1,1,(.t 27)),(2,1,(.t 28))],none,[6,7,8]⟩,⟨some 30,.box 218 (.t
 29),none,[9]⟩,⟨some 4,.mv (.t 30),none,[10,0,1,2,3,4,5,6,7,8,9,10]⟩,⟨some 5,.mv (.d (.int .i64 0)),none,[11,0,1,2,3,4,5,6,7,8,9,10,11]⟩]) .ret)))
theorem o_mu : fnOf Tryz.prog o_d2 = some (o_d3, [.t 4, .t 5], 31, false) := by kernel_rfl

/-- (tallymark/reg.Param).Bits -/
abbrev o_d4 : FuncId := 99
def o_d5 : C := (.seq (.reg false [⟨some 1,.box 30 (.t 0),none,[]⟩,⟨some 2,.mv (.d (.int .i64 0)),none,[]⟩]) (.seq (.seq (.reg false [⟨some 5,.load true 3 (.t 1),none,[]⟩,⟨some 6,.call 85 [(.t 5)],none,[0]⟩,⟨some 7,.bin .neq (.t 6) (.d
 (.int .i64 0)),none,[1]⟩]) (.cond (.t 7) (.seq (.reg false [⟨some 2,.mv (.d (.int .i64 0)),none,[]⟩]) .ret) .skip)) (.seq (.reg false [⟨some 9,.load true 3 (.t 1),none,[]⟩,⟨some 10,.call 142 [(.t 9)],none,[0]⟩,⟨some
 8,.mv (.t 10),none,[1]⟩,⟨some 11,.ext (.t 8) 0,none,[2]⟩,⟨some 12,.ext (.t 8) 1,none,[2]⟩,⟨some 3,.mv (.t 11),none,[3,1,0,1,2,3]⟩,⟨some 4,.mv (.t 12),none,[4,5,0,1,2,3,4,5]⟩]) (.seq (.reg false [⟨some 13,.mv (.t
 3),none,[]⟩,⟨some 14,.mv (.t 4),none,[]⟩,⟨some 15,.bin .add (.t 13) (.t 14),none,[0,1]⟩,⟨some 16,.bin .add (.t 15) (.d (.int .i64 1)),none,[2]⟩,⟨some 2,.mv (.t 16),none,[3,0,1,2,3]⟩]) .ret))))
theorem o_mv : fnOf Tryz.prog o_d4 = some (o_d5, [.t 2], 17, false) := by kernel_rfl

/-- (tallymark/hash.Hash).sum -/
abbrev o_d6 : FuncId := 100
def o_d7 : C := (.seq (.reg false [⟨some 2,.box 62 (.t 0),none,[]⟩,⟨some 4,.mv (.d (.int .u64 0)),none,[]⟩]) (.seq (.reg true [⟨some 5,.fa 0 (.t 2),none,[]⟩,⟨some 6,.load false 1 (.t 5),none,[0]⟩,⟨some 7,.mv (.t 1),none,[]⟩,⟨some
 8,.call 143 [(.t 6),(.t 7)],none,[1,2]⟩,⟨some 9,.fa 1 (.t 2),none,[]⟩,⟨some 10,.load false 1 (.t 9),none,[4]⟩,⟨some 11,.bin .add (.t 8) (.t 10),none,[3,5]⟩,⟨some 12,.bin .rem (.t 11) (.d (.int .u64
 2305843009213693951)),none,[6]⟩,⟨some 4,.mv (.t 12),none,[7,3,0,1,2,3,4,5,6,7]⟩]) .ret))
theorem o_mw : fnOf Tryz.prog o_d6 = some (o_d7, [.t 4], 13, false) := by kernel_rfl

/-- (*tallymark/carray.Array).Set -/
abbrev o_d8 : FuncId := 101
def o_d9 : C := (.seq (.reg false [⟨some 5,.box 64 (.t 2),none,[]⟩,⟨some 6,.mv (.d (.int .i64 0)),none,[]⟩]) (.seq (.seq (.reg false [⟨some 14,.mv (.t 0),none,[]⟩,⟨some 15,.chk (.t 14),none,[0]⟩,⟨some 16,.fa 0 (.t 15),none,[1]⟩,⟨some
 17,.load false 1 (.t 16),none,[2]⟩,⟨some 18,.mv (.t 1),none,[]⟩,⟨some 19,.call 102 [(.t 17),(.t 18)],none,[3,4]⟩,⟨some 13,.mv (.t 19),none,[5]⟩,⟨some 20,.ext (.t 13) 0,none,[6]⟩,⟨some 21,.ext (.t 13) 1,none,[6]⟩,⟨some
 7,.mv (.t 20),none,[7,5,0,1,2,3,4,5,6,7]⟩,⟨some 8,.mv (.t 21),none,[8,9,0,1,2,3,4,5,6,7,8,9]⟩]) (.seq (.reg false [⟨some 22,.mv (.t 8),none,[]⟩,⟨some 23,.bin .neq (.t 22) (.d (.int .i64 0)),none,[0]⟩]) (.cond (.t 23)
 (.seq (.reg false [⟨some 24,.mv (.t 8),none,[]⟩,⟨some 6,.mv (.t 24),none,[0,0]⟩]) .ret) .skip))) (.seq (.reg false [⟨some 9,.new 85 [.nilsl,(.int .i64 0)],none,[]⟩]) (.seq (.seq (.reg true [⟨some 25,.mv (.t
 0),none,[]⟩,⟨some 26,.chk (.t 25),none,[0]⟩,⟨some 27,.fa 1 (.t 26),none,[1]⟩,⟨some 28,.load true 3 (.t 27),none,[2]⟩,⟨some 29,.load true 3 (.t 5),none,[]⟩,⟨some 30,.call 144 [(.t 28),(.t 9),(.t 29)],none,[3,4]⟩,⟨some
 10,.mv (.t 30),none,[5,5,0,1,2,3,4,5]⟩]) (.seq (.reg false [⟨some 31,.mv (.t 10),none,[]⟩,⟨some 32,.bin .neq (.t 31) (.d (.int .i64 0)),none,[0]⟩]) (.cond (.t 32) (.seq (.reg false [⟨some 33,.mv (.t 10),none,[]⟩,⟨some
 6,.mv (.t 33),none,[0,0]⟩]) .ret) .skip))) (.seq (.reg true [⟨some 35,.call 39 [(.t 9)],none,[]⟩,⟨some 36,.call 38 [(.t 35)],none,[0,0]⟩,⟨some 37,.mv (.t 0),none,[]⟩,⟨some 38,.chk (.t 37),none,[2]⟩,⟨some 39,.fa 0 (.t
 38),none,[3]⟩,⟨some 40,.load false 1 (.t 39),none,[4]⟩,⟨some 41,.call 103 [(.t 40)],none,[5,1]⟩,⟨some 42,.call 90 [(.t 36),(.t 41)],none,[1,6,6]⟩,⟨some 34,.mv (.t 42),none,[7]⟩,⟨some 43,.ext (.t 34) 0,none,[8]⟩,⟨some
 44,.ext (.t 34) 1,none,[8]⟩,⟨some 11,.mv (.t 43),none,[9,7,0,1,2,3,4,5,6,7,8,9]⟩,⟨some 12,.mv (.t 44),none,[10,11,0,1,2,3,4,5,6,7,8,9,10,11]⟩]) (.seq (.reg false [⟨some 45,.mv (.t 0),none,[]⟩,⟨some 46,.chk (.t
 45),none,[0]⟩,⟨some 47,.fa 0 (.t 46),none,[1]⟩,⟨some 48,.load false 1 (.t 47),none,[2]⟩,⟨some 49,.mv (.t 1),none,[]⟩,⟨some 50,.mv (.t 11),none,[]⟩,⟨some 51,.call 145 [(.t 48),(.t 49),(.t 50)],none,[3,4,5]⟩,⟨some 6,.mv
 (.t 51),none,[6,6,0,1,2,3,4,5,6]⟩]) .ret))))))
theorem o_mx : fnOf Tryz.prog o_d8 = some (o_d9, [.t 6], 52, false) := by kernel_rfl

/-- (*tallymark/pack.Vector).Get -/
abbrev o_da : FuncId := 102
def o_db : C := (.seq (.reg false [⟨some 4,.mv (.d (.int .u64 0)),none,[]⟩,⟨some 5,.mv (.d (.int .i64 0)),none,[0]⟩]) (.seq (.seq (.reg false [⟨some 9,.mv (.t 1),none,[]⟩,⟨some 10,.bin .lss (.t 9) (.d (.int .i64 0)),none,[0]⟩,⟨some
 11,.mv (.t 10),none,[1]⟩,⟨some 12,.mv (.t 1),some (11,false),[2]⟩,⟨some 13,.mv (.t 0),some (11,false),[2]⟩,⟨some 14,.chk (.t 13),some (11,false),[4,2]⟩,⟨some 15,.fa 1 (.t 14),some (11,false),[5,2]⟩,⟨some 16,.load false
 1 (.t 15),some (11,false),[6,2]⟩,⟨some 17,.bin .geq (.t 12) (.t 16),some (11,false),[3,7,2]⟩,⟨some 18,.pick (.t 11) (.d (.bool true)) (.t 17),none,[2,8]⟩]) (.cond (.t 18) (.seq (.reg false [⟨some 4,.mv (.d (.int .u64
 0)),none,[]⟩,⟨some 5,.mv (.d (.int .i64 1)),none,[0,0]⟩]) .ret) .skip)) (.seq (.reg false [⟨some 20,.mv (.t 0),none,[]⟩,⟨some 21,.mv (.t 1),none,[]⟩,⟨some 22,.call 146 [(.t 20),(.t 21)],none,[0,1]⟩,⟨some 19,.mv (.t
 22),none,[2]⟩,⟨some 23,.ext (.t 19) 0,none,[3]⟩,⟨some 24,.ext (.t 19) 1,none,[3]⟩,⟨some 6,.mv (.t 23),none,[4,2,0,1,2,3,4]⟩,⟨some 7,.mv (.t 24),none,[5,6,0,1,2,3,4,5,6]⟩]) (.seq (.reg false [⟨some 25,.mv (.t
 0),none,[]⟩,⟨some 26,.chk (.t 25),none,[0]⟩,⟨some 27,.fa 0 (.t 26),none,[1]⟩,⟨some 28,.load false 1 (.t 27),none,[2]⟩,⟨some 29,.mv (.t 6),none,[]⟩,⟨some 30,.ix 1 (.t 28) (.t 29),none,[3,4]⟩,⟨some 31,.load false 1 (.t
 30),none,[5]⟩,⟨some 32,.mv (.t 7),none,[]⟩,⟨some 33,.bin .shr (.t 31) (.t 32),none,[6,7]⟩,⟨some 8,.mv (.t 33),none,[8,0,1,2,3,4,5,6,7,8]⟩]) (.seq (.seq (.reg false [⟨some 34,.mv (.t 7),none,[]⟩,⟨some 35,.mv (.t
 0),none,[]⟩,⟨some 36,.chk (.t 35),none,[1]⟩,⟨some 37,.fa 2 (.t 36),none,[2]⟩,⟨some 38,.load false 1 (.t 37),none,[3]⟩,⟨some 39,.bin .add (.t 34) (.t 38),none,[0,4]⟩,⟨some 40,.bin .gtr (.t 39) (.d (.int .i64
 64)),none,[5]⟩]) (.cond (.t 40) (.reg false [⟨some 41,.mv (.t 8),none,[]⟩,⟨some 42,.mv (.t 0),none,[]⟩,⟨some 43,.chk (.t 42),none,[1]⟩,⟨some 44,.fa 0 (.t 43),none,[2]⟩,⟨some 45,.load false 1 (.t 44),none,[3]⟩,⟨some
 46,.mv (.t 6),none,[]⟩,⟨some 47,.bin .add (.t 46) (.d (.int .i64 1)),none,[5]⟩,⟨some 48,.ix 1 (.t 45) (.t 47),none,[4,6]⟩,⟨some 49,.load false 1 (.t 48),none,[7]⟩,⟨some 50,.mv (.t 7),none,[]⟩,⟨some 51,.bin .sub (.d
 (.int .i64 64)) (.t 50),none,[9]⟩,⟨some 52,.bin .shl (.t 49) (.t 51),none,[8,10]⟩,⟨some 53,.bin .or (.t 41) (.t 52),none,[0,11]⟩,⟨some 8,.mv (.t 53),none,[12,0,1,2,3,4,5,6,7,8,9,10,11,12]⟩]) .skip)) (.seq (.reg false
 [⟨some 54,.mv (.t 8),none,[]⟩,⟨some 55,.mv (.t 0),none,[]⟩,⟨some 56,.call 147 [(.t 55)],none,[1]⟩,⟨some 57,.bin .and (.t 54) (.t 56),none,[0,2]⟩,⟨some 4,.mv (.t 57),none,[3,2,0,1,2,3]⟩,⟨some 5,.mv (.d (.int .i64
 0)),none,[4,0,1,2,3,4]⟩]) .ret))))))
theorem o_my : fnOf Tryz.prog o_da = some (o_db, [.t 4, .t 5], 58, false) := by kernel_rfl

/-- (*tallymark/pack.Vector).Width -/
abbrev o_dc : FuncId := 103
def o_dd : C := (.seq (.reg false [⟨some 2,.mv (.d (.int .i64 0)),none,[]⟩]) (.seq (.reg false [⟨some 3,.mv (.t 0),none,[]⟩,⟨some 4,.chk (.t 3),none,[0]⟩,⟨some 5,.fa 2 (.t 4),none,[1]⟩,⟨some 6,.load false 1 (.t 5),none,[2]⟩,⟨some 2,.mv
 (.t 6),none,[3,0,1,2,3]⟩]) .ret))
theorem o_mz : fnOf Tryz.prog o_dc = some (o_dd, [.t 2], 7, false) := by kernel_rfl

/-- (tallymark/reg.Param).Read -/
abbrev o_de : FuncId := 104
def o_68 : C := (.seq (.reg false [⟨some 2,.box 30 (.t 0),none,[]⟩,⟨some 4,.new 64 [(.int .i64 0),(.int .i64 0),(.bool false)],none,[]⟩,⟨some 5,.mv (.d (.int .i64 0)),none,[]⟩]) (.seq (.seq (.reg false [⟨some 16,.load true 3 (.t
 2),none,[]⟩,⟨some 17,.call 85 [(.t 16)],none,[0]⟩,⟨some 6,.mv (.t 17),none,[1,1,0,1]⟩]) (.seq (.reg false [⟨some 18,.mv (.t 6),none,[]⟩,⟨some 19,.bin .neq (.t 18) (.d (.int .i64 0)),none,[0]⟩]) (.cond (.t 19) (.seq
 (.reg false [⟨some 20,.build [(.int .i64 0),(.int .i64 0),(.bool false)] [],none,[]⟩,⟨some 21,.mv (.t 6),none,[]⟩,⟨none,.store 3 (.t 4) (.t 20),none,[0,0]⟩,⟨some 5,.mv (.t 21),none,[1,2,0,1,2]⟩]) .ret) .skip))) (.seq
 (.seq (.reg true [⟨some 22,.mv (.t 1),none,[]⟩,⟨some 23,.call 42 [(.t 22)],none,[0]⟩,⟨some 24,.load true 3 (.t 2),none,[]⟩,⟨some 25,.call 99 [(.t 24)],none,[2,1]⟩,⟨some 26,.bin .lss (.t 23) (.t 25),none,[1,3]⟩]) (.cond
 (.t 26) (.seq (.reg false [⟨some 27,.build [(.int .i64 0),(.int .i64 0),(.bool false)] [],none,[]⟩,⟨none,.store 3 (.t 4) (.t 27),none,[0,0]⟩,⟨some 5,.mv (.d (.int .i64 5)),none,[1,0,1]⟩]) .ret) .skip)) (.seq (.reg false
 [⟨some 29,.load true 3 (.t 2),none,[]⟩,⟨some 30,.call 142 [(.t 29)],none,[0]⟩,⟨some 28,.mv (.t 30),none,[1]⟩,⟨some 31,.ext (.t 28) 0,none,[2]⟩,⟨some 32,.ext (.t 28) 1,none,[2]⟩,⟨some 7,.mv (.t
 31),none,[3,1,0,1,2,3]⟩,⟨some 8,.mv (.t 32),none,[4,5,0,1,2,3,4,5]⟩]) (.seq (.reg false [⟨some 34,.mv (.t 1),none,[]⟩,⟨some 35,.mv (.t 7),none,[]⟩,⟨some 36,.call 90 [(.t 34),(.t 35)],none,[0,1]⟩,⟨some 33,.mv (.t
 36),none,[2]⟩,⟨some 37,.ext (.t 33) 0,none,[3]⟩,⟨some 38,.ext (.t 33) 1,none,[3]⟩,⟨some 9,.mv (.t 37),none,[4,2,0,1,2,3,4]⟩,⟨some 10,.mv (.t 38),none,[5,6,0,1,2,3,4,5,6]⟩]) (.seq (.reg false [⟨some 40,.mv (.t
 1),none,[]⟩,⟨some 41,.mv (.t 8),none,[]⟩,⟨some 42,.call 90 [(.t 40),(.t 41)],none,[0,1]⟩,⟨some 39,.mv (.t 42),none,[2]⟩,⟨some 43,.ext (.t 39) 0,none,[3]⟩,⟨some 44,.ext (.t 39) 1,none,[3]⟩,⟨some 11,.mv (.t
 43),none,[4,2,0,1,2,3,4]⟩,⟨some 12,.mv (.t 44),none,[5,6,0,1,2,3,4,5,6]⟩]) (.seq (.reg false [⟨some 46,.mv (.t 1),none,[]⟩,⟨some 47,.call 41 [(.t 46)],none,[0]⟩,⟨some 45,.mv (.t 47),none,[1]⟩,⟨some 48,.ext (.t 45)
 0,none,[2]⟩,⟨some 49,.ext (.t 45) 1,none,[2]⟩,⟨some 13,.mv (.t 48),none,[3,1,0,1,2,3]⟩,⟨some 14,.mv (.t 49),none,[4,5,0,1,2,3,4,5]⟩]) (.seq (.reg false [⟨some 50,.mv (.t 9),none,[]⟩,⟨some 51,.conv .i64 (.t
 50),none,[0]⟩,⟨some 52,.mv (.t 11),none,[]⟩,⟨some 53,.conv .i64 (.t 52),none,[2]⟩,⟨some 54,.mv (.t 13),none,[]⟩,⟨some 55,.build [(.int .i64 0),(.int .i64 0),(.bool false)] [(0,1,(.t 51)),(1,1,(.t 53)),(2,1,(.t
 54))],none,[1,3,4]⟩,⟨some 15,.new 64 [(.int .i64 0),(.int .i64 0),(.bool false)],none,[]⟩,⟨none,.store 3 (.t 15) (.t 55),none,[6,5,0,1,2,3,4,5,6]⟩]) (.seq (.seq (.reg false [⟨some 56,.load true 3 (.t 2),none,[]⟩,⟨some
 57,.load true 3 (.t 15),none,[]⟩,⟨some 58,.call 118 [(.t 56),(.t 57)],none,[0,1]⟩,⟨some 59,.un .not (.t 58),none,[2]⟩]) (.cond (.t 59) (.seq (.reg false [⟨some 60,.build [(.int .i64 0),(.int .i64 0),(.bool false)]
 [],none,[]⟩,⟨none,.store 3 (.t 4) (.t 60),none,[0,0]⟩,⟨some 5,.mv (.d (.int .i64 4)),none,[1,0,1]⟩]) .ret) .skip)) (.seq (.reg false [⟨some 61,.load true 3 (.t 15),none,[]⟩,⟨none,.store 3 (.t 4) (.t
 61),none,[0,0]⟩,⟨some 5,.mv (.d (.int .i64 0)),none,[1,0,1]⟩]) .ret))))))))))
theorem o_n0 : fnOf Tryz.prog o_de = some (o_68, [.cell 4 true 3, .t 5], 62, false) := by kernel_rfl

/-- tallymark/nat.Cmp -/
abbrev o_df : FuncId := 105
def o_dg : C := (.seq (.reg false [⟨some 2,.box 47 (.t 0),none,[]⟩,⟨some 3,.box 47 (.t 1),none,[]⟩,⟨some 4,.mv (.d (.int .i64 0)),none,[]⟩]) (.seq (.seq (.reg false [⟨some 9,.fa 0 (.t 2),none,[]⟩,⟨some 10,.load false 1 (.t
 9),none,[0]⟩,⟨some 11,.len (.t 10),none,[1]⟩,⟨some 12,.fa 0 (.t 3),none,[]⟩,⟨some 13,.load false 1 (.t 12),none,[3]⟩,⟨some 14,.len (.t 13),none,[4]⟩,⟨some 15,.bin .sub (.t 11) (.t 14),none,[2,5]⟩,⟨some 5,.mv (.t
 15),none,[6,0,1,2,3,4,5,6]⟩]) (.seq (.reg false [⟨some 16,.mv (.t 5),none,[]⟩,⟨some 17,.bin .neq (.t 16) (.d (.int .i64 0)),none,[0]⟩]) (.cond (.t 17) (.seq (.reg false [⟨some 18,.mv (.t 5),none,[]⟩,⟨some 19,.mm false
 [(.t 18),(.d (.int .i64 1))],none,[0]⟩,⟨some 20,.mm true [(.d (.int .i64 (-1))),(.t 19)],none,[1]⟩,⟨some 4,.mv (.t 20),none,[2,0,1,2]⟩]) .ret) .skip))) (.seq (.seq (.reg false [⟨some 21,.fa 0 (.t 2),none,[]⟩,⟨some
 22,.load false 1 (.t 21),none,[0]⟩,⟨some 23,.len (.t 22),none,[1]⟩,⟨some 24,.bin .sub (.t 23) (.d (.int .i64 1)),none,[2]⟩,⟨some 6,.mv (.t 24),none,[3,0,1,2,3]⟩]) (.block 0 (.loop (.seq (.seq (.reg false [⟨some 25,.mv
 (.t 6),none,[]⟩,⟨some 26,.bin .geq (.t 25) (.d (.int .i64 0)),none,[0]⟩]) (.cond (.t 26) .skip (.exit 0))) (.seq (.block 1 (.seq (.reg true [⟨some 29,.fa 0 (.t 2),none,[]⟩,⟨some 30,.load false 1 (.t 29),none,[0]⟩,⟨some
 31,.mv (.t 6),none,[]⟩,⟨some 32,.ix 1 (.t 30) (.t 31),none,[1,2]⟩,⟨some 33,.load false 1 (.t 32),none,[3]⟩,⟨some 34,.fa 0 (.t 3),none,[]⟩,⟨some 35,.load false 1 (.t 34),none,[5]⟩,⟨some 36,.mv (.t 6),none,[]⟩,⟨some
 37,.ix 1 (.t 35) (.t 36),none,[6,7]⟩,⟨some 38,.load false 1 (.t 37),none,[8]⟩,⟨some 7,.mv (.t 33),none,[4,0,1,2,3,4]⟩,⟨some 8,.mv (.t 38),none,[9,10,0,1,2,3,4,5,6,7,8,9,10]⟩]) (.block 2 (.seq (.reg false [⟨some 40,.mv
 (.t 7),none,[]⟩,⟨some 41,.mv (.t 8),none,[]⟩,⟨some 42,.bin .lss (.t 40) (.t 41),none,[0,1]⟩,⟨some 39,.mv (.t 42),none,[2]⟩]) (.cond (.t 39) (.seq (.reg false [⟨some 4,.mv (.d (.int .i64 (-1))),none,[]⟩]) .ret) (.seq
 (.reg false [⟨some 44,.mv (.t 7),none,[]⟩,⟨some 45,.mv (.t 8),none,[]⟩,⟨some 46,.bin .gtr (.t 44) (.t 45),none,[0,1]⟩,⟨some 43,.mv (.t 46),none,[2]⟩]) (.cond (.t 43) (.seq (.reg false [⟨some 4,.mv (.d (.int .i64
 1)),none,[]⟩]) .ret) .skip))))))) (.reg false [⟨some 27,.mv (.t 6),none,[]⟩,⟨some 28,.bin .sub (.t 27) (.d (.int .i64 1)),none,[0]⟩,⟨some 6,.mv (.t 28),none,[1,0,1]⟩])))))) (.seq (.reg false [⟨some 4,.mv (.d (.int .i64
 0)),none,[]⟩]) .ret))))
theorem o_n1 : fnOf Tryz.prog o_df = some (o_dg, [.t 4], 47, false) := by kernel_rfl

/-- tallymark/whole.Make -/
abbrev o_69 : FuncId := 106
def o_dh : C := (.seq (.reg false [⟨some 3,.box 47 (.t 1),none,[]⟩,⟨some 4,.new 49 [.nilsl,(.bool false)],none,[]⟩]) (.seq (.reg true [⟨some 5,.load true 1 (.t 3),none,[]⟩,⟨some 6,.mv (.t 0),none,[]⟩,⟨some 7,.mv (.t 6),none,[1]⟩,⟨some
 8,.load true 1 (.t 3),some (7,true),[2]⟩,⟨some 9,.call 109 [(.t 8)],some (7,true),[3,2,2]⟩,⟨some 10,.un .not (.t 9),some (7,true),[4,2]⟩,⟨some 11,.pick (.t 7) (.t 10) (.d (.bool false)),none,[2,5]⟩,⟨some 12,.build
 [.nilsl,(.bool false)] [(0,1,(.t 5)),(1,1,(.t 11))],none,[0,6]⟩,⟨none,.store 2 (.t 4) (.t 12),none,[7,4,0,1,2,3,4,5,6,7]⟩]) .ret))
theorem o_n2 : fnOf Tryz.prog o_69 = some (o_dh, [.cell 4 true 2], 13, false) := by kernel_rfl

/-- tallymark/nat.Of -/
abbrev o_di : FuncId := 108
def o_dj : C := (.seq (.reg false [⟨some 2,.new 47 [.nilsl],none,[]⟩]) (.seq (.reg false [⟨some 3,.mv (.t 0),none,[]⟩,⟨some 4,.call 150 [(.t 3)],none,[0]⟩,⟨some 5,.call 112 [(.t 4)],none,[1,1]⟩,⟨none,.store 1 (.t 2) (.t
 5),none,[2,2,0,1,2]⟩]) .ret))
theorem o_n3 : fnOf Tryz.prog o_di = some (o_dj, [.cell 2 true 1], 6, false) := by kernel_rfl

/-- (tallymark/nat.Nat).Zero -/
abbrev o_dk : FuncId := 109
def o_dl : C := (.seq (.reg false [⟨some 1,.box 47 (.t 0),none,[]⟩,⟨some 2,.mv (.d (.bool false)),none,[]⟩]) (.seq (.reg false [⟨some 3,.fa 0 (.t 1),none,[]⟩,⟨some 4,.load false 1 (.t 3),none,[0]⟩,⟨some 5,.len (.t 4),none,[1]⟩,⟨some
 6,.bin .eql (.t 5) (.d (.int .i64 0)),none,[2]⟩,⟨some 2,.mv (.t 6),none,[3,0,1,2,3]⟩]) .ret))
theorem o_n4 : fnOf Tryz.prog o_dk = some (o_dl, [.t 2], 7, false) := by kernel_rfl

/-- tallymark/nat.Add -/
abbrev o_dm : FuncId := 110
def o_dn : C := (.seq (.reg false [⟨some 2,.box 47 (.t 0),none,[]⟩,⟨some 3,.box 47 (.t 1),none,[]⟩,⟨some 4,.new 47 [.nilsl],none,[]⟩]) (.seq (.seq (.reg false [⟨some 10,.fa 0 (.t 2),none,[]⟩,⟨some 11,.load false 1 (.t
 10),none,[0]⟩,⟨some 12,.len (.t 11),none,[1]⟩,⟨some 13,.fa 0 (.t 3),none,[]⟩,⟨some 14,.load false 1 (.t 13),none,[3]⟩,⟨some 15,.len (.t 14),none,[4]⟩,⟨some 16,.bin .lss (.t 12) (.t 15),none,[2,5]⟩]) (.cond (.t 16) (.reg
 false [⟨some 17,.load true 1 (.t 3),none,[]⟩,⟨some 18,.load true 1 (.t 2),none,[]⟩,⟨none,.store 1 (.t 2) (.t 17),none,[0,0,1]⟩,⟨none,.store 1 (.t 3) (.t 18),none,[1,2,0,1,2]⟩]) .skip)) (.seq (.reg false [⟨some 19,.fa 0
 (.t 2),none,[]⟩,⟨some 20,.load false 1 (.t 19),none,[0]⟩,⟨some 21,.len (.t 20),none,[1]⟩,⟨some 22,.bin .add (.t 21) (.d (.int .i64 1)),none,[2]⟩,⟨some 23,.mksl 28 1 8 [(.int .u64 0)] (.t 22) (.t 22),none,[3,3]⟩,⟨some
 5,.mv (.t 23),none,[4,0,1,2,3,4]⟩]) (.seq (.reg false [⟨some 6,.mv (.d (.int .u64 0)),none,[]⟩]) (.seq (.seq (.reg false [⟨some 24,.fa 0 (.t 2),none,[]⟩,⟨some 25,.load false 1 (.t 24),none,[0]⟩,⟨some 26,.len (.t
 25),none,[1]⟩,⟨some 27,.mv (.d (.int .i64 0)),none,[]⟩]) (.block 0 (.loop (.seq (.reg false [⟨some 28,.bin .lss (.t 27) (.t 26),none,[]⟩]) (.seq (.cond (.t 28) .skip (.exit 0)) (.seq (.block 1 (.seq (.reg false [⟨some
 29,.mv (.t 27),none,[]⟩,⟨some 30,.ix 1 (.t 25) (.t 27),none,[]⟩,⟨some 31,.load false 1 (.t 30),none,[1]⟩,⟨some 7,.mv (.t 29),none,[0,0,1,2]⟩,⟨some 8,.mv (.t 31),none,[2,3,0,1,2,3]⟩]) (.seq (.reg false [⟨some 9,.mv (.d
 (.int .u64 0)),none,[]⟩]) (.seq (.seq (.reg false [⟨some 32,.mv (.t 7),none,[]⟩,⟨some 33,.fa 0 (.t 3),none,[]⟩,⟨some 34,.load false 1 (.t 33),none,[1]⟩,⟨some 35,.len (.t 34),none,[2]⟩,⟨some 36,.bin .lss (.t 32) (.t
 35),none,[0,3]⟩]) (.cond (.t 36) (.reg false [⟨some 37,.fa 0 (.t 3),none,[]⟩,⟨some 38,.load false 1 (.t 37),none,[0]⟩,⟨some 39,.mv (.t 7),none,[]⟩,⟨some 40,.ix 1 (.t 38) (.t 39),none,[1,2]⟩,⟨some 41,.load false 1 (.t
 40),none,[3]⟩,⟨some 9,.mv (.t 41),none,[4,0,1,2,3,4]⟩]) .skip)) (.reg false [⟨some 43,.mv (.t 5),none,[]⟩,⟨some 44,.mv (.t 7),none,[]⟩,⟨some 45,.mv (.t 8),none,[]⟩,⟨some 46,.mv (.t 9),none,[]⟩,⟨some 47,.mv (.t
 6),none,[]⟩,⟨some 48,.call 149 [(.t 45),(.t 46),(.t 47)],none,[2,3,4]⟩,⟨some 42,.mv (.t 48),none,[5]⟩,⟨some 49,.ext (.t 42) 0,none,[6]⟩,⟨some 50,.ext (.t 42) 1,none,[6]⟩,⟨some 51,.ix 1 (.t 43) (.t
 44),none,[0,1,0,1,2,3,4,5,6,7]⟩,⟨none,.store 1 (.t 51) (.t 49),none,[9,7,5,0,1,2,3,4,5,6,7]⟩,⟨some 6,.mv (.t 50),none,[8,10,0,1,2,3,4,5,6,7,8,9,10]⟩]))))) (.reg false [⟨some 52,.bin .add (.t 27) (.d (.int .i64
 1)),none,[]⟩,⟨some 27,.mv (.t 52),none,[0]⟩]))))))) (.seq (.reg false [⟨some 53,.mv (.t 5),none,[]⟩,⟨some 54,.fa 0 (.t 2),none,[]⟩,⟨some 55,.load false 1 (.t 54),none,[1]⟩,⟨some 56,.len (.t 55),none,[2]⟩,⟨some 57,.mv
 (.t 6),none,[]⟩,⟨some 58,.ix 1 (.t 53) (.t 56),none,[0,3,0,1,2,3,4]⟩,⟨none,.store 1 (.t 58) (.t 57),none,[5,4,0,1,2,3,4]⟩]) (.seq (.reg false [⟨some 59,.mv (.t 5),none,[]⟩,⟨some 60,.call 112 [(.t
 59)],none,[0]⟩,⟨none,.store 1 (.t 4) (.t 60),none,[1,1,0,1]⟩]) .ret)))))))
theorem o_n5 : fnOf Tryz.prog o_dm = some (o_dn, [.cell 4 true 1], 61, false) := by kernel_rfl

/-- tallymark/nat.split -/
abbrev o_do : FuncId := 111
def o_dp : C := (.seq (.reg false [⟨some 4,.mv (.d .nilsl),none,[]⟩,⟨some 5,.mv (.d (.int .u64 0)),none,[0]⟩]) (.seq (.reg false [⟨some 9,.mv (.t 0),none,[]⟩,⟨some 10,.len (.t 9),none,[0]⟩,⟨some 11,.mksl 28 1 8 [(.int .u64 0)] (.t 10)
 (.t 10),none,[1,1]⟩,⟨some 6,.mv (.t 11),none,[2,0,1,2]⟩]) (.seq (.reg false [⟨some 7,.mv (.d (.int .u64 0)),none,[]⟩]) (.seq (.seq (.reg false [⟨some 12,.mv (.t 0),none,[]⟩,⟨some 13,.len (.t 12),none,[0]⟩,⟨some 14,.bin
 .sub (.t 13) (.d (.int .i64 1)),none,[1]⟩,⟨some 8,.mv (.t 14),none,[2,0,1,2]⟩]) (.block 0 (.loop (.seq (.seq (.reg false [⟨some 15,.mv (.t 8),none,[]⟩,⟨some 16,.bin .geq (.t 15) (.d (.int .i64 0)),none,[0]⟩]) (.cond (.t
 16) .skip (.exit 0))) (.seq (.block 1 (.reg false [⟨some 20,.mv (.t 6),none,[]⟩,⟨some 21,.mv (.t 8),none,[]⟩,⟨some 22,.mv (.t 7),none,[]⟩,⟨some 23,.mv (.t 0),none,[]⟩,⟨some 24,.mv (.t 8),none,[]⟩,⟨some 25,.ix 1 (.t 23)
 (.t 24),none,[3,4]⟩,⟨some 26,.load false 1 (.t 25),none,[5]⟩,⟨some 27,.mv (.t 1),none,[]⟩,⟨some 28,.call 151 [(.t 22),(.t 26),(.t 27)],none,[2,6,7]⟩,⟨some 19,.mv (.t 28),none,[8]⟩,⟨some 29,.ext (.t 19) 0,none,[9]⟩,⟨some
 30,.ext (.t 19) 1,none,[9]⟩,⟨some 31,.ix 1 (.t 20) (.t 21),none,[0,1,0,1,2,3,4,5,6,7,8,9,10]⟩,⟨none,.store 1 (.t 31) (.t 29),none,[12,10,8,0,1,2,3,4,5,6,7,8,9,10]⟩,⟨some 7,.mv (.t
 30),none,[11,13,0,1,2,3,4,5,6,7,8,9,10,11,12,13]⟩])) (.reg false [⟨some 17,.mv (.t 8),none,[]⟩,⟨some 18,.bin .sub (.t 17) (.d (.int .i64 1)),none,[0]⟩,⟨some 8,.mv (.t 18),none,[1,0,1]⟩])))))) (.seq (.reg false [⟨some
 32,.mv (.t 6),none,[]⟩,⟨some 33,.mv (.t 7),none,[]⟩,⟨some 4,.mv (.t 32),none,[0,0]⟩,⟨some 5,.mv (.t 33),none,[1,2,0,1,2]⟩]) .ret)))))
theorem o_n6 : fnOf Tryz.prog o_do = some (o_dp, [.t 4, .t 5], 34, false) := by kernel_rfl

/-- tallymark/nat.trimmed -/
abbrev o_dq : FuncId := 112
def o_dr : C := (.seq (.reg false [⟨some 2,.new 47 [.nilsl],none,[]⟩]) (.seq (.reg false [⟨some 4,.mv (.t 0),none,[]⟩,⟨some 5,.len (.t 4),none,[0]⟩,⟨some 3,.mv (.t 5),none,[1,0,1]⟩]) (.seq (.block 0 (.loop (.seq (.seq (.reg false
 [⟨some 6,.mv (.t 3),none,[]⟩,⟨some 7,.bin .gtr (.t 6) (.d (.int .i64 0)),none,[0]⟩,⟨some 8,.mv (.t 7),none,[1]⟩,⟨some 9,.mv (.t 0),some (8,true),[2]⟩,⟨some 10,.mv (.t 3),some (8,true),[2]⟩,⟨some 11,.bin .sub (.t 10) (.d
 (.int .i64 1)),some (8,true),[4,2]⟩,⟨some 12,.ix 1 (.t 9) (.t 11),some (8,true),[3,5,2]⟩,⟨some 13,.load false 1 (.t 12),some (8,true),[6,2]⟩,⟨some 14,.bin .eql (.t 13) (.d (.int .u64 0)),some (8,true),[7,2]⟩,⟨some
 15,.pick (.t 8) (.t 14) (.d (.bool false)),none,[2,8]⟩]) (.cond (.t 15) .skip (.exit 0))) (.block 1 (.reg false [⟨some 16,.mv (.t 3),none,[]⟩,⟨some 17,.bin .sub (.t 16) (.d (.int .i64 1)),none,[0]⟩,⟨some 3,.mv (.t
 17),none,[1,0,1]⟩]))))) (.seq (.reg false [⟨some 18,.mv (.t 0),none,[]⟩,⟨some 19,.mv (.t 3),none,[]⟩,⟨some 20,.slice 1 (.t 18) none (some (.t 19)) none,none,[0,1]⟩,⟨some 21,.build [.nilsl] [(0,1,(.t
 20))],none,[2]⟩,⟨none,.store 1 (.t 2) (.t 21),none,[3,0,1,2,3]⟩]) .ret))))
theorem o_n7 : fnOf Tryz.prog o_dq = some (o_dr, [.cell 2 true 1], 22, false) := by kernel_rfl

/-- strconv.FormatUint -/
abbrev o_ds : FuncId := 113
def o_dt : C := (.seq (.reg false [⟨some 4,.mv (.d (.str ⟨#[]⟩)),none,[]⟩]) (.seq (.reg false [⟨some 5,.mv (.t 0),none,[]⟩,⟨some 6,.mv (.t 1),none,[]⟩,⟨some 7,.call 152 [(.t 5),(.t 6)],none,[0,1]⟩,⟨some 4,.mv (.t 7),none,[2,2,0,1,2]⟩])
 .ret))
theorem o_n8 : fnOf Tryz.prog o_ds = some (o_dt, [.t 4], 8, false) := by kernel_rfl

/-- (tallymark/reg.Param).Well -/
abbrev o_du : FuncId := 118
def o_6a : C := (.seq (.reg false [⟨some 2,.box 30 (.t 0),none,[]⟩,⟨some 3,.box 64 (.t 1),none,[]⟩,⟨some 4,.mv (.d (.bool false)),none,[]⟩]) (.seq (.seq (.reg false [⟨some 6,.load true 3 (.t 2),none,[]⟩,⟨some 7,.call 85 [(.t
 6)],none,[0]⟩,⟨some 8,.bin .neq (.t 7) (.d (.int .i64 0)),none,[1]⟩]) (.cond (.t 8) (.seq (.reg false [⟨some 4,.mv (.d (.bool false)),none,[]⟩]) .ret) .skip)) (.seq (.seq (.reg false [⟨some 9,.fa 0 (.t 2),none,[]⟩,⟨some
 10,.load false 1 (.t 9),none,[0]⟩,⟨some 11,.bin .eql (.t 10) (.d (.int .i64 4)),none,[1]⟩]) (.cond (.t 11) (.seq (.reg true [⟨some 12,.load true 3 (.t 2),none,[]⟩,⟨some 13,.call 67 [(.t 12)],none,[0]⟩,⟨some 14,.load
 true 3 (.t 3),none,[]⟩,⟨some 15,.call 69 [(.t 14)],none,[2,1]⟩,⟨some 16,.call 161 [(.t 13),(.t 15)],none,[1,3,3]⟩,⟨some 4,.mv (.t 16),none,[4,4,0,1,2,3,4]⟩]) .ret) .skip)) (.seq (.reg false [⟨some 17,.load true 3 (.t
 2),none,[]⟩,⟨some 18,.call 71 [(.t 17)],none,[0]⟩,⟨some 19,.call 129 [(.t 18)],none,[1,1]⟩,⟨some 5,.mv (.t 19),none,[2,2,0,1,2]⟩]) (.seq (.reg false [⟨some 20,.fa 1 (.t 3),none,[]⟩,⟨some 21,.load false 1 (.t
 20),none,[0]⟩,⟨some 22,.bin .eql (.t 21) (.d (.int .i64 0)),none,[1]⟩,⟨some 23,.mv (.t 22),none,[2]⟩,⟨some 24,.fa 0 (.t 3),some (23,true),[3]⟩,⟨some 25,.load false 1 (.t 24),some (23,true),[4,3]⟩,⟨some 26,.bin .geq (.t
 25) (.d (.int .i64 0)),some (23,true),[5,3]⟩,⟨some 27,.pick (.t 23) (.t 26) (.d (.bool false)),none,[3,6]⟩,⟨some 28,.mv (.t 27),none,[7,3]⟩,⟨some 29,.fa 0 (.t 3),some (28,true),[8]⟩,⟨some 30,.load false 1 (.t 29),some
 (28,true),[9,8]⟩,⟨some 31,.mv (.t 5),some (28,true),[8]⟩,⟨some 32,.bin .leq (.t 30) (.t 31),some (28,true),[10,11,8]⟩,⟨some 33,.pick (.t 28) (.t 32) (.d (.bool false)),none,[8,12]⟩,⟨some 34,.mv (.t
 33),none,[13,8]⟩,⟨some 35,.fa 2 (.t 3),some (34,true),[14]⟩,⟨some 36,.load false 1 (.t 35),some (34,true),[15,14]⟩,⟨some 37,.un .not (.t 36),some (34,true),[16,14]⟩,⟨some 38,.mv (.t 37),some (34,true),[17,14,14]⟩,⟨some
 39,.fa 0 (.t 3),some (38,false),[18]⟩,⟨some 40,.load false 1 (.t 39),some (38,false),[19,18]⟩,⟨some 41,.mv (.t 5),some (38,false),[18]⟩,⟨some 42,.bin .eql (.t 40) (.t 41),some (38,false),[20,21,18]⟩,⟨some 43,.pick (.t
 38) (.d (.bool true)) (.t 42),some (34,true),[18,22,14]⟩,⟨some 44,.pick (.t 34) (.t 43) (.d (.bool false)),none,[14,23]⟩,⟨some 4,.mv (.t
 44),none,[24,18,0,1,2,3,4,5,6,7,8,9,10,11,12,13,14,15,16,17,18,19,20,21,22,23,24]⟩]) .ret)))))
theorem o_n9 : fnOf Tryz.prog o_du = some (o_6a, [.t 4], 45, false) := by kernel_rfl

/-- (tallymark/thin.Param).wrong -/
abbrev o_6b : FuncId := 119
def o_6c : C := (.seq (.reg false [⟨some 2,.box 135 (.t 0),none,[]⟩,⟨some 4,.mv (.d (.int .i64 0)),none,[]⟩]) (.seq (.seq (.reg false [⟨some 8,.load true 2 (.t 2),none,[]⟩,⟨some 9,.call 132 [(.t 8)],none,[0]⟩,⟨some 5,.mv (.t
 9),none,[1,1,0,1]⟩]) (.seq (.reg false [⟨some 10,.mv (.t 5),none,[]⟩,⟨some 11,.bin .neq (.t 10) (.d (.int .i64 0)),none,[0]⟩]) (.cond (.t 11) (.seq (.reg false [⟨some 12,.mv (.t 5),none,[]⟩,⟨some 4,.mv (.t
 12),none,[0,0]⟩]) .ret) .skip))) (.seq (.seq (.reg false [⟨some 13,.mv (.t 1),none,[]⟩,⟨some 14,.len (.t 13),none,[0]⟩,⟨some 15,.mv (.d (.int .i64 0)),none,[]⟩]) (.block 0 (.loop (.seq (.reg false [⟨some 16,.bin .lss
 (.t 15) (.t 14),none,[]⟩]) (.seq (.cond (.t 16) .skip (.exit 0)) (.seq (.block 1 (.seq (.reg false [⟨some 17,.ix 3 (.t 13) (.t 15),none,[]⟩,⟨some 18,.load true 3 (.t 17),none,[0]⟩,⟨some 7,.new 139 [(.int .i64 0),(.int
 .i64 0),(.bool false)],none,[]⟩,⟨none,.store 3 (.t 7) (.t 18),none,[2,1,0,1,2]⟩]) (.seq (.reg false [⟨some 19,.load true 2 (.t 2),none,[]⟩,⟨some 20,.load true 3 (.t 7),none,[]⟩,⟨some 21,.call 161 [(.t 19),(.t
 20)],none,[0,1]⟩,⟨some 22,.un .not (.t 21),none,[2]⟩]) (.cond (.t 22) (.seq (.reg false [⟨some 4,.mv (.d (.int .i64 2)),none,[]⟩]) .ret) .skip)))) (.reg false [⟨some 23,.bin .add (.t 15) (.d (.int .i64
 1)),none,[]⟩,⟨some 15,.mv (.t 23),none,[0]⟩]))))))) (.seq (.reg false [⟨some 4,.mv (.d (.int .i64 0)),none,[]⟩]) .ret))))
theorem o_dv : fnOf Tryz.prog o_6b = some (o_6c, [.t 4], 24, false) := by kernel_rfl

/-- tallymark/nat.Shl -/
abbrev o_dw : FuncId := 120
def o_dx : C := (.seq (.reg false [⟨some 2,.box 47 (.t 0),none,[]⟩,⟨some 4,.new 47 [.nilsl],none,[]⟩,⟨some 5,.mv (.d (.int .i64 0)),none,[]⟩]) (.seq (.seq (.reg false [⟨some 6,.mv (.t 1),none,[]⟩,⟨some 7,.bin .lss (.t 6) (.d (.int .i64
 0)),none,[0]⟩,⟨some 8,.mv (.t 7),none,[1]⟩,⟨some 9,.mv (.t 1),some (8,false),[2]⟩,⟨some 10,.bin .gtr (.t 9) (.d (.int .i64 8192)),some (8,false),[3,2]⟩,⟨some 11,.pick (.t 8) (.d (.bool true)) (.t 10),none,[2,4]⟩])
 (.cond (.t 11) (.seq (.reg false [⟨some 12,.build [.nilsl] [],none,[]⟩,⟨none,.store 1 (.t 4) (.t 12),none,[0,0]⟩,⟨some 5,.mv (.d (.int .i64 2)),none,[1,0,1]⟩]) .ret) .skip)) (.seq (.reg true [⟨some 13,.mv (.t
 1),none,[]⟩,⟨some 14,.bin .quo (.t 13) (.d (.int .i64 64)),none,[0]⟩,⟨some 15,.mksl 28 1 8 [(.int .u64 0)] (.t 14) (.t 14),none,[1,1]⟩,⟨some 16,.fa 0 (.t 2),none,[]⟩,⟨some 17,.load false 1 (.t 16),none,[3]⟩,⟨some 18,.mv
 (.t 1),none,[]⟩,⟨some 19,.bin .rem (.t 18) (.d (.int .i64 64)),none,[5]⟩,⟨some 20,.call 162 [(.t 17),(.t 19)],none,[4,6]⟩,⟨some 21,.app 28 1 8 (.t 15) (.t 20),none,[2,7,7]⟩,⟨some 22,.call 112 [(.t
 21)],none,[8,8]⟩,⟨none,.store 1 (.t 4) (.t 22),none,[9,9,0,1,2,3,4,5,6,7,8,9]⟩,⟨some 5,.mv (.d (.int .i64 0)),none,[10,0,1,2,3,4,5,6,7,8,9,10]⟩]) .ret)))
theorem o_na : fnOf Tryz.prog o_dw = some (o_dx, [.cell 4 true 1, .t 5], 23, false) := by kernel_rfl

/-- (tallymark/chain.Param).at -/
abbrev o_6d : FuncId := 121
def o_6e : C := (.seq (.reg false [⟨some 2,.box 143 (.t 0),none,[]⟩,⟨some 4,.mv (.d (.int .i64 0)),none,[]⟩]) (.seq (.seq (.reg false [⟨some 8,.load true 3 (.t 2),none,[]⟩,⟨some 9,.call 133 [(.t 8)],none,[0]⟩,⟨some 5,.mv (.t
 9),none,[1,1,0,1]⟩]) (.seq (.reg false [⟨some 10,.mv (.t 5),none,[]⟩,⟨some 11,.bin .neq (.t 10) (.d (.int .i64 0)),none,[0]⟩]) (.cond (.t 11) (.seq (.reg false [⟨some 12,.mv (.t 5),none,[]⟩,⟨some 4,.mv (.t
 12),none,[0,0]⟩]) .ret) .skip))) (.seq (.seq (.reg false [⟨some 13,.mv (.t 1),none,[]⟩,⟨some 14,.len (.t 13),none,[0]⟩,⟨some 15,.mv (.d (.int .i64 0)),none,[]⟩]) (.block 0 (.loop (.seq (.reg false [⟨some 16,.bin .lss
 (.t 15) (.t 14),none,[]⟩]) (.seq (.cond (.t 16) .skip (.exit 0)) (.seq (.block 1 (.seq (.reg false [⟨some 17,.ix 1 (.t 13) (.t 15),none,[]⟩,⟨some 18,.load false 1 (.t 17),none,[0]⟩,⟨some 7,.mv (.t 18),none,[1,0,1]⟩])
 (.seq (.reg false [⟨some 19,.mv (.t 7),none,[]⟩,⟨some 20,.bin .lss (.t 19) (.d (.int .i64 0)),none,[0]⟩,⟨some 21,.mv (.t 20),none,[1]⟩,⟨some 22,.mv (.t 7),some (21,false),[2]⟩,⟨some 23,.load true 3 (.t 2),some
 (21,false),[2]⟩,⟨some 24,.call 129 [(.t 23)],some (21,false),[4,2,2]⟩,⟨some 25,.bin .gtr (.t 22) (.t 24),some (21,false),[3,5,2]⟩,⟨some 26,.pick (.t 21) (.d (.bool true)) (.t 25),none,[2,6]⟩]) (.cond (.t 26) (.seq (.reg
 false [⟨some 4,.mv (.d (.int .i64 2)),none,[]⟩]) .ret) .skip)))) (.reg false [⟨some 27,.bin .add (.t 15) (.d (.int .i64 1)),none,[]⟩,⟨some 15,.mv (.t 27),none,[0]⟩]))))))) (.seq (.reg false [⟨some 4,.mv (.d (.int .i64
 0)),none,[]⟩]) .ret))))
theorem o_dy : fnOf Tryz.prog o_6d = some (o_6e, [.t 4], 28, false) := by kernel_rfl

/-- (tallymark/chain.Param).kind -/
abbrev o_dz : FuncId := 122
def o_e0 : C := (.seq (.reg false [⟨some 1,.box 143 (.t 0),none,[]⟩,⟨some 2,.mv (.d .nilifc),none,[]⟩]) (.seq (.seq (.reg false [⟨some 3,.fa 0 (.t 1),none,[]⟩,⟨some 4,.load false 1 (.t 3),none,[0]⟩]) (.block 0 (.seq (.reg false [⟨some
 6,.bin .eql (.t 4) (.d (.int .i64 1)),none,[]⟩,⟨some 5,.mv (.t 6),none,[0]⟩]) (.cond (.t 5) (.seq (.reg false [⟨some 7,.fa 1 (.t 1),none,[]⟩,⟨some 8,.load false 1 (.t 7),none,[0]⟩,⟨some 9,.ifc 245 (.t 8),none,[1]⟩,⟨some
 2,.mv (.t 9),none,[2,0,1,2]⟩]) .ret) (.seq (.reg false [⟨some 11,.bin .eql (.t 4) (.d (.int .i64 2)),none,[]⟩,⟨some 10,.mv (.t 11),none,[0]⟩]) (.cond (.t 10) (.seq (.reg false [⟨some 12,.fa 1 (.t 1),none,[]⟩,⟨some
 13,.load false 1 (.t 12),none,[0]⟩,⟨some 14,.ifc 246 (.t 13),none,[1]⟩,⟨some 2,.mv (.t 14),none,[2,0,1,2]⟩]) .ret) (.seq (.reg false [⟨some 16,.bin .eql (.t 4) (.d (.int .i64 3)),none,[]⟩,⟨some 15,.mv (.t
 16),none,[0]⟩]) (.cond (.t 15) (.seq (.reg false [⟨some 17,.fa 1 (.t 1),none,[]⟩,⟨some 18,.load false 1 (.t 17),none,[0]⟩,⟨some 19,.ifc 247 (.t 18),none,[1]⟩,⟨some 2,.mv (.t 19),none,[2,0,1,2]⟩]) .ret) .skip))))))))
 (.seq (.reg false [⟨some 2,.mv (.d .nilifc),none,[]⟩]) .ret)))
theorem o_nb : fnOf Tryz.prog o_dz = some (o_e0, [.t 2], 20, false) := by kernel_rfl

/-- (*tallymark/pack.Vector).Clone -/
abbrev o_6f : FuncId := 123
def o_6g : C := (.seq (.reg false [⟨some 2,.mv (.d .nilp),none,[]⟩]) (.seq (.reg true [⟨some 3,.mv (.t 0),none,[]⟩,⟨some 4,.chk (.t 3),none,[0]⟩,⟨some 5,.fa 0 (.t 4),none,[1]⟩,⟨some 6,.load false 1 (.t 5),none,[2]⟩,⟨some 7,.call 150
 [(.t 6)],none,[3]⟩,⟨some 8,.mv (.t 0),none,[]⟩,⟨some 9,.chk (.t 8),none,[5]⟩,⟨some 10,.fa 1 (.t 9),none,[6]⟩,⟨some 11,.load false 1 (.t 10),none,[7]⟩,⟨some 12,.mv (.t 0),none,[]⟩,⟨some 13,.chk (.t 12),none,[9]⟩,⟨some
 14,.fa 2 (.t 13),none,[10]⟩,⟨some 15,.load false 1 (.t 14),none,[11]⟩,⟨some 16,.build [.nilsl,(.int .i64 0),(.int .i64 0)] [(0,1,(.t 7)),(1,1,(.t 11)),(2,1,(.t 15))],none,[4,8,12]⟩,⟨some 17,.box 218 (.t
 16),none,[13]⟩,⟨some 2,.mv (.t 17),none,[14,4,0,1,2,3,4,5,6,7,8,9,10,11,12,13,14]⟩]) .ret))
theorem o_e1 : fnOf Tryz.prog o_6f = some (o_6g, [.t 2], 18, false) := by kernel_rfl

/-- (*tallymark/pack.Vector).Same -/
abbrev o_e2 : FuncId := 124
def o_e3 : C := (.seq (.reg false [⟨some 4,.mv (.d (.bool false)),none,[]⟩]) (.seq (.reg true [⟨some 5,.mv (.t 0),none,[]⟩,⟨some 6,.chk (.t 5),none,[0]⟩,⟨some 7,.fa 1 (.t 6),none,[1]⟩,⟨some 8,.load false 1 (.t 7),none,[2]⟩,⟨some 9,.mv
 (.t 1),none,[]⟩,⟨some 10,.chk (.t 9),none,[4]⟩,⟨some 11,.fa 1 (.t 10),none,[5]⟩,⟨some 12,.load false 1 (.t 11),none,[6]⟩,⟨some 13,.bin .eql (.t 8) (.t 12),none,[3,7]⟩,⟨some 14,.mv (.t 13),none,[8]⟩,⟨some 15,.mv (.t
 0),some (14,true),[9]⟩,⟨some 16,.chk (.t 15),some (14,true),[10,9]⟩,⟨some 17,.fa 2 (.t 16),some (14,true),[11,9]⟩,⟨some 18,.load false 1 (.t 17),some (14,true),[12,9]⟩,⟨some 19,.mv (.t 1),some (14,true),[9]⟩,⟨some
 20,.chk (.t 19),some (14,true),[14,9]⟩,⟨some 21,.fa 2 (.t 20),some (14,true),[15,9]⟩,⟨some 22,.load false 1 (.t 21),some (14,true),[16,9]⟩,⟨some 23,.bin .eql (.t 18) (.t 22),some (14,true),[13,17,9]⟩,⟨some 24,.pick (.t
 14) (.t 23) (.d (.bool false)),none,[9,18]⟩,⟨some 25,.mv (.t 24),none,[19,9]⟩,⟨some 26,.mv (.t 0),some (25,true),[20]⟩,⟨some 27,.chk (.t 26),some (25,true),[21,20]⟩,⟨some 28,.fa 0 (.t 27),some (25,true),[22,20]⟩,⟨some
 29,.load false 1 (.t 28),some (25,true),[23,20]⟩,⟨some 30,.mv (.t 1),some (25,true),[20]⟩,⟨some 31,.chk (.t 30),some (25,true),[25,20]⟩,⟨some 32,.fa 0 (.t 31),some (25,true),[26,20]⟩,⟨some 33,.load false 1 (.t 32),some
 (25,true),[27,20]⟩,⟨some 34,.call 163 [(.t 29),(.t 33)],some (25,true),[24,28,20,20]⟩,⟨some 35,.pick (.t 25) (.t 34) (.d (.bool false)),none,[20,29]⟩,⟨some 4,.mv (.t
 35),none,[30,29,0,1,2,3,4,5,6,7,8,9,10,11,12,13,14,15,16,17,18,19,20,21,22,23,24,25,26,27,28,29,30]⟩]) .ret))
theorem o_nc : fnOf Tryz.prog o_e2 = some (o_e3, [.t 4], 36, false) := by kernel_rfl

/-- slices.Equal[[]tallymark/hash.Hash,tallymark/hash.Hash] -/
abbrev o_e4 : FuncId := 125
def o_e5 : C := (.seq (.reg false [⟨some 4,.mv (.d (.bool false)),none,[]⟩]) (.seq (.seq (.reg false [⟨some 6,.mv (.t 0),none,[]⟩,⟨some 7,.len (.t 6),none,[0]⟩,⟨some 8,.mv (.t 1),none,[]⟩,⟨some 9,.len (.t 8),none,[2]⟩,⟨some 10,.bin
 .neq (.t 7) (.t 9),none,[1,3]⟩]) (.cond (.t 10) (.seq (.reg false [⟨some 4,.mv (.d (.bool false)),none,[]⟩]) .ret) .skip)) (.seq (.seq (.reg false [⟨some 11,.mv (.t 0),none,[]⟩,⟨some 12,.len (.t 11),none,[0]⟩,⟨some
 13,.mv (.d (.int .i64 0)),none,[]⟩]) (.block 0 (.loop (.seq (.reg false [⟨some 14,.bin .lss (.t 13) (.t 12),none,[]⟩]) (.seq (.cond (.t 14) .skip (.exit 0)) (.seq (.block 1 (.seq (.reg false [⟨some 15,.mv (.t
 13),none,[]⟩,⟨some 5,.mv (.t 15),none,[0,0]⟩]) (.seq (.reg true [⟨some 16,.mv (.t 0),none,[]⟩,⟨some 17,.mv (.t 5),none,[]⟩,⟨some 18,.ix 2 (.t 16) (.t 17),none,[0,1]⟩,⟨some 19,.load true 2 (.t 18),none,[2]⟩,⟨some 20,.mv
 (.t 1),none,[]⟩,⟨some 21,.mv (.t 5),none,[]⟩,⟨some 22,.ix 2 (.t 20) (.t 21),none,[4,5]⟩,⟨some 23,.load true 2 (.t 22),none,[6]⟩,⟨some 24,.aeq true [0,0] (.t 19) (.t 23),none,[3,7]⟩]) (.cond (.t 24) (.seq (.reg false
 [⟨some 4,.mv (.d (.bool false)),none,[]⟩]) .ret) .skip)))) (.reg false [⟨some 25,.bin .add (.t 13) (.d (.int .i64 1)),none,[]⟩,⟨some 13,.mv (.t 25),none,[0]⟩]))))))) (.seq (.reg false [⟨some 4,.mv (.d (.bool
 true)),none,[]⟩]) .ret))))
theorem o_nd : fnOf Tryz.prog o_e4 = some (o_e5, [.t 4], 26, false) := by kernel_rfl

/-- (tallymark/thin.Param).one -/
abbrev o_e6 : FuncId := 126
def o_6h : C := (.seq (.reg false [⟨some 3,.box 135 (.t 0),none,[]⟩,⟨some 5,.box 139 (.t 2),none,[]⟩,⟨some 6,.new 139 [(.int .i64 0),(.int .i64 0),(.bool false)],none,[]⟩,⟨some 7,.mv (.d (.int .i64 0)),none,[]⟩]) (.seq (.reg false
 [⟨some 11,.mv (.t 1),none,[]⟩,⟨some 12,.fa 1 (.t 5),none,[]⟩,⟨some 13,.load false 1 (.t 12),none,[1]⟩,⟨some 14,.call 164 [(.t 11),(.t 13)],none,[0,2]⟩,⟨some 10,.mv (.t 14),none,[3]⟩,⟨some 15,.ext (.t 10)
 0,none,[4]⟩,⟨some 16,.ext (.t 10) 1,none,[4]⟩,⟨some 8,.mv (.t 15),none,[5,3,0,1,2,3,4,5]⟩,⟨some 9,.mv (.t 16),none,[6,7,0,1,2,3,4,5,6,7]⟩]) (.seq (.seq (.reg false [⟨some 17,.mv (.t 8),none,[]⟩,⟨some 18,.un .not (.t
 17),none,[0]⟩]) (.cond (.t 18) (.seq (.reg false [⟨some 19,.load true 3 (.t 5),none,[]⟩,⟨some 20,.mv (.t 9),none,[]⟩,⟨none,.store 3 (.t 6) (.t 19),none,[0,0]⟩,⟨some 7,.mv (.t 20),none,[1,2,0,1,2]⟩]) .ret) .skip)) (.seq
 (.reg false [⟨some 21,.fa 0 (.t 5),none,[]⟩,⟨some 22,.load false 1 (.t 21),none,[0]⟩,⟨some 23,.bin .add (.t 22) (.d (.int .i64 1)),none,[1]⟩,⟨some 24,.fa 0 (.t 5),none,[0,1,2]⟩,⟨none,.store 1 (.t 24) (.t
 23),none,[3,2,0,1,2]⟩]) (.seq (.reg false [⟨some 25,.load true 2 (.t 3),none,[]⟩,⟨some 26,.mv (.t 1),none,[]⟩,⟨some 27,.load true 3 (.t 5),none,[]⟩,⟨some 28,.call 140 [(.t 25),(.t 26),(.t 27)],none,[0,1,2]⟩,⟨some
 29,.ext (.t 28) 0,none,[3]⟩,⟨some 30,.ext (.t 28) 1,none,[3]⟩,⟨none,.store 3 (.t 6) (.t 29),none,[4,3,0,1,2,3,4,5]⟩,⟨some 7,.mv (.t 30),none,[5,6,0,1,2,3,4,5,6]⟩]) .ret)))))
theorem o_ne : fnOf Tryz.prog o_e6 = some (o_6h, [.cell 6 true 3, .t 7], 31, false) := by kernel_rfl

/-- (tallymark/chain.Param).on -/
abbrev o_2f : FuncId := 127
def o_2g : C := (.seq (.reg false [⟨some 3,.box 143 (.t 0),none,[]⟩,⟨some 4,.box 155 (.t 1),none,[]⟩,⟨some 6,.new 155 [(.int .i64 0),(.bool false)],none,[]⟩,⟨some 7,.mv (.d (.int .i64 0)),none,[]⟩]) (.seq (.seq (.reg true [⟨some 10,.fa
 0 (.t 4),none,[]⟩,⟨some 11,.load false 1 (.t 10),none,[0]⟩,⟨some 12,.load true 3 (.t 3),none,[]⟩,⟨some 13,.call 129 [(.t 12)],none,[2]⟩,⟨some 14,.bin .eql (.t 11) (.t 13),none,[1,3]⟩]) (.cond (.t 14) (.seq (.reg false
 [⟨some 15,.fa 1 (.t 4),none,[]⟩,⟨none,.store 1 (.t 15) (.d (.bool true)),none,[0]⟩]) (.seq (.reg false [⟨some 16,.load true 2 (.t 4),none,[]⟩,⟨none,.store 2 (.t 6) (.t 16),none,[0,0]⟩,⟨some 7,.mv (.d (.int .i64
 0)),none,[1,0,1]⟩]) .ret)) .skip)) (.seq (.reg false [⟨some 18,.mv (.t 2),none,[]⟩,⟨some 19,.fa 0 (.t 4),none,[]⟩,⟨some 20,.load false 1 (.t 19),none,[1]⟩,⟨some 21,.callv (.t 18) [(.t 20)],none,[0,2]⟩,⟨some 17,.mv (.t
 21),none,[3]⟩,⟨some 22,.ext (.t 17) 0,none,[4]⟩,⟨some 23,.ext (.t 17) 1,none,[4]⟩,⟨some 8,.mv (.t 22),none,[5,3,0,1,2,3,4,5]⟩,⟨some 9,.mv (.t 23),none,[6,7,0,1,2,3,4,5,6,7]⟩]) (.seq (.seq (.reg false [⟨some 24,.mv (.t
 8),none,[]⟩]) (.cond (.t 24) (.reg false [⟨some 25,.fa 0 (.t 4),none,[]⟩,⟨some 26,.load false 1 (.t 25),none,[0]⟩,⟨some 27,.bin .add (.t 26) (.d (.int .i64 1)),none,[1]⟩,⟨some 28,.fa 0 (.t 4),none,[0,1,2]⟩,⟨none,.store
 1 (.t 28) (.t 27),none,[3,2,0,1,2]⟩]) .skip)) (.seq (.reg false [⟨some 29,.load true 2 (.t 4),none,[]⟩,⟨some 30,.mv (.t 9),none,[]⟩,⟨none,.store 2 (.t 6) (.t 29),none,[0,0]⟩,⟨some 7,.mv (.t 30),none,[1,2,0,1,2]⟩])
 .ret)))))
theorem o_3e : fnOf Tryz.prog o_2f = some (o_2g, [.cell 6 true 2, .t 7], 31, false) := by kernel_rfl

/-- (tallymark/chain.Param).Add$1 -/
abbrev o_3f : FuncId := 128
def o_e7 : C := (.seq (.reg false [⟨some 4,.mv (.d (.bool false)),none,[]⟩,⟨some 5,.mv (.d (.int .i64 0)),none,[0]⟩]) (.seq (.reg false [⟨some 6,.load false 1 (.t 1),none,[]⟩,⟨some 7,.load false 1 (.t 2),none,[]⟩,⟨some 8,.mv (.t
 0),none,[]⟩,⟨some 9,.inv (.t 6) "tallymark/chain.step" [(.t 7),(.t 8)],none,[0,1,2]⟩,⟨some 10,.ext (.t 9) 0,none,[3]⟩,⟨some 11,.ext (.t 9) 1,none,[3]⟩,⟨some 4,.mv (.t 10),none,[4,3,0,1,2,3,4,5]⟩,⟨some 5,.mv (.t
 11),none,[5,6,0,1,2,3,4,5,6]⟩]) .ret))
theorem o_nf : fnOf Tryz.prog o_3f = some (o_e7, [.t 4, .t 5], 12, false) := by kernel_rfl

/-- (tallymark/chain.Param).Top -/
abbrev o_e8 : FuncId := 129
def o_e9 : C := (.seq (.reg false [⟨some 1,.box 143 (.t 0),none,[]⟩,⟨some 2,.mv (.d (.int .i64 0)),none,[]⟩]) (.seq (.seq (.reg false [⟨some 3,.load true 3 (.t 1),none,[]⟩,⟨some 4,.call 133 [(.t 3)],none,[0]⟩,⟨some 5,.bin .neq (.t 4)
 (.d (.int .i64 0)),none,[1]⟩]) (.cond (.t 5) (.seq (.reg false [⟨some 2,.mv (.d (.int .i64 0)),none,[]⟩]) .ret) .skip)) (.seq (.reg false [⟨some 6,.fa 2 (.t 1),none,[]⟩,⟨some 7,.load false 1 (.t 6),none,[0]⟩,⟨some
 8,.bin .shl (.d (.int .i64 1)) (.t 7),none,[1]⟩,⟨some 9,.bin .sub (.t 8) (.d (.int .i64 1)),none,[2]⟩,⟨some 2,.mv (.t 9),none,[3,0,1,2,3]⟩]) .ret)))
theorem o_ng : fnOf Tryz.prog o_e8 = some (o_e9, [.t 2], 10, false) := by kernel_rfl

/-- math/bits.Len64 -/
abbrev o_ea : FuncId := 130
def o_eb : C := (.seq (.reg false [⟨some 2,.mv (.d (.int .i64 0)),none,[]⟩]) (.seq (.seq (.reg false [⟨some 3,.mv (.t 0),none,[]⟩,⟨some 4,.bin .geq (.t 3) (.d (.int .u64 4294967296)),none,[0]⟩]) (.cond (.t 4) (.seq (.reg false [⟨some
 5,.mv (.t 0),none,[]⟩,⟨some 6,.bin .shr (.t 5) (.d (.int .u64 32)),none,[0]⟩,⟨some 0,.mv (.t 6),none,[1,0,1]⟩]) (.reg false [⟨some 2,.mv (.d (.int .i64 32)),none,[]⟩])) .skip)) (.seq (.seq (.reg false [⟨some 7,.mv (.t
 0),none,[]⟩,⟨some 8,.bin .geq (.t 7) (.d (.int .u64 65536)),none,[0]⟩]) (.cond (.t 8) (.seq (.reg false [⟨some 9,.mv (.t 0),none,[]⟩,⟨some 10,.bin .shr (.t 9) (.d (.int .u64 16)),none,[0]⟩,⟨some 0,.mv (.t
 10),none,[1,0,1]⟩]) (.reg false [⟨some 11,.mv (.t 2),none,[]⟩,⟨some 12,.bin .add (.t 11) (.d (.int .i64 16)),none,[0]⟩,⟨some 2,.mv (.t 12),none,[1,0,1]⟩])) .skip)) (.seq (.seq (.reg false [⟨some 13,.mv (.t
 0),none,[]⟩,⟨some 14,.bin .geq (.t 13) (.d (.int .u64 256)),none,[0]⟩]) (.cond (.t 14) (.seq (.reg false [⟨some 15,.mv (.t 0),none,[]⟩,⟨some 16,.bin .shr (.t 15) (.d (.int .u64 8)),none,[0]⟩,⟨some 0,.mv (.t
 16),none,[1,0,1]⟩]) (.reg false [⟨some 17,.mv (.t 2),none,[]⟩,⟨some 18,.bin .add (.t 17) (.d (.int .i64 8)),none,[0]⟩,⟨some 2,.mv (.t 18),none,[1,0,1]⟩])) .skip)) (.seq (.reg false [⟨some 19,.mv (.t 2),none,[]⟩,⟨some
 20,.mv (.t 0),none,[]⟩,⟨some 21,.conv .u8 (.t 20),none,[1]⟩,⟨some 22,.gstr (.d (.str
 ⟨#[0,1,2,2,3,3,3,3,4,4,4,4,4,4,4,4,5,5,5,5,5,5,5,5,5,5,5,5,5,5,5,5,6,6,6,6,6,6,6,6,6,6,6,6,6,6,6,6,6,6,6,6,6,6,6,6,6,6,6,6,6,6,6,6,7,7,7,7,7,7,7,7,7,7,7,7,7,7,7,7,7,7,7,7,7,7,7,7,7,7,7,7,7,7,7,7,7,7,7,7,7,7,7,7,7,7,7,7,7,7,7,7,7,7,7,7,7,7,7,7,7,7,7,7,7,7,7,7,8,8,8,8,8,8,8,8,8,8,8,8,8,8,8,8,8,8,8,8,8,8,8,8,8,8,8,8,8,8,8,8,8,8,8,8,8,8,8,8,8,8,8,8,8,8,8,8,8,8,8,8,8,8,8,8,8,8,8,8,8,8,8,8,8,8,8,8,8,8,8,8,8,8,8,8,8,8,8,8,8,8,8,8,8,8,8,8,8,8,8,8,8,8,8,8,8,8,8,8,8,8,8,8,8,8,8,8,8,8,8,8,8,8,8,8,8,8,8,8,8,8,8,8,8,8,8,8]⟩)) (.t 21),none,[2]⟩,⟨some 23,.conv .i64 (.t 22),none,[3]⟩,⟨some 24,.bin .add (.t 19) (.t 23),none,[0,4]⟩,⟨some 2,.mv (.t 24),none,[5,0,1,2,3,4,5]⟩]) .ret)))))
theorem o_nh : fnOf Tryz.prog o_ea = some (o_eb, [.t 2], 25, false) := by kernel_rfl

/-- (*tallymark/tape.Tape).Flip -/
abbrev o_ec : FuncId := 131
def o_ed : C := (.seq (.reg false [⟨some 2,.mv (.d (.bool false)),none,[]⟩,⟨some 3,.mv (.d (.int .i64 0)),none,[0]⟩]) (.seq (.seq (.reg true [⟨some 4,.mv (.t 0),none,[]⟩,⟨some 5,.chk (.t 4),none,[0]⟩,⟨some 6,.fa 0 (.t
 5),none,[1]⟩,⟨some 7,.fa 1 (.t 6),none,[2]⟩,⟨some 8,.load false 1 (.t 7),none,[3]⟩,⟨some 9,.mv (.t 8),none,[4]⟩,⟨some 10,.mv (.t 0),some (9,false),[5]⟩,⟨some 11,.chk (.t 10),some (9,false),[6,5]⟩,⟨some 12,.fa 0 (.t
 11),some (9,false),[7,5]⟩,⟨some 13,.fa 0 (.t 12),some (9,false),[8,5]⟩,⟨some 14,.load false 1 (.t 13),some (9,false),[9,5]⟩,⟨some 15,.mv (.t 0),some (9,false),[5]⟩,⟨some 16,.chk (.t 15),some (9,false),[11,5]⟩,⟨some
 17,.fa 2 (.t 16),some (9,false),[12,5]⟩,⟨some 18,.load false 1 (.t 17),some (9,false),[13,5]⟩,⟨some 19,.len (.t 18),some (9,false),[14,5]⟩,⟨some 20,.bin .eql (.t 14) (.t 19),some (9,false),[10,15,5]⟩,⟨some 21,.pick (.t
 9) (.d (.bool true)) (.t 20),none,[5,16]⟩]) (.cond (.t 21) (.seq (.reg false [⟨some 22,.mv (.t 0),none,[]⟩,⟨some 23,.chk (.t 22),none,[0,0]⟩,⟨some 24,.fa 0 (.t 23),none,[1,0]⟩,⟨some 25,.fa 1 (.t
 24),none,[2,0]⟩,⟨none,.store 1 (.t 25) (.d (.bool true)),none,[3,0]⟩]) (.seq (.reg false [⟨some 2,.mv (.d (.bool false)),none,[]⟩,⟨some 3,.mv (.d (.int .i64 8)),none,[0,0]⟩]) .ret)) .skip)) (.seq (.reg false [⟨some
 26,.mv (.t 0),none,[]⟩,⟨some 27,.chk (.t 26),none,[0]⟩,⟨some 28,.fa 0 (.t 27),none,[1]⟩,⟨some 29,.fa 0 (.t 28),none,[2]⟩,⟨some 30,.load false 1 (.t 29),none,[3]⟩,⟨some 31,.bin .add (.t 30) (.d (.int .i64
 1)),none,[4]⟩,⟨some 32,.chk (.t 26),none,[0,0,1,2,3,4,5]⟩,⟨some 33,.fa 0 (.t 32),none,[6,0,1,2,3,4,5]⟩,⟨some 34,.fa 0 (.t 33),none,[7,0,1,2,3,4,5]⟩,⟨none,.store 1 (.t 34) (.t 31),none,[8,5,0,1,2,3,4,5]⟩]) (.seq (.reg
 true [⟨some 35,.mv (.t 0),none,[]⟩,⟨some 36,.chk (.t 35),none,[0]⟩,⟨some 37,.fa 2 (.t 36),none,[1]⟩,⟨some 38,.load false 1 (.t 37),none,[2]⟩,⟨some 39,.mv (.t 0),none,[]⟩,⟨some 40,.chk (.t 39),none,[4]⟩,⟨some 41,.fa 0
 (.t 40),none,[5]⟩,⟨some 42,.fa 0 (.t 41),none,[6]⟩,⟨some 43,.load false 1 (.t 42),none,[7]⟩,⟨some 44,.bin .sub (.t 43) (.d (.int .i64 1)),none,[8]⟩,⟨some 45,.ix 1 (.t 38) (.t 44),none,[3,9]⟩,⟨some 46,.load false 1 (.t
 45),none,[10]⟩,⟨some 2,.mv (.t 46),none,[11,0,1,2,3,4,5,6,7,8,9,10,11]⟩,⟨some 3,.mv (.d (.int .i64 0)),none,[12,0,1,2,3,4,5,6,7,8,9,10,11,12]⟩]) .ret))))
theorem o_ni : fnOf Tryz.prog o_ec = some (o_ed, [.t 2, .t 3], 47, false) := by kernel_rfl

/-- (tallymark/thin.Param).Check -/
abbrev o_ee : FuncId := 132
def o_ef : C := (.seq (.reg false [⟨some 1,.box 135 (.t 0),none,[]⟩,⟨some 2,.mv (.d (.int .i64 0)),none,[]⟩]) (.seq (.seq (.reg false [⟨some 3,.fa 0 (.t 1),none,[]⟩,⟨some 4,.load false 1 (.t 3),none,[0]⟩,⟨some 5,.bin .lss (.t 4) (.d
 (.int .i64 1)),none,[1]⟩,⟨some 6,.mv (.t 5),none,[2]⟩,⟨some 7,.fa 0 (.t 1),some (6,false),[3]⟩,⟨some 8,.load false 1 (.t 7),some (6,false),[4,3]⟩,⟨some 9,.bin .gtr (.t 8) (.d (.int .i64 1023)),some
 (6,false),[5,3]⟩,⟨some 10,.pick (.t 6) (.d (.bool true)) (.t 9),none,[3,6]⟩,⟨some 11,.mv (.t 10),none,[7,3]⟩,⟨some 12,.fa 1 (.t 1),some (11,false),[8]⟩,⟨some 13,.load false 1 (.t 12),some (11,false),[9,8]⟩,⟨some 14,.bin
 .lss (.t 13) (.d (.int .i64 0)),some (11,false),[10,8]⟩,⟨some 15,.pick (.t 11) (.d (.bool true)) (.t 14),none,[8,11]⟩,⟨some 16,.mv (.t 15),none,[12,8]⟩,⟨some 17,.fa 1 (.t 1),some (16,false),[13]⟩,⟨some 18,.load false 1
 (.t 17),some (16,false),[14,13]⟩,⟨some 19,.bin .gtr (.t 18) (.d (.int .i64 20)),some (16,false),[15,13]⟩,⟨some 20,.pick (.t 16) (.d (.bool true)) (.t 19),none,[13,16]⟩]) (.cond (.t 20) (.seq (.reg false [⟨some 2,.mv (.d
 (.int .i64 10)),none,[]⟩]) .ret) .skip)) (.seq (.reg false [⟨some 2,.mv (.d (.int .i64 0)),none,[]⟩]) .ret)))
theorem o_nj : fnOf Tryz.prog o_ee = some (o_ef, [.t 2], 21, false) := by kernel_rfl

/-- (tallymark/chain.Param).Check -/
abbrev o_b : FuncId := 133
def o_3g : C := (.seq (.reg false [⟨some 1,.box 143 (.t 0),none,[]⟩,⟨some 2,.mv (.d (.int .i64 0)),none,[]⟩]) (.seq (.reg false [⟨some 4,.load true 3 (.t 1),none,[]⟩,⟨some 5,.call 122 [(.t 4)],none,[0]⟩,⟨some 3,.mv (.t
 5),none,[1,1,0,1]⟩]) (.seq (.seq (.reg false [⟨some 6,.mv (.t 3),none,[]⟩,⟨some 7,.inl false (.t 6),none,[0]⟩,⟨some 8,.mv (.t 7),none,[1]⟩,⟨some 9,.mv (.t 3),some (8,false),[2]⟩,⟨some 10,.inv (.t 9)
 "tallymark/chain.good" [],some (8,false),[3,2,2]⟩,⟨some 11,.un .not (.t 10),some (8,false),[4,2]⟩,⟨some 12,.pick (.t 8) (.d (.bool true)) (.t 11),none,[2,5]⟩,⟨some 13,.mv (.t 12),none,[6,4]⟩,⟨some 14,.fa 2 (.t 1),some
 (13,false),[7]⟩,⟨some 15,.load false 1 (.t 14),some (13,false),[8,7]⟩,⟨some 16,.bin .lss (.t 15) (.d (.int .i64 1)),some (13,false),[9,7]⟩,⟨some 17,.pick (.t 13) (.d (.bool true)) (.t 16),none,[7,10]⟩,⟨some 18,.mv (.t
 17),none,[11,7]⟩,⟨some 19,.fa 2 (.t 1),some (18,false),[12]⟩,⟨some 20,.load false 1 (.t 19),some (18,false),[13,12]⟩,⟨some 21,.bin .gtr (.t 20) (.d (.int .i64 10)),some (18,false),[14,12]⟩,⟨some 22,.pick (.t 18) (.d
 (.bool true)) (.t 21),none,[12,15]⟩]) (.cond (.t 22) (.seq (.reg false [⟨some 2,.mv (.d (.int .i64 10)),none,[]⟩]) .ret) .skip)) (.seq (.seq (.reg true [⟨some 23,.fa 0 (.t 1),none,[]⟩,⟨some 24,.load false 1 (.t
 23),none,[0]⟩,⟨some 25,.bin .eql (.t 24) (.d (.int .i64 1)),none,[1]⟩,⟨some 26,.mv (.t 25),none,[2]⟩,⟨some 27,.fa 1 (.t 1),some (26,true),[3]⟩,⟨some 28,.load false 1 (.t 27),some (26,true),[4,3]⟩,⟨some 29,.bin .add (.t
 28) (.d (.int .i64 1)),some (26,true),[5,3]⟩,⟨some 30,.conv .u64 (.t 29),some (26,true),[6,3]⟩,⟨some 31,.call 165 [(.t 30)],some (26,true),[7,3,3]⟩,⟨some 32,.fa 2 (.t 1),some (26,true),[3]⟩,⟨some 33,.load false 1 (.t
 32),some (26,true),[9,3]⟩,⟨some 34,.bin .shl (.d (.int .i64 1)) (.t 33),some (26,true),[10,3]⟩,⟨some 35,.bin .sub (.t 34) (.d (.int .i64 1)),some (26,true),[11,3]⟩,⟨some 36,.bin .mul (.t 31) (.t 35),some
 (26,true),[8,12,3]⟩,⟨some 37,.bin .gtr (.t 36) (.d (.int .i64 8192)),some (26,true),[13,3]⟩,⟨some 38,.pick (.t 26) (.t 37) (.d (.bool false)),none,[3,14]⟩]) (.cond (.t 38) (.seq (.reg false [⟨some 2,.mv (.d (.int .i64
 10)),none,[]⟩]) .ret) .skip)) (.seq (.reg false [⟨some 2,.mv (.d (.int .i64 0)),none,[]⟩]) .ret)))))
theorem o_6i : fnOf Tryz.prog o_b = some (o_3g, [.t 2], 39, false) := by kernel_rfl

/-- tallymark/bits.good -/
abbrev o_eg : FuncId := 134
def o_eh : C := (.seq (.reg false [⟨some 2,.mv (.d (.bool false)),none,[]⟩]) (.seq (.reg false [⟨some 3,.mv (.t 0),none,[]⟩,⟨some 4,.bin .geq (.t 3) (.d (.int .i64 0)),none,[0]⟩,⟨some 5,.mv (.t 4),none,[1]⟩,⟨some 6,.mv (.t 0),some
 (5,true),[2]⟩,⟨some 7,.bin .leq (.t 6) (.d (.int .i64 64)),some (5,true),[3,2]⟩,⟨some 8,.pick (.t 5) (.t 7) (.d (.bool false)),none,[2,4]⟩,⟨some 2,.mv (.t 8),none,[5,2,0,1,2,3,4,5]⟩]) .ret))
theorem o_nk : fnOf Tryz.prog o_eg = some (o_eh, [.t 2], 9, false) := by kernel_rfl

/-- tallymark/bits.fits -/
abbrev o_ei : FuncId := 135
def o_ej : C := (.seq (.reg false [⟨some 4,.mv (.d (.bool false)),none,[]⟩]) (.seq (.reg false [⟨some 5,.mv (.t 1),none,[]⟩,⟨some 6,.bin .eql (.t 5) (.d (.int .i64 64)),none,[0]⟩,⟨some 7,.mv (.t 6),none,[1]⟩,⟨some 8,.mv (.t 0),some
 (7,false),[2]⟩,⟨some 9,.mv (.t 1),some (7,false),[2]⟩,⟨some 10,.bin .shr (.t 8) (.t 9),some (7,false),[3,4,2]⟩,⟨some 11,.bin .eql (.t 10) (.d (.int .u64 0)),some (7,false),[5,2]⟩,⟨some 12,.pick (.t 7) (.d (.bool true))
 (.t 11),none,[2,6]⟩,⟨some 4,.mv (.t 12),none,[7,2,0,1,2,3,4,5,6,7]⟩]) .ret))
theorem o_nl : fnOf Tryz.prog o_ei = some (o_ej, [.t 4], 13, false) := by kernel_rfl

/-- (*tallymark/bits.Writer).Bit -/
abbrev o_6j : FuncId := 136
def o_3h : C := (.seq (.seq (.reg false [⟨some 4,.mv (.t 0),none,[]⟩,⟨some 5,.chk (.t 4),none,[0]⟩,⟨some 6,.fa 1 (.t 5),none,[1]⟩,⟨some 7,.load false 1 (.t 6),none,[2]⟩,⟨some 8,.bin .rem (.t 7) (.d (.int .i64 8)),none,[3]⟩,⟨some 9,.bin
 .eql (.t 8) (.d (.int .i64 0)),none,[4]⟩]) (.cond (.t 9) (.reg false [⟨some 10,.mv (.t 0),none,[]⟩,⟨some 11,.mv (.t 0),none,[]⟩,⟨some 12,.chk (.t 11),none,[1]⟩,⟨some 13,.fa 0 (.t 12),none,[2]⟩,⟨some 14,.load false 1 (.t
 13),none,[3]⟩,⟨some 15,.bsl 5 1 1 [(.int .u8 0)] [(0,1,(.d (.int .u8 0)))],none,[]⟩,⟨some 16,.app 5 1 1 (.t 14) (.t 15),none,[4,5]⟩,⟨some 17,.chk (.t 10),none,[0,0,1,2,3,4,5,6]⟩,⟨some 18,.fa 0 (.t
 17),none,[7,0,1,2,3,4,5,6]⟩,⟨none,.store 1 (.t 18) (.t 16),none,[8,6,6,0,1,2,3,4,5,6]⟩]) .skip)) (.seq (.seq (.reg false [⟨some 19,.mv (.t 1),none,[]⟩]) (.cond (.t 19) (.reg true [⟨some 20,.mv (.t 0),none,[]⟩,⟨some
 21,.chk (.t 20),none,[0]⟩,⟨some 22,.fa 0 (.t 21),none,[1]⟩,⟨some 23,.load false 1 (.t 22),none,[2]⟩,⟨some 24,.mv (.t 0),none,[]⟩,⟨some 25,.chk (.t 24),none,[4]⟩,⟨some 26,.fa 1 (.t 25),none,[5]⟩,⟨some 27,.load false 1
 (.t 26),none,[6]⟩,⟨some 28,.bin .quo (.t 27) (.d (.int .i64 8)),none,[7]⟩,⟨some 29,.ix 1 (.t 23) (.t 28),none,[3,8]⟩,⟨some 30,.load false 1 (.t 29),none,[9]⟩,⟨some 31,.mv (.t 0),none,[]⟩,⟨some 32,.chk (.t
 31),none,[11]⟩,⟨some 33,.fa 1 (.t 32),none,[12]⟩,⟨some 34,.load false 1 (.t 33),none,[13]⟩,⟨some 35,.bin .rem (.t 34) (.d (.int .i64 8)),none,[14]⟩,⟨some 36,.bin .sub (.d (.int .i64 7)) (.t 35),none,[15]⟩,⟨some 37,.bin
 .shl (.d (.int .u8 1)) (.t 36),none,[16]⟩,⟨some 38,.bin .or (.t 30) (.t 37),none,[10,17]⟩,⟨some 39,.ix 1 (.t 23) (.t 28),none,[3,8,0,1,2,3,4,5,6,7,8,9,10,11,12,13,14,15,16,17,18]⟩,⟨none,.store 1 (.t 39) (.t
 38),none,[19,18,0,1,2,3,4,5,6,7,8,9,10,11,12,13,14,15,16,17,18]⟩]) .skip)) (.reg false [⟨some 40,.mv (.t 0),none,[]⟩,⟨some 41,.chk (.t 40),none,[0]⟩,⟨some 42,.fa 1 (.t 41),none,[1]⟩,⟨some 43,.load false 1 (.t
 42),none,[2]⟩,⟨some 44,.bin .add (.t 43) (.d (.int .i64 1)),none,[3]⟩,⟨some 45,.chk (.t 40),none,[0,0,1,2,3,4]⟩,⟨some 46,.fa 1 (.t 45),none,[5,0,1,2,3,4]⟩,⟨none,.store 1 (.t 46) (.t 44),none,[6,4,0,1,2,3,4]⟩])))
theorem o_6k : fnOf Tryz.prog o_6j = some (o_3h, [], 47, false) := by kernel_rfl

/-- (*tallymark/bits.Reader).next -/
abbrev o_ek : FuncId := 137
def o_el : C := (.seq (.reg false [⟨some 2,.mv (.d (.int .u64 0)),none,[]⟩]) (.seq (.reg true [⟨some 4,.mv (.t 0),none,[]⟩,⟨some 5,.chk (.t 4),none,[0]⟩,⟨some 6,.fa 0 (.t 5),none,[1]⟩,⟨some 7,.load false 1 (.t 6),none,[2]⟩,⟨some 8,.mv
 (.t 0),none,[]⟩,⟨some 9,.chk (.t 8),none,[4]⟩,⟨some 10,.fa 1 (.t 9),none,[5]⟩,⟨some 11,.load false 1 (.t 10),none,[6]⟩,⟨some 12,.bin .quo (.t 11) (.d (.int .i64 8)),none,[7]⟩,⟨some 13,.ix 1 (.t 7) (.t
 12),none,[3,8]⟩,⟨some 14,.load false 1 (.t 13),none,[9]⟩,⟨some 15,.mv (.t 0),none,[]⟩,⟨some 16,.chk (.t 15),none,[11]⟩,⟨some 17,.fa 1 (.t 16),none,[12]⟩,⟨some 18,.load false 1 (.t 17),none,[13]⟩,⟨some 19,.bin .rem (.t
 18) (.d (.int .i64 8)),none,[14]⟩,⟨some 20,.bin .sub (.d (.int .i64 7)) (.t 19),none,[15]⟩,⟨some 21,.bin .shr (.t 14) (.t 20),none,[10,16]⟩,⟨some 22,.bin .and (.t 21) (.d (.int .u8 1)),none,[17]⟩,⟨some 3,.mv (.t
 22),none,[18,0,1,2,3,4,5,6,7,8,9,10,11,12,13,14,15,16,17,18]⟩]) (.seq (.reg false [⟨some 23,.mv (.t 0),none,[]⟩,⟨some 24,.chk (.t 23),none,[0]⟩,⟨some 25,.fa 1 (.t 24),none,[1]⟩,⟨some 26,.load false 1 (.t
 25),none,[2]⟩,⟨some 27,.bin .add (.t 26) (.d (.int .i64 1)),none,[3]⟩,⟨some 28,.chk (.t 23),none,[0,0,1,2,3,4]⟩,⟨some 29,.fa 1 (.t 28),none,[5,0,1,2,3,4]⟩,⟨none,.store 1 (.t 29) (.t 27),none,[6,4,0,1,2,3,4]⟩]) (.seq
 (.reg false [⟨some 30,.mv (.t 3),none,[]⟩,⟨some 31,.conv .u64 (.t 30),none,[0]⟩,⟨some 2,.mv (.t 31),none,[1,0,1]⟩]) .ret))))
theorem o_nm : fnOf Tryz.prog o_ek = some (o_el, [.t 2], 32, false) := by kernel_rfl

/-- (*tallymark/pack.Vector).Len -/
abbrev o_em : FuncId := 138
def o_en : C := (.seq (.reg false [⟨some 2,.mv (.d (.int .i64 0)),none,[]⟩]) (.seq (.reg false [⟨some 3,.mv (.t 0),none,[]⟩,⟨some 4,.chk (.t 3),none,[0]⟩,⟨some 5,.fa 1 (.t 4),none,[1]⟩,⟨some 6,.load false 1 (.t 5),none,[2]⟩,⟨some 2,.mv
 (.t 6),none,[3,0,1,2,3]⟩]) .ret))
theorem o_nn : fnOf Tryz.prog o_em = some (o_en, [.t 2], 7, false) := by kernel_rfl

/-- tallymark/thin.thinned -/
abbrev o_eo : FuncId := 139
def o_ep : C := (.seq (.reg false [⟨some 4,.box 139 (.t 1),none,[]⟩,⟨some 6,.new 139 [(.int .i64 0),(.int .i64 0),(.bool false)],none,[]⟩,⟨some 7,.mv (.d (.int .i64 0)),none,[]⟩]) (.seq (.seq (.reg false [⟨some 10,.mv (.t
 2),none,[]⟩,⟨some 11,.mm true [(.d (.int .i64 0)),(.t 10)],none,[0]⟩,⟨some 12,.mv (.d (.int .i64 0)),none,[]⟩]) (.block 0 (.loop (.seq (.reg false [⟨some 13,.bin .lss (.t 12) (.t 11),none,[]⟩]) (.seq (.cond (.t 13)
 .skip (.exit 0)) (.seq (.block 1 (.seq (.reg false [⟨some 15,.mv (.t 0),none,[]⟩,⟨some 16,.fa 0 (.t 4),none,[]⟩,⟨some 17,.load false 1 (.t 16),none,[1]⟩,⟨some 18,.call 166 [(.t 15),(.t 17)],none,[0,2]⟩,⟨some 14,.mv (.t
 18),none,[3]⟩,⟨some 19,.ext (.t 14) 0,none,[4]⟩,⟨some 20,.ext (.t 14) 1,none,[4]⟩,⟨some 8,.mv (.t 19),none,[5,3,0,1,2,3,4,5]⟩,⟨some 9,.mv (.t 20),none,[6,7,0,1,2,3,4,5,6,7]⟩]) (.seq (.seq (.reg false [⟨some 21,.mv (.t
 9),none,[]⟩,⟨some 22,.bin .neq (.t 21) (.d (.int .i64 0)),none,[0]⟩]) (.cond (.t 22) (.seq (.reg false [⟨some 23,.load true 3 (.t 4),none,[]⟩,⟨some 24,.mv (.t 9),none,[]⟩,⟨none,.store 3 (.t 6) (.t 23),none,[0,0]⟩,⟨some
 7,.mv (.t 24),none,[1,2,0,1,2]⟩]) .ret) .skip)) (.seq (.reg false [⟨some 25,.mv (.t 8),none,[]⟩,⟨some 26,.fa 0 (.t 4),none,[0]⟩,⟨none,.store 1 (.t 26) (.t 25),none,[1,0,0]⟩]) (.reg false [⟨some 27,.fa 1 (.t
 4),none,[]⟩,⟨some 28,.load false 1 (.t 27),none,[0]⟩,⟨some 29,.bin .add (.t 28) (.d (.int .i64 1)),none,[1]⟩,⟨some 30,.fa 1 (.t 4),none,[0,1,2]⟩,⟨none,.store 1 (.t 30) (.t 29),none,[3,2,0,1,2]⟩]))))) (.reg false [⟨some
 31,.bin .add (.t 12) (.d (.int .i64 1)),none,[]⟩,⟨some 12,.mv (.t 31),none,[0]⟩]))))))) (.seq (.reg false [⟨some 32,.load true 3 (.t 4),none,[]⟩,⟨none,.store 3 (.t 6) (.t 32),none,[0,0]⟩,⟨some 7,.mv (.d (.int .i64
 0)),none,[1,0,1]⟩]) .ret)))
theorem o_no : fnOf Tryz.prog o_eo = some (o_ep, [.cell 6 true 3, .t 7], 33, false) := by kernel_rfl

/-- (tallymark/thin.Param).down -/
abbrev o_eq : FuncId := 140
def o_er : C := (.seq (.reg false [⟨some 3,.box 135 (.t 0),none,[]⟩,⟨some 5,.box 139 (.t 2),none,[]⟩,⟨some 6,.new 139 [(.int .i64 0),(.int .i64 0),(.bool false)],none,[]⟩,⟨some 7,.mv (.d (.int .i64 0)),none,[]⟩]) (.seq (.block 0 (.loop
 (.seq (.seq (.reg false [⟨some 10,.fa 0 (.t 5),none,[]⟩,⟨some 11,.load false 1 (.t 10),none,[0]⟩,⟨some 12,.fa 0 (.t 3),none,[]⟩,⟨some 13,.load false 1 (.t 12),none,[2]⟩,⟨some 14,.bin .gtr (.t 11) (.t 13),none,[1,3]⟩])
 (.cond (.t 14) .skip (.exit 0))) (.block 1 (.seq (.seq (.reg false [⟨some 15,.fa 1 (.t 5),none,[]⟩,⟨some 16,.load false 1 (.t 15),none,[0]⟩,⟨some 17,.fa 1 (.t 3),none,[]⟩,⟨some 18,.load false 1 (.t 17),none,[2]⟩,⟨some
 19,.bin .eql (.t 16) (.t 18),none,[1,3]⟩]) (.cond (.t 19) (.seq (.reg false [⟨some 20,.fa 0 (.t 3),none,[]⟩,⟨some 21,.load false 1 (.t 20),none,[0]⟩,⟨some 22,.fa 0 (.t 5),none,[0,1]⟩,⟨none,.store 1 (.t 22) (.t
 21),none,[2,1,0,1]⟩,⟨some 23,.fa 2 (.t 5),none,[0,1,2,3]⟩,⟨none,.store 1 (.t 23) (.d (.bool true)),none,[4,3,0,1,2,3]⟩]) (.exit 0)) .skip)) (.seq (.reg false [⟨some 25,.mv (.t 1),none,[]⟩,⟨some 26,.load true 3 (.t
 5),none,[]⟩,⟨some 27,.call 139 [(.t 25),(.t 26),(.d (.int .i64 1))],none,[0,1]⟩,⟨some 24,.mv (.t 27),none,[2]⟩,⟨some 28,.ext (.t 24) 0,none,[3]⟩,⟨some 29,.ext (.t 24) 1,none,[3]⟩,⟨some 8,.new 139 [(.int .i64 0),(.int
 .i64 0),(.bool false)],none,[]⟩,⟨none,.store 3 (.t 8) (.t 28),none,[6,4,2,0,1,2,3,4,6]⟩,⟨some 9,.mv (.t 29),none,[5,7,0,1,2,3,4,5,6,7]⟩]) (.seq (.seq (.reg false [⟨some 30,.mv (.t 9),none,[]⟩,⟨some 31,.bin .neq (.t 30)
 (.d (.int .i64 0)),none,[0]⟩]) (.cond (.t 31) (.seq (.reg false [⟨some 32,.load true 3 (.t 5),none,[]⟩,⟨some 33,.mv (.t 9),none,[]⟩,⟨none,.store 3 (.t 6) (.t 32),none,[0,0]⟩,⟨some 7,.mv (.t 33),none,[1,2,0,1,2]⟩]) .ret)
 .skip)) (.reg false [⟨some 34,.load true 3 (.t 8),none,[]⟩,⟨none,.store 3 (.t 5) (.t 34),none,[0,0]⟩])))))))) (.seq (.reg false [⟨some 35,.load true 3 (.t 5),none,[]⟩,⟨none,.store 3 (.t 6) (.t 35),none,[0,0]⟩,⟨some
 7,.mv (.d (.int .i64 0)),none,[1,0,1]⟩]) .ret)))
theorem o_np : fnOf Tryz.prog o_eq = some (o_er, [.cell 6 true 3, .t 7], 36, false) := by kernel_rfl

/-- (tallymark/chain.Param).Merge$1 -/
abbrev o_3i : FuncId := 141
def o_es : C := (.seq (.reg false [⟨some 5,.mv (.d (.bool false)),none,[]⟩,⟨some 6,.mv (.d (.int .i64 0)),none,[0]⟩]) (.seq (.reg false [⟨some 7,.load false 1 (.t 1),none,[]⟩,⟨some 8,.load false 1 (.t 2),none,[]⟩,⟨some 9,.mv (.t
 0),none,[]⟩,⟨some 10,.load false 1 (.t 3),none,[]⟩,⟨some 11,.inv (.t 7) "tallymark/chain.again" [(.t 8),(.t 9),(.t 10)],none,[0,1,2,3]⟩,⟨some 12,.ext (.t 11) 0,none,[4]⟩,⟨some 13,.ext (.t 11) 1,none,[4]⟩,⟨some 5,.mv (.t
 12),none,[5,4,0,1,2,3,4,5,6]⟩,⟨some 6,.mv (.t 13),none,[6,7,0,1,2,3,4,5,6,7]⟩]) .ret))
theorem o_nq : fnOf Tryz.prog o_3i = some (o_es, [.t 5, .t 6], 14, false) := by kernel_rfl

/-- (tallymark/reg.Param).widths -/
abbrev o_et : FuncId := 142
def o_6l : C := (.seq (.reg false [⟨some 1,.box 30 (.t 0),none,[]⟩,⟨some 2,.mv (.d (.int .i64 0)),none,[]⟩,⟨some 3,.mv (.d (.int .i64 0)),none,[1]⟩]) (.seq (.seq (.reg false [⟨some 4,.fa 0 (.t 1),none,[]⟩,⟨some 5,.load false 1 (.t
 4),none,[0]⟩,⟨some 6,.bin .eql (.t 5) (.d (.int .i64 4)),none,[1]⟩]) (.cond (.t 6) (.seq (.reg true [⟨some 7,.fa 1 (.t 1),none,[]⟩,⟨some 8,.load false 1 (.t 7),none,[0]⟩,⟨some 9,.conv .u64 (.t 8),none,[1]⟩,⟨some
 10,.call 165 [(.t 9)],none,[2]⟩,⟨some 11,.fa 2 (.t 1),none,[]⟩,⟨some 12,.load false 1 (.t 11),none,[4]⟩,⟨some 13,.conv .u64 (.t 12),none,[5]⟩,⟨some 14,.call 165 [(.t 13)],none,[6,3]⟩,⟨some 2,.mv (.t
 10),none,[3,7,0,1,2,3]⟩,⟨some 3,.mv (.t 14),none,[7,8,0,1,2,3,4,5,6,7,8]⟩]) .ret) .skip)) (.seq (.reg false [⟨some 15,.fa 2 (.t 1),none,[]⟩,⟨some 16,.load false 1 (.t 15),none,[0]⟩,⟨some 2,.mv (.t
 16),none,[1,0,1]⟩,⟨some 3,.mv (.d (.int .i64 0)),none,[2,0,1,2]⟩]) .ret)))
theorem o_nr : fnOf Tryz.prog o_et = some (o_6l, [.t 2, .t 3], 17, false) := by kernel_rfl

/-- tallymark/hash.Mul -/
abbrev o_eu : FuncId := 143
def o_ev : C := (.seq (.reg false [⟨some 4,.mv (.d (.int .u64 0)),none,[]⟩]) (.seq (.reg false [⟨some 8,.mv (.t 0),none,[]⟩,⟨some 9,.bin .rem (.t 8) (.d (.int .u64 2305843009213693951)),none,[0]⟩,⟨some 10,.mv (.t 1),none,[]⟩,⟨some
 11,.bin .rem (.t 10) (.d (.int .u64 2305843009213693951)),none,[2]⟩,⟨some 12,.call 148 [(.t 9),(.t 11)],none,[1,3]⟩,⟨some 7,.mv (.t 12),none,[4]⟩,⟨some 13,.ext (.t 7) 0,none,[5]⟩,⟨some 14,.ext (.t 7) 1,none,[5]⟩,⟨some
 5,.mv (.t 13),none,[6,4,0,1,2,3,4,5,6]⟩,⟨some 6,.mv (.t 14),none,[7,8,0,1,2,3,4,5,6,7,8]⟩]) (.seq (.reg false [⟨some 15,.mv (.t 6),none,[]⟩,⟨some 16,.bin .and (.t 15) (.d (.int .u64 2305843009213693951)),none,[0]⟩,⟨some
 17,.mv (.t 5),none,[]⟩,⟨some 18,.bin .shl (.t 17) (.d (.int .u64 3)),none,[2]⟩,⟨some 19,.mv (.t 6),none,[]⟩,⟨some 20,.bin .shr (.t 19) (.d (.int .u64 61)),none,[4]⟩,⟨some 21,.bin .or (.t 18) (.t 20),none,[3,5]⟩,⟨some
 22,.bin .add (.t 16) (.t 21),none,[1,6]⟩,⟨some 23,.bin .rem (.t 22) (.d (.int .u64 2305843009213693951)),none,[7]⟩,⟨some 4,.mv (.t 23),none,[8,0,1,2,3,4,5,6,7,8]⟩]) .ret)))
theorem o_ns : fnOf Tryz.prog o_eu = some (o_ev, [.t 4], 24, false) := by kernel_rfl

/-- (tallymark/reg.Param).Write -/
abbrev o_ew : FuncId := 144
def o_ex : C := (.seq (.reg false [⟨some 3,.box 30 (.t 0),none,[]⟩,⟨some 5,.box 64 (.t 2),none,[]⟩,⟨some 6,.mv (.d (.int .i64 0)),none,[]⟩]) (.seq (.seq (.reg false [⟨some 10,.load true 3 (.t 3),none,[]⟩,⟨some 11,.load true 3 (.t
 5),none,[]⟩,⟨some 12,.bsl 64 3 1 [(.int .i64 0),(.int .i64 0),(.bool false)] [(0,3,(.t 11))],none,[1]⟩,⟨some 13,.call 66 [(.t 10),(.t 12)],none,[0,2]⟩,⟨some 7,.mv (.t 13),none,[3,3,0,1,2,3]⟩]) (.seq (.reg false [⟨some
 14,.mv (.t 7),none,[]⟩,⟨some 15,.bin .neq (.t 14) (.d (.int .i64 0)),none,[0]⟩]) (.cond (.t 15) (.seq (.reg false [⟨some 16,.mv (.t 7),none,[]⟩,⟨some 6,.mv (.t 16),none,[0,0]⟩]) .ret) .skip))) (.seq (.reg false [⟨some
 18,.load true 3 (.t 3),none,[]⟩,⟨some 19,.call 142 [(.t 18)],none,[0]⟩,⟨some 17,.mv (.t 19),none,[1]⟩,⟨some 20,.ext (.t 17) 0,none,[2]⟩,⟨some 21,.ext (.t 17) 1,none,[2]⟩,⟨some 8,.mv (.t 20),none,[3,1,0,1,2,3]⟩,⟨some
 9,.mv (.t 21),none,[4,5,0,1,2,3,4,5]⟩]) (.seq (.reg false [⟨some 22,.mv (.t 1),none,[]⟩,⟨some 23,.fa 0 (.t 5),none,[]⟩,⟨some 24,.load false 1 (.t 23),none,[1]⟩,⟨some 25,.conv .u64 (.t 24),none,[2]⟩,⟨some 26,.mv (.t
 8),none,[]⟩,⟨some 27,.call 87 [(.t 22),(.t 25),(.t 26)],none,[0,3,4]⟩]) (.seq (.reg false [⟨some 28,.mv (.t 1),none,[]⟩,⟨some 29,.fa 1 (.t 5),none,[]⟩,⟨some 30,.load false 1 (.t 29),none,[1]⟩,⟨some 31,.conv .u64 (.t
 30),none,[2]⟩,⟨some 32,.mv (.t 9),none,[]⟩,⟨some 33,.call 87 [(.t 28),(.t 31),(.t 32)],none,[0,3,4]⟩]) (.seq (.reg false [⟨some 34,.mv (.t 1),none,[]⟩,⟨some 35,.fa 2 (.t 5),none,[]⟩,⟨some 36,.load false 1 (.t
 35),none,[1]⟩,⟨some 37,.call 136 [(.t 34),(.t 36)],none,[0,2]⟩]) (.seq (.reg false [⟨some 6,.mv (.d (.int .i64 0)),none,[]⟩]) .ret)))))))
theorem o_nt : fnOf Tryz.prog o_ew = some (o_ex, [.t 6], 38, false) := by kernel_rfl

/-- (*tallymark/pack.Vector).Set -/
abbrev o_ey : FuncId := 145
def o_ez : C := (.seq (.reg false [⟨some 6,.mv (.d (.int .i64 0)),none,[]⟩]) (.seq (.block 0 (.seq (.reg false [⟨some 11,.mv (.t 1),none,[]⟩,⟨some 12,.bin .lss (.t 11) (.d (.int .i64 0)),none,[0]⟩,⟨some 13,.mv (.t 12),none,[1]⟩,⟨some
 14,.mv (.t 1),some (13,false),[2]⟩,⟨some 15,.mv (.t 0),some (13,false),[2]⟩,⟨some 16,.chk (.t 15),some (13,false),[4,2]⟩,⟨some 17,.fa 1 (.t 16),some (13,false),[5,2]⟩,⟨some 18,.load false 1 (.t 17),some
 (13,false),[6,2]⟩,⟨some 19,.bin .geq (.t 14) (.t 18),some (13,false),[3,7,2]⟩,⟨some 20,.pick (.t 13) (.d (.bool true)) (.t 19),none,[2,8]⟩,⟨some 10,.mv (.t 20),none,[9,2]⟩]) (.cond (.t 10) (.seq (.reg false [⟨some 6,.mv
 (.d (.int .i64 1)),none,[]⟩]) .ret) (.seq (.reg false [⟨some 22,.mv (.t 2),none,[]⟩,⟨some 23,.mv (.t 0),none,[]⟩,⟨some 24,.call 147 [(.t 23)],none,[1]⟩,⟨some 25,.bin .gtr (.t 22) (.t 24),none,[0,2]⟩,⟨some 21,.mv (.t
 25),none,[3,2]⟩]) (.cond (.t 21) (.seq (.reg false [⟨some 6,.mv (.d (.int .i64 2)),none,[]⟩]) .ret) .skip))))) (.seq (.reg false [⟨some 27,.mv (.t 0),none,[]⟩,⟨some 28,.mv (.t 1),none,[]⟩,⟨some 29,.call 146 [(.t 27),(.t
 28)],none,[0,1]⟩,⟨some 26,.mv (.t 29),none,[2]⟩,⟨some 30,.ext (.t 26) 0,none,[3]⟩,⟨some 31,.ext (.t 26) 1,none,[3]⟩,⟨some 7,.mv (.t 30),none,[4,2,0,1,2,3,4]⟩,⟨some 8,.mv (.t 31),none,[5,6,0,1,2,3,4,5,6]⟩]) (.seq (.reg
 true [⟨some 32,.mv (.t 0),none,[]⟩,⟨some 33,.chk (.t 32),none,[0]⟩,⟨some 34,.fa 0 (.t 33),none,[1]⟩,⟨some 35,.load false 1 (.t 34),none,[2]⟩,⟨some 36,.mv (.t 7),none,[]⟩,⟨some 37,.mv (.t 0),none,[]⟩,⟨some 38,.chk (.t
 37),none,[5]⟩,⟨some 39,.fa 0 (.t 38),none,[6]⟩,⟨some 40,.load false 1 (.t 39),none,[7]⟩,⟨some 41,.mv (.t 7),none,[]⟩,⟨some 42,.ix 1 (.t 40) (.t 41),none,[8,9]⟩,⟨some 43,.load false 1 (.t 42),none,[10]⟩,⟨some 44,.mv (.t
 0),none,[]⟩,⟨some 45,.call 147 [(.t 44)],none,[12]⟩,⟨some 46,.mv (.t 8),none,[]⟩,⟨some 47,.bin .shl (.t 45) (.t 46),none,[13,14]⟩,⟨some 48,.bin .andNot (.t 43) (.t 47),none,[11,15]⟩,⟨some 49,.mv (.t 2),none,[]⟩,⟨some
 50,.mv (.t 8),none,[]⟩,⟨some 51,.bin .shl (.t 49) (.t 50),none,[17,18]⟩,⟨some 52,.bin .or (.t 48) (.t 51),none,[16,19]⟩,⟨some 53,.ix 1 (.t 35) (.t
 36),none,[3,4,0,1,2,3,4,5,6,7,8,9,10,11,12,13,14,15,16,17,18,19,20]⟩,⟨none,.store 1 (.t 53) (.t 52),none,[21,20,13,0,1,2,3,4,5,6,7,8,9,10,11,12,13,14,15,16,17,18,19,20]⟩]) (.seq (.seq (.reg false [⟨some 54,.mv (.t
 8),none,[]⟩,⟨some 55,.mv (.t 0),none,[]⟩,⟨some 56,.chk (.t 55),none,[1]⟩,⟨some 57,.fa 2 (.t 56),none,[2]⟩,⟨some 58,.load false 1 (.t 57),none,[3]⟩,⟨some 59,.bin .add (.t 54) (.t 58),none,[0,4]⟩,⟨some 60,.bin .gtr (.t
 59) (.d (.int .i64 64)),none,[5]⟩]) (.cond (.t 60) (.seq (.reg false [⟨some 61,.mv (.t 8),none,[]⟩,⟨some 62,.bin .sub (.d (.int .i64 64)) (.t 61),none,[0]⟩,⟨some 9,.mv (.t 62),none,[1,0,1]⟩]) (.reg true [⟨some 63,.mv
 (.t 0),none,[]⟩,⟨some 64,.chk (.t 63),none,[0]⟩,⟨some 65,.fa 0 (.t 64),none,[1]⟩,⟨some 66,.load false 1 (.t 65),none,[2]⟩,⟨some 67,.mv (.t 7),none,[]⟩,⟨some 68,.bin .add (.t 67) (.d (.int .i64 1)),none,[4]⟩,⟨some 69,.mv
 (.t 0),none,[]⟩,⟨some 70,.chk (.t 69),none,[6]⟩,⟨some 71,.fa 0 (.t 70),none,[7]⟩,⟨some 72,.load false 1 (.t 71),none,[8]⟩,⟨some 73,.mv (.t 7),none,[]⟩,⟨some 74,.bin .add (.t 73) (.d (.int .i64 1)),none,[10]⟩,⟨some
 75,.ix 1 (.t 72) (.t 74),none,[9,11]⟩,⟨some 76,.load false 1 (.t 75),none,[12]⟩,⟨some 77,.mv (.t 0),none,[]⟩,⟨some 78,.call 147 [(.t 77)],none,[14]⟩,⟨some 79,.mv (.t 9),none,[]⟩,⟨some 80,.bin .shr (.t 78) (.t
 79),none,[15,16]⟩,⟨some 81,.bin .andNot (.t 76) (.t 80),none,[13,17]⟩,⟨some 82,.mv (.t 2),none,[]⟩,⟨some 83,.mv (.t 9),none,[]⟩,⟨some 84,.bin .shr (.t 82) (.t 83),none,[19,20]⟩,⟨some 85,.bin .or (.t 81) (.t
 84),none,[18,21]⟩,⟨some 86,.ix 1 (.t 66) (.t 68),none,[3,5,0,1,2,3,4,5,6,7,8,9,10,11,12,13,14,15,16,17,18,19,20,21,22]⟩,⟨none,.store 1 (.t 86) (.t
 85),none,[23,22,15,0,1,2,3,4,5,6,7,8,9,10,11,12,13,14,15,16,17,18,19,20,21,22]⟩])) .skip)) (.seq (.reg false [⟨some 6,.mv (.d (.int .i64 0)),none,[]⟩]) .ret))))))
theorem o_nu : fnOf Tryz.prog o_ey = some (o_ez, [.t 6], 87, false) := by kernel_rfl

/-- (*tallymark/pack.Vector).place -/
abbrev o_f0 : FuncId := 146
def o_f1 : C := (.seq (.reg false [⟨some 4,.mv (.d (.int .i64 0)),none,[]⟩,⟨some 5,.mv (.d (.int .i64 0)),none,[0]⟩]) (.seq (.reg true [⟨some 6,.mv (.t 1),none,[]⟩,⟨some 7,.mv (.t 0),none,[]⟩,⟨some 8,.chk (.t 7),none,[1]⟩,⟨some 9,.fa 2
 (.t 8),none,[2]⟩,⟨some 10,.load false 1 (.t 9),none,[3]⟩,⟨some 11,.bin .mul (.t 6) (.t 10),none,[0,4]⟩,⟨some 12,.bin .quo (.t 11) (.d (.int .i64 64)),none,[5]⟩,⟨some 13,.mv (.t 1),none,[]⟩,⟨some 14,.mv (.t
 0),none,[]⟩,⟨some 15,.chk (.t 14),none,[8]⟩,⟨some 16,.fa 2 (.t 15),none,[9]⟩,⟨some 17,.load false 1 (.t 16),none,[10]⟩,⟨some 18,.bin .mul (.t 13) (.t 17),none,[7,11]⟩,⟨some 19,.bin .rem (.t 18) (.d (.int .i64
 64)),none,[12]⟩,⟨some 4,.mv (.t 12),none,[6,0,1,2,3,4,5,6]⟩,⟨some 5,.mv (.t 19),none,[13,14,0,1,2,3,4,5,6,7,8,9,10,11,12,13,14]⟩]) .ret))
theorem o_nv : fnOf Tryz.prog o_f0 = some (o_f1, [.t 4, .t 5], 20, false) := by kernel_rfl

/-- (*tallymark/pack.Vector).mask -/
abbrev o_6m : FuncId := 147
def o_f2 : C := (.seq (.reg false [⟨some 2,.mv (.d (.int .u64 0)),none,[]⟩]) (.seq (.reg false [⟨some 3,.mv (.t 0),none,[]⟩,⟨some 4,.chk (.t 3),none,[0]⟩,⟨some 5,.fa 2 (.t 4),none,[1]⟩,⟨some 6,.load false 1 (.t 5),none,[2]⟩,⟨some
 7,.bin .shl (.d (.int .u64 1)) (.t 6),none,[3]⟩,⟨some 8,.bin .sub (.t 7) (.d (.int .u64 1)),none,[4]⟩,⟨some 2,.mv (.t 8),none,[5,0,1,2,3,4,5]⟩]) .ret))
theorem o_nw : fnOf Tryz.prog o_6m = some (o_f2, [.t 2], 9, false) := by kernel_rfl

/-- math/bits.Mul64 -/
abbrev o_f3 : FuncId := 148
def o_f4 : C := (.seq (.reg false [⟨some 4,.mv (.d (.int .u64 0)),none,[]⟩,⟨some 5,.mv (.d (.int .u64 0)),none,[0]⟩]) (.seq (.reg false [⟨some 14,.mv (.t 0),none,[]⟩,⟨some 15,.bin .and (.t 14) (.d (.int .u64
 4294967295)),none,[0]⟩,⟨some 6,.mv (.t 15),none,[1,0,1]⟩]) (.seq (.reg false [⟨some 16,.mv (.t 0),none,[]⟩,⟨some 17,.bin .shr (.t 16) (.d (.int .u64 32)),none,[0]⟩,⟨some 7,.mv (.t 17),none,[1,0,1]⟩]) (.seq (.reg false
 [⟨some 18,.mv (.t 1),none,[]⟩,⟨some 19,.bin .and (.t 18) (.d (.int .u64 4294967295)),none,[0]⟩,⟨some 8,.mv (.t 19),none,[1,0,1]⟩]) (.seq (.reg false [⟨some 20,.mv (.t 1),none,[]⟩,⟨some 21,.bin .shr (.t 20) (.d (.int
 .u64 32)),none,[0]⟩,⟨some 9,.mv (.t 21),none,[1,0,1]⟩]) (.seq (.reg false [⟨some 22,.mv (.t 6),none,[]⟩,⟨some 23,.mv (.t 8),none,[]⟩,⟨some 24,.bin .mul (.t 22) (.t 23),none,[0,1]⟩,⟨some 10,.mv (.t 24),none,[2,0,1,2]⟩])
 (.seq (.reg false [⟨some 25,.mv (.t 7),none,[]⟩,⟨some 26,.mv (.t 8),none,[]⟩,⟨some 27,.bin .mul (.t 25) (.t 26),none,[0,1]⟩,⟨some 28,.mv (.t 10),none,[]⟩,⟨some 29,.bin .shr (.t 28) (.d (.int .u64 32)),none,[3]⟩,⟨some
 30,.bin .add (.t 27) (.t 29),none,[2,4]⟩,⟨some 11,.mv (.t 30),none,[5,0,1,2,3,4,5]⟩]) (.seq (.reg false [⟨some 31,.mv (.t 11),none,[]⟩,⟨some 32,.bin .and (.t 31) (.d (.int .u64 4294967295)),none,[0]⟩,⟨some 12,.mv (.t
 32),none,[1,0,1]⟩]) (.seq (.reg false [⟨some 33,.mv (.t 11),none,[]⟩,⟨some 34,.bin .shr (.t 33) (.d (.int .u64 32)),none,[0]⟩,⟨some 13,.mv (.t 34),none,[1,0,1]⟩]) (.seq (.reg false [⟨some 35,.mv (.t 12),none,[]⟩,⟨some
 36,.mv (.t 6),none,[]⟩,⟨some 37,.mv (.t 9),none,[]⟩,⟨some 38,.bin .mul (.t 36) (.t 37),none,[1,2]⟩,⟨some 39,.bin .add (.t 35) (.t 38),none,[0,3]⟩,⟨some 12,.mv (.t 39),none,[4,0,1,2,3,4]⟩]) (.seq (.reg false [⟨some
 40,.mv (.t 7),none,[]⟩,⟨some 41,.mv (.t 9),none,[]⟩,⟨some 42,.bin .mul (.t 40) (.t 41),none,[0,1]⟩,⟨some 43,.mv (.t 13),none,[]⟩,⟨some 44,.bin .add (.t 42) (.t 43),none,[2,3]⟩,⟨some 45,.mv (.t 12),none,[]⟩,⟨some 46,.bin
 .shr (.t 45) (.d (.int .u64 32)),none,[5]⟩,⟨some 47,.bin .add (.t 44) (.t 46),none,[4,6]⟩,⟨some 4,.mv (.t 47),none,[7,0,1,2,3,4,5,6,7]⟩]) (.seq (.reg false [⟨some 48,.mv (.t 0),none,[]⟩,⟨some 49,.mv (.t
 1),none,[]⟩,⟨some 50,.bin .mul (.t 48) (.t 49),none,[0,1]⟩,⟨some 5,.mv (.t 50),none,[2,0,1,2]⟩]) .ret))))))))))))
theorem o_nx : fnOf Tryz.prog o_f3 = some (o_f4, [.t 4, .t 5], 51, false) := by kernel_rfl

/-- slices.Clone[[]uint64,uint64] -/
abbrev o_2h : FuncId := 150
def o_2i : C := (.seq (.reg false [⟨some 2,.mv (.d .nilsl),none,[]⟩]) (.seq (.seq (.reg false [⟨some 3,.mv (.t 0),none,[]⟩,⟨some 4,.snl false (.t 3),none,[0]⟩]) (.cond (.t 4) (.seq (.reg false [⟨some 2,.mv (.d .nilsl),none,[]⟩]) .ret)
 .skip)) (.seq (.reg false [⟨some 5,.bsl0,none,[]⟩,⟨some 6,.mv (.t 0),none,[]⟩,⟨some 7,.app 28 1 8 (.t 5) (.t 6),none,[0,1]⟩,⟨some 2,.mv (.t 7),none,[2,2,0,1,2]⟩]) .ret)))
theorem o_3j : fnOf Tryz.prog o_2h = some (o_2i, [.t 2], 8, false) := by kernel_rfl


end
end Go.Proofs.YtijbgbpjionfjaaGreatDoor.Am
