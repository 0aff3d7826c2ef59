/- Parts of the proof: CodeD1, WordsM, Nat1, Nat2, Nat3, Nat4, Nat5, Nat6, Rat1, Text1, Tape1, Float1, Flip1, Flip2, Morris1, Chain1, YuM, DivM, Nat7, Yu1, YuX, YuW, YuAt. -/
import Derived.Test.YtijbgbpjionfjaaGreatDoorPc
set_option linter.unusedVariables false
set_option linter.unusedSimpArgs false
set_option maxRecDepth 100000
namespace Go.Proofs.YtijbgbpjionfjaaGreatDoor.Am
section
open Go.Proofs.YtijbgbpjionfjaaGreatDoor.Am
/-- math/bits.Div64 -/
abbrev o_f5 : FuncId := 151
def o_f6 : C := (.seq (.reg false [⟨some 6,.mv (.d (.int .u64 0)),none,[]⟩,⟨some 7,.mv (.d (.int .u64 0)),none,[0]⟩]) (.seq (.seq (.reg false [⟨some 19,.mv (.t 2),none,[]⟩,⟨some 20,.bin .eql (.t 19) (.d (.int .u64 0)),none,[0]⟩])
 (.cond (.t 20) (.reg false [⟨some 21,.load false 1 .bad,none,[]⟩,⟨none,.bad,none,[0]⟩]) .skip)) (.seq (.seq (.reg false [⟨some 22,.mv (.t 2),none,[]⟩,⟨some 23,.mv (.t 0),none,[]⟩,⟨some 24,.bin .leq (.t 22) (.t
 23),none,[0,1]⟩]) (.cond (.t 24) (.reg false [⟨some 25,.load false 1 .bad,none,[]⟩,⟨none,.bad,none,[0]⟩]) .skip)) (.seq (.seq (.reg false [⟨some 26,.mv (.t 0),none,[]⟩,⟨some 27,.bin .eql (.t 26) (.d (.int .u64
 0)),none,[0]⟩]) (.cond (.t 27) (.seq (.reg true [⟨some 28,.mv (.t 1),none,[]⟩,⟨some 29,.mv (.t 2),none,[]⟩,⟨some 30,.bin .quo (.t 28) (.t 29),none,[0,1]⟩,⟨some 31,.mv (.t 1),none,[]⟩,⟨some 32,.mv (.t 2),none,[]⟩,⟨some
 33,.bin .rem (.t 31) (.t 32),none,[3,4]⟩,⟨some 6,.mv (.t 30),none,[2,0,1,2]⟩,⟨some 7,.mv (.t 33),none,[5,6,0,1,2,3,4,5,6]⟩]) .ret) .skip)) (.seq (.reg false [⟨some 34,.mv (.t 2),none,[]⟩,⟨some 35,.call 167 [(.t
 34)],none,[0]⟩,⟨some 36,.conv .u64 (.t 35),none,[1]⟩,⟨some 8,.mv (.t 36),none,[2,1,0,1,2]⟩]) (.seq (.reg false [⟨some 37,.mv (.t 2),none,[]⟩,⟨some 38,.mv (.t 8),none,[]⟩,⟨some 39,.bin .shl (.t 37) (.t
 38),none,[0,1]⟩,⟨some 2,.mv (.t 39),none,[2,0,1,2]⟩]) (.seq (.reg false [⟨some 40,.mv (.t 2),none,[]⟩,⟨some 41,.bin .shr (.t 40) (.d (.int .u64 32)),none,[0]⟩,⟨some 9,.mv (.t 41),none,[1,0,1]⟩]) (.seq (.reg false [⟨some
 42,.mv (.t 2),none,[]⟩,⟨some 43,.bin .and (.t 42) (.d (.int .u64 4294967295)),none,[0]⟩,⟨some 10,.mv (.t 43),none,[1,0,1]⟩]) (.seq (.reg false [⟨some 44,.mv (.t 0),none,[]⟩,⟨some 45,.mv (.t 8),none,[]⟩,⟨some 46,.bin
 .shl (.t 44) (.t 45),none,[0,1]⟩,⟨some 47,.mv (.t 1),none,[]⟩,⟨some 48,.mv (.t 8),none,[]⟩,⟨some 49,.bin .sub (.d (.int .u64 64)) (.t 48),none,[4]⟩,⟨some 50,.bin .shr (.t 47) (.t 49),none,[3,5]⟩,⟨some 51,.bin .or (.t
 46) (.t 50),none,[2,6]⟩,⟨some 11,.mv (.t 51),none,[7,0,1,2,3,4,5,6,7]⟩]) (.seq (.reg false [⟨some 52,.mv (.t 1),none,[]⟩,⟨some 53,.mv (.t 8),none,[]⟩,⟨some 54,.bin .shl (.t 52) (.t 53),none,[0,1]⟩,⟨some 12,.mv (.t
 54),none,[2,0,1,2]⟩]) (.seq (.reg false [⟨some 55,.mv (.t 12),none,[]⟩,⟨some 56,.bin .shr (.t 55) (.d (.int .u64 32)),none,[0]⟩,⟨some 13,.mv (.t 56),none,[1,0,1]⟩]) (.seq (.reg false [⟨some 57,.mv (.t 12),none,[]⟩,⟨some
 58,.bin .and (.t 57) (.d (.int .u64 4294967295)),none,[0]⟩,⟨some 14,.mv (.t 58),none,[1,0,1]⟩]) (.seq (.reg false [⟨some 59,.mv (.t 11),none,[]⟩,⟨some 60,.mv (.t 9),none,[]⟩,⟨some 61,.bin .quo (.t 59) (.t
 60),none,[0,1]⟩,⟨some 15,.mv (.t 61),none,[2,0,1,2]⟩]) (.seq (.reg false [⟨some 62,.mv (.t 11),none,[]⟩,⟨some 63,.mv (.t 15),none,[]⟩,⟨some 64,.mv (.t 9),none,[]⟩,⟨some 65,.bin .mul (.t 63) (.t 64),none,[1,2]⟩,⟨some
 66,.bin .sub (.t 62) (.t 65),none,[0,3]⟩,⟨some 16,.mv (.t 66),none,[4,0,1,2,3,4]⟩]) (.seq (.block 0 (.loop (.seq (.seq (.reg false [⟨some 67,.mv (.t 15),none,[]⟩,⟨some 68,.bin .geq (.t 67) (.d (.int .u64
 4294967296)),none,[0]⟩,⟨some 69,.mv (.t 68),none,[1]⟩,⟨some 70,.mv (.t 15),some (69,false),[2]⟩,⟨some 71,.mv (.t 10),some (69,false),[2]⟩,⟨some 72,.bin .mul (.t 70) (.t 71),some (69,false),[3,4,2]⟩,⟨some 73,.mv (.t
 16),some (69,false),[2]⟩,⟨some 74,.bin .mul (.d (.int .u64 4294967296)) (.t 73),some (69,false),[6,2]⟩,⟨some 75,.mv (.t 13),some (69,false),[2]⟩,⟨some 76,.bin .add (.t 74) (.t 75),some (69,false),[7,8,2]⟩,⟨some 77,.bin
 .gtr (.t 72) (.t 76),some (69,false),[5,9,2]⟩,⟨some 78,.pick (.t 69) (.d (.bool true)) (.t 77),none,[2,10]⟩]) (.cond (.t 78) .skip (.exit 0))) (.block 1 (.seq (.reg false [⟨some 79,.mv (.t 15),none,[]⟩,⟨some 80,.bin
 .sub (.t 79) (.d (.int .u64 1)),none,[0]⟩,⟨some 15,.mv (.t 80),none,[1,0,1]⟩]) (.seq (.reg false [⟨some 81,.mv (.t 16),none,[]⟩,⟨some 82,.mv (.t 9),none,[]⟩,⟨some 83,.bin .add (.t 81) (.t 82),none,[0,1]⟩,⟨some 16,.mv
 (.t 83),none,[2,0,1,2]⟩]) (.seq (.reg false [⟨some 84,.mv (.t 16),none,[]⟩,⟨some 85,.bin .geq (.t 84) (.d (.int .u64 4294967296)),none,[0]⟩]) (.cond (.t 85) (.exit 0) .skip)))))))) (.seq (.reg false [⟨some 86,.mv (.t
 11),none,[]⟩,⟨some 87,.bin .mul (.t 86) (.d (.int .u64 4294967296)),none,[0]⟩,⟨some 88,.mv (.t 13),none,[]⟩,⟨some 89,.bin .add (.t 87) (.t 88),none,[1,2]⟩,⟨some 90,.mv (.t 15),none,[]⟩,⟨some 91,.mv (.t 2),none,[]⟩,⟨some
 92,.bin .mul (.t 90) (.t 91),none,[4,5]⟩,⟨some 93,.bin .sub (.t 89) (.t 92),none,[3,6]⟩,⟨some 17,.mv (.t 93),none,[7,0,1,2,3,4,5,6,7]⟩]) (.seq (.reg false [⟨some 94,.mv (.t 17),none,[]⟩,⟨some 95,.mv (.t
 9),none,[]⟩,⟨some 96,.bin .quo (.t 94) (.t 95),none,[0,1]⟩,⟨some 18,.mv (.t 96),none,[2,0,1,2]⟩]) (.seq (.reg false [⟨some 97,.mv (.t 17),none,[]⟩,⟨some 98,.mv (.t 18),none,[]⟩,⟨some 99,.mv (.t 9),none,[]⟩,⟨some
 100,.bin .mul (.t 98) (.t 99),none,[1,2]⟩,⟨some 101,.bin .sub (.t 97) (.t 100),none,[0,3]⟩,⟨some 16,.mv (.t 101),none,[4,0,1,2,3,4]⟩]) (.seq (.block 2 (.loop (.seq (.seq (.reg false [⟨some 102,.mv (.t 18),none,[]⟩,⟨some
 103,.bin .geq (.t 102) (.d (.int .u64 4294967296)),none,[0]⟩,⟨some 104,.mv (.t 103),none,[1]⟩,⟨some 105,.mv (.t 18),some (104,false),[2]⟩,⟨some 106,.mv (.t 10),some (104,false),[2]⟩,⟨some 107,.bin .mul (.t 105) (.t
 106),some (104,false),[3,4,2]⟩,⟨some 108,.mv (.t 16),some (104,false),[2]⟩,⟨some 109,.bin .mul (.d (.int .u64 4294967296)) (.t 108),some (104,false),[6,2]⟩,⟨some 110,.mv (.t 14),some (104,false),[2]⟩,⟨some 111,.bin .add
 (.t 109) (.t 110),some (104,false),[7,8,2]⟩,⟨some 112,.bin .gtr (.t 107) (.t 111),some (104,false),[5,9,2]⟩,⟨some 113,.pick (.t 104) (.d (.bool true)) (.t 112),none,[2,10]⟩]) (.cond (.t 113) .skip (.exit 2))) (.block 3
 (.seq (.reg false [⟨some 114,.mv (.t 18),none,[]⟩,⟨some 115,.bin .sub (.t 114) (.d (.int .u64 1)),none,[0]⟩,⟨some 18,.mv (.t 115),none,[1,0,1]⟩]) (.seq (.reg false [⟨some 116,.mv (.t 16),none,[]⟩,⟨some 117,.mv (.t
 9),none,[]⟩,⟨some 118,.bin .add (.t 116) (.t 117),none,[0,1]⟩,⟨some 16,.mv (.t 118),none,[2,0,1,2]⟩]) (.seq (.reg false [⟨some 119,.mv (.t 16),none,[]⟩,⟨some 120,.bin .geq (.t 119) (.d (.int .u64
 4294967296)),none,[0]⟩]) (.cond (.t 120) (.exit 2) .skip)))))))) (.seq (.reg false [⟨some 121,.mv (.t 15),none,[]⟩,⟨some 122,.bin .mul (.t 121) (.d (.int .u64 4294967296)),none,[0]⟩,⟨some 123,.mv (.t 18),none,[]⟩,⟨some
 124,.bin .add (.t 122) (.t 123),none,[1,2]⟩,⟨some 125,.mv (.t 17),none,[]⟩,⟨some 126,.bin .mul (.t 125) (.d (.int .u64 4294967296)),none,[4]⟩,⟨some 127,.mv (.t 14),none,[]⟩,⟨some 128,.bin .add (.t 126) (.t
 127),none,[5,6]⟩,⟨some 129,.mv (.t 18),none,[]⟩,⟨some 130,.mv (.t 2),none,[]⟩,⟨some 131,.bin .mul (.t 129) (.t 130),none,[8,9]⟩,⟨some 132,.bin .sub (.t 128) (.t 131),none,[7,10]⟩,⟨some 133,.mv (.t 8),none,[]⟩,⟨some
 134,.bin .shr (.t 132) (.t 133),none,[11,12]⟩,⟨some 6,.mv (.t 124),none,[3,0,1,2,3]⟩,⟨some 7,.mv (.t 134),none,[13,14,0,1,2,3,4,5,6,7,8,9,10,11,12,13,14]⟩]) .ret))))))))))))))))))))
theorem o_ny : fnOf Tryz.prog o_f5 = some (o_f6, [.t 6, .t 7], 135, false) := by kernel_rfl

/-- internal/strconv.FormatUint -/
abbrev o_f7 : FuncId := 152
def o_f8 : C := (.seq (.reg false [⟨some 4,.mv (.d (.str ⟨#[]⟩)),none,[]⟩]) (.seq (.seq (.reg false [⟨some 9,.mv (.t 1),none,[]⟩,⟨some 10,.bin .eql (.t 9) (.d (.int .i64 10)),none,[0]⟩]) (.cond (.t 10) (.seq (.seq (.reg false [⟨some
 11,.mv (.t 0),none,[]⟩,⟨some 12,.bin .lss (.t 11) (.d (.int .u64 100)),none,[0]⟩]) (.cond (.t 12) (.seq (.reg false [⟨some 13,.mv (.t 0),none,[]⟩,⟨some 14,.conv .i64 (.t 13),none,[0]⟩,⟨some 15,.call 168 [(.t
 14)],none,[1]⟩,⟨some 4,.mv (.t 15),none,[2,2,0,1,2]⟩]) .ret) .skip)) (.seq (.reg false [⟨some 5,.new 252 [(.int .u8 0),(.int .u8 0),(.int .u8 0),(.int .u8 0),(.int .u8 0),(.int .u8 0),(.int .u8 0),(.int .u8 0),(.int .u8
 0),(.int .u8 0),(.int .u8 0),(.int .u8 0),(.int .u8 0),(.int .u8 0),(.int .u8 0),(.int .u8 0),(.int .u8 0),(.int .u8 0),(.int .u8 0),(.int .u8 0),(.int .u8 0),(.int .u8 0),(.int .u8 0),(.int .u8 0)],none,[]⟩]) (.seq
 (.reg false [⟨some 16,.mv (.t 0),none,[]⟩,⟨some 17,.call 169 [(.t 16)],none,[0]⟩,⟨some 6,.mv (.t 17),none,[1,1,0,1]⟩]) (.seq (.reg false [⟨some 18,.mv (.t 6),none,[]⟩,⟨some 19,.bad,none,[0]⟩,⟨some 20,.mv (.t
 0),none,[]⟩,⟨some 21,.call 170 [(.t 19),(.t 20)],none,[1,2]⟩]) (.seq (.reg false [⟨some 22,.mv (.t 6),none,[]⟩,⟨some 23,.bad,none,[0]⟩,⟨some 24,.bad,none,[1]⟩,⟨some 4,.mv (.t 24),none,[2,0,1,2]⟩]) .ret))))) .skip))
 (.seq (.reg false [⟨some 26,.mv (.t 0),none,[]⟩,⟨some 27,.mv (.t 1),none,[]⟩,⟨some 28,.call 171 [(.d .nilsl),(.t 26),(.t 27),(.d (.bool false)),(.d (.bool false))],none,[0,1]⟩,⟨some 25,.mv (.t 28),none,[2]⟩,⟨some
 29,.ext (.t 25) 0,none,[3]⟩,⟨some 30,.ext (.t 25) 1,none,[3]⟩,⟨some 7,.mv (.t 29),none,[4,2,0,1,2,3,4]⟩,⟨some 8,.mv (.t 30),none,[5,6,0,1,2,3,4,5,6]⟩]) (.seq (.reg false [⟨some 31,.mv (.t 8),none,[]⟩,⟨some 4,.mv (.t
 31),none,[0,0]⟩]) .ret))))
theorem o_nz : fnOf Tryz.prog o_f7 = some (o_f8, [.t 4], 32, false) := by kernel_rfl

/-- (tallymark/thin.Param).Well -/
abbrev o_6n : FuncId := 161
def o_6o : C := (.seq (.reg false [⟨some 2,.box 135 (.t 0),none,[]⟩,⟨some 3,.box 139 (.t 1),none,[]⟩,⟨some 4,.mv (.d (.bool false)),none,[]⟩]) (.seq (.reg false [⟨some 6,.fa 0 (.t 3),none,[]⟩,⟨some 7,.load false 1 (.t
 6),none,[0]⟩,⟨some 8,.bin .geq (.t 7) (.d (.int .i64 0)),none,[1]⟩,⟨some 9,.mv (.t 8),none,[2]⟩,⟨some 10,.fa 0 (.t 3),some (9,true),[3]⟩,⟨some 11,.load false 1 (.t 10),some (9,true),[4,3]⟩,⟨some 12,.fa 0 (.t 2),some
 (9,true),[3]⟩,⟨some 13,.load false 1 (.t 12),some (9,true),[6,3]⟩,⟨some 14,.bin .leq (.t 11) (.t 13),some (9,true),[5,7,3]⟩,⟨some 15,.pick (.t 9) (.t 14) (.d (.bool false)),none,[3,8]⟩,⟨some 16,.mv (.t
 15),none,[9,3]⟩,⟨some 17,.fa 1 (.t 3),some (16,true),[10]⟩,⟨some 18,.load false 1 (.t 17),some (16,true),[11,10]⟩,⟨some 19,.bin .geq (.t 18) (.d (.int .i64 0)),some (16,true),[12,10]⟩,⟨some 20,.pick (.t 16) (.t 19) (.d
 (.bool false)),none,[10,13]⟩,⟨some 21,.mv (.t 20),none,[14,10]⟩,⟨some 22,.fa 1 (.t 3),some (21,true),[15]⟩,⟨some 23,.load false 1 (.t 22),some (21,true),[16,15]⟩,⟨some 24,.fa 1 (.t 2),some (21,true),[15]⟩,⟨some 25,.load
 false 1 (.t 24),some (21,true),[18,15]⟩,⟨some 26,.bin .leq (.t 23) (.t 25),some (21,true),[17,19,15]⟩,⟨some 27,.pick (.t 21) (.t 26) (.d (.bool false)),none,[15,20]⟩,⟨some 5,.mv (.t
 27),none,[21,15,0,1,2,3,4,5,6,7,8,9,10,11,12,13,14,15,16,17,18,19,20,21]⟩]) (.seq (.reg false [⟨some 28,.load true 2 (.t 2),none,[]⟩,⟨some 29,.call 132 [(.t 28)],none,[0]⟩,⟨some 30,.bin .eql (.t 29) (.d (.int .i64
 0)),none,[1]⟩,⟨some 31,.mv (.t 30),none,[2,1]⟩,⟨some 32,.mv (.t 5),some (31,true),[3]⟩,⟨some 33,.pick (.t 31) (.t 32) (.d (.bool false)),none,[3,4]⟩,⟨some 34,.mv (.t 33),none,[5,3]⟩,⟨some 35,.fa 2 (.t 3),some
 (34,true),[6]⟩,⟨some 36,.load false 1 (.t 35),some (34,true),[7,6]⟩,⟨some 37,.un .not (.t 36),some (34,true),[8,6]⟩,⟨some 38,.mv (.t 37),some (34,true),[9,6,6]⟩,⟨some 39,.fa 1 (.t 3),some (38,false),[10]⟩,⟨some 40,.load
 false 1 (.t 39),some (38,false),[11,10]⟩,⟨some 41,.fa 1 (.t 2),some (38,false),[10]⟩,⟨some 42,.load false 1 (.t 41),some (38,false),[13,10]⟩,⟨some 43,.bin .eql (.t 40) (.t 42),some (38,false),[12,14,10]⟩,⟨some 44,.pick
 (.t 38) (.d (.bool true)) (.t 43),some (34,true),[10,15,6]⟩,⟨some 45,.pick (.t 34) (.t 44) (.d (.bool false)),none,[6,16]⟩,⟨some 4,.mv (.t 45),none,[17,10,0,1,2,3,4,5,6,7,8,9,10,11,12,13,14,15,16,17]⟩]) .ret)))
theorem o_f9 : fnOf Tryz.prog o_6n = some (o_6o, [.t 4], 46, false) := by kernel_rfl

/-- tallymark/nat.moved -/
abbrev o_fa : FuncId := 162
def o_fb : C := (.seq (.reg false [⟨some 4,.mv (.d .nilsl),none,[]⟩]) (.seq (.reg false [⟨some 8,.mv (.t 0),none,[]⟩,⟨some 9,.len (.t 8),none,[0]⟩,⟨some 10,.bin .add (.t 9) (.d (.int .i64 1)),none,[1]⟩,⟨some 11,.mksl 28 1 8 [(.int .u64
 0)] (.t 10) (.t 10),none,[2,2]⟩,⟨some 5,.mv (.t 11),none,[3,0,1,2,3]⟩]) (.seq (.seq (.reg false [⟨some 12,.mv (.t 0),none,[]⟩,⟨some 13,.len (.t 12),none,[0]⟩,⟨some 14,.mv (.d (.int .i64 0)),none,[]⟩]) (.block 0 (.loop
 (.seq (.reg false [⟨some 15,.bin .lss (.t 14) (.t 13),none,[]⟩]) (.seq (.cond (.t 15) .skip (.exit 0)) (.seq (.block 1 (.seq (.reg false [⟨some 16,.mv (.t 14),none,[]⟩,⟨some 17,.ix 1 (.t 12) (.t 14),none,[]⟩,⟨some
 18,.load false 1 (.t 17),none,[1]⟩,⟨some 6,.mv (.t 16),none,[0,0,1,2]⟩,⟨some 7,.mv (.t 18),none,[2,3,0,1,2,3]⟩]) (.seq (.reg true [⟨some 19,.mv (.t 5),none,[]⟩,⟨some 20,.mv (.t 6),none,[]⟩,⟨some 21,.ix 1 (.t 19) (.t
 20),none,[0,1]⟩,⟨some 22,.load false 1 (.t 21),none,[2]⟩,⟨some 23,.mv (.t 7),none,[]⟩,⟨some 24,.mv (.t 1),none,[]⟩,⟨some 25,.bin .shl (.t 23) (.t 24),none,[4,5]⟩,⟨some 26,.bin .or (.t 22) (.t 25),none,[3,6]⟩,⟨some
 27,.ix 1 (.t 19) (.t 20),none,[0,1,0,1,2,3,4,5,6,7]⟩,⟨none,.store 1 (.t 27) (.t 26),none,[8,7,0,1,2,3,4,5,6,7]⟩]) (.reg false [⟨some 28,.mv (.t 5),none,[]⟩,⟨some 29,.mv (.t 6),none,[]⟩,⟨some 30,.bin .add (.t 29) (.d
 (.int .i64 1)),none,[1]⟩,⟨some 31,.mv (.t 7),none,[]⟩,⟨some 32,.mv (.t 1),none,[]⟩,⟨some 33,.bin .sub (.d (.int .i64 64)) (.t 32),none,[4]⟩,⟨some 34,.bin .shr (.t 31) (.t 33),none,[3,5]⟩,⟨some 35,.ix 1 (.t 28) (.t
 30),none,[0,2,0,1,2,3,4,5,6]⟩,⟨none,.store 1 (.t 35) (.t 34),none,[7,6,0,1,2,3,4,5,6]⟩])))) (.reg false [⟨some 36,.bin .add (.t 14) (.d (.int .i64 1)),none,[]⟩,⟨some 14,.mv (.t 36),none,[0]⟩]))))))) (.seq (.reg false
 [⟨some 37,.mv (.t 5),none,[]⟩,⟨some 4,.mv (.t 37),none,[0,0]⟩]) .ret))))
theorem o_o0 : fnOf Tryz.prog o_fa = some (o_fb, [.t 4], 38, false) := by kernel_rfl

/-- slices.Equal[[]uint64,uint64] -/
abbrev o_fc : FuncId := 163
def o_fd : C := (.seq (.reg false [⟨some 4,.mv (.d (.bool false)),none,[]⟩]) (.seq (.seq (.reg false [⟨some 6,.mv (.t 0),none,[]⟩,⟨some 7,.len (.t 6),none,[0]⟩,⟨some 8,.mv (.t 1),none,[]⟩,⟨some 9,.len (.t 8),none,[2]⟩,⟨some 10,.bin
 .neq (.t 7) (.t 9),none,[1,3]⟩]) (.cond (.t 10) (.seq (.reg false [⟨some 4,.mv (.d (.bool false)),none,[]⟩]) .ret) .skip)) (.seq (.seq (.reg false [⟨some 11,.mv (.t 0),none,[]⟩,⟨some 12,.len (.t 11),none,[0]⟩,⟨some
 13,.mv (.d (.int .i64 0)),none,[]⟩]) (.block 0 (.loop (.seq (.reg false [⟨some 14,.bin .lss (.t 13) (.t 12),none,[]⟩]) (.seq (.cond (.t 14) .skip (.exit 0)) (.seq (.block 1 (.seq (.reg false [⟨some 15,.mv (.t
 13),none,[]⟩,⟨some 5,.mv (.t 15),none,[0,0]⟩]) (.seq (.reg true [⟨some 16,.mv (.t 0),none,[]⟩,⟨some 17,.mv (.t 5),none,[]⟩,⟨some 18,.ix 1 (.t 16) (.t 17),none,[0,1]⟩,⟨some 19,.load false 1 (.t 18),none,[2]⟩,⟨some 20,.mv
 (.t 1),none,[]⟩,⟨some 21,.mv (.t 5),none,[]⟩,⟨some 22,.ix 1 (.t 20) (.t 21),none,[4,5]⟩,⟨some 23,.load false 1 (.t 22),none,[6]⟩,⟨some 24,.bin .neq (.t 19) (.t 23),none,[3,7]⟩]) (.cond (.t 24) (.seq (.reg false [⟨some
 4,.mv (.d (.bool false)),none,[]⟩]) .ret) .skip)))) (.reg false [⟨some 25,.bin .add (.t 13) (.d (.int .i64 1)),none,[]⟩,⟨some 13,.mv (.t 25),none,[0]⟩]))))))) (.seq (.reg false [⟨some 4,.mv (.d (.bool true)),none,[]⟩])
 .ret))))
theorem o_o1 : fnOf Tryz.prog o_fc = some (o_fd, [.t 4], 26, false) := by kernel_rfl

/-- tallymark/flip.Half -/
abbrev o_fe : FuncId := 164
def o_ff : C := (.seq (.reg false [⟨some 4,.mv (.d (.bool false)),none,[]⟩,⟨some 5,.mv (.d (.int .i64 0)),none,[0]⟩]) (.seq (.seq (.reg false [⟨some 8,.mv (.t 1),none,[]⟩,⟨some 9,.mm true [(.d (.int .i64 0)),(.t 8)],none,[0]⟩,⟨some
 10,.mv (.d (.int .i64 0)),none,[]⟩]) (.block 0 (.loop (.seq (.reg false [⟨some 11,.bin .lss (.t 10) (.t 9),none,[]⟩]) (.seq (.cond (.t 11) .skip (.exit 0)) (.seq (.block 1 (.seq (.reg false [⟨some 13,.mv (.t
 0),none,[]⟩,⟨some 14,.call 131 [(.t 13)],none,[0]⟩,⟨some 12,.mv (.t 14),none,[1]⟩,⟨some 15,.ext (.t 12) 0,none,[2]⟩,⟨some 16,.ext (.t 12) 1,none,[2]⟩,⟨some 6,.mv (.t 15),none,[3,1,0,1,2,3]⟩,⟨some 7,.mv (.t
 16),none,[4,5,0,1,2,3,4,5]⟩]) (.seq (.reg false [⟨some 17,.mv (.t 6),none,[]⟩,⟨some 18,.un .not (.t 17),none,[0]⟩]) (.cond (.t 18) (.seq (.reg false [⟨some 19,.mv (.t 7),none,[]⟩,⟨some 4,.mv (.d (.bool
 false)),none,[]⟩,⟨some 5,.mv (.t 19),none,[0,1,0,1]⟩]) .ret) .skip)))) (.reg false [⟨some 20,.bin .add (.t 10) (.d (.int .i64 1)),none,[]⟩,⟨some 10,.mv (.t 20),none,[0]⟩]))))))) (.seq (.reg false [⟨some 4,.mv (.d (.bool
 true)),none,[]⟩,⟨some 5,.mv (.d (.int .i64 0)),none,[0,0]⟩]) .ret)))
theorem o_o2 : fnOf Tryz.prog o_fe = some (o_ff, [.t 4, .t 5], 21, false) := by kernel_rfl

/-- math/bits.Len -/
abbrev o_6p : FuncId := 165
def o_6q : C := (.seq (.reg false [⟨some 2,.mv (.d (.int .i64 0)),none,[]⟩]) (.seq (.cond (.d (.bool false)) (.seq (.reg false [⟨some 3,.mv (.t 0),none,[]⟩,⟨some 4,.conv .u32 (.t 3),none,[0]⟩,⟨some 5,.call 176 [(.t 4)],none,[1]⟩,⟨some
 2,.mv (.t 5),none,[2,2,0,1,2]⟩]) .ret) .skip) (.seq (.reg false [⟨some 6,.mv (.t 0),none,[]⟩,⟨some 7,.call 130 [(.t 6)],none,[0]⟩,⟨some 2,.mv (.t 7),none,[1,1,0,1]⟩]) .ret)))
theorem o_fg : fnOf Tryz.prog o_6p = some (o_6q, [.t 2], 8, false) := by kernel_rfl

/-- tallymark/draw.Binomial -/
abbrev o_fh : FuncId := 166
def o_fi : C := (.seq (.reg false [⟨some 4,.mv (.d (.int .i64 0)),none,[]⟩,⟨some 5,.mv (.d (.int .i64 0)),none,[0]⟩]) (.seq (.reg false [⟨some 6,.mv (.d (.int .i64 0)),none,[]⟩]) (.seq (.seq (.reg false [⟨some 9,.mv (.t
 1),none,[]⟩,⟨some 10,.mm true [(.d (.int .i64 0)),(.t 9)],none,[0]⟩,⟨some 11,.mv (.d (.int .i64 0)),none,[]⟩]) (.block 0 (.loop (.seq (.reg false [⟨some 12,.bin .lss (.t 11) (.t 10),none,[]⟩]) (.seq (.cond (.t 12) .skip
 (.exit 0)) (.seq (.block 1 (.seq (.reg false [⟨some 14,.mv (.t 0),none,[]⟩,⟨some 15,.call 131 [(.t 14)],none,[0]⟩,⟨some 13,.mv (.t 15),none,[1]⟩,⟨some 16,.ext (.t 13) 0,none,[2]⟩,⟨some 17,.ext (.t 13) 1,none,[2]⟩,⟨some
 7,.mv (.t 16),none,[3,1,0,1,2,3]⟩,⟨some 8,.mv (.t 17),none,[4,5,0,1,2,3,4,5]⟩]) (.seq (.seq (.reg false [⟨some 18,.mv (.t 8),none,[]⟩,⟨some 19,.bin .neq (.t 18) (.d (.int .i64 0)),none,[0]⟩]) (.cond (.t 19) (.seq (.reg
 false [⟨some 20,.mv (.t 8),none,[]⟩,⟨some 4,.mv (.d (.int .i64 0)),none,[]⟩,⟨some 5,.mv (.t 20),none,[0,1,0,1]⟩]) .ret) .skip)) (.seq (.reg false [⟨some 21,.mv (.t 7),none,[]⟩]) (.cond (.t 21) (.reg false [⟨some 22,.mv
 (.t 6),none,[]⟩,⟨some 23,.bin .add (.t 22) (.d (.int .i64 1)),none,[0]⟩,⟨some 6,.mv (.t 23),none,[1,0,1]⟩]) .skip))))) (.reg false [⟨some 24,.bin .add (.t 11) (.d (.int .i64 1)),none,[]⟩,⟨some 11,.mv (.t
 24),none,[0]⟩]))))))) (.seq (.reg false [⟨some 25,.mv (.t 6),none,[]⟩,⟨some 4,.mv (.t 25),none,[0,0]⟩,⟨some 5,.mv (.d (.int .i64 0)),none,[1,0,1]⟩]) .ret))))
theorem o_o3 : fnOf Tryz.prog o_fh = some (o_fi, [.t 4, .t 5], 26, false) := by kernel_rfl

/-- internal/strconv.small -/
abbrev o_fj : FuncId := 168
def o_fk : C := (.seq (.reg false [⟨some 2,.mv (.d (.str ⟨#[]⟩)),none,[]⟩]) (.seq (.seq (.reg false [⟨some 3,.mv (.t 0),none,[]⟩,⟨some 4,.bin .lss (.t 3) (.d (.int .i64 10)),none,[0]⟩]) (.cond (.t 4) (.seq (.reg false [⟨some 5,.mv (.t
 0),none,[]⟩,⟨some 6,.mv (.t 0),none,[]⟩,⟨some 7,.bin .add (.t 6) (.d (.int .i64 1)),none,[1]⟩,⟨some 8,.sstr (.d (.str
 ⟨#[48,49,50,51,52,53,54,55,56,57,97,98,99,100,101,102,103,104,105,106,107,108,109,110,111,112,113,114,115,116,117,118,119,120,121,122]⟩)) (some (.t 5)) (some (.t 7)),none,[0,2]⟩,⟨some 2,.mv (.t 8),none,[3,0,1,2,3]⟩])
 .ret) .skip)) (.seq (.reg false [⟨some 9,.mv (.t 0),none,[]⟩,⟨some 10,.bin .mul (.t 9) (.d (.int .i64 2)),none,[0]⟩,⟨some 11,.mv (.t 0),none,[]⟩,⟨some 12,.bin .mul (.t 11) (.d (.int .i64 2)),none,[2]⟩,⟨some 13,.bin .add
 (.t 12) (.d (.int .i64 2)),none,[3]⟩,⟨some 14,.sstr (.d (.str
 ⟨#[48,48,48,49,48,50,48,51,48,52,48,53,48,54,48,55,48,56,48,57,49,48,49,49,49,50,49,51,49,52,49,53,49,54,49,55,49,56,49,57,50,48,50,49,50,50,50,51,50,52,50,53,50,54,50,55,50,56,50,57,51,48,51,49,51,50,51,51,51,52,51,53,51,54,51,55,51,56,51,57,52,48,52,49,52,50,52,51,52,52,52,53,52,54,52,55,52,56,52,57,53,48,53,49,53,50,53,51,53,52,53,53,53,54,53,55,53,56,53,57,54,48,54,49,54,50,54,51,54,52,54,53,54,54,54,55,54,56,54,57,55,48,55,49,55,50,55,51,55,52,55,53,55,54,55,55,55,56,55,57,56,48,56,49,56,50,56,51,56,52,56,53,56,54,56,55,56,56,56,57,57,48,57,49,57,50,57,51,57,52,57,53,57,54,57,55,57,56,57,57]⟩)) (some (.t 10)) (some (.t 13)),none,[1,4]⟩,⟨some 2,.mv (.t 14),none,[5,0,1,2,3,4,5]⟩]) .ret)))
theorem o_o4 : fnOf Tryz.prog o_fj = some (o_fk, [.t 2], 15, false) := by kernel_rfl

/-- (tallymark/nat.Nat).Bits -/
abbrev o_fl : FuncId := 201
def o_fm : C := (.seq (.reg false [⟨some 1,.box 47 (.t 0),none,[]⟩,⟨some 2,.mv (.d (.int .i64 0)),none,[]⟩]) (.seq (.reg false [⟨some 4,.fa 0 (.t 1),none,[]⟩,⟨some 5,.load false 1 (.t 4),none,[0]⟩,⟨some 6,.len (.t 5),none,[1]⟩,⟨some
 3,.mv (.t 6),none,[2,0,1,2]⟩]) (.seq (.seq (.reg false [⟨some 7,.mv (.t 3),none,[]⟩,⟨some 8,.bin .eql (.t 7) (.d (.int .i64 0)),none,[0]⟩]) (.cond (.t 8) (.seq (.reg false [⟨some 2,.mv (.d (.int .i64 0)),none,[]⟩])
 .ret) .skip)) (.seq (.reg false [⟨some 9,.mv (.t 3),none,[]⟩,⟨some 10,.bin .sub (.t 9) (.d (.int .i64 1)),none,[0]⟩,⟨some 11,.bin .mul (.d (.int .i64 64)) (.t 10),none,[1]⟩,⟨some 12,.fa 0 (.t 1),none,[]⟩,⟨some 13,.load
 false 1 (.t 12),none,[3]⟩,⟨some 14,.mv (.t 3),none,[]⟩,⟨some 15,.bin .sub (.t 14) (.d (.int .i64 1)),none,[5]⟩,⟨some 16,.ix 1 (.t 13) (.t 15),none,[4,6]⟩,⟨some 17,.load false 1 (.t 16),none,[7]⟩,⟨some 18,.call 130 [(.t
 17)],none,[8]⟩,⟨some 19,.bin .add (.t 11) (.t 18),none,[2,9]⟩,⟨some 2,.mv (.t 19),none,[10,9,0,1,2,3,4,5,6,7,8,9,10]⟩]) .ret))))
theorem o_o5 : fnOf Tryz.prog o_fl = some (o_fm, [.t 2], 20, false) := by kernel_rfl

/-- (tallymark/chain.aMorris).again -/
abbrev o_6r : FuncId := 204
def o_fn : C := (.seq (.reg false [⟨some 8,.mv (.d (.bool false)),none,[]⟩,⟨some 9,.mv (.d (.int .i64 0)),none,[0]⟩]) (.seq (.reg false [⟨some 10,.mv (.t 1),none,[]⟩,⟨some 11,.mv (.t 0),none,[]⟩,⟨some 12,.mv (.t 2),none,[]⟩,⟨some
 13,.mv (.t 3),none,[]⟩,⟨some 14,.call 210 [(.t 10),(.t 11),(.t 12),(.t 13)],none,[0,1,2,3]⟩,⟨some 15,.ext (.t 14) 0,none,[4]⟩,⟨some 16,.ext (.t 14) 1,none,[4]⟩,⟨some 8,.mv (.t 15),none,[5,4,0,1,2,3,4,5,6]⟩,⟨some 9,.mv
 (.t 16),none,[6,7,0,1,2,3,4,5,6,7]⟩]) .ret))
theorem o_o6 : fnOf Tryz.prog o_6r = some (o_fn, [.t 8, .t 9], 17, false) := by kernel_rfl

/-- (tallymark/chain.aMorris).good -/
abbrev o_6s : FuncId := 206
def o_fo : C := (.seq (.reg false [⟨some 2,.mv (.d (.bool false)),none,[]⟩]) (.seq (.reg false [⟨some 3,.mv (.t 0),none,[]⟩,⟨some 4,.call 211 [(.t 3)],none,[0]⟩,⟨some 2,.mv (.t 4),none,[1,1,0,1]⟩]) .ret))
theorem o_o7 : fnOf Tryz.prog o_6s = some (o_fo, [.t 2], 5, false) := by kernel_rfl

/-- (tallymark/chain.aMorris).step -/
abbrev o_6t : FuncId := 208
def o_fp : C := (.seq (.reg false [⟨some 6,.mv (.d (.bool false)),none,[]⟩,⟨some 7,.mv (.d (.int .i64 0)),none,[0]⟩]) (.seq (.reg false [⟨some 8,.mv (.t 1),none,[]⟩,⟨some 9,.mv (.t 0),none,[]⟩,⟨some 10,.mv (.t 2),none,[]⟩,⟨some
 11,.call 212 [(.t 8),(.t 9),(.t 10)],none,[0,1,2]⟩,⟨some 12,.ext (.t 11) 0,none,[3]⟩,⟨some 13,.ext (.t 11) 1,none,[3]⟩,⟨some 6,.mv (.t 12),none,[4,3,0,1,2,3,4,5]⟩,⟨some 7,.mv (.t 13),none,[5,6,0,1,2,3,4,5,6]⟩]) .ret))
theorem o_o8 : fnOf Tryz.prog o_6t = some (o_fp, [.t 6, .t 7], 14, false) := by kernel_rfl

/-- tallymark/morris.Again -/
abbrev o_6u : FuncId := 210
def o_fq : C := (.seq (.reg false [⟨some 8,.mv (.d (.bool false)),none,[]⟩,⟨some 9,.mv (.d (.int .i64 0)),none,[0]⟩]) (.seq (.seq (.reg false [⟨some 11,.mv (.t 1),none,[]⟩,⟨some 12,.mv (.t 2),none,[]⟩,⟨some 13,.mv (.t 3),none,[]⟩,⟨some
 14,.bsl 3 1 2 [(.int .i64 0),(.int .i64 0)] [(0,1,(.t 12)),(1,1,(.t 13))],none,[1,2]⟩,⟨some 15,.call 214 [(.t 11),(.t 14)],none,[0,3]⟩,⟨some 10,.mv (.t 15),none,[4,4,0,1,2,3,4]⟩]) (.seq (.reg false [⟨some 16,.mv (.t
 10),none,[]⟩,⟨some 17,.bin .neq (.t 16) (.d (.int .i64 0)),none,[0]⟩]) (.cond (.t 17) (.seq (.reg false [⟨some 18,.mv (.t 10),none,[]⟩,⟨some 8,.mv (.d (.bool false)),none,[]⟩,⟨some 9,.mv (.t 18),none,[0,1,0,1]⟩]) .ret)
 .skip))) (.seq (.reg false [⟨some 19,.mv (.t 0),none,[]⟩,⟨some 20,.mv (.t 1),none,[]⟩,⟨some 21,.mv (.t 2),none,[]⟩,⟨some 22,.mv (.t 3),none,[]⟩,⟨some 23,.bin .sub (.t 21) (.t 22),none,[2,3]⟩,⟨some 24,.call 215 [(.t
 19),(.t 20),(.t 23)],none,[0,1,4]⟩,⟨some 25,.ext (.t 24) 0,none,[5]⟩,⟨some 26,.ext (.t 24) 1,none,[5]⟩,⟨some 8,.mv (.t 25),none,[6,5,0,1,2,3,4,5,6,7]⟩,⟨some 9,.mv (.t 26),none,[7,8,0,1,2,3,4,5,6,7,8]⟩]) .ret)))
theorem o_o9 : fnOf Tryz.prog o_6u = some (o_fq, [.t 8, .t 9], 27, false) := by kernel_rfl

/-- tallymark/morris.Good -/
abbrev o_fr : FuncId := 211
def o_fs : C := (.seq (.reg false [⟨some 2,.mv (.d (.bool false)),none,[]⟩]) (.seq (.reg false [⟨some 3,.mv (.t 0),none,[]⟩,⟨some 4,.bin .geq (.t 3) (.d (.int .i64 1)),none,[0]⟩,⟨some 5,.mv (.t 4),none,[1]⟩,⟨some 6,.mv (.t 0),some
 (5,true),[2]⟩,⟨some 7,.bin .leq (.t 6) (.d (.int .i64 4096)),some (5,true),[3,2]⟩,⟨some 8,.pick (.t 5) (.t 7) (.d (.bool false)),none,[2,4]⟩,⟨some 2,.mv (.t 8),none,[5,2,0,1,2,3,4,5]⟩]) .ret))
theorem o_oa : fnOf Tryz.prog o_fr = some (o_fs, [.t 2], 9, false) := by kernel_rfl

/-- tallymark/morris.Step -/
abbrev o_ft : FuncId := 212
def o_fu : C := (.seq (.reg false [⟨some 6,.mv (.d (.bool false)),none,[]⟩,⟨some 7,.mv (.d (.int .i64 0)),none,[0]⟩]) (.seq (.seq (.reg false [⟨some 9,.mv (.t 1),none,[]⟩,⟨some 10,.mv (.t 2),none,[]⟩,⟨some 11,.bsl 3 1 1 [(.int .i64 0)]
 [(0,1,(.t 10))],none,[1]⟩,⟨some 12,.call 214 [(.t 9),(.t 11)],none,[0,2]⟩,⟨some 8,.mv (.t 12),none,[3,3,0,1,2,3]⟩]) (.seq (.reg false [⟨some 13,.mv (.t 8),none,[]⟩,⟨some 14,.bin .neq (.t 13) (.d (.int .i64
 0)),none,[0]⟩]) (.cond (.t 14) (.seq (.reg false [⟨some 15,.mv (.t 8),none,[]⟩,⟨some 6,.mv (.d (.bool false)),none,[]⟩,⟨some 7,.mv (.t 15),none,[0,1,0,1]⟩]) .ret) .skip))) (.seq (.reg false [⟨some 16,.mv (.t
 0),none,[]⟩,⟨some 17,.mv (.t 1),none,[]⟩,⟨some 18,.mv (.t 2),none,[]⟩,⟨some 19,.call 215 [(.t 16),(.t 17),(.t 18)],none,[0,1,2]⟩,⟨some 20,.ext (.t 19) 0,none,[3]⟩,⟨some 21,.ext (.t 19) 1,none,[3]⟩,⟨some 6,.mv (.t
 20),none,[4,3,0,1,2,3,4,5]⟩,⟨some 7,.mv (.t 21),none,[5,6,0,1,2,3,4,5,6]⟩]) .ret)))
theorem o_ob : fnOf Tryz.prog o_ft = some (o_fu, [.t 6, .t 7], 22, false) := by kernel_rfl

/-- tallymark/morris.wrong -/
abbrev o_6v : FuncId := 214
def o_fv : C := (.seq (.reg false [⟨some 4,.mv (.d (.int .i64 0)),none,[]⟩]) (.seq (.seq (.reg false [⟨some 7,.mv (.t 0),none,[]⟩,⟨some 8,.call 211 [(.t 7)],none,[0]⟩,⟨some 9,.un .not (.t 8),none,[1]⟩]) (.cond (.t 9) (.seq (.reg false
 [⟨some 4,.mv (.d (.int .i64 10)),none,[]⟩]) .ret) .skip)) (.seq (.seq (.reg false [⟨some 10,.mv (.t 1),none,[]⟩,⟨some 11,.len (.t 10),none,[0]⟩,⟨some 12,.mv (.d (.int .i64 0)),none,[]⟩]) (.block 0 (.loop (.seq (.reg
 false [⟨some 13,.bin .lss (.t 12) (.t 11),none,[]⟩]) (.seq (.cond (.t 13) .skip (.exit 0)) (.seq (.block 1 (.seq (.reg false [⟨some 14,.ix 1 (.t 10) (.t 12),none,[]⟩,⟨some 15,.load false 1 (.t 14),none,[0]⟩,⟨some 6,.mv
 (.t 15),none,[1,0,1]⟩]) (.seq (.reg false [⟨some 16,.mv (.t 6),none,[]⟩,⟨some 17,.bin .lss (.t 16) (.d (.int .i64 0)),none,[0]⟩,⟨some 18,.mv (.t 17),none,[1]⟩,⟨some 19,.mv (.t 6),some (18,false),[2]⟩,⟨some 20,.bin .gtr
 (.t 19) (.d (.int .i64 1023)),some (18,false),[3,2]⟩,⟨some 21,.pick (.t 18) (.d (.bool true)) (.t 20),none,[2,4]⟩]) (.cond (.t 21) (.seq (.reg false [⟨some 4,.mv (.d (.int .i64 2)),none,[]⟩]) .ret) .skip)))) (.reg false
 [⟨some 22,.bin .add (.t 12) (.d (.int .i64 1)),none,[]⟩,⟨some 12,.mv (.t 22),none,[0]⟩]))))))) (.seq (.reg false [⟨some 4,.mv (.d (.int .i64 0)),none,[]⟩]) .ret))))
theorem o_oc : fnOf Tryz.prog o_6v = some (o_fv, [.t 4], 23, false) := by kernel_rfl

/-- tallymark/morris.power -/
abbrev o_fw : FuncId := 215
def o_fx : C := (.seq (.reg false [⟨some 6,.mv (.d (.bool false)),none,[]⟩,⟨some 7,.mv (.d (.int .i64 0)),none,[0]⟩]) (.seq (.reg false [⟨some 8,.mv (.t 0),none,[]⟩,⟨some 9,.mv (.t 1),none,[]⟩,⟨some 10,.conv .u64 (.t 9),none,[1]⟩,⟨some
 11,.bsl 28 1 1 [(.int .u64 0)] [(0,1,(.t 10))],none,[2]⟩,⟨some 12,.call 108 [(.t 11)],none,[3]⟩,⟨some 13,.mv (.t 1),none,[]⟩,⟨some 14,.bin .add (.t 13) (.d (.int .i64 1)),none,[5]⟩,⟨some 15,.conv .u64 (.t
 14),none,[6]⟩,⟨some 16,.bsl 28 1 1 [(.int .u64 0)] [(0,1,(.t 15))],none,[7]⟩,⟨some 17,.call 108 [(.t 16)],none,[8,4]⟩,⟨some 18,.mv (.t 2),none,[]⟩,⟨some 19,.call 220 [(.t 8),(.t 12),(.t 17),(.t
 18)],none,[0,4,9,10,9]⟩,⟨some 20,.ext (.t 19) 0,none,[11]⟩,⟨some 21,.ext (.t 19) 1,none,[11]⟩,⟨some 6,.mv (.t 20),none,[12,11,0,1,2,3,4,5,6,7,8,9,10,11,12,13]⟩,⟨some 7,.mv (.t
 21),none,[13,14,0,1,2,3,4,5,6,7,8,9,10,11,12,13,14]⟩]) .ret))
theorem o_od : fnOf Tryz.prog o_fw = some (o_fx, [.t 6, .t 7], 22, false) := by kernel_rfl

/-- tallymark/flip.Power -/
abbrev o_fy : FuncId := 220
def o_fz : C := (.seq (.reg false [⟨some 5,.box 47 (.t 1),none,[]⟩,⟨some 6,.box 47 (.t 2),none,[]⟩,⟨some 8,.mv (.d (.bool false)),none,[]⟩,⟨some 9,.mv (.d (.int .i64 0)),none,[2]⟩]) (.seq (.seq (.reg false [⟨some 12,.load true 1 (.t
 5),none,[]⟩,⟨some 13,.load true 1 (.t 6),none,[]⟩,⟨some 14,.call 227 [(.t 12),(.t 13)],none,[0,1]⟩,⟨some 15,.un .not (.t 14),none,[2]⟩]) (.cond (.t 15) (.seq (.reg false [⟨some 8,.mv (.d (.bool false)),none,[]⟩,⟨some
 9,.mv (.d (.int .i64 2)),none,[0,0]⟩]) .ret) .skip)) (.seq (.seq (.reg false [⟨some 16,.mv (.t 3),none,[]⟩,⟨some 17,.mm true [(.d (.int .i64 0)),(.t 16)],none,[0]⟩,⟨some 18,.mv (.d (.int .i64 0)),none,[]⟩]) (.block 0
 (.loop (.seq (.reg false [⟨some 19,.bin .lss (.t 18) (.t 17),none,[]⟩]) (.seq (.cond (.t 19) .skip (.exit 0)) (.seq (.block 1 (.seq (.reg false [⟨some 21,.mv (.t 0),none,[]⟩,⟨some 22,.load true 1 (.t 5),none,[]⟩,⟨some
 23,.load true 1 (.t 6),none,[]⟩,⟨some 24,.call 228 [(.t 21),(.t 22),(.t 23)],none,[0,1,2]⟩,⟨some 20,.mv (.t 24),none,[3]⟩,⟨some 25,.ext (.t 20) 0,none,[4]⟩,⟨some 26,.ext (.t 20) 1,none,[4]⟩,⟨some 10,.mv (.t
 25),none,[5,3,0,1,2,3,4,5]⟩,⟨some 11,.mv (.t 26),none,[6,7,0,1,2,3,4,5,6,7]⟩]) (.seq (.reg false [⟨some 27,.mv (.t 10),none,[]⟩,⟨some 28,.un .not (.t 27),none,[0]⟩]) (.cond (.t 28) (.seq (.reg false [⟨some 29,.mv (.t
 11),none,[]⟩,⟨some 8,.mv (.d (.bool false)),none,[]⟩,⟨some 9,.mv (.t 29),none,[0,1,0,1]⟩]) .ret) .skip)))) (.reg false [⟨some 30,.bin .add (.t 18) (.d (.int .i64 1)),none,[]⟩,⟨some 18,.mv (.t 30),none,[0]⟩]))))))) (.seq
 (.reg false [⟨some 8,.mv (.d (.bool true)),none,[]⟩,⟨some 9,.mv (.d (.int .i64 0)),none,[0,0]⟩]) .ret))))
theorem o_oe : fnOf Tryz.prog o_fy = some (o_fz, [.t 8, .t 9], 31, false) := by kernel_rfl

/-- tallymark/flip.good -/
abbrev o_g0 : FuncId := 227
def o_g1 : C := (.seq (.reg false [⟨some 2,.box 47 (.t 0),none,[]⟩,⟨some 3,.box 47 (.t 1),none,[]⟩,⟨some 4,.mv (.d (.bool false)),none,[]⟩]) (.seq (.reg false [⟨some 5,.load true 1 (.t 3),none,[]⟩,⟨some 6,.call 109 [(.t
 5)],none,[0]⟩,⟨some 7,.un .not (.t 6),none,[1]⟩,⟨some 8,.mv (.t 7),none,[2,1]⟩,⟨some 9,.load true 1 (.t 2),some (8,true),[3]⟩,⟨some 10,.load true 1 (.t 3),some (8,true),[3]⟩,⟨some 11,.call 105 [(.t 9),(.t 10)],some
 (8,true),[4,5,3,3]⟩,⟨some 12,.bin .leq (.t 11) (.d (.int .i64 0)),some (8,true),[6,3]⟩,⟨some 13,.pick (.t 8) (.t 12) (.d (.bool false)),none,[3,7]⟩,⟨some 4,.mv (.t 13),none,[8,6,0,1,2,3,4,5,6,7,8]⟩]) .ret))
theorem o_of : fnOf Tryz.prog o_g0 = some (o_g1, [.t 4], 14, false) := by kernel_rfl

/-- tallymark/flip.Ratio -/
abbrev o_g2 : FuncId := 228
def o_g3 : C := (.seq (.reg false [⟨some 4,.box 47 (.t 1),none,[]⟩,⟨some 5,.box 47 (.t 2),none,[]⟩,⟨some 6,.mv (.d (.bool false)),none,[]⟩,⟨some 7,.mv (.d (.int .i64 0)),none,[2]⟩]) (.seq (.block 0 (.seq (.reg false [⟨some 15,.load
 true 1 (.t 4),none,[]⟩,⟨some 16,.load true 1 (.t 5),none,[]⟩,⟨some 17,.call 227 [(.t 15),(.t 16)],none,[0,1]⟩,⟨some 18,.un .not (.t 17),none,[2]⟩,⟨some 14,.mv (.t 18),none,[3,2]⟩]) (.cond (.t 14) (.seq (.reg false
 [⟨some 6,.mv (.d (.bool false)),none,[]⟩,⟨some 7,.mv (.d (.int .i64 2)),none,[0,0]⟩]) .ret) (.seq (.reg false [⟨some 20,.load true 1 (.t 4),none,[]⟩,⟨some 21,.call 109 [(.t 20)],none,[0]⟩,⟨some 19,.mv (.t
 21),none,[1,1]⟩]) (.cond (.t 19) (.seq (.reg false [⟨some 6,.mv (.d (.bool false)),none,[]⟩,⟨some 7,.mv (.d (.int .i64 0)),none,[0,0]⟩]) .ret) .skip))))) (.seq (.seq (.reg false [⟨some 22,.load true 1 (.t
 4),none,[]⟩,⟨some 8,.new 47 [.nilsl],none,[]⟩,⟨none,.store 1 (.t 8) (.t 22),none,[1,0,0,1]⟩]) (.block 1 (.loop (.seq (.seq (.reg false [⟨some 23,.load true 1 (.t 8),none,[]⟩,⟨some 24,.load true 1 (.t 5),none,[]⟩,⟨some
 25,.call 105 [(.t 23),(.t 24)],none,[0,1]⟩,⟨some 26,.bin .lss (.t 25) (.d (.int .i64 0)),none,[2]⟩]) (.cond (.t 26) .skip (.exit 1))) (.seq (.block 2 (.seq (.reg false [⟨some 28,.mv (.t 0),none,[]⟩,⟨some 29,.call 131
 [(.t 28)],none,[0]⟩,⟨some 27,.mv (.t 29),none,[1]⟩,⟨some 30,.ext (.t 27) 0,none,[2]⟩,⟨some 31,.ext (.t 27) 1,none,[2]⟩,⟨some 9,.mv (.t 30),none,[3,1,0,1,2,3]⟩,⟨some 10,.mv (.t 31),none,[4,5,0,1,2,3,4,5]⟩]) (.seq (.seq
 (.reg false [⟨some 32,.mv (.t 10),none,[]⟩,⟨some 33,.bin .neq (.t 32) (.d (.int .i64 0)),none,[0]⟩]) (.cond (.t 33) (.seq (.reg false [⟨some 34,.mv (.t 10),none,[]⟩,⟨some 6,.mv (.d (.bool false)),none,[]⟩,⟨some 7,.mv
 (.t 34),none,[0,1,0,1]⟩]) .ret) .skip)) (.seq (.reg false [⟨some 35,.load true 1 (.t 8),none,[]⟩,⟨some 36,.load true 1 (.t 8),none,[]⟩,⟨some 37,.call 110 [(.t 35),(.t 36)],none,[0,1]⟩,⟨none,.store 1 (.t 8) (.t
 37),none,[2,2,0,1,2]⟩]) (.seq (.reg false [⟨some 39,.load true 1 (.t 8),none,[]⟩,⟨some 40,.load true 1 (.t 5),none,[]⟩,⟨some 41,.call 231 [(.t 39),(.t 40)],none,[0,1]⟩,⟨some 38,.mv (.t 41),none,[2]⟩,⟨some 42,.ext (.t
 38) 0,none,[3]⟩,⟨some 43,.ext (.t 38) 1,none,[3]⟩,⟨some 11,.new 47 [.nilsl],none,[]⟩,⟨none,.store 1 (.t 11) (.t 42),none,[6,4,2,0,1,2,3,4,6]⟩,⟨some 12,.mv (.t 43),none,[5,7,0,1,2,3,4,5,6,7]⟩]) (.seq (.reg false [⟨some
 44,.mv (.t 12),none,[]⟩,⟨some 45,.bin .eql (.t 44) (.d (.int .i64 0)),none,[0]⟩,⟨some 13,.mv (.t 45),none,[1,0,1]⟩]) (.seq (.seq (.reg false [⟨some 46,.mv (.t 13),none,[]⟩]) (.cond (.t 46) (.reg false [⟨some 47,.load
 true 1 (.t 11),none,[]⟩,⟨none,.store 1 (.t 8) (.t 47),none,[0,0]⟩]) .skip)) (.seq (.reg false [⟨some 48,.mv (.t 9),none,[]⟩,⟨some 49,.mv (.t 13),none,[]⟩,⟨some 50,.beq true (.t 48) (.t 49),none,[0,1]⟩,⟨some 51,.mv (.t
 50),none,[2]⟩,⟨some 52,.load true 1 (.t 8),some (51,false),[3]⟩,⟨some 53,.call 109 [(.t 52)],some (51,false),[4,3,3]⟩,⟨some 54,.pick (.t 51) (.d (.bool true)) (.t 53),none,[3,5]⟩]) (.cond (.t 54) (.seq (.reg false
 [⟨some 55,.mv (.t 13),none,[]⟩,⟨some 56,.mv (.t 55),none,[0]⟩,⟨some 57,.mv (.t 9),some (56,true),[1]⟩,⟨some 58,.un .not (.t 57),some (56,true),[2,1]⟩,⟨some 59,.pick (.t 56) (.t 58) (.d (.bool false)),none,[1,3]⟩,⟨some
 6,.mv (.t 59),none,[4,1,0,1,2,3,4]⟩,⟨some 7,.mv (.d (.int .i64 0)),none,[5,0,1,2,3,4,5]⟩]) .ret) .skip))))))))) (.seq (.reg false [⟨some 60,.load true 1 (.t 8),none,[]⟩]) (.reg false [⟨some 8,.new 47
 [.nilsl],none,[]⟩,⟨none,.store 1 (.t 8) (.t 60),none,[0,0]⟩]))))))) (.seq (.reg false [⟨some 6,.mv (.d (.bool true)),none,[]⟩,⟨some 7,.mv (.d (.int .i64 0)),none,[0,0]⟩]) .ret))))
theorem o_og : fnOf Tryz.prog o_g2 = some (o_g3, [.t 6, .t 7], 61, false) := by kernel_rfl

/-- tallymark/nat.Sub -/
abbrev o_6w : FuncId := 231
def o_6x : C := (.seq (.reg false [⟨some 2,.box 47 (.t 0),none,[]⟩,⟨some 3,.box 47 (.t 1),none,[]⟩,⟨some 4,.new 47 [.nilsl],none,[]⟩,⟨some 5,.mv (.d (.int .i64 0)),none,[]⟩]) (.seq (.seq (.reg false [⟨some 11,.load true 1 (.t
 2),none,[]⟩,⟨some 12,.load true 1 (.t 3),none,[]⟩,⟨some 13,.call 105 [(.t 11),(.t 12)],none,[0,1]⟩,⟨some 14,.bin .lss (.t 13) (.d (.int .i64 0)),none,[2]⟩]) (.cond (.t 14) (.seq (.reg false [⟨some 15,.build [.nilsl]
 [],none,[]⟩,⟨none,.store 1 (.t 4) (.t 15),none,[0,0]⟩,⟨some 5,.mv (.d (.int .i64 2)),none,[1,0,1]⟩]) .ret) .skip)) (.seq (.reg false [⟨some 16,.fa 0 (.t 2),none,[]⟩,⟨some 17,.load false 1 (.t 16),none,[0]⟩,⟨some 18,.len
 (.t 17),none,[1]⟩,⟨some 19,.mksl 28 1 8 [(.int .u64 0)] (.t 18) (.t 18),none,[2,2]⟩,⟨some 6,.mv (.t 19),none,[3,0,1,2,3]⟩]) (.seq (.reg false [⟨some 7,.mv (.d (.int .u64 0)),none,[]⟩]) (.seq (.seq (.reg false [⟨some
 20,.fa 0 (.t 2),none,[]⟩,⟨some 21,.load false 1 (.t 20),none,[0]⟩,⟨some 22,.len (.t 21),none,[1]⟩,⟨some 23,.mv (.d (.int .i64 0)),none,[]⟩]) (.block 0 (.loop (.seq (.reg false [⟨some 24,.bin .lss (.t 23) (.t
 22),none,[]⟩]) (.seq (.cond (.t 24) .skip (.exit 0)) (.seq (.block 1 (.seq (.reg false [⟨some 25,.mv (.t 23),none,[]⟩,⟨some 26,.ix 1 (.t 21) (.t 23),none,[]⟩,⟨some 27,.load false 1 (.t 26),none,[1]⟩,⟨some 8,.mv (.t
 25),none,[0,0,1,2]⟩,⟨some 9,.mv (.t 27),none,[2,3,0,1,2,3]⟩]) (.seq (.reg false [⟨some 10,.mv (.d (.int .u64 0)),none,[]⟩]) (.seq (.seq (.reg false [⟨some 28,.mv (.t 8),none,[]⟩,⟨some 29,.fa 0 (.t 3),none,[]⟩,⟨some
 30,.load false 1 (.t 29),none,[1]⟩,⟨some 31,.len (.t 30),none,[2]⟩,⟨some 32,.bin .lss (.t 28) (.t 31),none,[0,3]⟩]) (.cond (.t 32) (.reg false [⟨some 33,.fa 0 (.t 3),none,[]⟩,⟨some 34,.load false 1 (.t
 33),none,[0]⟩,⟨some 35,.mv (.t 8),none,[]⟩,⟨some 36,.ix 1 (.t 34) (.t 35),none,[1,2]⟩,⟨some 37,.load false 1 (.t 36),none,[3]⟩,⟨some 10,.mv (.t 37),none,[4,0,1,2,3,4]⟩]) .skip)) (.reg false [⟨some 39,.mv (.t
 6),none,[]⟩,⟨some 40,.mv (.t 8),none,[]⟩,⟨some 41,.mv (.t 9),none,[]⟩,⟨some 42,.mv (.t 10),none,[]⟩,⟨some 43,.mv (.t 7),none,[]⟩,⟨some 44,.call 234 [(.t 41),(.t 42),(.t 43)],none,[2,3,4]⟩,⟨some 38,.mv (.t
 44),none,[5]⟩,⟨some 45,.ext (.t 38) 0,none,[6]⟩,⟨some 46,.ext (.t 38) 1,none,[6]⟩,⟨some 47,.ix 1 (.t 39) (.t 40),none,[0,1,0,1,2,3,4,5,6,7]⟩,⟨none,.store 1 (.t 47) (.t 45),none,[9,7,5,0,1,2,3,4,5,6,7]⟩,⟨some 7,.mv (.t
 46),none,[8,10,0,1,2,3,4,5,6,7,8,9,10]⟩]))))) (.reg false [⟨some 48,.bin .add (.t 23) (.d (.int .i64 1)),none,[]⟩,⟨some 23,.mv (.t 48),none,[0]⟩]))))))) (.seq (.reg false [⟨some 49,.mv (.t 6),none,[]⟩,⟨some 50,.call 112
 [(.t 49)],none,[0]⟩,⟨none,.store 1 (.t 4) (.t 50),none,[1,1,0,1]⟩,⟨some 5,.mv (.d (.int .i64 0)),none,[2,0,1,2]⟩]) .ret))))))
theorem o_g4 : fnOf Tryz.prog o_6w = some (o_6x, [.cell 4 true 1, .t 5], 51, false) := by kernel_rfl

/-- tallymark/nat.Shr -/
abbrev o_g5 : FuncId := 236
def o_g6 : C := (.seq (.reg false [⟨some 2,.box 47 (.t 0),none,[]⟩,⟨some 4,.new 47 [.nilsl],none,[]⟩]) (.seq (.reg false [⟨some 8,.mv (.t 1),none,[]⟩,⟨some 9,.mm true [(.d (.int .i64 0)),(.t 8)],none,[0]⟩,⟨some 1,.mv (.t
 9),none,[1,0,1]⟩]) (.seq (.seq (.reg false [⟨some 10,.mv (.t 1),none,[]⟩,⟨some 11,.bin .quo (.t 10) (.d (.int .i64 64)),none,[0]⟩,⟨some 12,.fa 0 (.t 2),none,[]⟩,⟨some 13,.load false 1 (.t 12),none,[2]⟩,⟨some 14,.len (.t
 13),none,[3]⟩,⟨some 15,.bin .geq (.t 11) (.t 14),none,[1,4]⟩]) (.cond (.t 15) (.seq (.reg false [⟨some 16,.build [.nilsl] [],none,[]⟩,⟨none,.store 1 (.t 4) (.t 16),none,[0,0]⟩]) .ret) .skip)) (.seq (.reg false [⟨some
 17,.fa 0 (.t 2),none,[]⟩,⟨some 18,.load false 1 (.t 17),none,[0]⟩,⟨some 19,.mv (.t 1),none,[]⟩,⟨some 20,.bin .quo (.t 19) (.d (.int .i64 64)),none,[2]⟩,⟨some 21,.slice 1 (.t 18) (some (.t 20)) none
 none,none,[1,3]⟩,⟨some 22,.call 150 [(.t 21)],none,[4]⟩,⟨some 5,.mv (.t 22),none,[5,5,0,1,2,3,4,5]⟩]) (.seq (.seq (.reg false [⟨some 23,.mv (.t 1),none,[]⟩,⟨some 24,.bin .rem (.t 23) (.d (.int .i64 64)),none,[0]⟩,⟨some
 6,.mv (.d (.int .i64 0)),none,[]⟩,⟨some 7,.mv (.t 24),none,[1,2,0,1,2]⟩]) (.block 0 (.loop (.seq (.seq (.reg false [⟨some 25,.mv (.t 6),none,[]⟩,⟨some 26,.mv (.t 5),none,[]⟩,⟨some 27,.len (.t 26),none,[1]⟩,⟨some 28,.bin
 .lss (.t 25) (.t 27),none,[0,2]⟩]) (.cond (.t 28) .skip (.exit 0))) (.seq (.block 1 (.seq (.reg false [⟨some 31,.mv (.t 5),none,[]⟩,⟨some 32,.mv (.t 6),none,[]⟩,⟨some 33,.ix 1 (.t 31) (.t 32),none,[0,1]⟩,⟨some 34,.load
 false 1 (.t 33),none,[2]⟩,⟨some 35,.mv (.t 7),none,[]⟩,⟨some 36,.bin .shr (.t 34) (.t 35),none,[3,4]⟩,⟨some 37,.ix 1 (.t 31) (.t 32),none,[0,1,0,1,2,3,4,5]⟩,⟨none,.store 1 (.t 37) (.t 36),none,[6,5,0,1,2,3,4,5]⟩]) (.seq
 (.reg false [⟨some 38,.mv (.t 6),none,[]⟩,⟨some 39,.bin .add (.t 38) (.d (.int .i64 1)),none,[0]⟩,⟨some 40,.mv (.t 5),none,[]⟩,⟨some 41,.len (.t 40),none,[2]⟩,⟨some 42,.bin .lss (.t 39) (.t 41),none,[1,3]⟩]) (.cond (.t
 42) (.reg true [⟨some 43,.mv (.t 5),none,[]⟩,⟨some 44,.mv (.t 6),none,[]⟩,⟨some 45,.ix 1 (.t 43) (.t 44),none,[0,1]⟩,⟨some 46,.load false 1 (.t 45),none,[2]⟩,⟨some 47,.mv (.t 5),none,[]⟩,⟨some 48,.mv (.t
 6),none,[]⟩,⟨some 49,.bin .add (.t 48) (.d (.int .i64 1)),none,[5]⟩,⟨some 50,.ix 1 (.t 47) (.t 49),none,[4,6]⟩,⟨some 51,.load false 1 (.t 50),none,[7]⟩,⟨some 52,.mv (.t 7),none,[]⟩,⟨some 53,.bin .sub (.d (.int .i64 64))
 (.t 52),none,[9]⟩,⟨some 54,.bin .shl (.t 51) (.t 53),none,[8,10]⟩,⟨some 55,.bin .or (.t 46) (.t 54),none,[3,11]⟩,⟨some 56,.ix 1 (.t 43) (.t 44),none,[0,1,0,1,2,3,4,5,6,7,8,9,10,11,12]⟩,⟨none,.store 1 (.t 56) (.t
 55),none,[13,12,0,1,2,3,4,5,6,7,8,9,10,11,12]⟩]) .skip)))) (.reg false [⟨some 29,.mv (.t 6),none,[]⟩,⟨some 30,.bin .add (.t 29) (.d (.int .i64 1)),none,[0]⟩,⟨some 6,.mv (.t 30),none,[1,0,1]⟩])))))) (.seq (.reg false
 [⟨some 57,.mv (.t 5),none,[]⟩,⟨some 58,.call 112 [(.t 57)],none,[0]⟩,⟨none,.store 1 (.t 4) (.t 58),none,[1,1,0,1]⟩]) .ret))))))
theorem o_oh : fnOf Tryz.prog o_g5 = some (o_g6, [.cell 4 true 1], 59, false) := by kernel_rfl

/-- (tallymark/chain.aFloat).again -/
abbrev o_6y : FuncId := 238
def o_g7 : C := (.seq (.reg false [⟨some 8,.mv (.d (.bool false)),none,[]⟩,⟨some 9,.mv (.d (.int .i64 0)),none,[0]⟩]) (.seq (.reg false [⟨some 10,.mv (.t 1),none,[]⟩,⟨some 11,.mv (.t 0),none,[]⟩,⟨some 12,.mv (.t 2),none,[]⟩,⟨some
 13,.mv (.t 3),none,[]⟩,⟨some 14,.call 244 [(.t 10),(.t 11),(.t 12),(.t 13)],none,[0,1,2,3]⟩,⟨some 15,.ext (.t 14) 0,none,[4]⟩,⟨some 16,.ext (.t 14) 1,none,[4]⟩,⟨some 8,.mv (.t 15),none,[5,4,0,1,2,3,4,5,6]⟩,⟨some 9,.mv
 (.t 16),none,[6,7,0,1,2,3,4,5,6,7]⟩]) .ret))
theorem o_oi : fnOf Tryz.prog o_6y = some (o_g7, [.t 8, .t 9], 17, false) := by kernel_rfl

/-- (tallymark/chain.aFloat).good -/
abbrev o_6z : FuncId := 240
def o_g8 : C := (.seq (.reg false [⟨some 2,.mv (.d (.bool false)),none,[]⟩]) (.seq (.reg false [⟨some 3,.mv (.t 0),none,[]⟩,⟨some 4,.call 245 [(.t 3)],none,[0]⟩,⟨some 2,.mv (.t 4),none,[1,1,0,1]⟩]) .ret))
theorem o_oj : fnOf Tryz.prog o_6z = some (o_g8, [.t 2], 5, false) := by kernel_rfl

/-- (tallymark/chain.aFloat).step -/
abbrev o_70 : FuncId := 242
def o_g9 : C := (.seq (.reg false [⟨some 6,.mv (.d (.bool false)),none,[]⟩,⟨some 7,.mv (.d (.int .i64 0)),none,[0]⟩]) (.seq (.reg false [⟨some 8,.mv (.t 1),none,[]⟩,⟨some 9,.mv (.t 0),none,[]⟩,⟨some 10,.mv (.t 2),none,[]⟩,⟨some
 11,.call 246 [(.t 8),(.t 9),(.t 10)],none,[0,1,2]⟩,⟨some 12,.ext (.t 11) 0,none,[3]⟩,⟨some 13,.ext (.t 11) 1,none,[3]⟩,⟨some 6,.mv (.t 12),none,[4,3,0,1,2,3,4,5]⟩,⟨some 7,.mv (.t 13),none,[5,6,0,1,2,3,4,5,6]⟩]) .ret))
theorem o_ok : fnOf Tryz.prog o_70 = some (o_g9, [.t 6, .t 7], 14, false) := by kernel_rfl

/-- (tallymark/chain.aFloat).value -/
abbrev o_71 : FuncId := 243
def o_ga : C := (.seq (.reg false [⟨some 4,.new 51 [.nilsl,(.bool false),.nilsl],none,[]⟩,⟨some 5,.mv (.d (.int .i64 0)),none,[]⟩]) (.seq (.reg false [⟨some 9,.mv (.t 0),none,[]⟩,⟨some 10,.mv (.t 1),none,[]⟩,⟨some 11,.call 247 [(.t
 9),(.t 10)],none,[0,1]⟩,⟨some 8,.mv (.t 11),none,[2]⟩,⟨some 12,.ext (.t 8) 0,none,[3]⟩,⟨some 13,.ext (.t 8) 1,none,[3]⟩,⟨some 6,.new 47 [.nilsl],none,[]⟩,⟨none,.store 1 (.t 6) (.t 12),none,[6,4,2,0,1,2,3,4,6]⟩,⟨some
 7,.mv (.t 13),none,[5,7,0,1,2,3,4,5,6,7]⟩]) (.seq (.reg false [⟨some 14,.load true 1 (.t 6),none,[]⟩,⟨some 15,.call 70 [(.t 14)],none,[0]⟩,⟨some 16,.mv (.t 7),none,[]⟩,⟨none,.store 3 (.t 4) (.t 15),none,[1,1,0,1]⟩,⟨some
 5,.mv (.t 16),none,[2,3,0,1,2,3]⟩]) .ret)))
theorem o_ol : fnOf Tryz.prog o_71 = some (o_ga, [.cell 4 true 3, .t 5], 17, false) := by kernel_rfl

/-- tallymark/float.Again -/
abbrev o_72 : FuncId := 244
def o_gb : C := (.seq (.reg false [⟨some 8,.mv (.d (.bool false)),none,[]⟩,⟨some 9,.mv (.d (.int .i64 0)),none,[0]⟩]) (.seq (.seq (.reg false [⟨some 15,.mv (.t 1),none,[]⟩,⟨some 16,.mv (.t 2),none,[]⟩,⟨some 17,.mv (.t 3),none,[]⟩,⟨some
 18,.bsl 3 1 2 [(.int .i64 0),(.int .i64 0)] [(0,1,(.t 16)),(1,1,(.t 17))],none,[1,2]⟩,⟨some 19,.call 248 [(.t 15),(.t 18)],none,[0,3]⟩,⟨some 10,.mv (.t 19),none,[4,4,0,1,2,3,4]⟩]) (.seq (.reg false [⟨some 20,.mv (.t
 10),none,[]⟩,⟨some 21,.bin .neq (.t 20) (.d (.int .i64 0)),none,[0]⟩]) (.cond (.t 21) (.seq (.reg false [⟨some 22,.mv (.t 10),none,[]⟩,⟨some 8,.mv (.d (.bool false)),none,[]⟩,⟨some 9,.mv (.t 22),none,[0,1,0,1]⟩]) .ret)
 .skip))) (.seq (.reg false [⟨some 24,.mv (.t 1),none,[]⟩,⟨some 25,.mv (.t 2),none,[]⟩,⟨some 26,.call 249 [(.t 24),(.t 25)],none,[0,1]⟩,⟨some 23,.mv (.t 26),none,[2]⟩,⟨some 27,.ext (.t 23) 0,none,[3]⟩,⟨some 28,.ext (.t
 23) 1,none,[3]⟩,⟨some 11,.mv (.t 27),none,[4,2,0,1,2,3,4]⟩,⟨some 12,.mv (.t 28),none,[5,6,0,1,2,3,4,5,6]⟩]) (.seq (.reg false [⟨some 30,.mv (.t 1),none,[]⟩,⟨some 31,.mv (.t 3),none,[]⟩,⟨some 32,.call 249 [(.t 30),(.t
 31)],none,[0,1]⟩,⟨some 29,.mv (.t 32),none,[2]⟩,⟨some 33,.ext (.t 29) 0,none,[3]⟩,⟨some 34,.ext (.t 29) 1,none,[3]⟩,⟨some 13,.mv (.t 33),none,[4,2,0,1,2,3,4]⟩,⟨some 14,.mv (.t 34),none,[5,6,0,1,2,3,4,5,6]⟩]) (.seq (.reg
 false [⟨some 35,.mv (.t 0),none,[]⟩,⟨some 36,.mv (.t 11),none,[]⟩,⟨some 37,.mv (.t 13),none,[]⟩,⟨some 38,.bin .sub (.t 36) (.t 37),none,[1,2]⟩,⟨some 39,.call 164 [(.t 35),(.t 38)],none,[0,3]⟩,⟨some 40,.ext (.t 39)
 0,none,[4]⟩,⟨some 41,.ext (.t 39) 1,none,[4]⟩,⟨some 8,.mv (.t 40),none,[5,4,0,1,2,3,4,5,6]⟩,⟨some 9,.mv (.t 41),none,[6,7,0,1,2,3,4,5,6,7]⟩]) .ret)))))
theorem o_om : fnOf Tryz.prog o_72 = some (o_gb, [.t 8, .t 9], 42, false) := by kernel_rfl

/-- tallymark/float.Good -/
abbrev o_gc : FuncId := 245
def o_gd : C := (.seq (.reg false [⟨some 2,.mv (.d (.bool false)),none,[]⟩]) (.seq (.reg false [⟨some 3,.mv (.t 0),none,[]⟩,⟨some 4,.bin .geq (.t 3) (.d (.int .i64 0)),none,[0]⟩,⟨some 5,.mv (.t 4),none,[1]⟩,⟨some 6,.mv (.t 0),some
 (5,true),[2]⟩,⟨some 7,.bin .leq (.t 6) (.d (.int .i64 8)),some (5,true),[3,2]⟩,⟨some 8,.pick (.t 5) (.t 7) (.d (.bool false)),none,[2,4]⟩,⟨some 2,.mv (.t 8),none,[5,2,0,1,2,3,4,5]⟩]) .ret))
theorem o_on : fnOf Tryz.prog o_gc = some (o_gd, [.t 2], 9, false) := by kernel_rfl

/-- tallymark/float.Step -/
abbrev o_ge : FuncId := 246
def o_gf : C := (.seq (.reg false [⟨some 6,.mv (.d (.bool false)),none,[]⟩,⟨some 7,.mv (.d (.int .i64 0)),none,[0]⟩]) (.seq (.seq (.reg false [⟨some 11,.mv (.t 1),none,[]⟩,⟨some 12,.mv (.t 2),none,[]⟩,⟨some 13,.bsl 3 1 1 [(.int .i64
 0)] [(0,1,(.t 12))],none,[1]⟩,⟨some 14,.call 248 [(.t 11),(.t 13)],none,[0,2]⟩,⟨some 8,.mv (.t 14),none,[3,3,0,1,2,3]⟩]) (.seq (.reg false [⟨some 15,.mv (.t 8),none,[]⟩,⟨some 16,.bin .neq (.t 15) (.d (.int .i64
 0)),none,[0]⟩]) (.cond (.t 16) (.seq (.reg false [⟨some 17,.mv (.t 8),none,[]⟩,⟨some 6,.mv (.d (.bool false)),none,[]⟩,⟨some 7,.mv (.t 17),none,[0,1,0,1]⟩]) .ret) .skip))) (.seq (.reg false [⟨some 19,.mv (.t
 1),none,[]⟩,⟨some 20,.mv (.t 2),none,[]⟩,⟨some 21,.call 249 [(.t 19),(.t 20)],none,[0,1]⟩,⟨some 18,.mv (.t 21),none,[2]⟩,⟨some 22,.ext (.t 18) 0,none,[3]⟩,⟨some 23,.ext (.t 18) 1,none,[3]⟩,⟨some 9,.mv (.t
 22),none,[4,2,0,1,2,3,4]⟩,⟨some 10,.mv (.t 23),none,[5,6,0,1,2,3,4,5,6]⟩]) (.seq (.reg false [⟨some 24,.mv (.t 0),none,[]⟩,⟨some 25,.mv (.t 9),none,[]⟩,⟨some 26,.call 164 [(.t 24),(.t 25)],none,[0,1]⟩,⟨some 27,.ext (.t
 26) 0,none,[2]⟩,⟨some 28,.ext (.t 26) 1,none,[2]⟩,⟨some 6,.mv (.t 27),none,[3,2,0,1,2,3,4]⟩,⟨some 7,.mv (.t 28),none,[4,5,0,1,2,3,4,5]⟩]) .ret))))
theorem o_oo : fnOf Tryz.prog o_ge = some (o_gf, [.t 6, .t 7], 29, false) := by kernel_rfl

/-- tallymark/float.Value -/
abbrev o_73 : FuncId := 247
def o_gg : C := (.seq (.reg false [⟨some 4,.new 47 [.nilsl],none,[]⟩,⟨some 5,.mv (.d (.int .i64 0)),none,[]⟩]) (.seq (.seq (.reg false [⟨some 11,.mv (.t 0),none,[]⟩,⟨some 12,.mv (.t 1),none,[]⟩,⟨some 13,.bsl 3 1 1 [(.int .i64 0)]
 [(0,1,(.t 12))],none,[1]⟩,⟨some 14,.call 248 [(.t 11),(.t 13)],none,[0,2]⟩,⟨some 6,.mv (.t 14),none,[3,3,0,1,2,3]⟩]) (.seq (.reg false [⟨some 15,.mv (.t 6),none,[]⟩,⟨some 16,.bin .neq (.t 15) (.d (.int .i64
 0)),none,[0]⟩]) (.cond (.t 16) (.seq (.reg false [⟨some 17,.build [.nilsl] [],none,[]⟩,⟨some 18,.mv (.t 6),none,[]⟩,⟨none,.store 1 (.t 4) (.t 17),none,[0,0]⟩,⟨some 5,.mv (.t 18),none,[1,2,0,1,2]⟩]) .ret) .skip))) (.seq
 (.reg false [⟨some 20,.mv (.t 0),none,[]⟩,⟨some 21,.mv (.t 1),none,[]⟩,⟨some 22,.call 249 [(.t 20),(.t 21)],none,[0,1]⟩,⟨some 19,.mv (.t 22),none,[2]⟩,⟨some 23,.ext (.t 19) 0,none,[3]⟩,⟨some 24,.ext (.t 19)
 1,none,[3]⟩,⟨some 7,.mv (.t 23),none,[4,2,0,1,2,3,4]⟩,⟨some 8,.mv (.t 24),none,[5,6,0,1,2,3,4,5,6]⟩]) (.seq (.reg false [⟨some 26,.mv (.t 0),none,[]⟩,⟨some 27,.bin .shl (.d (.int .i64 1)) (.t 26),none,[0]⟩,⟨some 28,.mv
 (.t 8),none,[]⟩,⟨some 29,.bin .add (.t 27) (.t 28),none,[1,2]⟩,⟨some 30,.conv .u64 (.t 29),none,[3]⟩,⟨some 31,.bsl 28 1 1 [(.int .u64 0)] [(0,1,(.t 30))],none,[4]⟩,⟨some 32,.call 108 [(.t 31)],none,[5]⟩,⟨some 33,.mv (.t
 7),none,[]⟩,⟨some 34,.call 120 [(.t 32),(.t 33)],none,[6,7,6]⟩,⟨some 25,.mv (.t 34),none,[8]⟩,⟨some 35,.ext (.t 25) 0,none,[9]⟩,⟨some 36,.ext (.t 25) 1,none,[9]⟩,⟨some 9,.new 47 [.nilsl],none,[]⟩,⟨none,.store 1 (.t 9)
 (.t 35),none,[12,10,8,0,1,2,3,4,5,6,7,8,9,10,12]⟩,⟨some 10,.mv (.t 36),none,[11,13,0,1,2,3,4,5,6,7,8,9,10,11,12,13]⟩]) (.seq (.reg true [⟨some 37,.load true 1 (.t 9),none,[]⟩,⟨some 38,.mv (.t 0),none,[]⟩,⟨some 39,.bin
 .shl (.d (.int .u64 1)) (.t 38),none,[1]⟩,⟨some 40,.bsl 28 1 1 [(.int .u64 0)] [(0,1,(.t 39))],none,[2]⟩,⟨some 41,.call 108 [(.t 40)],none,[3]⟩,⟨some 42,.call 231 [(.t 37),(.t 41)],none,[0,4,4]⟩,⟨some 43,.ext (.t 42)
 0,none,[5]⟩,⟨some 44,.ext (.t 42) 1,none,[5]⟩,⟨none,.store 1 (.t 4) (.t 43),none,[6,5,0,1,2,3,4,5,6,7]⟩,⟨some 5,.mv (.t 44),none,[7,8,0,1,2,3,4,5,6,7,8]⟩]) .ret)))))
theorem o_op : fnOf Tryz.prog o_73 = some (o_gg, [.cell 4 true 1, .t 5], 45, false) := by kernel_rfl

/-- tallymark/float.wrong -/
abbrev o_3k : FuncId := 248
def o_gh : C := (.seq (.reg false [⟨some 4,.mv (.d (.int .i64 0)),none,[]⟩]) (.seq (.seq (.reg false [⟨some 7,.mv (.t 0),none,[]⟩,⟨some 8,.call 245 [(.t 7)],none,[0]⟩,⟨some 9,.un .not (.t 8),none,[1]⟩]) (.cond (.t 9) (.seq (.reg false
 [⟨some 4,.mv (.d (.int .i64 10)),none,[]⟩]) .ret) .skip)) (.seq (.seq (.reg false [⟨some 10,.mv (.t 1),none,[]⟩,⟨some 11,.len (.t 10),none,[0]⟩,⟨some 12,.mv (.d (.int .i64 0)),none,[]⟩]) (.block 0 (.loop (.seq (.reg
 false [⟨some 13,.bin .lss (.t 12) (.t 11),none,[]⟩]) (.seq (.cond (.t 13) .skip (.exit 0)) (.seq (.block 1 (.seq (.reg false [⟨some 14,.ix 1 (.t 10) (.t 12),none,[]⟩,⟨some 15,.load false 1 (.t 14),none,[0]⟩,⟨some 6,.mv
 (.t 15),none,[1,0,1]⟩]) (.seq (.reg false [⟨some 16,.mv (.t 6),none,[]⟩,⟨some 17,.bin .lss (.t 16) (.d (.int .i64 0)),none,[0]⟩,⟨some 18,.mv (.t 17),none,[1]⟩,⟨some 19,.mv (.t 6),some (18,false),[2]⟩,⟨some 20,.bin .gtr
 (.t 19) (.d (.int .i64 1023)),some (18,false),[3,2]⟩,⟨some 21,.pick (.t 18) (.d (.bool true)) (.t 20),none,[2,4]⟩]) (.cond (.t 21) (.seq (.reg false [⟨some 4,.mv (.d (.int .i64 2)),none,[]⟩]) .ret) .skip)))) (.reg false
 [⟨some 22,.bin .add (.t 12) (.d (.int .i64 1)),none,[]⟩,⟨some 12,.mv (.t 22),none,[0]⟩]))))))) (.seq (.reg false [⟨some 4,.mv (.d (.int .i64 0)),none,[]⟩]) .ret))))
theorem o_oq : fnOf Tryz.prog o_3k = some (o_gh, [.t 4], 23, false) := by kernel_rfl

/-- tallymark/float.parts -/
abbrev o_gi : FuncId := 249
def o_gj : C := (.seq (.reg false [⟨some 4,.mv (.d (.int .i64 0)),none,[]⟩,⟨some 5,.mv (.d (.int .i64 0)),none,[0]⟩]) (.seq (.reg true [⟨some 6,.mv (.t 1),none,[]⟩,⟨some 7,.mv (.t 0),none,[]⟩,⟨some 8,.bin .shr (.t 6) (.t
 7),none,[0,1]⟩,⟨some 9,.mv (.t 1),none,[]⟩,⟨some 10,.mv (.t 0),none,[]⟩,⟨some 11,.bin .shl (.d (.int .i64 1)) (.t 10),none,[4]⟩,⟨some 12,.bin .sub (.t 11) (.d (.int .i64 1)),none,[5]⟩,⟨some 13,.bin .and (.t 9) (.t
 12),none,[3,6]⟩,⟨some 4,.mv (.t 8),none,[2,0,1,2]⟩,⟨some 5,.mv (.t 13),none,[7,8,0,1,2,3,4,5,6,7,8]⟩]) .ret))
theorem o_or : fnOf Tryz.prog o_gi = some (o_gj, [.t 4, .t 5], 14, false) := by kernel_rfl

/-- (tallymark/chain.aYu).again -/
abbrev o_74 : FuncId := 250
def o_gk : C := (.seq (.reg false [⟨some 8,.mv (.d (.bool false)),none,[]⟩,⟨some 9,.mv (.d (.int .i64 0)),none,[0]⟩]) (.seq (.reg false [⟨some 10,.mv (.t 1),none,[]⟩,⟨some 11,.mv (.t 0),none,[]⟩,⟨some 12,.mv (.t 2),none,[]⟩,⟨some
 13,.mv (.t 3),none,[]⟩,⟨some 14,.call 256 [(.t 10),(.t 11),(.t 12),(.t 13)],none,[0,1,2,3]⟩,⟨some 15,.ext (.t 14) 0,none,[4]⟩,⟨some 16,.ext (.t 14) 1,none,[4]⟩,⟨some 8,.mv (.t 15),none,[5,4,0,1,2,3,4,5,6]⟩,⟨some 9,.mv
 (.t 16),none,[6,7,0,1,2,3,4,5,6,7]⟩]) .ret))
theorem o_os : fnOf Tryz.prog o_74 = some (o_gk, [.t 8, .t 9], 17, false) := by kernel_rfl

/-- (tallymark/chain.aYu).good -/
abbrev o_75 : FuncId := 252
def o_gl : C := (.seq (.reg false [⟨some 2,.mv (.d (.bool false)),none,[]⟩]) (.seq (.reg false [⟨some 3,.mv (.t 0),none,[]⟩,⟨some 4,.call 257 [(.t 3)],none,[0]⟩,⟨some 2,.mv (.t 4),none,[1,1,0,1]⟩]) .ret))
theorem o_ot : fnOf Tryz.prog o_75 = some (o_gl, [.t 2], 5, false) := by kernel_rfl

/-- (tallymark/chain.aYu).step -/
abbrev o_76 : FuncId := 254
def o_gm : C := (.seq (.reg false [⟨some 6,.mv (.d (.bool false)),none,[]⟩,⟨some 7,.mv (.d (.int .i64 0)),none,[0]⟩]) (.seq (.reg false [⟨some 8,.mv (.t 1),none,[]⟩,⟨some 9,.mv (.t 0),none,[]⟩,⟨some 10,.mv (.t 2),none,[]⟩,⟨some
 11,.call 258 [(.t 8),(.t 9),(.t 10)],none,[0,1,2]⟩,⟨some 12,.ext (.t 11) 0,none,[3]⟩,⟨some 13,.ext (.t 11) 1,none,[3]⟩,⟨some 6,.mv (.t 12),none,[4,3,0,1,2,3,4,5]⟩,⟨some 7,.mv (.t 13),none,[5,6,0,1,2,3,4,5,6]⟩]) .ret))
theorem o_ou : fnOf Tryz.prog o_76 = some (o_gm, [.t 6, .t 7], 14, false) := by kernel_rfl

/-- tallymark/yu.Again -/
abbrev o_77 : FuncId := 256
def o_gn : C := (.seq (.reg false [⟨some 8,.mv (.d (.bool false)),none,[]⟩,⟨some 9,.mv (.d (.int .i64 0)),none,[0]⟩]) (.seq (.reg false [⟨some 14,.mv (.t 1),none,[]⟩,⟨some 15,.mv (.t 2),none,[]⟩,⟨some 16,.call 259 [(.t 14),(.t
 15)],none,[0,1]⟩,⟨some 13,.mv (.t 16),none,[2]⟩,⟨some 17,.ext (.t 13) 0,none,[3]⟩,⟨some 18,.ext (.t 13) 1,none,[3]⟩,⟨some 10,.new 303 [(.int .i64 0),(.int .i64 0),.nilsl,.nilsl],none,[]⟩,⟨none,.store 4 (.t 10) (.t
 17),none,[6,4,2,0,1,2,3,4,6]⟩,⟨some 11,.mv (.t 18),none,[5,7,0,1,2,3,4,5,6,7]⟩]) (.seq (.seq (.reg false [⟨some 19,.mv (.t 11),none,[]⟩,⟨some 20,.bin .neq (.t 19) (.d (.int .i64 0)),none,[0]⟩]) (.cond (.t 20) (.seq
 (.reg false [⟨some 21,.mv (.t 11),none,[]⟩,⟨some 8,.mv (.d (.bool false)),none,[]⟩,⟨some 9,.mv (.t 21),none,[0,1,0,1]⟩]) .ret) .skip)) (.seq (.reg false [⟨some 23,.mv (.t 1),none,[]⟩,⟨some 24,.mv (.t 3),none,[]⟩,⟨some
 25,.call 259 [(.t 23),(.t 24)],none,[0,1]⟩,⟨some 22,.mv (.t 25),none,[2]⟩,⟨some 26,.ext (.t 22) 0,none,[3]⟩,⟨some 27,.ext (.t 22) 1,none,[3]⟩,⟨some 12,.new 303 [(.int .i64 0),(.int .i64
 0),.nilsl,.nilsl],none,[]⟩,⟨none,.store 4 (.t 12) (.t 26),none,[6,4,2,0,1,2,3,4,6]⟩,⟨some 11,.mv (.t 27),none,[5,7,0,1,2,3,4,5,6,7]⟩]) (.seq (.seq (.reg false [⟨some 28,.mv (.t 11),none,[]⟩,⟨some 29,.bin .neq (.t 28)
 (.d (.int .i64 0)),none,[0]⟩]) (.cond (.t 29) (.seq (.reg false [⟨some 30,.mv (.t 11),none,[]⟩,⟨some 8,.mv (.d (.bool false)),none,[]⟩,⟨some 9,.mv (.t 30),none,[0,1,0,1]⟩]) .ret) .skip)) (.seq (.reg false [⟨some 31,.mv
 (.t 0),none,[]⟩,⟨some 32,.fa 1 (.t 10),none,[]⟩,⟨some 33,.load false 1 (.t 32),none,[1]⟩,⟨some 34,.fa 1 (.t 12),none,[]⟩,⟨some 35,.load false 1 (.t 34),none,[3]⟩,⟨some 36,.bin .sub (.t 33) (.t 35),none,[2,4]⟩,⟨some
 37,.call 164 [(.t 31),(.t 36)],none,[0,5]⟩,⟨some 38,.ext (.t 37) 0,none,[6]⟩,⟨some 39,.ext (.t 37) 1,none,[6]⟩,⟨some 8,.mv (.t 38),none,[7,6,0,1,2,3,4,5,6,7,8]⟩,⟨some 9,.mv (.t 39),none,[8,9,0,1,2,3,4,5,6,7,8,9]⟩])
 .ret))))))
theorem o_ov : fnOf Tryz.prog o_77 = some (o_gn, [.t 8, .t 9], 40, false) := by kernel_rfl

/-- tallymark/yu.Good -/
abbrev o_go : FuncId := 257
def o_gp : C := (.seq (.reg false [⟨some 2,.mv (.d (.bool false)),none,[]⟩]) (.seq (.reg false [⟨some 3,.mv (.t 0),none,[]⟩,⟨some 4,.bin .geq (.t 3) (.d (.int .i64 1)),none,[0]⟩,⟨some 5,.mv (.t 4),none,[1]⟩,⟨some 6,.mv (.t 0),some
 (5,true),[2]⟩,⟨some 7,.bin .leq (.t 6) (.d (.int .i64 5)),some (5,true),[3,2]⟩,⟨some 8,.pick (.t 5) (.t 7) (.d (.bool false)),none,[2,4]⟩,⟨some 2,.mv (.t 8),none,[5,2,0,1,2,3,4,5]⟩]) .ret))
theorem o_ow : fnOf Tryz.prog o_go = some (o_gp, [.t 2], 9, false) := by kernel_rfl

/-- tallymark/yu.Step -/
abbrev o_gq : FuncId := 258
def o_gr : C := (.seq (.reg false [⟨some 6,.mv (.d (.bool false)),none,[]⟩,⟨some 7,.mv (.d (.int .i64 0)),none,[0]⟩]) (.seq (.reg false [⟨some 11,.mv (.t 1),none,[]⟩,⟨some 12,.mv (.t 2),none,[]⟩,⟨some 13,.call 259 [(.t 11),(.t
 12)],none,[0,1]⟩,⟨some 10,.mv (.t 13),none,[2]⟩,⟨some 14,.ext (.t 10) 0,none,[3]⟩,⟨some 15,.ext (.t 10) 1,none,[3]⟩,⟨some 8,.new 303 [(.int .i64 0),(.int .i64 0),.nilsl,.nilsl],none,[]⟩,⟨none,.store 4 (.t 8) (.t
 14),none,[6,4,2,0,1,2,3,4,6]⟩,⟨some 9,.mv (.t 15),none,[5,7,0,1,2,3,4,5,6,7]⟩]) (.seq (.seq (.reg false [⟨some 16,.mv (.t 9),none,[]⟩,⟨some 17,.bin .neq (.t 16) (.d (.int .i64 0)),none,[0]⟩]) (.cond (.t 17) (.seq (.reg
 false [⟨some 18,.mv (.t 9),none,[]⟩,⟨some 6,.mv (.d (.bool false)),none,[]⟩,⟨some 7,.mv (.t 18),none,[0,1,0,1]⟩]) .ret) .skip)) (.seq (.reg false [⟨some 19,.mv (.t 0),none,[]⟩,⟨some 20,.fa 1 (.t 8),none,[]⟩,⟨some
 21,.load false 1 (.t 20),none,[1]⟩,⟨some 22,.call 164 [(.t 19),(.t 21)],none,[0,2]⟩,⟨some 23,.ext (.t 22) 0,none,[3]⟩,⟨some 24,.ext (.t 22) 1,none,[3]⟩,⟨some 6,.mv (.t 23),none,[4,3,0,1,2,3,4,5]⟩,⟨some 7,.mv (.t
 24),none,[5,6,0,1,2,3,4,5,6]⟩]) .ret))))
theorem o_ox : fnOf Tryz.prog o_gq = some (o_gr, [.t 6, .t 7], 25, false) := by kernel_rfl

/-- tallymark/yu.At -/
abbrev o_3l : FuncId := 259
def o_9 : C := (.seq (.reg false [⟨some 3,.box 3 (.t 1),none,[]⟩,⟨some 4,.new 303 [(.int .i64 0),(.int .i64 0),.nilsl,.nilsl],none,[]⟩,⟨some 5,.mv (.d (.int .i64 0)),none,[]⟩]) (.seq (.block 0 (.seq (.reg false [⟨some 10,.mv (.t
 0),none,[]⟩,⟨some 11,.call 257 [(.t 10)],none,[0]⟩,⟨some 12,.un .not (.t 11),none,[1]⟩,⟨some 9,.mv (.t 12),none,[2,1]⟩]) (.cond (.t 9) (.seq (.reg false [⟨some 13,.build [(.int .i64 0),(.int .i64 0),.nilsl,.nilsl]
 [],none,[]⟩,⟨none,.store 4 (.t 4) (.t 13),none,[0,0]⟩,⟨some 5,.mv (.d (.int .i64 10)),none,[1,0,1]⟩]) .ret) (.seq (.reg false [⟨some 15,.load false 1 (.t 3),none,[]⟩,⟨some 16,.bin .lss (.t 15) (.d (.int .i64
 0)),none,[0]⟩,⟨some 17,.mv (.t 16),none,[1]⟩,⟨some 18,.load false 1 (.t 3),some (17,false),[2]⟩,⟨some 19,.bin .gtr (.t 18) (.d (.int .i64 1023)),some (17,false),[3,2]⟩,⟨some 20,.pick (.t 17) (.d (.bool true)) (.t
 19),none,[2,4]⟩,⟨some 14,.mv (.t 20),none,[5,2]⟩]) (.cond (.t 14) (.seq (.reg false [⟨some 21,.build [(.int .i64 0),(.int .i64 0),.nilsl,.nilsl] [],none,[]⟩,⟨none,.store 4 (.t 4) (.t 21),none,[0,0]⟩,⟨some 5,.mv (.d
 (.int .i64 2)),none,[1,0,1]⟩]) .ret) .skip))))) (.seq (.reg false [⟨some 6,.new 303 [(.int .i64 0),(.int .i64 0),.nilsl,.nilsl],none,[]⟩]) (.seq (.seq (.reg false [⟨some 22,.mv (.t 0),none,[]⟩,⟨some 23,.call 260 [(.t
 22)],none,[0]⟩]) (.block 1 .bad)) (.seq (.reg false [⟨some 30,.load true 4 (.t 6),none,[]⟩,⟨none,.store 4 (.t 4) (.t 30),none,[0,0]⟩,⟨some 5,.mv (.d (.int .i64 0)),none,[1,0,1]⟩]) .ret)))))
theorem o_78 : fnOf Tryz.prog o_3l = some (o_9, [.cell 4 true 4, .t 5], 31, false) := by kernel_rfl

/-- tallymark/yu.walk -/
abbrev n_yu_walk : FuncId := 260
def c_yu_walk : C := (.seq (.reg false [⟨some 1,.box 3 (.t 0),none,[]⟩,⟨some 2,.mv (.d .nilfn),none,[]⟩]) (.seq (.reg false [⟨some 3,.mkf (.func 261) [(.t 1)],none,[]⟩,⟨some 2,.mv (.t 3),none,[0,0]⟩]) .ret))
theorem r_yu_walk : fnOf Tryz.prog n_yu_walk = some (c_yu_walk, [.t 2], 4, false) := by kernel_rfl

/-- tallymark/yu.walk$1 -/
abbrev o_h : FuncId := 261
def o_e : C := (.seq (.reg false [⟨some 5,.load false 1 (.t 1),none,[]⟩,⟨some 6,.bin .mul (.d (.int .i64 2)) (.t 5),none,[0]⟩,⟨some 7,.bin .shl (.d (.int .u64 1)) (.t 6),none,[1]⟩,⟨some 8,.bsl 28 1 1 [(.int .u64 0)] [(0,1,(.t
 7))],none,[2]⟩,⟨some 9,.call 108 [(.t 8)],none,[3]⟩,⟨some 10,.build [(.int .i64 0),(.int .i64 0),.nilsl,.nilsl] [(3,1,(.t 9))],none,[4]⟩,⟨some 3,.new 303 [(.int .i64 0),(.int .i64 0),.nilsl,.nilsl],none,[]⟩,⟨none,.store
 4 (.t 3) (.t 10),none,[6,5,4,0,1,2,3,4,5,6]⟩]) (.seq (.reg false [⟨some 4,.mv (.d (.int .i64 0)),none,[]⟩]) (.block 0 (.loop (.seq (.seq (.reg false [⟨some 11,.mv (.t 4),none,[]⟩,⟨some 12,.bin .leq (.t 11) (.d (.int
 .i64 1023)),none,[0]⟩]) (.cond (.t 12) .skip (.exit 0))) (.seq (.block 1 (.seq (.seq (.reg false [⟨some 15,.mv (.t 0),none,[]⟩,⟨some 16,.mv (.t 4),none,[]⟩,⟨some 17,.load true 4 (.t 3),none,[]⟩,⟨some 18,.callv (.t 15)
 [(.t 16),(.t 17)],none,[0,1,2]⟩,⟨some 19,.un .not (.t 18),none,[3]⟩]) (.cond (.t 19) .ret .skip)) (.reg false [⟨some 20,.load true 4 (.t 3),none,[]⟩,⟨some 21,.load false 1 (.t 1),none,[]⟩,⟨some 22,.call 262 [(.t 20),(.t
 21)],none,[0,1]⟩,⟨none,.store 4 (.t 3) (.t 22),none,[2,2,0,1,2]⟩]))) (.reg false [⟨some 13,.mv (.t 4),none,[]⟩,⟨some 14,.bin .add (.t 13) (.d (.int .i64 1)),none,[0]⟩,⟨some 4,.mv (.t 14),none,[1,0,1]⟩])))))))
/-- (tallymark/yu.Place).next -/
abbrev o_gs : FuncId := 262
def o_gt : C := (.seq (.reg false [⟨some 2,.box 303 (.t 0),none,[]⟩,⟨some 4,.new 303 [(.int .i64 0),(.int .i64 0),.nilsl,.nilsl],none,[]⟩]) (.seq (.reg true [⟨some 8,.bsl 28 1 1 [(.int .u64 0)] [(0,1,(.d (.int .u64 1)))],none,[]⟩,⟨some
 9,.call 108 [(.t 8)],none,[0]⟩,⟨some 10,.fa 1 (.t 2),none,[]⟩,⟨some 11,.load false 1 (.t 10),none,[2]⟩,⟨some 12,.call 120 [(.t 9),(.t 11)],none,[1,3,1]⟩,⟨some 7,.mv (.t 12),none,[4]⟩,⟨some 13,.ext (.t 7)
 0,none,[5]⟩,⟨some 14,.ext (.t 7) 1,none,[5]⟩,⟨some 5,.new 47 [.nilsl],none,[]⟩,⟨none,.store 1 (.t 5) (.t 13),none,[8,6,4,0,1,2,3,4,5,6,8]⟩,⟨some 6,.mv (.t 14),none,[7,9,0,1,2,3,4,5,6,7,8,9]⟩]) (.seq (.reg false [⟨some
 15,.fa 2 (.t 2),none,[]⟩,⟨some 16,.load true 1 (.t 15),none,[0]⟩,⟨some 17,.load true 1 (.t 5),none,[]⟩,⟨some 18,.call 110 [(.t 16),(.t 17)],none,[1,2]⟩,⟨some 19,.fa 2 (.t 2),none,[0,1,2,3]⟩,⟨none,.store 1 (.t 19) (.t
 18),none,[4,3,3,0,1,2,3]⟩]) (.seq (.seq (.reg false [⟨some 20,.fa 2 (.t 2),none,[]⟩,⟨some 21,.load true 1 (.t 20),none,[0]⟩,⟨some 22,.fa 3 (.t 2),none,[]⟩,⟨some 23,.load true 1 (.t 22),none,[2]⟩,⟨some 24,.call 105 [(.t
 21),(.t 23)],none,[1,3]⟩,⟨some 25,.bin .geq (.t 24) (.d (.int .i64 0)),none,[4]⟩]) (.cond (.t 25) (.seq (.reg false [⟨some 26,.fa 0 (.t 2),none,[]⟩,⟨some 27,.load false 1 (.t 26),none,[0]⟩,⟨some 28,.bin .add (.t 27) (.d
 (.int .i64 1)),none,[1]⟩,⟨some 29,.fa 0 (.t 2),none,[0,1,2]⟩,⟨none,.store 1 (.t 29) (.t 28),none,[3,2,0,1,2]⟩]) (.seq (.reg false [⟨some 30,.mv (.t 1),none,[]⟩,⟨some 31,.fa 3 (.t 2),none,[]⟩,⟨some 32,.load true 1 (.t
 31),none,[1]⟩,⟨some 33,.call 263 [(.t 30),(.t 32)],none,[0,2]⟩,⟨some 34,.fa 3 (.t 2),none,[0,1,2,3]⟩,⟨none,.store 1 (.t 34) (.t 33),none,[4,3,3,0,1,2,3]⟩]) (.reg false [⟨some 35,.mv (.t 1),none,[]⟩,⟨some 36,.fa 3 (.t
 2),none,[]⟩,⟨some 37,.load true 1 (.t 36),none,[1]⟩,⟨some 38,.call 264 [(.t 35),(.t 37)],none,[0,2]⟩,⟨some 39,.fa 1 (.t 2),none,[0,1,2,3]⟩,⟨none,.store 1 (.t 39) (.t 38),none,[4,3,3,0,1,2,3]⟩]))) .skip)) (.seq (.reg
 false [⟨some 40,.load true 4 (.t 2),none,[]⟩,⟨none,.store 4 (.t 4) (.t 40),none,[0,0]⟩]) .ret)))))
theorem o_oy : fnOf Tryz.prog o_gs = some (o_gt, [.cell 4 true 4], 41, false) := by kernel_rfl

/-- tallymark/yu.more -/
abbrev o_gu : FuncId := 263
def o_gv : C := (.seq (.reg false [⟨some 3,.box 47 (.t 1),none,[]⟩,⟨some 4,.new 47 [.nilsl],none,[]⟩]) (.seq (.reg false [⟨some 8,.load true 1 (.t 3),none,[]⟩,⟨some 9,.mv (.t 0),none,[]⟩,⟨some 10,.call 236 [(.t 8),(.t
 9)],none,[0,1]⟩,⟨some 5,.new 47 [.nilsl],none,[]⟩,⟨none,.store 1 (.t 5) (.t 10),none,[3,2,2,0,1,2,3]⟩]) (.seq (.seq (.reg false [⟨some 12,.load true 1 (.t 5),none,[]⟩,⟨some 13,.mv (.t 0),none,[]⟩,⟨some 14,.call 120 [(.t
 12),(.t 13)],none,[0,1]⟩,⟨some 11,.mv (.t 14),none,[2]⟩,⟨some 15,.ext (.t 11) 0,none,[3]⟩,⟨some 16,.ext (.t 11) 1,none,[3]⟩,⟨some 6,.new 47 [.nilsl],none,[]⟩,⟨none,.store 1 (.t 6) (.t 15),none,[6,4,2,0,1,2,3,4,6]⟩,⟨some
 7,.mv (.t 16),none,[5,7,0,1,2,3,4,5,6,7]⟩]) (.seq (.reg false [⟨some 17,.load true 1 (.t 6),none,[]⟩,⟨some 18,.load true 1 (.t 3),none,[]⟩,⟨some 19,.call 105 [(.t 17),(.t 18)],none,[0,1]⟩,⟨some 20,.bin .lss (.t 19) (.d
 (.int .i64 0)),none,[2]⟩]) (.cond (.t 20) (.reg true [⟨some 21,.load true 1 (.t 5),none,[]⟩,⟨some 22,.bsl 28 1 1 [(.int .u64 0)] [(0,1,(.d (.int .u64 1)))],none,[]⟩,⟨some 23,.call 108 [(.t 22)],none,[1]⟩,⟨some 24,.call
 110 [(.t 21),(.t 23)],none,[0,2,2]⟩,⟨none,.store 1 (.t 5) (.t 24),none,[3,3,0,1,2,3]⟩]) .skip))) (.seq (.reg false [⟨some 25,.load true 1 (.t 3),none,[]⟩,⟨some 26,.load true 1 (.t 5),none,[]⟩,⟨some 27,.call 110 [(.t
 25),(.t 26)],none,[0,1]⟩,⟨none,.store 1 (.t 4) (.t 27),none,[2,2,0,1,2]⟩]) .ret))))
theorem o_oz : fnOf Tryz.prog o_gu = some (o_gv, [.cell 4 true 1], 28, false) := by kernel_rfl

/-- tallymark/yu.shift -/
abbrev o_gw : FuncId := 264
def o_gx : C := (.seq (.reg false [⟨some 3,.box 47 (.t 1),none,[]⟩,⟨some 4,.mv (.d (.int .i64 0)),none,[]⟩]) (.seq (.reg false [⟨some 5,.load true 1 (.t 3),none,[]⟩,⟨some 6,.call 201 [(.t 5)],none,[0]⟩,⟨some 7,.bin .sub (.t 6) (.d
 (.int .i64 1)),none,[1]⟩,⟨some 8,.mv (.t 0),none,[]⟩,⟨some 9,.bin .mul (.d (.int .i64 2)) (.t 8),none,[3]⟩,⟨some 10,.bin .sub (.t 7) (.t 9),none,[2,4]⟩,⟨some 11,.mm true [(.d (.int .i64 0)),(.t 10)],none,[5]⟩,⟨some
 4,.mv (.t 11),none,[6,1,0,1,2,3,4,5,6]⟩]) .ret))
theorem o_p0 : fnOf Tryz.prog o_gw = some (o_gx, [.t 4], 12, false) := by kernel_rfl

/-- math/bits.Add64 -/
abbrev o_gy : FuncId := 149
theorem o_p1 : Tryz.prog.funcs[o_gy]? = some Tryz.f149 := Tryz.func149
/-- math/bits.Sub64 -/
abbrev o_gz : FuncId := 234
theorem o_p2 : Tryz.prog.funcs[o_gz]? = some Tryz.f234 := Tryz.func234
end
end Go.Proofs.YtijbgbpjionfjaaGreatDoor.Am
namespace Go.Proofs.YtijbgbpjionfjaaGreatDoor.Am
section
/-- what words stand for, the lowest first -/
def wval : List Nat → Nat
 | [] => 0
 | x :: l => x + 18446744073709551616 * wval l
def small (ws : List Nat) : Prop := ∀ x ∈ ws, x < 18446744073709551616

theorem o_1a : ∀ (a b : List Nat), wval (a ++ b) = wval a + 18446744073709551616 ^ a.length * wval b := by
 intro a
 induction a with
 | nil => intro b; simp [wval]
 | cons x a ih => intro b; simp only [List.cons_append, wval, List.length_cons]; rw [ih, Nat.pow_succ, Nat.mul_add, ← Nat.mul_assoc, Nat.mul_comm 18446744073709551616 (18446744073709551616 ^ a.length)]; omega
theorem o_p3 : ∀ n, wval (List.replicate n 0) = 0 := by
 intro n
 induction n with
 | zero => rfl
 | succ n ih => rw [List.replicate_succ, wval, ih]
theorem o_i : ∀ {ws : List Nat}, small ws → wval ws < 18446744073709551616 ^ ws.length := by
 intro ws
 induction ws with
 | nil => intro _; simp [wval]
 | cons x l ih =>
  intro h
  have h1 := h x (by simp)
  have h2 := ih (fun y hy => h y (by simp [hy]))
  rw [wval, List.length_cons, Nat.pow_succ]
  omega

/-- how many are left when the highest that are 0 are struck, of the first n -/
def trimN (ws : List Nat) : Nat → Nat
 | 0 => 0
 | n + 1 => if ws.getD n 0 = 0 then trimN ws n else n + 1
theorem o_3m (ws : List Nat) (n : Nat) (h : n < ws.length) : ws.take (n + 1) = ws.take n ++ [ws.getD n 0] := by
 rw [List.take_add_one, List.getElem?_eq_getElem h]
 simp [List.getD, List.getElem?_eq_getElem h]
theorem o_p4 (ws : List Nat) : ∀ n, n ≤ ws.length → wval (ws.take (trimN ws n)) = wval (ws.take n) := by
 intro n
 induction n with
 | zero => intro _; rfl
 | succ n ih =>
  intro h
  unfold trimN
  split
  ·rename_i h0
   rw [ih (by omega), o_3m _ _ (by omega), o_1a, h0]
   simp [wval]
  ·rfl
/-- the highest isn't 0 -/
def top1 (ws : List Nat) : Prop := ∀ k, ws.length = k + 1 → ws.getD k 0 ≠ 0
theorem o_p5 (ws : List Nat) : ∀ n, n ≤ ws.length → top1 (ws.take (trimN ws n)) := by
 intro n
 induction n with
 | zero => intro _ k hk; simp [trimN] at hk
 | succ n ih =>
  intro h
  unfold trimN
  split
  ·exact ih (by omega)
  ·rename_i h0
   intro k hk
   rw [List.length_take, Nat.min_eq_left h] at hk
   obtain rfl : n = k := by omega
   have e : (ws.take (n + 1)).getD n 0 = ws.getD n 0 := by simp [List.getD]
   rw [e]
   exact h0

theorem small.take {ws : List Nat} (h : small ws) (n : Nat) : small (ws.take n) := fun x hx => h x (List.mem_of_mem_take hx)

theorem o_h0 {ws : List Nat} (h : small ws) (ht : top1 ws) (h0 : wval ws = 0) : ws = [] := by
 rcases ws.eq_nil_or_concat with rfl | ⟨l, x, rfl⟩
 ·rfl
 ·exfalso
  have := ht l.length (by simp)
  simp at this
  simp [o_1a, wval] at h0
  rcases Nat.mul_eq_zero.1 h0.2 with h | h
  ·exact absurd h (Nat.pos_iff_ne_zero.1 (Nat.pow_pos (by decide)))
  ·exact this h

/-- words are what they stand for -/
theorem o_p6 : ∀ {a b : List Nat}, small a → small b → top1 a → top1 b → wval a = wval b → a = b := by
 intro a
 induction a with
 | nil => intro b _ hb _ tb h; exact (o_h0 hb tb h.symm).symm
 | cons x a ih =>
  intro b ha hb ta tb h
  cases b with
  | nil => exact absurd (o_h0 ha ta h) (by simp)
  | cons y b =>
   have h1 := ha x (by simp)
   have h2 := hb y (by simp)
   simp only [wval] at h
   have e : x = y := by omega
   subst e
   have e2 : wval a = wval b := by omega
   have e3 : a = b := ih (fun z hz => ha z (by simp [hz])) (fun z hz => hb z (by simp [hz])) (fun k hk => by have := ta (k + 1) (by simp [hk]); simpa using this) (fun k hk => by have := tb (k + 1) (by simp [hk]); simpa using this) e2
   rw [e3]

/-- moved up by less than a word, with what comes from below -/
def movedL (k : Nat) : Nat → List Nat → List Nat
 | c, [] => [c]
 | c, x :: l => ((x * 2 ^ k) % 18446744073709551616 + c) :: movedL k (x * 2 ^ k / 18446744073709551616) l
theorem o_3n (k : Nat) : ∀ (l : List Nat) (c : Nat), (movedL k c l).length = l.length + 1 := by
 intro l
 induction l with
 | nil => intro c; rfl
 | cons x l ih => intro c; simp [movedL, ih]
theorem o_p7 (k : Nat) : ∀ (l : List Nat) (c : Nat), wval (movedL k c l) = wval l * 2 ^ k + c := by
 intro l
 induction l with
 | nil => intro c; simp [movedL, wval]
 | cons x l ih =>
  intro c
  rw [movedL, wval, ih, wval]
  have := Nat.div_add_mod (x * 2 ^ k) 18446744073709551616
  rw [Nat.add_mul, Nat.mul_add, Nat.mul_assoc]
  omega
theorem o_p8 {k : Nat} (hk : k < 64) : ∀ {l : List Nat} {c : Nat}, small l → c < 2 ^ k → small (movedL k c l) := by
 have p64 : (18446744073709551616 : Nat) = 2 ^ (64 - k) * 2 ^ k := by rw [← Nat.pow_add, show 64 - k + k = 64 by omega]
 intro l
 induction l with
 | nil =>
  intro c _ hc x hx
  simp [movedL] at hx; subst hx
  exact Nat.lt_trans hc (by rw [show (18446744073709551616 : Nat) = 2 ^ 64 by decide]; exact Nat.pow_lt_pow_right (by decide) hk)
 | cons y l ih =>
  intro c h hc x hx
  simp only [movedL, List.mem_cons] at hx
  have hy := h y (by simp)
  rcases hx with rfl | hx
  ·rw [p64, Nat.mul_mod_mul_right]
   have : y % 2 ^ (64 - k) < 2 ^ (64 - k) := Nat.mod_lt _ (Nat.pow_pos (by decide))
   calc _ < y % 2 ^ (64 - k) * 2 ^ k + 2 ^ k := by omega
    _ = (y % 2 ^ (64 - k) + 1) * 2 ^ k := by rw [Nat.add_mul, Nat.one_mul]
    _ ≤ _ := Nat.mul_le_mul_right _ this
  ·refine ih (fun z hz => h z (by simp [hz])) ?_ x hx
   apply Nat.div_lt_of_lt_mul
   exact Nat.mul_lt_mul_of_pos_right hy (Nat.pow_pos (by decide))

/-- the same, its last word apart -/
def movedB (k : Nat) : Nat → List Nat → List Nat
 | _, [] => []
 | c, x :: l => ((x * 2 ^ k) % 18446744073709551616 + c) :: movedB k (x * 2 ^ k / 18446744073709551616) l
def movedC (k : Nat) : Nat → List Nat → Nat
 | c, [] => c
 | _, x :: l => movedC k (x * 2 ^ k / 18446744073709551616) l
theorem o_3o (k : Nat) : ∀ (l : List Nat) (c : Nat), movedL k c l = movedB k c l ++ [movedC k c l] := by
 intro l
 induction l with
 | nil => intro c; rfl
 | cons x l ih => intro c; simp [movedL, movedB, movedC, ih]
theorem o_h1 (k : Nat) (l : List Nat) (c : Nat) : (movedB k c l).length = l.length := by
 have h := o_3n k l c
 rw [o_3o, List.length_append] at h
 simpa using h
theorem o_p9 (k : Nat) (x : Nat) : ∀ (l : List Nat) (c : Nat), movedB k c (l ++ [x]) = movedB k c l ++ [(x * 2 ^ k) % 18446744073709551616 + movedC k c l] := by
 intro l
 induction l with
 | nil => intro c; rfl
 | cons y l ih => intro c; simp [movedB, movedC, ih]
theorem o_pa (k : Nat) (x : Nat) : ∀ (l : List Nat) (c : Nat), movedC k c (l ++ [x]) = x * 2 ^ k / 18446744073709551616 := by
 intro l
 induction l with
 | nil => intro c; rfl
 | cons y l ih => intro c; simp [movedC, ih]
theorem o_pb {k x : Nat} (hx : x < 18446744073709551616) : x * 2 ^ k / 18446744073709551616 < 2 ^ k := by
 apply Nat.div_lt_of_lt_mul
 exact Nat.mul_lt_mul_of_pos_right hx (Nat.pow_pos (by decide))
theorem o_pc {k : Nat} : ∀ {l : List Nat} {c : Nat}, small l → c < 2 ^ k → movedC k c l < 2 ^ k := by
 intro l
 induction l with
 | nil => intro c _ hc; exact hc
 | cons x l ih => intro c h hc; exact ih (fun z hz => h z (by simp [hz])) (o_pb (h x (by simp)))
/-- the bits of what was moved up, and what comes from below -/
theorem o_pd {k x c : Nat} (hk : k < 64) (hc : c < 2 ^ k) : c ||| (x * 2 ^ k) % 18446744073709551616 = (x * 2 ^ k) % 18446744073709551616 + c := by
 have p64 : (18446744073709551616 : Nat) = 2 ^ (64 - k) * 2 ^ k := by rw [← Nat.pow_add, show 64 - k + k = 64 by omega]
 rw [p64, Nat.mul_mod_mul_right, Nat.or_comm, Nat.mul_comm]
 exact (Nat.two_pow_add_eq_or_of_lt hc _).symm
theorem o_pe {k x : Nat} (hk : k ≤ 64) : x * 2 ^ k / 18446744073709551616 = x / 2 ^ (64 - k) := by
 have p64 : (18446744073709551616 : Nat) = 2 ^ (64 - k) * 2 ^ k := by rw [← Nat.pow_add, show 64 - k + k = 64 by omega]
 rw [p64, Nat.mul_div_mul_right _ _ (Nat.pow_pos (by decide))]

/-- so many words are there at least -/
theorem o_2j : ∀ {ws : List Nat} {m : Nat}, top1 ws → wval ws < 18446744073709551616 ^ m → ws.length ≤ m := by
 intro ws
 induction ws with
 | nil => intro m _ _; exact Nat.zero_le _
 | cons x l ih =>
  intro m ht h
  cases m with
  | zero =>
   exfalso
   rw [Nat.pow_zero] at h
   rw [wval] at h
   cases l with
   | nil =>
    have := ht 0 rfl
    simp [wval] at this h
    omega
   | cons y l =>
    have hw : wval (y :: l) = 0 := by omega
    have : (y :: l).length ≤ 0 := ih (m := 0) (fun k hk => by have := ht (k + 1) (by simp [hk]); simpa using this) (by rw [hw]; decide)
    simp at this
  | succ m =>
   rw [List.length_cons]
   have : l.length ≤ m := by
    cases l with
    | nil => exact Nat.zero_le _
    | cons y l =>
     refine ih (fun k hk => by have := ht (k + 1) (by simp [hk]); simpa using this) ?_
     rw [wval, Nat.pow_succ] at h
     omega
   omega

theorem o_h2 (f : Nat → Nat) (n : Nat) : wval ((List.range (n + 1)).map f) = wval ((List.range n).map f) + 18446744073709551616 ^ n * f n := by
 rw [List.range_succ, List.map_append, o_1a]
 simp [wval]
theorem o_1r (l : List Nat) (n : Nat) : wval (l.take (n + 1)) = wval (l.take n) + 18446744073709551616 ^ n * l.getD n 0 := by
 by_cases h : n < l.length
 ·rw [o_3m _ _ h, o_1a, List.length_take, Nat.min_eq_left (Nat.le_of_lt h)]
  simp [wval]
 ·rw [List.take_of_length_le (by omega), List.take_of_length_le (by omega)]
  simp [List.getD, List.getElem?_eq_none (show l.length ≤ n by omega)]

/-- the carry into word n -/
def carryW (a b : List Nat) : Nat → Nat
 | 0 => 0
 | n + 1 => (a.getD n 0 + b.getD n 0 + carryW a b n) / 18446744073709551616
def addW (a b : List Nat) (n : Nat) : Nat := (a.getD n 0 + b.getD n 0 + carryW a b n) % 18446744073709551616

theorem small.getD {l : List Nat} (h : small l) (n : Nat) : l.getD n 0 < 18446744073709551616 := by
 by_cases hn : n < l.length
 ·rw [List.getD, List.getElem?_eq_getElem hn]; exact h _ (List.getElem_mem hn)
 ·simp [List.getD, List.getElem?_eq_none (show l.length ≤ n by omega)]
theorem o_h3 {a b : List Nat} (ha : small a) (hb : small b) : ∀ n, carryW a b n ≤ 1 := by
 intro n
 induction n with
 | zero => exact Nat.zero_le _
 | succ n ih =>
  have h1 := ha.getD n
  have h2 := hb.getD n
  simp only [carryW]
  omega
theorem o_pf (a b : List Nat) : ∀ n, wval ((List.range n).map (addW a b)) + 18446744073709551616 ^ n * carryW a b n = wval (a.take n) + wval (b.take n) := by
 intro n
 induction n with
 | zero => simp [wval, carryW]
 | succ n ih =>
  rw [o_h2, o_1r, o_1r]
  have := Nat.div_add_mod (a.getD n 0 + b.getD n 0 + carryW a b n) 18446744073709551616
  simp only [addW, carryW]
  rw [Nat.pow_succ]
  generalize 18446744073709551616 ^ n = P at *
  generalize (a.getD n 0 + b.getD n 0 + carryW a b n) / 18446744073709551616 = q at *
  generalize (a.getD n 0 + b.getD n 0 + carryW a b n) % 18446744073709551616 = r at *
  have e : P * (18446744073709551616 * q + r) = P * a.getD n 0 + P * b.getD n 0 + P * carryW a b n := by rw [this]; simp [Nat.mul_add]
  rw [Nat.mul_add, ← Nat.mul_assoc] at e
  omega

/-- the borrow into word n -/
def borrowW (a b : List Nat) : Nat → Nat
 | 0 => 0
 | n + 1 => if a.getD n 0 < b.getD n 0 + borrowW a b n then 1 else 0
def subW (a b : List Nat) (n : Nat) : Nat := (a.getD n 0 + 18446744073709551616 - b.getD n 0 - borrowW a b n) % 18446744073709551616
theorem o_3p (a b : List Nat) : ∀ n, borrowW a b n ≤ 1 := by
 intro n
 cases n with
 | zero => exact Nat.zero_le _
 | succ n => simp only [borrowW]; split <;> omega
theorem o_pg {a b : List Nat} (ha : small a) (hb : small b) : ∀ n, wval ((List.range n).map (subW a b)) + wval (b.take n) = wval (a.take n) + 18446744073709551616 ^ n * borrowW a b n := by
 intro n
 induction n with
 | zero => simp [wval, borrowW]
 | succ n ih =>
  rw [o_h2, o_1r, o_1r]
  have h1 := ha.getD n
  have h2 := hb.getD n
  have h3 := o_3p a b n
  have e : subW a b n + b.getD n 0 + borrowW a b n = a.getD n 0 + 18446744073709551616 * borrowW a b (n + 1) := by
   simp only [subW, borrowW]
   split <;> omega
  rw [Nat.pow_succ, Nat.mul_assoc]
  generalize 18446744073709551616 ^ n = P at *
  have e2 : P * subW a b n + P * b.getD n 0 + P * borrowW a b n = P * a.getD n 0 + P * (18446744073709551616 * borrowW a b (n + 1)) := by rw [← Nat.mul_add, ← Nat.mul_add, e, Nat.mul_add]
  omega
theorem o_h4 {f : Nat → Nat} (h : ∀ i, f i < 18446744073709551616) (n : Nat) : small ((List.range n).map f) := by
 intro x hx
 obtain ⟨i, _, rfl⟩ := List.mem_map.1 hx
 exact h i
theorem o_79 (a b : List Nat) (i : Nat) : addW a b i < 18446744073709551616 := Nat.mod_lt _ (by decide)
theorem o_3q (a b : List Nat) (i : Nat) : subW a b i < 18446744073709551616 := Nat.mod_lt _ (by decide)

theorem o_ph {a b : List Nat} (ha : small a) (hb : top1 b) (h : a.length < b.length) : wval a < wval b := by
 refine Nat.lt_of_lt_of_le (o_i ha) ?_
 apply Nat.le_of_not_lt
 intro hlt
 have := o_2j hb hlt
 omega
/-- from the highest on, the first that are unlike tell -/
def cmpN (a b : List Nat) : Nat → Int
 | 0 => 0
 | n + 1 => if a.getD n 0 < b.getD n 0 then -1 else if b.getD n 0 < a.getD n 0 then 1 else cmpN a b n
theorem o_h5 {l : List Nat} (h : small l) (n : Nat) : wval (l.take n) < 18446744073709551616 ^ n := by
 have := o_i (h.take n)
 rw [List.length_take] at this
 exact Nat.lt_of_lt_of_le this (Nat.pow_le_pow_right (by decide) (Nat.min_le_left _ _))
theorem o_pi {a b : List Nat} (ha : small a) (hb : small b) : ∀ n, cmpN a b n = if wval (a.take n) < wval (b.take n) then -1 else if wval (b.take n) < wval (a.take n) then 1 else 0 := by
 intro n
 induction n with
 | zero => simp [cmpN, wval]
 | succ n ih =>
  rw [o_1r, o_1r]
  have h1 := o_h5 ha n
  have h2 := o_h5 hb n
  simp only [cmpN]
  generalize 18446744073709551616 ^ n = P at *
  generalize a.getD n 0 = x at *
  generalize b.getD n 0 = y at *
  by_cases hxy : x < y
  ·rw [if_pos hxy, if_pos]
   have : P * (x + 1) ≤ P * y := Nat.mul_le_mul_left _ hxy
   rw [Nat.mul_add] at this
   omega
  ·rw [if_neg hxy]
   by_cases hyx : y < x
   ·have : P * (y + 1) ≤ P * x := Nat.mul_le_mul_left _ hyx
    rw [Nat.mul_add] at this
    rw [if_pos hyx, if_neg (by omega), if_pos (by omega)]
   ·obtain rfl : x = y := by omega
    rw [if_neg hyx, ih]
    simp only [Nat.add_lt_add_iff_right]
/-- less, the same, more -/
def cmpZ (m n : Nat) : Int := if m < n then -1 else if n < m then 1 else 0
end
end Go.Proofs.YtijbgbpjionfjaaGreatDoor.Am
namespace Go.Proofs.YtijbgbpjionfjaaGreatDoor.Am
section
open Go.RowKit
/-- words, as data -/
def W (ws : List Nat) : D := .sl ws.length (ws.map fun x : Nat => .int .u64 x)

/-- the words of a number -/
def wordsF : Nat → Nat → List Nat
 | 0, _ => []
 | f + 1, n => if n = 0 then [] else (n % 18446744073709551616) :: wordsF f (n / 18446744073709551616)
def words (n : Nat) : List Nat := wordsF n n

theorem o_3r : ∀ (f n : Nat), n ≤ f → wval (wordsF f n) = n ∧ small (wordsF f n) ∧ top1 (wordsF f n)
 | 0, n, h => by
  obtain rfl : n = 0 := by omega
  exact ⟨rfl, by simp [small, wordsF], by intro k hk; simp [wordsF] at hk⟩
 | f + 1, n, h => by
  by_cases h0 : n = 0
  ·subst h0
   simp only [wordsF, if_true]
   exact ⟨rfl, by simp [small], by intro k hk; simp at hk⟩
  ·obtain ⟨h1, h2, h3⟩ := o_3r f (n / 18446744073709551616) (by omega)
   simp only [wordsF, if_neg h0]
   refine ⟨by simp only [wval, h1]; omega, fun x hx => ?_, fun k hk => ?_⟩
   ·rcases List.mem_cons.1 hx with rfl | hx
    ·omega
    ·exact h2 x hx
   ·cases hl : wordsF f (n / 18446744073709551616) with
    | nil =>
     rw [hl] at h1 hk
     simp [wval] at h1 hk
     subst hk
     simp; omega
    | cons y r =>
     rw [hl] at hk h3
     simp at hk
     subst hk
     have := h3 r.length rfl
     simpa using this
theorem o_4 (n : Nat) : wval (words n) = n := (o_3r n n (Nat.le_refl _)).1
theorem o_6 (n : Nat) : small (words n) := (o_3r n n (Nat.le_refl _)).2.1
theorem o_1b (n : Nat) : top1 (words n) := (o_3r n n (Nat.le_refl _)).2.2
theorem o_h6 {ws : List Nat} (h : small ws) (ht : top1 ws) : words (wval ws) = ws := o_p6 (o_6 _) h (o_1b _) ht (o_4 _)
theorem o_pj {n : Nat} : words n = [] ↔ n = 0 := by
 constructor
 ·intro h; have := o_4 n; rw [h] at this; exact this.symm
 ·rintro rfl; rfl

/-- a number -/
def natW (n : Nat) : D := W (words n)
theorem o_pk {ws : List Nat} (h : small ws) (ht : top1 ws) : natW (wval ws) = W ws := by rw [natW, o_h6 h ht]
theorem o_2k : natW 0 = .sl 0 [] := rfl
/-- how many words -/
def size (n : Nat) : Nat := (words n).length

theorem o_pl (n : Nat) (l : List D) (hl : l.length = n) (hn : n ≤ 4000000000) : Eqn Tryz.prog o_2h [.d (.sl n l)] [] (.d (.sl n l)) [] := by
 refine Eqn.pure o_3j (o_0 _) ?_
 simp only [o_2i]
 rcases Nat.eq_zero_or_pos n with rfl | h0
 ·have : l = [] := List.eq_nil_of_length_eq_zero hl
  subst this
  refine AW.empty 0 rfl ?_ ?_
  ·simp
   refine G0 ?_; try with_reducible exact tt
   refine AW.cond rfl (fun h => ?_) (fun h => ?_)
   ·refine G0 ?_; try with_reducible exact tt
    exact Sub1.nil
   ·simp at h
  ·simp
   refine G0 ?_; try with_reducible exact tt
   refine AW.cond rfl (fun h => ?_) (fun h => ?_)
   ·simp at h
   ·refine G0 ?_; try with_reducible exact tt
    exact Sub1.sl0
 ·refine G1 h0 ?_; try with_reducible exact tt
  refine AW.cond rfl (fun h => ?_) (fun h => ?_)
  ·simp at h
  ·refine G0 ?_; try with_reducible exact tt
   have h1 : ¬ n = 0 := by omega
   simp [h1, hl]
   refine need.of (by omega) ?_
   refine AW.freeze 0 1 ⟨28, l.map .d⟩ l (by simp) rfl ?_
   simp
   refine G0 ?_; try with_reducible exact tt
   have : l.take n = l := List.take_of_length_le (by omega)
   simp [this]

theorem o_j {ws : List Nat} {k : Nat} (h : k < ws.length) : ws[k] = ws.getD k 0 := by simp [List.getD, h]

theorem o_1s (ws : List Nat) (hs : small ws) (hn : ws.length ≤ 4000000000) : Eqn Tryz.prog o_dq [.d (W ws)] [] (.d (.agg [natW (wval ws)])) [] := by
 refine Eqn.pure o_n7 (o_0 _) ?_
 simp only [o_dr, W]
 refine G0 ?_; try with_reducible exact tt
 refine AW.loopT (α := Nat) 1 (fun m => [(3, .d (.int .i64 (m : Int)))]) (fun _ => []) (fun m => m ≤ ws.length ∧ trimN ws m = trimN ws ws.length) (fun m => m) ws.length ?_ ?_ ⟨Nat.le_refl _, rfl⟩ ?_ ?_ ?_
 ·simp
 ·simp
 ·simp
 ·simp
 rintro m ⟨hm, ht⟩
 simp
 have fin : ∀ k, k = trimN ws ws.length → W (ws.take k) = natW (wval ws) := by
  rintro k rfl
  have := o_pk (hs.take (trimN ws ws.length)) (o_p5 ws _ (Nat.le_refl _))
  rw [← this, o_p4 _ _ (Nat.le_refl _), List.take_length]
 cases m with
 | zero =>
  refine G0 ?_; try with_reducible exact tt
  refine AW.cond rfl (fun h => ?_) (fun h => ?_)
  ·simp at h
  refine G0 ?_; try with_reducible exact tt
  refine Sub1.of ?_
  rw [← fin 0 ht]
  simp [W]
 | succ m =>
  have hm' : m < ws.length := hm
  have hp : (0 : Int) < (m : Int) + 1 := by omega
  have e : (m : Int) + 1 - 1 = m := by omega
  have ew : IntKind.i64.wrap (m : Int) = m := w64 (by omega) (by omega)
  refine G1 (fs hp (fs e (fs ew hm'))) ?_; try with_reducible exact tt
  refine AW.cond rfl (fun h => ?_) (fun h => ?_)
  ·simp at h
   refine G1 (fs hp (fs e ew)) ?_; try with_reducible exact tt
   refine ⟨m, ⟨by omega, ?_⟩, ?_⟩
   ·rw [← ht, trimN, if_pos]
    rw [← o_j hm']; omega
   ·simp
  ·simp at h
   refine G0 ?_; try with_reducible exact tt
   have hk : m + 1 = trimN ws ws.length := by
    rw [← ht, trimN, if_neg]
    rw [← o_j hm']; omega
   refine G0 ?_; try with_reducible exact tt
   refine Sub1.of ?_
   rw [← fin _ hk]
   simp [W]
   omega

theorem o_1c (ws : List Nat) (hs : small ws) (hn : ws.length ≤ 4000000000) : Eqn Tryz.prog o_di [.d (W ws)] [] (.d (.agg [natW (wval ws)])) [] := by
 refine Eqn.pure o_n3 (o_0 _) ?_
 simp only [o_dj, W]
 refine G0 ?_; try with_reducible exact tt
 refine CallS.pu (o_pl _ (ws.map fun x : Nat => .int .u64 x) (by simp) hn) (R0 ?_); try with_reducible exact tt
 refine CallS.pu (o_1s ws hs hn) (R0 ?_); try with_reducible exact tt

theorem o_11 (n : Nat) : Eqn Tryz.prog o_dk [.d (.agg [natW n])] [] (.d (.bool (n == 0))) [] := by
 refine Eqn.pure o_n4 (o_0 _) ?_
 simp only [o_dl, natW, W]
 refine G0 ?_; try with_reducible exact tt
 refine Sub1.bool ?_
 rw [Bool.eq_iff_iff]
 simp [o_pj]

theorem o_7a {m n : Nat} (h : size m < size n) : m < n := by
 have := o_ph (o_6 m) (o_1b n) h
 rwa [o_4, o_4] at this

theorem o_1t (m n : Nat) (hm : size m ≤ 1000000) (hn : size n ≤ 1000000) : Eqn Tryz.prog o_df [.d (.agg [natW m]), .d (.agg [natW n])] [] (.d (.int .i64 (cmpZ m n))) [] := by
 refine Eqn.pure o_n1 (o_0 _) ?_
 unfold size at hm hn
 have sa := o_6 m
 have sb := o_6 n
 simp only [o_dg, natW, W]
 have hz : cmpZ m n = if (words m).length < (words n).length then -1 else if (words n).length < (words m).length then 1 else cmpN (words m) (words n) (words m).length := by
  split
  ·rename_i h; rw [cmpZ, if_pos (o_7a h)]
  ·split
   ·rename_i h; have := o_7a h; rw [cmpZ, if_neg (by omega), if_pos this]
   ·have := o_pi sa sb (words m).length
    rw [List.take_length, show (words m).length = (words n).length by omega, List.take_length, o_4, o_4] at this
    rw [show (words m).length = (words n).length by omega, this]
    rfl
 rw [hz]
 clear hz
 generalize words m = xs at *
 generalize words n = ys at *
 by_cases hl : xs.length = ys.length
 ·refine G1 hl ?_; try with_reducible exact tt
  refine AW.cond rfl (fun h => ?_) (fun h => ?_)
  ·simp [w64] at h
  refine G1 hl ?_; try with_reducible exact tt
  refine AW.loopT (α := Nat) 2 (fun m => [(6, .d (.int .i64 ((m : Int) - 1)))]) (fun _ => []) (fun m => m ≤ ys.length ∧ cmpN xs ys m = cmpN xs ys ys.length) (fun m => m) ys.length ?_ ?_ ⟨Nat.le_refl _, rfl⟩ ?_ ?_ ?_
  ·simp
  ·simp
  ·simp [hl]
  ·simp
  rintro m ⟨hm', hc⟩
  simp
  cases m with
  | zero =>
   refine G0 ?_; try with_reducible exact tt
   refine AW.cond rfl (fun h => ?_) (fun h => ?_)
   ·simp at h
   refine G0 ?_; try with_reducible exact tt
   refine Sub1.int ?_
   rw [← hc]; rfl
  | succ m =>
   have h1 : m < xs.length := by omega
   have h2 : m < ys.length := hm'
   have e : (m : Int) + 1 - 1 = m := by omega
   have ew : IntKind.i64.wrap ((m : Int) - 1) = (m : Int) - 1 := w64 (by omega) (by omega)
   rw [cmpN, ← o_j h1, ← o_j h2] at hc
   refine G1 (fs e (fs h1 h2)) ?_; try with_reducible exact tt
   refine AW.cond rfl (fun h => ?_) (fun h => ?_)
   ·refine G1 (fs e (fs h1 h2)) ?_; try with_reducible exact tt
    refine AW.cond rfl (fun h => ?_) (fun h => ?_)
    ·simp at h
     refine G0 ?_; try with_reducible exact tt
     refine Sub1.int ?_
     rw [if_pos h] at hc
     exact hc
    ·simp at h
     rw [if_neg (by omega)] at hc
     refine G0 ?_; try with_reducible exact tt
     refine AW.cond rfl (fun h => ?_) (fun h => ?_)
     ·simp at h
      refine G0 ?_; try with_reducible exact tt
      refine Sub1.int ?_
      rw [if_pos h] at hc
      exact hc
     ·simp at h
      rw [if_neg (by omega)] at hc
      refine G1 ew ?_; try with_reducible exact tt
      exact ⟨m, ⟨by omega, hc⟩, by simp⟩
   ·simp at h
 ·refine G0 ?_; try with_reducible exact tt
  refine AW.cond rfl (fun h => ?_) (fun h => ?_)
  ·refine G0 ?_; try with_reducible exact tt
   refine Sub1.int ?_
   split <;> omega
  ·simp at h
   omega
end
end Go.Proofs.YtijbgbpjionfjaaGreatDoor.Am
namespace Go.Proofs.YtijbgbpjionfjaaGreatDoor.Am
section
open Go.RowKit
/-- words, as cells -/
abbrev U (ws : List Nat) : List V := ws.map fun x : Nat => V.d (.int .u64 x)

theorem o_h7 (x y c s d : Nat) (hx : x < 18446744073709551616) (hy : y < 18446744073709551616) (hc : c ≤ 1) (hs : s < 18446744073709551616) (e : x + y + c = s + 18446744073709551616 * d) : Eqn Tryz.prog o_gy [.d (.int .u64 x), .d (.int .u64 y), .d (.int .u64 c)] [] (.tup [.d (.int .u64 s), .d (.int .u64 d)]) [] := by
 refine Eqn.extern o_p1 (by kernel_rfl) (by kernel_rfl) (by kernel_rfl) (e := add64Entry) (by kernel_rfl) rfl fun m vs h => ?_
 obtain ⟨v1, r1, rfl, h1, h⟩ := V.reps_cons'.1 h
 obtain ⟨v2, r2, rfl, h2, h⟩ := V.reps_cons'.1 h
 obtain ⟨v3, r3, rfl, h3, h⟩ := V.reps_cons'.1 h
 simp at h; subst h
 rw [V.rep_int] at h1 h2 h3
 subst h1 h2 h3
 have := run_add64 (P := Tryz.prog) x y c (by omega) (by omega) (by omega) (by omega) m.w
 refine ⟨_, this, ?_⟩
 unfold V.rep
 refine ⟨[.int .u64 (((x : Int) + y + c) % 18446744073709551616), .int .u64 (((x : Int) + y + c) / 18446744073709551616)], rfl, ?_⟩
 simp only [V.reps_cons, V.rep_int, V.reps_nil, and_true]
 constructor <;> congr 1 <;> omega

theorem o_h8 (x y c s d : Nat) (hx : x < 18446744073709551616) (hy : y < 18446744073709551616) (hc : c ≤ 1) (hs : s < 18446744073709551616) (e : x + 18446744073709551616 * d = s + y + c) : Eqn Tryz.prog o_gz [.d (.int .u64 x), .d (.int .u64 y), .d (.int .u64 c)] [] (.tup [.d (.int .u64 s), .d (.int .u64 d)]) [] := by
 refine Eqn.extern o_p2 (by kernel_rfl) (by kernel_rfl) (by kernel_rfl) (e := sub64Entry) (by kernel_rfl) rfl fun m vs h => ?_
 obtain ⟨v1, r1, rfl, h1, h⟩ := V.reps_cons'.1 h
 obtain ⟨v2, r2, rfl, h2, h⟩ := V.reps_cons'.1 h
 obtain ⟨v3, r3, rfl, h3, h⟩ := V.reps_cons'.1 h
 simp at h; subst h
 rw [V.rep_int] at h1 h2 h3
 subst h1 h2 h3
 have := run_sub64 (P := Tryz.prog) x y c hc m.w
 refine ⟨_, this, ?_⟩
 unfold V.rep
 refine ⟨[.int .u64 s, .int .u64 d], ?_, by simp only [V.reps_cons, V.rep_int, V.reps_nil, and_true]⟩
 congr 4
 ·omega
 ·congr 2
  split <;> omega

theorem o_h9 (a b : List Nat) (i : Nat) : a.getD i 0 + b.getD i 0 + carryW a b i = addW a b i + 18446744073709551616 * carryW a b (i + 1) := by
 rw [addW, carryW]; exact (Nat.mod_add_div _ _).symm
theorem o_7b {ws : List Nat} {k : Nat} (h : ¬ k < ws.length) : ws.getD k 0 = 0 := by simp [List.getD, show ws.length ≤ k by omega]
theorem o_ha (l : List D) : (V.tup (l.map .d)).plain := by
 have h1 : V.lowl 0 (l.map V.d) = true := by induction l <;> simp_all [V.lowl, V.low]
 have h2 : ∀ θ, V.rens θ (l.map V.d) = l.map V.d := fun θ => by induction l <;> simp_all [V.rens, V.ren]
 exact ⟨by simp [V.low, h1], fun θ => by simp [V.ren, h2]⟩

/-- a row that is being filled -/
def rowV (f : Nat → D) (n i : Nat) : List V := (List.range i).map (fun k => V.d (f k)) ++ List.replicate (n - i) (.d (.int .u64 0))
@[simp] theorem o_w9 (f : Nat → D) (n i : Nat) : (rowV f n i).length = i + (n - i) := by simp [rowV]
theorem out0 (n : Nat) (f : Nat → D) : List.replicate n (V.d (.int .u64 0)) = rowV f n 0 := by simp [rowV]
theorem o_hb {f : Nat → D} {n i : Nat} (h : i < n) : (rowV f n i).set i (.d (f i)) = rowV f n (i + 1) := by
 obtain ⟨k, rfl⟩ : ∃ k, n = i + k + 1 := ⟨n - i - 1, by omega⟩
 rw [rowV, rowV, List.set_append_right _ _ (by simp), List.range_succ, List.map_append, List.append_assoc]
 congr 1
 simp only [List.length_map, List.length_range, Nat.sub_self]
 rw [show i + k + 1 - i = k + 1 by omega, show i + k + 1 - (i + 1) = k by omega]
 simp [List.replicate_succ]
@[simp] theorem o_wa (n : Nat) (f : Nat → D) (k i : Nat) : V.lowl n (rowV f k i) = true := by
 have h1 : ∀ l : List D, V.lowl n (l.map V.d) = true := fun l => by induction l <;> simp_all [V.lowl, V.low]
 have : rowV f k i = ((List.range i).map f ++ List.replicate (k - i) (D.int .u64 0)).map .d := by simp [rowV]
 rw [this, h1]
@[simp] theorem o_wb (l : List V) : Subs l l ↔ True := iff_true_intro (Subs.refl l)
theorem o_pm {f : Nat → D} {n : Nat} {z : D} : (rowV f (n + 1) n).set n (.d z) = ((List.range n).map f ++ [z]).map .d := by
 rw [rowV, List.set_append_right _ _ (by simp)]
 simp
theorem o_pn {f : Nat → D} {n : Nat} : rowV f n n = ((List.range n).map f).map .d := by simp [rowV]

theorem o_1 (a b : D) : (V.tup [.d a, .d b]).plain := o_ha [a, b]
theorem o_7c (a b c : D) : (V.tup [.d a, .d b, .d c]).plain := o_ha [a, b, c]

theorem o_2l (m n : Nat) (hm : size m ≤ 1000000) (hn : size n ≤ 1000000) : Eqn Tryz.prog o_dm [.d (.agg [natW m]), .d (.agg [natW n])] [] (.d (.agg [natW (m + n)])) [] := by
 refine Eqn.pure o_n5 (o_0 _) ?_
 -- the longer one, the other one
 obtain ⟨A, B, hAB, hsA, hsB, hle, hsum, hca, hcb⟩ : ∃ A B : List Nat, (A, B) = (if (words m).length < (words n).length then (words n, words m) else (words m, words n)) ∧ small A ∧ small B ∧ B.length ≤ A.length ∧ wval A + wval B = m + n ∧ A.length ≤ 1000000 ∧ B.length ≤ 1000000 := by
  unfold size at hm hn
  by_cases h : (words m).length < (words n).length
  ·exact ⟨words n, words m, by rw [if_pos h], o_6 _, o_6 _, by omega, by rw [o_4, o_4]; omega, by omega, by omega⟩
  ·exact ⟨words m, words n, by rw [if_neg h], o_6 _, o_6 _, by omega, by rw [o_4, o_4], by omega, by omega⟩
 simp only [o_dn, natW, W]
 generalize words m = xs at *
 generalize words n = ys at *
 unfold size at hm hn
 refine AW.seq (AW.reg mix ?_)
 (simp -implicitDefEqProofs; try simp (disch := omega) only [w64, wu64])
 refine AW.cut 3 [] [(0, ⟨t_nat_Nat, [.d (W A)]⟩), (1, ⟨t_nat_Nat, [.d (W B)]⟩)] ?_ ?_ ?_ ?_
 ·simp
 ·simp
 ·refine G0 ?_; try with_reducible exact tt
  refine AW.cond rfl (fun h => ?_) (fun h => ?_)
  ·simp at h
   rw [if_pos h] at hAB
   cases hAB
   refine G0 ?_; try with_reducible exact tt
   simp [W]
  ·simp at h
   rw [if_neg (by omega)] at hAB
   cases hAB
   refine G0 ?_; try with_reducible exact tt
   simp [W]
 clear hAB hm hn
 simp [W]
 refine G0 ?_; try with_reducible exact tt

 rw [out0 _ (fun k => .int .u64 (addW A B k : Nat))]
 refine G0 ?_; try with_reducible exact tt
 refine AW.loopT (α := Nat) 4 (fun i => [(27, .d (.int .i64 (i : Int))), (6, .d (.int .u64 (carryW A B i : Nat)))]) (fun i => [(3, ⟨28, rowV (fun k => .int .u64 (addW A B k : Nat)) (A.length + 1) i⟩)]) (fun i => i ≤ A.length) (fun i => A.length - i) 0 ?_ ?_ (Nat.zero_le _) ?_ ?_ ?_
 ·simp
 ·simp
 ·simp [carryW]
 ·simp
 rintro i hi
 simp
 by_cases h : i = A.length
 ·subst h
  refine G0 ?_; try with_reducible exact tt
  refine AW.cond rfl (fun h => ?_) (fun h => ?_)
  ·simp at h
  refine AW.exit ?_
  (try (simp -implicitDefEqProofs; try simp (disch := omega) only [w64, wu64]))
  repeat (first | refine AW.seq ?_ | refine AW.block ?_)
  refine AW.reg mix ?_
  (simp -implicitDefEqProofs; try simp (disch := omega) only [w64, wu64])
  try refine need.of (by first | omega | kernel_rfl) ?_
  obtain ⟨ws, hl, hr, hv, hs⟩ : ∃ ws : List Nat, ws.length = A.length + 1 ∧ (rowV (fun k => .int .u64 (addW A B k : Nat)) (A.length + 1) A.length).set A.length (.d (.int .u64 (carryW A B A.length : Nat))) = U ws ∧ wval ws = m + n ∧ small ws := by
   refine ⟨(List.range A.length).map (addW A B) ++ [carryW A B A.length], by simp, by rw [o_pm]; simp [U], ?_, ?_⟩
   ·rw [o_1a, ← hsum]
    have := o_pf A B A.length
    rw [List.take_length, List.take_of_length_le hle] at this
    simp [wval]
    rw [← this]
   ·intro x hx
    rcases List.mem_append.1 hx with hx | hx
    ·obtain ⟨k, -, rfl⟩ := List.mem_map.1 hx; exact o_79 _ _ _
    ·simp at hx; subst hx; have := o_h3 hsA hsB A.length; omega
  rw [hr]
  refine AW.freeze 3 1 ⟨28, _⟩ (ws.map fun x : Nat => .int .u64 x) (by rfl) (by simp) ?_
  simp [← hl, List.take_of_length_le]
  refine G0 ?_; try with_reducible exact tt
  refine CallS.pu (o_1s ws hs (by omega)) (R0 ?_); try with_reducible exact tt
  refine Sub1.of ?_
  rw [hv]; rfl
 ·have hi' : i < A.length := by omega
  have hp : (i : Int) < A.length := by omega
  have hc := o_h3 hsA hsB i
  have hset := o_hb (f := fun k => .int .u64 (addW A B k : Nat)) (n := A.length + 1) (i := i) (by omega)
  have ew : IntKind.i64.wrap ((i : Int) + 1) = (i : Int) + 1 := w64 (by omega) (by omega)
  refine G1 (fs hi' hp) ?_; try with_reducible exact tt
  refine AW.cond rfl (fun h => ?_) (fun h => ?_)
  ·clear h
   by_cases hb : i < B.length
   ·have e : A[i] + B[i] + carryW A B i = addW A B i + 18446744073709551616 * carryW A B (i + 1) := by
     rw [← o_h9, o_j hi', o_j hb]
    refine G1 (fs hi' (fs hp hb)) ?_; try with_reducible exact tt
    refine AW.cond rfl (fun h => ?_) (fun h => ?_)
    ·clear h
     refine G1 (fs hi' (fs hp hb)) ?_; try with_reducible exact tt
     refine CallS.pu (o_h7 _ _ _ (addW A B i) (carryW A B (i + 1)) (hsA _ (List.getElem_mem _)) (hsB _ (List.getElem_mem _)) hc (o_79 _ _ _) e) (R1 (fs hset ew) ?_); try with_reducible exact tt
     exact ⟨i + 1, by omega, by omega, by simp [wk, ew], by simp [wkH]⟩
    ·simp [hb] at h
   ·have e : A[i] + 0 + carryW A B i = addW A B i + 18446744073709551616 * carryW A B (i + 1) := by
     rw [← o_h9, o_j hi', o_7b hb]
    refine G1 (fs hi' (fs hp hb)) ?_; try with_reducible exact tt
    refine AW.cond rfl (fun h => ?_) (fun h => ?_)
    ·simp [hb] at h
    ·clear h
     refine G1 (fs hi' (fs hp hb)) ?_; try with_reducible exact tt
     refine CallS.pu (o_h7 _ 0 _ (addW A B i) (carryW A B (i + 1)) (hsA _ (List.getElem_mem _)) (by omega) hc (o_79 _ _ _) e) (R1 (fs hset ew) ?_); try with_reducible exact tt
     exact ⟨i + 1, by omega, by omega, by simp [wk, ew], by simp [wkH]⟩
  ·simp at h
end
end Go.Proofs.YtijbgbpjionfjaaGreatDoor.Am
namespace Go.Proofs.YtijbgbpjionfjaaGreatDoor.Am
section
open Go.RowKit
theorem o_po {a b : List Nat} (ha : small a) (hb : small b) (i : Nat) : a.getD i 0 + 18446744073709551616 * borrowW a b (i + 1) = subW a b i + b.getD i 0 + borrowW a b i := by
 have h1 := ha.getD i
 have h2 := hb.getD i
 have h3 := o_3p a b i
 simp only [subW, borrowW]
 split <;> omega
theorem o_pp {a b : List Nat} (ha : small a) (hb : small b) (hl : b.length ≤ a.length) (h : wval b ≤ wval a) : wval ((List.range a.length).map (subW a b)) = wval a - wval b := by
 have h1 := o_pg ha hb a.length
 rw [List.take_length, List.take_of_length_le hl] at h1
 have h2 := o_3p a b a.length
 have h3 := o_i (o_h4 (o_3q a b) a.length)
 rw [List.length_map, List.length_range] at h3
 have : borrowW a b a.length = 0 ∨ borrowW a b a.length = 1 := by omega
 rcases this with e | e
 ·rw [e] at h1; omega
 ·rw [e] at h1; omega
theorem o_1d {m n : Nat} (h : m ≤ n) : size m ≤ size n := by
 apply Nat.le_of_not_lt
 intro hlt
 have := o_7a hlt
 omega

theorem o_hc (m n : Nat) (hm : size m ≤ 1000000) (hle : n ≤ m) : Eqn Tryz.prog o_6w [.d (.agg [natW m]), .d (.agg [natW n])] [] (.tup [.d (.agg [natW (m - n)]), .d (.int .i64 0)]) [] := by
 refine Eqn.pure o_g4 (o_1 _ _) ?_
 have hs := o_1d hle
 simp only [o_6x]
 refine G0 ?_; try with_reducible exact tt
 refine CallS.pu (o_1t m n hm (by omega)) (R0 ?_); try with_reducible exact tt
 have hc : ¬ cmpZ m n < 0 := by unfold cmpZ; split <;> (try split) <;> omega
 refine AW.cond rfl (fun h => ?_) (fun h => ?_)
 ·simp [hc] at h
 clear h
 refine G0 ?_; try with_reducible exact tt
 unfold size at hm hs
 obtain ⟨A, hA⟩ : ∃ A, A = words m := ⟨_, rfl⟩
 obtain ⟨B, hB⟩ : ∃ B, B = words n := ⟨_, rfl⟩
 have hsA : small A := hA ▸ o_6 m
 have hsB : small B := hB ▸ o_6 n
 have hvA : wval A = m := by rw [hA, o_4]
 have hvB : wval B = n := by rw [hB, o_4]
 rw [show natW m = .sl A.length (A.map fun x : Nat => .int .u64 x) by rw [hA]; rfl, show natW n = .sl B.length (B.map fun x : Nat => .int .u64 x) by rw [hB]; rfl]
 rw [← hA, ← hB] at hs
 rw [← hA] at hm
 clear hA hB
 refine G0 ?_; try with_reducible exact tt
 rw [out0 _ (fun k => .int .u64 (subW A B k : Nat))]
 refine AW.loopT (α := Nat) 4 (fun i => [(23, .d (.int .i64 (i : Int))), (7, .d (.int .u64 (borrowW A B i : Nat)))]) (fun i => [(3, ⟨28, rowV (fun k => .int .u64 (subW A B k : Nat)) A.length i⟩)]) (fun i => i ≤ A.length) (fun i => A.length - i) 0 ?_ ?_ (Nat.zero_le _) ?_ ?_ ?_
 ·simp
 ·simp
 ·simp [borrowW]
 ·simp
 rintro i hi
 simp
 by_cases h : i = A.length
 ·subst h
  refine G0 ?_; try with_reducible exact tt
  refine AW.cond rfl (fun h => ?_) (fun h => ?_)
  ·simp at h
  refine AW.exit ?_
  (try (simp -implicitDefEqProofs; try simp (disch := omega) only [w64, wu64]))
  obtain ⟨ws, hl, hr, hv, hs'⟩ : ∃ ws : List Nat, ws.length = A.length ∧ rowV (fun k => .int .u64 (subW A B k : Nat)) A.length A.length = U ws ∧ wval ws = m - n ∧ small ws := by
   refine ⟨(List.range A.length).map (subW A B), by simp, by rw [o_pn]; simp [U], ?_, o_h4 (o_3q A B) _⟩
   rw [← hvA, ← hvB]
   exact o_pp hsA hsB hs (by omega)
  rw [hr]
  refine AW.freeze 3 1 ⟨28, _⟩ (ws.map fun x : Nat => .int .u64 x) (by rfl) (by simp) ?_
  simp [← hl, List.take_of_length_le]
  refine G0 ?_; try with_reducible exact tt
  refine CallS.pu (o_1s ws hs' (by omega)) (R0 ?_); try with_reducible exact tt
  refine Sub1.of ?_
  rw [hv]
 ·have hi' : i < A.length := by omega
  have hp : (i : Int) < A.length := by omega
  have hc := o_3p A B i
  have hset := o_hb (f := fun k => .int .u64 (subW A B k : Nat)) (n := A.length) (i := i) (by omega)
  have ew : IntKind.i64.wrap ((i : Int) + 1) = (i : Int) + 1 := w64 (by omega) (by omega)
  have e := o_po hsA hsB i
  refine G1 (fs hi' hp) ?_; try with_reducible exact tt
  refine AW.cond rfl (fun h => ?_) (fun h => ?_)
  ·clear h
   by_cases hb : i < B.length
   ·rw [← o_j hi', ← o_j hb] at e
    refine G1 (fs hi' (fs hp hb)) ?_; try with_reducible exact tt
    refine AW.cond rfl (fun h => ?_) (fun h => ?_)
    ·clear h
     refine G1 (fs hi' (fs hp hb)) ?_; try with_reducible exact tt
     refine CallS.pu (o_h8 _ _ _ (subW A B i) (borrowW A B (i + 1)) (hsA _ (List.getElem_mem _)) (hsB _ (List.getElem_mem _)) hc (o_3q _ _ _) e) (R1 (fs hset ew) ?_); try with_reducible exact tt
     exact ⟨i + 1, by omega, by omega, by simp [wk, ew], by simp [wkH]⟩
    ·simp [hb] at h
   ·rw [← o_j hi', o_7b hb] at e
    refine G1 (fs hi' (fs hp hb)) ?_; try with_reducible exact tt
    refine AW.cond rfl (fun h => ?_) (fun h => ?_)
    ·simp [hb] at h
    ·clear h
     refine G1 (fs hi' (fs hp hb)) ?_; try with_reducible exact tt
     refine CallS.pu (o_h8 _ 0 _ (subW A B i) (borrowW A B (i + 1)) (hsA _ (List.getElem_mem _)) (by omega) hc (o_3q _ _ _) e) (R1 (fs hset ew) ?_); try with_reducible exact tt
     exact ⟨i + 1, by omega, by omega, by simp [wk, ew], by simp [wkH]⟩
  ·simp at h
end
end Go.Proofs.YtijbgbpjionfjaaGreatDoor.Am
namespace Go.Proofs.YtijbgbpjionfjaaGreatDoor.Am
section
open Go.RowKit
/-- words moved so far -/
def rowM (k : Nat) (A : List Nat) (i : Nat) : List Nat := movedL k 0 (A.take i) ++ List.replicate (A.length - i) 0
theorem o_pq (k : Nat) (A : List Nat) (i : Nat) (h : i ≤ A.length) : (rowM k A i).length = A.length + 1 := by
 rw [rowM, List.length_append, o_3n, List.length_take, List.length_replicate]; omega
theorem o_pr (k : Nat) (A : List Nat) : rowM k A 0 = List.replicate (A.length + 1) 0 := by simp [rowM, movedL, List.replicate_succ]
theorem o_ps (k : Nat) (A : List Nat) : rowM k A A.length = movedL k 0 A := by simp [rowM]
theorem o_pt (k : Nat) (A : List Nat) (i : Nat) (h : i < A.length) : (rowM k A i).getD i 0 = movedC k 0 (A.take i) := by
 have e : i = (movedB k 0 (A.take i)).length := by rw [o_h1, List.length_take]; omega
 rw [rowM, o_3o, List.append_assoc, List.getD, List.getElem?_append_right (by omega), show i - (movedB k 0 (A.take i)).length = 0 by omega]
 rfl
theorem o_pu (k : Nat) (A : List Nat) (i : Nat) (h : i < A.length) : ((rowM k A i).set i (A.getD i 0 * 2 ^ k % 18446744073709551616 + movedC k 0 (A.take i))).set (i + 1) (A.getD i 0 * 2 ^ k / 18446744073709551616) = rowM k A (i + 1) := by
 have e : (movedB k 0 (A.take i)).length = i := by rw [o_h1, List.length_take]; omega
 obtain ⟨r, hr⟩ : ∃ r, A.length = i + r + 1 := ⟨A.length - i - 1, by omega⟩
 rw [rowM, rowM, o_3o, o_3o, o_3m _ _ h, o_p9, o_pa, hr, show i + r + 1 - i = r + 1 by omega, show i + r + 1 - (i + 1) = r by omega, List.replicate_succ]
 simp only [List.append_assoc, List.cons_append, List.nil_append]
 rw [List.set_append_right _ _ (by omega), List.set_append_right _ _ (by omega), e]
 simp

def cellM (k : Nat) (A : List Nat) (i : Nat) : List V := U (rowM k A i)
@[simp] theorem o_pv (n : Nat) (l : List Nat) : V.lowl n (U l) = true := by induction l <;> simp_all [U, V.lowl, V.low]

set_option maxHeartbeats 1000000 in
theorem o_pw (A : List Nat) (k : Nat) (hk : k < 64) (hs : small A) (hn : A.length ≤ 1000000) : Eqn Tryz.prog o_fa [.d (W A), .d (.int .i64 k)] [] (.d (W (movedL k 0 A))) [] := by
 refine Eqn.pure o_o0 (o_0 _) ?_
 simp only [o_fb, W]
 refine G0 ?_; try with_reducible exact tt
 rw [show List.replicate (A.length + 1) (V.d (.int .u64 0)) = cellM k A 0 by rw [cellM, o_pr]; simp [U]]
 have hlow : ∀ i, V.lowl 1 (cellM k A i) = true := fun i => o_pv 1 _
 refine AW.loopT (α := Nat) 1 (fun i => [(14, .d (.int .i64 (i : Int)))]) (fun i => [(0, ⟨28, cellM k A i⟩)]) (fun i => i ≤ A.length) (fun i => A.length - i) 0 ?_ ?_ (Nat.zero_le _) ?_ ?_ ?_
 ·simp
 ·simp
 ·simp
 ·simp [hlow]
 rintro i hi
 simp
 by_cases h : i = A.length
 ·subst h
  refine G0 ?_; try with_reducible exact tt
  refine AW.cond rfl (fun h => ?_) (fun h => ?_)
  ·simp at h
  refine AW.exit ?_
  (try (simp -implicitDefEqProofs; try simp (disch := omega) only [w64, wu64]))
  have hl : (movedL k 0 A).length = A.length + 1 := o_3n _ _ _
  rw [cellM, o_ps]
  generalize movedL k 0 A = ws at hl
  refine AW.freeze 0 1 ⟨28, _⟩ (ws.map fun x : Nat => .int .u64 x) (by rfl) (by simp) ?_
  simp [← hl, List.take_of_length_le]
  refine G0 ?_; try with_reducible exact tt
 ·have hi' : i < A.length := by omega
  have hp : (i : Int) < A.length := by omega
  obtain ⟨c, y, u, hl, hq, hor, hw, hd, hset⟩ : ∃ c z u : Nat, (cellM k A i).length = A.length + 1 ∧ (cellM k A i)[i]? = some (.d (.int .u64 c)) ∧ bits BinOp.or IntKind.u64 (c : Int) (IntKind.u64.wrap ((A[i] : Int) * 2 ^ k)) = (z : Int) ∧
    True ∧ (A[i] : Int) / 2 ^ (64 - k) = (u : Int) ∧ ((cellM k A i).set i (.d (.int .u64 z))).set (i + 1) (.d (.int .u64 u)) = cellM k A (i + 1) := by
   have hl := o_pq k A i hi
   have hc := o_pc (k := k) (l := A.take i) (c := 0) (hs.take i) (Nat.two_pow_pos k)
   have hset := o_pu k A i hi'
   rw [← o_j hi'] at hset
   refine ⟨movedC k 0 (A.take i), A[i] * 2 ^ k % 18446744073709551616 + movedC k 0 (A.take i), A[i] * 2 ^ k / 18446744073709551616, by simp [cellM, U, hl], ?_, ?_, trivial, ?_, ?_⟩
   ·have := o_pt k A i hi'
    rw [List.getD, List.getElem?_eq_getElem (by omega)] at this
    rw [cellM, U, List.getElem?_map, List.getElem?_eq_getElem (by omega)]
    simp at this
    simp [this]
   ·rw [show IntKind.u64.wrap ((A[i] : Int) * 2 ^ k) = ((A[i] * 2 ^ k % 18446744073709551616 : Nat) : Int) by rw [IntKind.wrap_u64, Int.natCast_emod, Int.natCast_mul, Int.natCast_pow]; rfl]
    rw [bits_or_u64_nat _ _ (Nat.lt_of_lt_of_le hc (by rw [show (18446744073709551616 : Nat) = 2 ^ 64 by rfl]; exact Nat.pow_le_pow_right (by decide) (by omega))) (Nat.mod_lt _ (by decide)), o_pd hk hc]
   ·rw [o_pe (by omega), Int.natCast_ediv, Int.natCast_pow]; rfl
   ·rw [cellM, cellM, ← hset, U, U, List.map_set, List.map_set]
  have hn : ((64 : Int) - k).toNat = 64 - k := by omega
  have e1 : IntKind.i64.wrap ((i : Int) + 1) = (i : Int) + 1 := w64 (by omega) (by omega)
  have e2 : IntKind.i64.wrap ((64 : Int) - k) = (64 : Int) - k := w64 (by omega) (by omega)
  generalize cellM k A i = cm at hl hq hset
  refine G1 (fs hi' hp) ?_; try with_reducible exact tt
  refine AW.cond rfl (fun h => ?_) (fun h => ?_)
  ·clear h
   refine G1 (fs hi' (fs hp (fs hl (fs hq (fs hor (fs e1 (fs e2 (fs hn (fs hd hset))))))))) ?_; try with_reducible exact tt
   exact ⟨i + 1, by omega, by omega, by simp [wk], by simp [wkH, hlow]⟩
  ·simp at h
end
end Go.Proofs.YtijbgbpjionfjaaGreatDoor.Am
namespace Go.Proofs.YtijbgbpjionfjaaGreatDoor.Am
section
open Go.RowKit
set_option maxHeartbeats 1000000 in
theorem o_7d (a n : Nat) (ha : size a ≤ 1000000) (hn : n ≤ 8192) : Eqn Tryz.prog o_dw [.d (.agg [natW a]), .d (.int .i64 n)] [] (.tup [.d (.agg [natW (a * 2 ^ n)]), .d (.int .i64 0)]) [] := by
 refine Eqn.pure o_na (o_1 _ _) ?_
 simp only [o_dx, natW, W]
 have h1 : ¬ (n : Int) < 0 := by omega
 have h2 : ¬ (8192 : Int) < n := by omega
 refine G1 (fs h1 h2) ?_; try with_reducible exact tt
 refine AW.cond rfl (fun h => ?_) (fun h => ?_)
 ·simp [h1, h2] at h
 have hq : (n : Int) / 64 = (n / 64 : Nat) := rfl
 have hr : (n : Int).tmod 64 = (n % 64 : Nat) := by rw [Int.tmod_eq_emod_of_nonneg (by omega)]; rfl
 have hd : n / 64 ≤ 128 := by omega
 have hm : n % 64 < 64 := by omega
 have hv : ∀ l : List Nat, wval l = a → wval (List.replicate (n / 64) 0 ++ movedL (n % 64) 0 l) = a * 2 ^ n := by
  intro l hl
  rw [o_1a, o_p3, o_p7, List.length_replicate, hl, Nat.zero_add, Nat.add_zero]
  rw [show (18446744073709551616 : Nat) = 2 ^ 64 by rfl, ← Nat.pow_mul, Nat.mul_left_comm, ← Nat.pow_add, Nat.div_add_mod]
 replace hv := hv (words a) (o_4 a)
 have hsm : small (List.replicate (n / 64) 0 ++ movedL (n % 64) 0 (words a)) := by
  intro x hx
  rcases List.mem_append.1 hx with hx | hx
  ·rw [List.eq_of_mem_replicate hx]; omega
  ·exact o_p8 hm (o_6 a) (Nat.two_pow_pos _) x hx
 have hl := o_3n (n % 64) (words a) 0
 generalize n / 64 = q at *
 generalize n % 64 = r at *
 unfold size at ha
 refine G1 (fs hq hr) ?_; try with_reducible exact tt
 refine CallS.pu (o_pw (words a) r hm (o_6 a) (by omega)) ?_
 (try (simp -implicitDefEqProofs [W, hl]; try simp (disch := omega) only [w64, wu64]))
 repeat (first | refine AW.seq ?_ | refine AW.block ?_ | (refine AW.reg mix ?_; simp -implicitDefEqProofs [W, hl]; try simp (disch := omega) only [w64, wu64]) | (refine need.of (by first | omega | kernel_rfl) ?_) | (refine AW.fin ?_; try simp -implicitDefEqProofs [W, hl]))
 have hlen : (List.replicate q 0 ++ movedL r 0 (words a)).length = q + ((words a).length + 1) := by simp [hl]
 have hcell : List.replicate q (V.d (.int .u64 0)) ++ List.map (V.d ∘ fun x : Nat => D.int .u64 x) (movedL r 0 (words a)) = ((List.replicate q 0 ++ movedL r 0 (words a)).map fun x : Nat => D.int .u64 x).map V.d := by simp
 rw [hcell]
 generalize List.replicate q 0 ++ movedL r 0 (words a) = ws at *
 have hlen2 : q + ((words a).length + 1) = ws.length := hlen.symm
 refine CallS.pf 3 1 ⟨28, _⟩ (ws.map fun x : Nat => .int .u64 x) (o_1s ws hsm (by omega)) (by first | rfl | (simp [natW, W, hlen2, List.take_of_length_le]; done)) ?_
 (try (simp -implicitDefEqProofs [natW, W, hlen2, List.take_of_length_le]; try simp (disch := omega) only [w64, wu64]))
 repeat (first | refine AW.seq ?_ | refine AW.block ?_ | (refine AW.reg mix ?_; simp -implicitDefEqProofs [natW, W, hlen2, List.take_of_length_le]; try simp (disch := omega) only [w64, wu64]) | (refine need.of (by first | omega | kernel_rfl) ?_) | (refine AW.fin ?_; try simp -implicitDefEqProofs [natW, W, hlen2, List.take_of_length_le]))
 refine Sub1.of ?_
 rw [hv]
end
end Go.Proofs.YtijbgbpjionfjaaGreatDoor.Am
namespace Go.Proofs.YtijbgbpjionfjaaGreatDoor.Am
section
open Go.RowKit
theorem o_hd {x : Nat} (h0 : 0 < x) (h : x < 18446744073709551616) : words x = [x] := by
 have := o_h6 (ws := [x]) (by intro y hy; simp at hy; omega) (by intro k hk; simp at hk; subst hk; simp; omega)
 simpa [wval] using this
theorem o_12 {x : Nat} (h : x < 18446744073709551616) : small [x] := by intro y hy; simp at hy; omega

theorem Sub1.tup {l r : List V} (h : Subs l r) : Sub1 (.tup l) (.tup r) := fun m v k => by
 unfold V.rep at k ⊢
 obtain ⟨vs, h1, h2⟩ := k
 exact ⟨vs, h1, h m vs h2⟩
theorem Subs.cons {x y : V} {l r : List V} (h : Sub1 x y) (h' : Subs l r) : Subs (x :: l) (y :: r) := fun m vs k => by
 obtain ⟨v, r, rfl, h1, h2⟩ := V.reps_cons'.1 k
 exact V.reps_cons.2 ⟨h m v h1, h' m r h2⟩
theorem Sub1.nat0 : Sub1 (.d (.agg [.nilsl])) (.d (.agg [natW 0])) := fun m v k => by
 rw [V.rep_d] at k ⊢
 unfold D.rep at k ⊢
 obtain ⟨vs, h1, h2, h3⟩ := k
 refine ⟨vs, h1, h2, ?_⟩
 obtain ⟨u, r, rfl, h4, h5⟩ := D.reps_cons'.1 h3
 have := (V.rep_d (m := m)).1 (Sub1.nil m u (V.rep_d.2 h4))
 exact D.reps_cons.2 ⟨this, h5⟩

theorem o_3s {m n : Nat} : cmpZ m n < 0 ↔ m < n := by unfold cmpZ; split <;> (try split) <;> omega
theorem o_px (x y : Nat) (hx : x < 18446744073709551616) (h0 : 0 < y) : Eqn Tryz.prog o_f5 [.d (.int .u64 0), .d (.int .u64 x), .d (.int .u64 y)] [] (.tup [.d (.int .u64 (x / y : Nat)), .d (.int .u64 (x % y : Nat))]) [] := by
 refine Eqn.pure o_ny (o_1 _ _) ?_
 simp only [o_f6]
 have h1 : ¬ (y : Int) = 0 := by omega
 have h1' : ¬ y = 0 := by omega
 have h2 : ¬ (y : Int) ≤ 0 := by omega
 refine G1 (fs h1 (fs h2 h1')) ?_; try with_reducible exact tt
 refine AW.cond rfl (fun h => ?_) (fun h => ?_)
 ·simp [h1'] at h
 refine G1 (fs h1 (fs h2 h1')) ?_; try with_reducible exact tt
 refine AW.cond rfl (fun h => ?_) (fun h => ?_)
 ·simp [h1', h2] at h
 refine G1 (fs h1 (fs h2 h1')) ?_; try with_reducible exact tt
 refine AW.cond rfl (fun h => ?_) (fun h => ?_)
 ·have hle := Nat.div_le_self x y
  have e1 : IntKind.u64.wrap ((x : Int) / y) = (x : Int) / y := by
   rw [← Int.natCast_ediv]
   generalize x / y = q at *
   exact wu64 (by omega) (by omega)
  have e2 : (x : Int).tmod y = ((x % y : Nat) : Int) := by rw [Int.tmod_eq_emod_of_nonneg (by omega)]; rfl
  refine G1 (fs h1 (fs h2 (fs h1' (fs e1 e2)))) ?_; try with_reducible exact tt
 ·simp at h

theorem o_py (x y : Nat) (hx : x < 18446744073709551616) (h0 : 0 < y) (hy : y < 18446744073709551616) : Eqn Tryz.prog o_do [.d (.sl 1 [.int .u64 x]), .d (.int .u64 y)] [] (.tup [.d (.sl 1 [.int .u64 (x / y : Nat)]), .d (.int .u64 (x % y : Nat))]) [] := by
 refine Eqn.pure o_n6 (o_1 _ _) ?_
 simp only [o_dp]
 refine G0 ?_; try with_reducible exact tt
 refine AW.loopT (α := Nat) 1 (fun i => [(8, .d (.int .i64 ((i : Int) - 1))), (7, .d (.int .u64 (if i = 0 then (x % y : Nat) else 0)))]) (fun i => [(0, ⟨28, [.d (.int .u64 (if i = 0 then (x / y : Nat) else 0))]⟩)]) (fun i => i ≤ 1) (fun i => i) 1 ?_ ?_ (Nat.le_refl _) ?_ ?_ ?_
 ·simp
 ·simp
 ·simp
 ·simp
 rintro i hi
 simp
 cases i with
 | zero =>
  refine G0 ?_; try with_reducible exact tt
  refine AW.cond rfl (fun h => ?_) (fun h => ?_)
  ·simp at h
  refine AW.exit ?_
  (try (simp -implicitDefEqProofs; try simp (disch := omega) only [w64, wu64]))
  refine AW.freeze 0 1 ⟨28, _⟩ [.int .u64 (x / y : Nat)] (by rfl) (by simp) ?_
  simp
  refine G0 ?_; try with_reducible exact tt
 | succ i =>
  obtain rfl : i = 0 := by omega
  refine G0 ?_; try with_reducible exact tt
  refine AW.cond rfl (fun h => ?_) (fun h => ?_)
  ·refine G0 ?_; try with_reducible exact tt
   refine CallS.pu (o_px x y hx h0) (R0 ?_); try with_reducible exact tt
   exact ⟨0, by omega, rfl, by simp, by simp⟩
  ·simp at h
end
end Go.Proofs.YtijbgbpjionfjaaGreatDoor.Am
namespace Go.Proofs.YtijbgbpjionfjaaGreatDoor.Am
section
open Go.RowKit
theorem o_2m {x : Nat} (h : x < 18446744073709551616) : size x ≤ 1 := by
 rw [size]
 rcases Nat.eq_zero_or_pos x with rfl | h0
 ·simp [words, wordsF]
 ·rw [o_hd h0 h]; simp
end
end Go.Proofs.YtijbgbpjionfjaaGreatDoor.Am
namespace Go.Proofs.YtijbgbpjionfjaaGreatDoor.Am
section
open Go.RowKit
def lit1 : ByteArray := ⟨#[48, 49, 50, 51, 52, 53, 54, 55, 56, 57, 97, 98, 99, 100, 101, 102, 103, 104, 105, 106, 107, 108, 109, 110, 111, 112, 113, 114, 115, 116, 117, 118, 119, 120, 121, 122]⟩
def lit2 : ByteArray := ⟨#[48, 48, 48, 49, 48, 50, 48, 51, 48, 52, 48, 53, 48, 54, 48, 55, 48, 56, 48, 57, 49, 48, 49, 49, 49, 50, 49, 51, 49, 52, 49, 53, 49, 54, 49, 55, 49, 56, 49, 57, 50, 48, 50, 49, 50, 50, 50, 51, 50, 52, 50, 53, 50, 54, 50, 55, 50, 56, 50, 57, 51, 48, 51, 49, 51, 50, 51, 51, 51, 52, 51, 53, 51, 54, 51, 55, 51, 56, 51, 57, 52, 48, 52, 49, 52, 50, 52, 51, 52, 52, 52, 53, 52, 54, 52, 55, 52, 56, 52, 57, 53, 48, 53, 49, 53, 50, 53, 51, 53, 52, 53, 53, 53, 54, 53, 55, 53, 56, 53, 57, 54, 48, 54, 49, 54, 50, 54, 51, 54, 52, 54, 53, 54, 54, 54, 55, 54, 56, 54, 57, 55, 48, 55, 49, 55, 50, 55, 51, 55, 52, 55, 53, 55, 54, 55, 55, 55, 56, 55, 57, 56, 48, 56, 49, 56, 50, 56, 51, 56, 52, 56, 53, 56, 54, 56, 55, 56, 56, 56, 57, 57, 48, 57, 49, 57, 50, 57, 51, 57, 52, 57, 53, 57, 54, 57, 55, 57, 56, 57, 57]⟩
theorem o_pz : lit1.size = 36 := by kernel_rfl
theorem o_q0 : lit2.size = 200 := by kernel_rfl
/-- the text of a number below 100 -/
def smallS (n : Nat) : ByteArray := if n < 10 then lit1.extract n (n + 1) else lit2.extract (n * 2) (n * 2 + 2)

theorem o_q1 (n : Nat) (h : n < 100) : Eqn Tryz.prog o_fj [.d (.int .i64 n)] [] (.d (.str (smallS n))) [] := by
 refine Eqn.pure o_o4 (o_0 _) ?_
 simp only [o_fk]
 rw [show (⟨#[48, 49, 50, 51, 52, 53, 54, 55, 56, 57, 97, 98, 99, 100, 101, 102, 103, 104, 105, 106, 107, 108, 109, 110, 111, 112, 113, 114, 115, 116, 117, 118, 119, 120, 121, 122]⟩ : ByteArray) = lit1 from rfl, show (⟨#[48, 48, 48, 49, 48, 50, 48, 51, 48, 52, 48, 53, 48, 54, 48, 55, 48, 56, 48, 57, 49, 48, 49, 49, 49, 50, 49, 51, 49, 52, 49, 53, 49, 54, 49, 55, 49, 56, 49, 57, 50, 48, 50, 49, 50, 50, 50, 51, 50, 52, 50, 53, 50, 54, 50, 55, 50, 56, 50, 57, 51, 48, 51, 49, 51, 50, 51, 51, 51, 52, 51, 53, 51, 54, 51, 55, 51, 56, 51, 57, 52, 48, 52, 49, 52, 50, 52, 51, 52, 52, 52, 53, 52, 54, 52, 55, 52, 56, 52, 57, 53, 48, 53, 49, 53, 50, 53, 51, 53, 52, 53, 53, 53, 54, 53, 55, 53, 56, 53, 57, 54, 48, 54, 49, 54, 50, 54, 51, 54, 52, 54, 53, 54, 54, 54, 55, 54, 56, 54, 57, 55, 48, 55, 49, 55, 50, 55, 51, 55, 52, 55, 53, 55, 54, 55, 55, 55, 56, 55, 57, 56, 48, 56, 49, 56, 50, 56, 51, 56, 52, 56, 53, 56, 54, 56, 55, 56, 56, 56, 57, 57, 48, 57, 49, 57, 50, 57, 51, 57, 52, 57, 53, 57, 54, 57, 55, 57, 56, 57, 57]⟩ : ByteArray) = lit2 from rfl]
 have e1 := o_pz
 have e2 := o_q0
 generalize hl1 : lit1 = l1 at *
 generalize hl2 : lit2 = l2 at *
 by_cases hs : n < 10
 ·have hs' : (n : Int) < 10 := by omega
  refine G1 hs' ?_; try with_reducible exact tt
  refine AW.cond rfl (fun h => ?_) (fun h => ?_)
  ·have ew : IntKind.i64.wrap ((n : Int) + 1) = (n : Int) + 1 := w64 (by omega) (by omega)
   refine G1 (fs ew e1) ?_; try with_reducible exact tt
   refine Sub1.of ?_
   rw [smallS, if_pos hs, hl1]
  ·simp [hs] at h
 ·have hs' : ¬ (n : Int) < 10 := by omega
  refine G1 hs' ?_; try with_reducible exact tt
  refine AW.cond rfl (fun h => ?_) (fun h => ?_)
  ·simp [hs] at h
  ·have ew : IntKind.i64.wrap ((n : Int) * 2) = (n : Int) * 2 := w64 (by omega) (by omega)
   have ew2 : IntKind.i64.wrap ((n : Int) * 2 + 2) = (n : Int) * 2 + 2 := w64 (by omega) (by omega)
   refine G1 (fs ew (fs ew2 e2)) ?_; try with_reducible exact tt
   refine Sub1.of ?_
   rw [smallS, if_neg hs, hl2, show ((n : Int) * 2).toNat = n * 2 by omega, show ((n : Int) * 2 + 2).toNat = n * 2 + 2 by omega]

theorem o_q2 (n : Nat) : (smallS n).size ≤ 2 := by
 unfold smallS
 split <;> rw [ByteArray.size_extract] <;> omega
@[simp] theorem o_wc : ByteArray.size ⟨#[]⟩ = 0 := rfl
@[simp] theorem o_wd : ByteArray.size ⟨#[47]⟩ = 1 := rfl
theorem o_q3 (s : ByteArray) : s ++ (⟨#[]⟩ : ByteArray) = s := by
 exact ByteArray.append_empty
theorem o_q4 (n : Nat) (h : n < 100) : Eqn Tryz.prog o_f7 [.d (.int .u64 n), .d (.int .i64 10)] [] (.d (.str (smallS n))) [] := by
 refine Eqn.pure o_nz (o_0 _) ?_
 simp only [o_f8]
 have h1 : (n : Int) < 100 := by omega
 refine G1 h1 ?_; try with_reducible exact tt
 refine AW.cond rfl (fun h => ?_) (fun h => ?_)
 ·refine G1 h1 ?_; try with_reducible exact tt
  refine AW.cond rfl (fun h => ?_) (fun h => ?_)
  ·have e : IntKind.i64.wrap (n : Int) = n := w64 (by omega) (by omega)
   refine G1 e ?_; try with_reducible exact tt
   refine CallS.pu (o_q1 n (by omega)) (R0 ?_); try with_reducible exact tt
  ·simp [h1] at h
 ·simp at h

theorem o_q5 (n : Nat) (h : n < 100) : Eqn Tryz.prog o_ds [.d (.int .u64 n), .d (.int .i64 10)] [] (.d (.str (smallS n))) [] := by
 refine Eqn.pure o_n8 (o_0 _) ?_
 simp only [o_dt]
 refine G0 ?_; try with_reducible exact tt
 refine CallS.pu (o_q4 n h) (R0 ?_); try with_reducible exact tt

theorem o_q6 (n : Nat) (h : n < 100) : Eqn Tryz.prog o_bv [.d (.agg [natW n])] [] (.d (.str (smallS n))) [] := by
 refine Eqn.pure o_m9 (o_0 _) ?_
 simp only [o_bw]
 refine G0 ?_; try with_reducible exact tt
 refine CallS.pu (o_11 n) (R0 ?_); try with_reducible exact tt
 rcases Nat.eq_zero_or_pos n with rfl | h0
 ·refine AW.cond rfl (fun h => ?_) (fun h => ?_)
  ·refine G0 ?_; try with_reducible exact tt
   exact Sub1.of (by kernel_rfl)
  ·simp at h
 have e : natW n = .sl 1 [.int .u64 n] := by rw [natW, o_hd h0 (by omega)]; rfl
 have hz : ¬ n = 0 := by omega
 refine AW.cond rfl (fun h => ?_) (fun h => ?_)
 ·simp [hz] at h
 refine G1 e ?_; try with_reducible exact tt
 refine AW.loopT (α := Nat) 1 (fun i => [(4, .d (if i = 0 then .sl 0 [] else .sl 1 [.int .u64 n])), (3, .d (if i = 0 then .str (smallS n) else .str ⟨#[]⟩))]) (fun i => []) (fun i => i ≤ 1) (fun i => i) 1 ?_ ?_ (Nat.le_refl _) ?_ ?_ ?_
 ·simp
 ·simp
 ·simp
 ·simp
 rintro i hi
 simp
 cases i with
 | zero =>
  refine G0 ?_; try with_reducible exact tt
  refine AW.cond rfl (fun h => ?_) (fun h => ?_)
  ·simp at h
  refine G0 ?_; try with_reducible exact tt
 | succ i =>
  obtain rfl : i = 0 := by omega
  refine G0 ?_; try with_reducible exact tt
  refine AW.cond rfl (fun h => ?_) (fun h => ?_)
  ·refine G0 ?_; try with_reducible exact tt
   have hs := o_py n 1000000000000000000 (by omega) (by omega) (by omega)
   rw [show n / 1000000000000000000 = 0 by omega, show n % 1000000000000000000 = n by omega] at hs
   refine CallS.pu (hs) (R0 ?_); try with_reducible exact tt
   have ht := o_1s [0] (o_12 (by omega)) (by simp)
   rw [show wval [0] = 0 by rfl] at ht
   refine CallS.pu (ht) (R0 ?_); try with_reducible exact tt
   refine CallS.pu (o_q5 n (by omega)) ?_
   (try (simp -implicitDefEqProofs [o_2k]; try simp (disch := omega) only [w64, wu64]))
   repeat (first | refine AW.seq ?_ | refine AW.block ?_ | (refine AW.reg mix ?_; simp -implicitDefEqProofs [o_2k]; try simp (disch := omega) only [w64, wu64]) | (refine need.of (by first | omega | kernel_rfl) ?_) | (refine AW.fin ?_; try simp -implicitDefEqProofs [o_2k]))
   refine AW.cond rfl (fun h => ?_) (fun h => ?_)
   ·simp at h
   have s1 := o_q2 n
   have sn := o_q3 (smallS n)
   repeat (first | refine AW.seq ?_ | refine AW.block ?_ | (refine AW.reg mix ?_; simp -implicitDefEqProofs [o_2k, sn]; try simp (disch := omega) only [w64, wu64]) | (refine need.of (by first | omega | kernel_rfl) ?_) | (refine AW.fin ?_; try simp -implicitDefEqProofs [o_2k, sn]))
   exact ⟨0, by omega, rfl, by simp [sn], by simp⟩
  ·simp at h

theorem o_he (n : Nat) (h : n < 100) : Eqn Tryz.prog o_bt [.d (.agg [natW n, .bool false])] [] (.d (.str (smallS n))) [] := by
 refine Eqn.pure o_m8 (o_0 _) ?_
 simp only [o_bu]
 refine G0 ?_; try with_reducible exact tt
 refine AW.cond rfl (fun h => ?_) (fun h => ?_)
 ·simp at h
 refine G0 ?_; try with_reducible exact tt
 refine CallS.pu (o_q6 n (by omega)) (R0 ?_); try with_reducible exact tt
end
end Go.Proofs.YtijbgbpjionfjaaGreatDoor.Am
namespace Go.Proofs.YtijbgbpjionfjaaGreatDoor.Am
section
open Go.RowKit
/-- coins, as data -/
def BL (cs : List Bool) : D := .sl cs.length (cs.map .bool)
/-- a tape: where it is, is it dead, its coins -/
abbrev tapeO (cs : List Bool) (p : Nat) (dead : Bool) : Ob := ⟨t_tape_Tape, [.d (.int .i64 p), .d (.bool dead), .d (BL cs)]⟩

/-- a coin: is there one, which, and what the tape is then -/
def flipB (cs : List Bool) (p : Nat) (dead : Bool) : Bool := if dead ∨ p = cs.length then false else cs.getD p false
def flipE (cs : List Bool) (p : Nat) (dead : Bool) : Int := if dead ∨ p = cs.length then 8 else 0
def flipP (cs : List Bool) (p : Nat) (dead : Bool) : Nat := if dead ∨ p = cs.length then p else p + 1
def flipD (cs : List Bool) (p : Nat) (dead : Bool) : Bool := if dead ∨ p = cs.length then true else dead

theorem o_q7 (n : Nat) (l : List D) (hl : l.length = n) (hn : n ≤ 4000000) : Eqn Tryz.prog o_bm [.d (.sl n l)] [] (.d (.sl n l)) [] := by
 refine Eqn.pure o_m4 (o_0 _) ?_
 simp only [o_bn]
 rcases Nat.eq_zero_or_pos n with rfl | h0
 ·have : l = [] := List.eq_nil_of_length_eq_zero hl
  subst this
  refine AW.empty 0 rfl ?_ ?_
  ·simp
   refine G0 ?_; try with_reducible exact tt
   refine AW.cond rfl (fun h => ?_) (fun h => ?_)
   ·refine G0 ?_; try with_reducible exact tt
    exact Sub1.nil
   ·simp at h
  ·simp
   refine G0 ?_; try with_reducible exact tt
   refine AW.cond rfl (fun h => ?_) (fun h => ?_)
   ·simp at h
   ·refine G0 ?_; try with_reducible exact tt
    exact Sub1.sl0
 ·refine G1 h0 ?_; try with_reducible exact tt
  refine AW.cond rfl (fun h => ?_) (fun h => ?_)
  ·simp at h
  ·refine G0 ?_; try with_reducible exact tt
   have h1 : ¬ n = 0 := by omega
   simp [h1, hl]
   refine need.of (by omega) ?_
   refine AW.freeze 0 1 ⟨4, l.map .d⟩ l (by simp) rfl ?_
   simp
   refine G0 ?_; try with_reducible exact tt
   have : l.take n = l := List.take_of_length_le (by omega)
   simp [this]

theorem o_7e (cs : List Bool) (p : Nat) (dd : Bool) (hp : p ≤ cs.length) (hn : cs.length ≤ 4000000) : Eqn Tryz.prog o_ec [.p 0 0] [tapeO cs p dd] (.tup [.d (.bool (flipB cs p dd)), .d (.int .i64 (flipE cs p dd))]) [tapeO cs (flipP cs p dd) (flipD cs p dd)] := by
 refine Eqn.obj1 o_ni (o_1 _ _) ⟨rfl, fun _ => rfl⟩ ?_
 simp only [o_ed, tapeO, BL]
 cases dd with
 | true =>
  refine G0 ?_; try with_reducible exact tt
  refine AW.cond rfl (fun h => ?_) (fun h => ?_)
  ·refine G0 ?_; try with_reducible exact tt
   simp [flipB, flipE, flipP, flipD]
  ·simp at h
 | false =>
  by_cases h : p = cs.length
  ·subst h
   refine G0 ?_; try with_reducible exact tt
   refine AW.cond rfl (fun h => ?_) (fun h => ?_)
   ·refine G0 ?_; try with_reducible exact tt
    simp [flipB, flipE, flipP, flipD]
   ·simp at h
  ·have h1 : ¬ (p : Int) = cs.length := by omega
   have h2 : p < cs.length := by omega
   refine G1 (fs h1 h) ?_; try with_reducible exact tt
   refine AW.cond rfl (fun h => ?_) (fun h => ?_)
   ·simp [h1] at h
   ·have e1 : IntKind.i64.wrap ((p : Int) + 1) = (p : Int) + 1 := w64 (by omega) (by omega)
    have e2 : IntKind.i64.wrap ((p : Int) + 1 - 1) = (p : Int) := by rw [Int.add_sub_cancel]; exact w64 (by omega) (by omega)
    refine G1 (fs h1 (fs h2 (fs e1 e2))) ?_; try with_reducible exact tt
    have h4 : ¬ p = cs.length := by omega
    have h3 : cs[p]?.getD false = cs[p] := by simp [h2]
    simp [flipB, flipE, flipP, flipD, h4, h3]

/-- so many coins that are true -/
def halfR (cs : List Bool) : Nat → Nat → Bool → Bool × Int × Nat × Bool
 | 0, p, dd => (true, 0, p, dd)
 | k + 1, p, dd => if flipB cs p dd then halfR cs k (flipP cs p dd) (flipD cs p dd) else (false, flipE cs p dd, flipP cs p dd, flipD cs p dd)

theorem o_p {cs : List Bool} {p : Nat} {dd : Bool} (h : p ≤ cs.length) : flipP cs p dd ≤ cs.length := by
 unfold flipP; split
 ·exact h
 ·rename_i h'; rw [not_or] at h'; omega

theorem o_2n (cs : List Bool) (p : Nat) (dd : Bool) (k : Int) (hk : k ≤ 4000000) (hp : p ≤ cs.length) (hn : cs.length ≤ 4000000) :
  Eqn Tryz.prog o_fe [.p 0 0, .d (.int .i64 k)] [tapeO cs p dd] (.tup [.d (.bool (halfR cs k.toNat p dd).1), .d (.int .i64 (halfR cs k.toNat p dd).2.1)]) [tapeO cs (halfR cs k.toNat p dd).2.2.1 (halfR cs k.toNat p dd).2.2.2] := by
 refine Eqn.obj1 o_o2 (o_1 _ _) ⟨rfl, fun _ => rfl⟩ ?_
 simp only [o_ff]
 obtain ⟨K, hK, hK2⟩ : ∃ K : Nat, K = k.toNat ∧ max 0 k = (K : Int) := ⟨k.toNat, rfl, by omega⟩
 rw [← hK]
 refine G1 hK2 ?_; try with_reducible exact tt
 refine AW.loopT (α := Nat × Nat × Bool) 1 (fun s => [(10, .d (.int .i64 (s.1 : Int)))]) (fun s => [(0, tapeO cs s.2.1 s.2.2)]) (fun s => s.1 ≤ K ∧ s.2.1 ≤ cs.length ∧ halfR cs (K - s.1) s.2.1 s.2.2 = halfR cs K p dd) (fun s => K - s.1) (0, p, dd) ?_ ?_ ⟨Nat.zero_le _, hp, rfl⟩ ?_ ?_ ?_
 ·simp
 ·simp
 ·simp
 ·simp
 rintro ⟨i, q, d⟩ ⟨hi, hq, hR⟩
 simp only at hi hq hR
 rw [← hR]
 simp [-Bool.exists_bool]
 by_cases h : i = K
 ·subst h
  refine G0 ?_; try with_reducible exact tt
  refine AW.cond rfl (fun h => ?_) (fun h => ?_)
  ·simp at h
  refine G0 ?_; try with_reducible exact tt
  simp [halfR]
 ·have hlt : (i : Int) < K := by omega
  have hlt' : i < K := by omega
  obtain ⟨r, hr⟩ : ∃ r, K - i = r + 1 := ⟨K - i - 1, by omega⟩
  refine G1B (fs hlt hlt') ?_; try with_reducible exact tt
  refine AW.cond rfl (fun h => ?_) (fun h => ?_)
  ·refine G0B ?_; try with_reducible exact tt
   refine CallS.o1 0 (o_7e cs q d hq hn) (R0B ?_); try with_reducible exact tt
   refine AW.cond rfl (fun h => ?_) (fun h => ?_)
   ·have hb : flipB cs q d = false := by simpa using h
    refine G0 ?_; try with_reducible exact tt
    simp [hr, halfR, hb]
   ·have hb : flipB cs q d = true := by simpa using h
    have ew : IntKind.i64.wrap ((i : Int) + 1) = (i : Int) + 1 := w64 (by omega) (by omega)
    refine G1B ew ?_; try with_reducible exact tt
    refine ⟨i + 1, flipP cs q d, flipD cs q d, ⟨hlt', o_p hq, ?_⟩, by omega, by simp, by simp⟩
    rw [hr, halfR, if_pos hb, show K - (i + 1) = r by omega]
  ·simp [hlt'] at h
end
end Go.Proofs.YtijbgbpjionfjaaGreatDoor.Am
namespace Go.Proofs.YtijbgbpjionfjaaGreatDoor.Am
section
open Go.RowKit
theorem o_hf (d : Int) : Eqn Tryz.prog o_gc [.d (.int .i64 d)] [] (.d (.bool (decide (0 ≤ d ∧ d ≤ 8)))) [] := by
 refine Eqn.pure o_on (o_0 _) ?_
 simp only [o_gd]
 by_cases h : 0 ≤ d
 ·refine G1 h ?_; try with_reducible exact tt
 ·refine G1 h ?_; try with_reducible exact tt

def okK (k : Int) : Bool := decide (0 ≤ k ∧ k ≤ 1023)
/-- what is wrong -/
def wrongZ (d : Int) (ks : List Int) : Int := if 0 ≤ d ∧ d ≤ 8 then (if ks.all okK then 0 else 2) else 10

theorem o_hg (d : Int) (ks : List Int) (hn : ks.length ≤ 1000000) : Eqn Tryz.prog o_3k [.d (.int .i64 d), .d (.sl ks.length (ks.map fun k : Int => .int .i64 k))] [] (.d (.int .i64 (wrongZ d ks))) [] := by
 refine Eqn.pure o_oq (o_0 _) ?_
 simp only [o_gh]
 refine G0 ?_; try with_reducible exact tt
 refine CallS.pu (o_hf d) (R0 ?_); try with_reducible exact tt
 by_cases hd : 0 ≤ d ∧ d ≤ 8
 ·refine AW.cond rfl (fun h => ?_) (fun h => ?_)
  ·simp [hd] at h
  refine G0 ?_; try with_reducible exact tt
  refine AW.loopT (α := Nat) 0 (fun i => [(12, .d (.int .i64 (i : Int)))]) (fun i => []) (fun i => i ≤ ks.length ∧ (ks.take i).all okK = true) (fun i => ks.length - i) 0 ?_ ?_ ⟨Nat.zero_le _, by simp⟩ ?_ ?_ ?_
  ·simp
  ·simp
  ·simp
  ·simp
  rintro i ⟨hi, hall⟩
  simp
  by_cases h : i = ks.length
  ·subst h
   rw [List.take_length] at hall
   refine G0 ?_; try with_reducible exact tt
   refine AW.cond rfl (fun h => ?_) (fun h => ?_)
   ·simp at h
   refine G0 ?_; try with_reducible exact tt
   refine Sub1.int ?_
   rw [wrongZ, if_pos hd, if_pos hall]
  ·have hi' : i < ks.length := by omega
   have hp : (i : Int) < ks.length := by omega
   refine G1 (fs hi' hp) ?_; try with_reducible exact tt
   refine AW.cond rfl (fun h => ?_) (fun h => ?_)
   ·have hbad : okK ks[i] = false → wrongZ d ks = 2 := by
     intro hb
     rw [wrongZ, if_pos hd, if_neg]
     intro ha
     rw [List.all_eq_true] at ha
     have := ha ks[i] (List.getElem_mem _)
     rw [hb] at this; cases this
    by_cases h0 : ks[i] < 0
    ·refine G1 (fs hi' (fs hp h0)) ?_; try with_reducible exact tt
     refine AW.cond rfl (fun h => ?_) (fun h => ?_)
     ·refine G0 ?_; try with_reducible exact tt
      refine Sub1.int ?_
      rw [hbad (by simp [okK]; omega)]
     ·simp [h0] at h
    ·by_cases h1 : 1023 < ks[i]
     ·refine G1 (fs hi' (fs hp (fs h0 h1))) ?_; try with_reducible exact tt
      refine AW.cond rfl (fun h => ?_) (fun h => ?_)
      ·refine G0 ?_; try with_reducible exact tt
       refine Sub1.int ?_
       rw [hbad (by simp [okK]; omega)]
      ·simp [h0, h1] at h
     ·refine G1 (fs hi' (fs hp (fs h0 h1))) ?_; try with_reducible exact tt
      refine AW.cond rfl (fun h => ?_) (fun h => ?_)
      ·simp [h0, h1] at h
      have ew : IntKind.i64.wrap ((i : Int) + 1) = (i : Int) + 1 := w64 (by omega) (by omega)
      refine G1 ew ?_; try with_reducible exact tt
      refine ⟨i + 1, ⟨by omega, ?_⟩, by omega, by simp⟩
      rw [List.take_add_one, List.getElem?_eq_getElem hi']
      intro x hx
      rcases List.mem_append.1 hx with hx | hx
      ·exact List.all_eq_true.1 hall x hx
      ·simp at hx
       subst hx
       simp [okK]; omega
   ·simp [hi'] at h
 ·refine AW.cond rfl (fun h => ?_) (fun h => ?_)
  ·refine G0 ?_; try with_reducible exact tt
   refine Sub1.int ?_
   rw [wrongZ, if_neg hd]
  ·simp at h
   exact absurd h hd

/-- the second part of a place -/
def partV (d k : Nat) : Int := bits .and .i64 k (IntKind.i64.wrap (IntKind.i64.wrap (2 ^ d) - 1))
theorem o_3t (d k : Nat) (hd : d ≤ 8) (hk : k ≤ 1023) : Eqn Tryz.prog o_gi [.d (.int .i64 d), .d (.int .i64 k)] [] (.tup [.d (.int .i64 (k / 2 ^ d : Nat)), .d (.int .i64 (partV d k))]) [] := by
 refine Eqn.pure o_or (o_1 _ _) ?_
 simp only [o_gj]
 refine G0 ?_; try with_reducible exact tt
 exact Sub1.of rfl

theorem o_hh (d k : Int) : Eqn Tryz.prog o_3k [.d (.int .i64 d), .d (.sl 1 [.int .i64 k])] [] (.d (.int .i64 (wrongZ d [k]))) [] := o_hg d [k] (by simp)
theorem o_q8 (d k j : Int) : Eqn Tryz.prog o_3k [.d (.int .i64 d), .d (.sl 2 [.int .i64 k, .int .i64 j])] [] (.d (.int .i64 (wrongZ d [k, j]))) [] := o_hg d [k, j] (by simp)

theorem o_q9 {d k : Int} {ks : List Int} (h : wrongZ d (k :: ks) = 0) : 0 ≤ d ∧ d ≤ 8 ∧ 0 ≤ k ∧ k ≤ 1023 := by
 unfold wrongZ at h
 split at h
 ·split at h
  ·rename_i h1 h2
   simp [okK] at h2
   omega
  ·omega
 ·omega

/-- what a step at another place is here -/
def againR (cs : List Bool) (d k j : Int) : Bool × Int × Nat × Bool := if wrongZ d [k, j] = 0 then halfR cs (k.toNat / 2 ^ d.toNat - j.toNat / 2 ^ d.toNat) 0 false else (false, wrongZ d [k, j], 0, false)

/-- a step at a place -/
def stepR (cs : List Bool) (d k : Int) : Bool × Int × Nat × Bool := if wrongZ d [k] = 0 then halfR cs (k.toNat / 2 ^ d.toNat) 0 false else (false, wrongZ d [k], 0, false)
end
end Go.Proofs.YtijbgbpjionfjaaGreatDoor.Am
namespace Go.Proofs.YtijbgbpjionfjaaGreatDoor.Am
section
open Go.RowKit
theorem o_qa (m n : Nat) (hm : size m ≤ 1000000) (hn : size n ≤ 1000000) (h : m < n) : Eqn Tryz.prog o_6w [.d (.agg [natW m]), .d (.agg [natW n])] [] (.tup [.d (.agg [.nilsl]), .d (.int .i64 2)]) [] := by
 refine Eqn.pure o_g4 (o_1 _ _) ?_
 simp only [o_6x]
 refine G0 ?_; try with_reducible exact tt
 refine CallS.pu (o_1t m n hm hn) (R0 ?_); try with_reducible exact tt
 have hc : cmpZ m n = -1 := by unfold cmpZ; rw [if_pos h]
 refine AW.cond rfl (fun h => ?_) (fun h => ?_)
 ·refine G0 ?_; try with_reducible exact tt
 ·simp [hc] at h

theorem o_hi (p q : Nat) (hp : size p ≤ 1000000) (hq : size q ≤ 1000000) : Eqn Tryz.prog o_g0 [.d (.agg [natW p]), .d (.agg [natW q])] [] (.d (.bool (decide (0 < q ∧ p ≤ q)))) [] := by
 refine Eqn.pure o_of (o_0 _) ?_
 simp only [o_g1]
 by_cases h : q = 0
 ·subst h
  refine G0 ?_; try with_reducible exact tt
  refine CallS.pu (o_11 0) (R0 ?_); try with_reducible exact tt
 ·have h0 : (q == 0) = false := by simpa using h
  have hc : decide (cmpZ p q ≤ 0) = decide (0 < q ∧ p ≤ q) := by
   unfold cmpZ
   split
   ·simp; omega
   ·split
    ·simp; omega
    ·simp; omega
  refine G0 ?_; try with_reducible exact tt
  refine CallS.pu (o_11 q) (R1 (fs h0 h) ?_); try with_reducible exact tt
  refine CallS.pu (o_1t p q hp hq) (R1 (fs h0 h) ?_); try with_reducible exact tt
  try simp [hc]

/-- so many coins as it takes: p by q -/
def ratioR (cs : List Bool) (q : Nat) : Nat → Nat → Nat → Bool → Bool × Int × Nat × Bool
 | 0, _, p, dd => (true, 0, p, dd)
 | f + 1, r, p, dd =>
  if r < q then
   if flipE cs p dd = 0 then
    if flipB cs p dd ≠ decide (q ≤ r + r) ∨ (if q ≤ r + r then r + r - q else r + r) = 0 then (decide (q ≤ r + r) && !flipB cs p dd, 0, flipP cs p dd, flipD cs p dd)
    else ratioR cs q f (if q ≤ r + r then r + r - q else r + r) (flipP cs p dd) (flipD cs p dd)
   else (false, flipE cs p dd, flipP cs p dd, flipD cs p dd)
  else (true, 0, p, dd)
/-- of p by q -/
def ratioA (cs : List Bool) (a q : Nat) (p : Nat) (dd : Bool) : Bool × Int × Nat × Bool := if a = 0 then (false, 0, p, dd) else ratioR cs q (cs.length + 1 - p) a p dd

theorem o_qb (cs : List Bool) (a q p : Nat) (dd : Bool) (ha : a ≤ q) (h0 : 0 < q) (hq : q < 9223372036854775808) (hp : p ≤ cs.length) (hn : cs.length ≤ 4000000) :
  Eqn Tryz.prog o_g2 [.p 0 0, .d (.agg [natW a]), .d (.agg [natW q])] [tapeO cs p dd] (.tup [.d (.bool (ratioA cs a q p dd).1), .d (.int .i64 (ratioA cs a q p dd).2.1)]) [tapeO cs (ratioA cs a q p dd).2.2.1 (ratioA cs a q p dd).2.2.2] := by
 refine Eqn.obj1 o_og (o_1 _ _) ⟨rfl, fun _ => rfl⟩ ?_
 simp only [o_g3]
 have sz : ∀ {x : Nat}, x < 18446744073709551616 → size x ≤ 1000000 := fun hx => Nat.le_trans (o_2m hx) (by omega)
 have hg := o_hi a q (sz (by omega)) (sz (by omega))
 rw [show decide (0 < q ∧ a ≤ q) = true by simp; omega] at hg
 refine G0B ?_; try with_reducible exact tt
 refine CallS.pu (hg) (R0B ?_); try with_reducible exact tt
 refine AW.cond rfl (fun h => ?_) (fun h => ?_)
 ·simp at h
 clear h
 refine G0B ?_; try with_reducible exact tt
 refine CallS.pu (o_11 a) (R0B ?_); try with_reducible exact tt
 refine AW.cond rfl (fun h => ?_) (fun h => ?_)
 ·have ha0 : a = 0 := by simpa using h
  subst ha0
  refine G0B ?_; try with_reducible exact tt
  simp [ratioA]
 have ha0 : ¬ a = 0 := by simpa using h
 clear h
 rw [ratioA, if_neg ha0]
 obtain ⟨R, hR⟩ : ∃ R, R = ratioR cs q (cs.length + 1 - p) a p dd := ⟨_, rfl⟩
 rw [← hR]
 refine G0B ?_; try with_reducible exact tt
 refine AW.loopS (α := Nat × Nat × Bool) 4 3 (fun s => [(8, .p 3 0)]) (fun s => [(0, tapeO cs s.2.1 s.2.2), (3, ⟨47, [.d (natW s.1)]⟩)]) (fun s => s.1 ≤ q ∧ s.2.1 ≤ cs.length ∧ R = ratioR cs q (cs.length + 1 - s.2.1) s.1 s.2.1 s.2.2) (fun s => cs.length + 1 - s.2.1) (a, p, dd) ?_ ?_ ?_ ?_ ⟨ha, hp, hR⟩ ?_ ?_ ?_
 ·simp
 ·simp
 ·simp
 ·simp
 ·simp
 ·simp
 rintro ⟨r, z, d⟩ ⟨hr, hz, hR⟩
 simp only at hr hz hR
 simp [-Bool.exists_bool]
 obtain ⟨f, hf⟩ : ∃ f, cs.length + 1 - z = f + 1 := ⟨cs.length - z, by omega⟩
 rw [hf, ratioR] at hR
 refine G0B ?_; try with_reducible exact tt
 refine CallS.pu (o_1t r q (sz (by omega)) (sz (by omega))) (R0B ?_); try with_reducible exact tt
 refine AW.cond rfl (fun h => ?_) (fun h => ?_)
 ·have hlt : r < q := by simpa [o_3s] using h
  clear h
  rw [if_pos hlt] at hR
  refine G0B ?_; try with_reducible exact tt
  refine CallS.o1 0 (o_7e cs z d hz hn) (R0B ?_); try with_reducible exact tt
  by_cases hE : flipE cs z d = 0
  ·have hE2 : flipP cs z d = z + 1 ∧ z < cs.length := by
    unfold flipE at hE
    unfold flipP
    split at hE
    ·omega
    ·rename_i h'
     rw [if_neg h']
     rw [not_or] at h'
     omega
   rw [if_pos hE] at hR
   have ha2 := o_2l r r (sz (by omega)) (sz (by omega))
   generalize flipB cs z d = b at *
   generalize flipD cs z d = d' at *
   rw [hE2.1] at hR ⊢
   have hz' := hE2.2
   clear hE2
   refine AW.cond rfl (fun h => ?_) (fun h => ?_)
   ·simp [hE] at h
   clear h
   refine G0B ?_; try with_reducible exact tt
   refine CallS.pu (ha2) (R0B ?_); try with_reducible exact tt
   by_cases hd : q ≤ r + r
   ·rw [if_pos hd, show decide (q ≤ r + r) = true by simp [hd]] at hR
    refine CallS.pu (o_hc (r + r) q (sz (by omega)) hd) (R0B ?_); try with_reducible exact tt
    refine AW.cond rfl (fun h => ?_) (fun h => ?_)
    ·clear h
     cases b with
     | true =>
      simp only [ne_eq, not_true_eq_false, not_false_eq_true, Bool.true_eq_false, Bool.false_eq_true, reduceCtorEq, false_or, true_or, if_true] at hR
      refine G0B ?_; try with_reducible exact tt
      refine CallS.pu (o_11 (r + r - q)) (R0B ?_); try with_reducible exact tt
      by_cases hz0 : r + r - q = 0
      ·rw [if_pos hz0] at hR
       refine AW.cond rfl (fun h => ?_) (fun h => ?_)
       ·refine G0B ?_; try with_reducible exact tt
        simp [hR]
       ·first | (simp [hz0] at h; done) | (exfalso; simp at h; omega)
      ·rw [if_neg hz0] at hR
       refine AW.cond rfl (fun h => ?_) (fun h => ?_)
       ·first | (simp [hz0] at h; done) | (exfalso; simp at h; omega)
       ·clear h
        refine G0B ?_; try with_reducible exact tt
        refine ⟨r + r - q, z + 1, d', 5, by omega, by omega, ⟨by omega, by omega, by rw [show cs.length + 1 - (z + 1) = f by omega]; exact hR⟩, by omega, ?_⟩
        simp [swT, swH, sw, Ob.sw, V.ren, V.rens, tapeO]
     | false =>
      simp only [ne_eq, not_true_eq_false, not_false_eq_true, Bool.true_eq_false, Bool.false_eq_true, reduceCtorEq, false_or, true_or, if_true] at hR
      refine G0B ?_; try with_reducible exact tt
      refine AW.cond rfl (fun h => ?_) (fun h => ?_)
      ·refine G0B ?_; try with_reducible exact tt
       simp [hR]
      ·simp at h
    ·simp at h
   ·rw [if_neg hd, show decide (q ≤ r + r) = false by simp [hd]] at hR
    refine CallS.pu (o_qa (r + r) q (sz (by omega)) (sz (by omega)) (by omega)) (R0B ?_); try with_reducible exact tt
    refine AW.cond rfl (fun h => ?_) (fun h => ?_)
    ·simp at h
    ·clear h
     cases b with
     | false =>
      simp only [ne_eq, not_true_eq_false, not_false_eq_true, Bool.true_eq_false, Bool.false_eq_true, reduceCtorEq, false_or, true_or, if_true] at hR
      refine G0B ?_; try with_reducible exact tt
      refine CallS.pu (o_11 (r + r)) (R0B ?_); try with_reducible exact tt
      by_cases hz0 : r + r = 0
      ·rw [if_pos hz0] at hR
       refine AW.cond rfl (fun h => ?_) (fun h => ?_)
       ·refine G0B ?_; try with_reducible exact tt
        simp [hR]
       ·first | (simp [hz0] at h; done) | (exfalso; simp at h; omega)
      ·rw [if_neg hz0] at hR
       refine AW.cond rfl (fun h => ?_) (fun h => ?_)
       ·first | (simp [hz0] at h; done) | (exfalso; simp at h; omega)
       ·clear h
        refine G0B ?_; try with_reducible exact tt
        refine ⟨r + r, z + 1, d', 5, by omega, by omega, ⟨by omega, by omega, by rw [show cs.length + 1 - (z + 1) = f by omega]; exact hR⟩, by omega, ?_⟩
        simp [swT, swH, sw, Ob.sw, V.ren, V.rens, tapeO]
     | true =>
      simp only [ne_eq, not_true_eq_false, not_false_eq_true, Bool.true_eq_false, Bool.false_eq_true, reduceCtorEq, false_or, true_or, if_true] at hR
      refine G0B ?_; try with_reducible exact tt
      refine AW.cond rfl (fun h => ?_) (fun h => ?_)
      ·refine G0B ?_; try with_reducible exact tt
       simp [hR]
      ·simp at h
  ·rw [if_neg hE] at hR
   refine AW.cond rfl (fun h => ?_) (fun h => ?_)
   ·refine G0B ?_; try with_reducible exact tt
    simp [hR]
   ·simp [hE] at h
 ·have hlt : ¬ r < q := by simpa [o_3s] using h
  rw [if_neg hlt] at hR
  refine AW.exit ?_
  (try (simp -implicitDefEqProofs [-Bool.exists_bool]; try simp (disch := omega) only [w64, wu64]))
  refine G0B ?_; try with_reducible exact tt
  simp [hR]
end
end Go.Proofs.YtijbgbpjionfjaaGreatDoor.Am
namespace Go.Proofs.YtijbgbpjionfjaaGreatDoor.Am
section
open Go.RowKit
theorem o_hj {cs : List Bool} {q : Nat} : ∀ (f r p : Nat) (dd : Bool), p ≤ cs.length → (ratioR cs q f r p dd).2.2.1 ≤ cs.length
 | 0, _, _, _, h => h
 | f + 1, r, p, dd, h => by
  rw [ratioR]
  generalize (if q ≤ r + r then r + r - q else r + r) = r3
  split
  ·split
   ·split
    ·exact o_p h
    ·exact o_hj f _ _ _ (o_p h)
   ·exact o_p h
  ·exact h
theorem o_7f {cs : List Bool} {a q p : Nat} {dd : Bool} (h : p ≤ cs.length) : (ratioA cs a q p dd).2.2.1 ≤ cs.length := by
 rw [ratioA]
 split
 ·exact h
 ·exact o_hj _ _ _ _ h

/-- so many of these -/
def powerR (cs : List Bool) (a q : Nat) : Nat → Nat → Bool → Bool × Int × Nat × Bool
 | 0, p, dd => (true, 0, p, dd)
 | k + 1, p, dd => if (ratioA cs a q p dd).1 then powerR cs a q k (ratioA cs a q p dd).2.2.1 (ratioA cs a q p dd).2.2.2 else ratioA cs a q p dd

theorem o_qc (cs : List Bool) (a q p : Nat) (dd : Bool) (k : Int) (ha : a ≤ q) (h0 : 0 < q) (hq : q < 9223372036854775808) (hk : k ≤ 4000000) (hp : p ≤ cs.length) (hn : cs.length ≤ 4000000) :
  Eqn Tryz.prog o_fy [.p 0 0, .d (.agg [natW a]), .d (.agg [natW q]), .d (.int .i64 k)] [tapeO cs p dd] (.tup [.d (.bool (powerR cs a q k.toNat p dd).1), .d (.int .i64 (powerR cs a q k.toNat p dd).2.1)]) [tapeO cs (powerR cs a q k.toNat p dd).2.2.1 (powerR cs a q k.toNat p dd).2.2.2] := by
 refine Eqn.obj1 o_oe (o_1 _ _) ⟨rfl, fun _ => rfl⟩ ?_
 simp only [o_fz]
 have sz : ∀ {x : Nat}, x < 18446744073709551616 → size x ≤ 1000000 := fun hx => Nat.le_trans (o_2m hx) (by omega)
 have hg := o_hi a q (sz (by omega)) (sz (by omega))
 rw [show decide (0 < q ∧ a ≤ q) = true by simp; omega] at hg
 obtain ⟨K, hK, hK2⟩ : ∃ K : Nat, K = k.toNat ∧ max 0 k = (K : Int) := ⟨k.toNat, rfl, by omega⟩
 rw [← hK]
 obtain ⟨R, hR⟩ : ∃ R, R = powerR cs a q K p dd := ⟨_, rfl⟩
 rw [← hR]
 refine G0B ?_; try with_reducible exact tt
 refine CallS.pu (hg) (R0B ?_); try with_reducible exact tt
 refine AW.cond rfl (fun h => ?_) (fun h => ?_)
 ·simp at h
 clear h
 refine G1B hK2 ?_; try with_reducible exact tt
 refine AW.loopT (α := Nat × Nat × Bool) 3 (fun s => [(18, .d (.int .i64 (s.1 : Int)))]) (fun s => [(0, tapeO cs s.2.1 s.2.2)]) (fun s => s.1 ≤ K ∧ s.2.1 ≤ cs.length ∧ R = powerR cs a q (K - s.1) s.2.1 s.2.2) (fun s => K - s.1) (0, p, dd) ?_ ?_ ⟨Nat.zero_le _, hp, hR⟩ ?_ ?_ ?_
 ·simp
 ·simp
 ·simp
 ·simp
 rintro ⟨i, z, d⟩ ⟨hi, hz, hR⟩
 simp only at hi hz hR
 simp [-Bool.exists_bool]
 by_cases h : i = K
 ·subst h
  rw [Nat.sub_self, powerR] at hR
  refine G0B ?_; try with_reducible exact tt
  refine AW.cond rfl (fun h => ?_) (fun h => ?_)
  ·simp at h
  refine AW.exit ?_
  (try (simp -implicitDefEqProofs [-Bool.exists_bool]; try simp (disch := omega) only [w64, wu64]))
  refine G0B ?_; try with_reducible exact tt
  simp [hR]
 ·have hlt : (i : Int) < K := by omega
  have hlt' : i < K := by omega
  obtain ⟨r, hr⟩ : ∃ r, K - i = r + 1 := ⟨K - i - 1, by omega⟩
  rw [hr, powerR] at hR
  have hra := o_qb cs a q z d ha h0 hq hz hn
  have hle := o_7f (cs := cs) (a := a) (q := q) (dd := d) hz
  generalize ratioA cs a q z d = S at *
  obtain ⟨S1, S2, S3, S4⟩ := S
  simp only at hra hR hle
  refine G1B (fs hlt hlt') ?_; try with_reducible exact tt
  refine AW.cond rfl (fun h => ?_) (fun h => ?_)
  ·clear h
   refine G0B ?_; try with_reducible exact tt
   refine CallS.o1 0 (hra) (R0B ?_); try with_reducible exact tt
   refine AW.cond rfl (fun h => ?_) (fun h => ?_)
   ·have hb : S1 = false := by simpa using h
    subst hb
    refine G0B ?_; try with_reducible exact tt
    simp [hR]
   ·have hb : S1 = true := by simpa using h
    subst hb
    rw [if_pos rfl] at hR
    have ew : IntKind.i64.wrap ((i : Int) + 1) = (i : Int) + 1 := w64 (by omega) (by omega)
    refine G1B ew ?_; try with_reducible exact tt
    refine ⟨i + 1, S3, S4, ⟨hlt', hle, by rw [show K - (i + 1) = r by omega]; exact hR⟩, by omega, by simp, by simp⟩
  ·simp [hlt'] at h
end
end Go.Proofs.YtijbgbpjionfjaaGreatDoor.Am
namespace Go.Proofs.YtijbgbpjionfjaaGreatDoor.Am
section
open Go.RowKit
theorem o_hk (d : Int) : Eqn Tryz.prog o_fr [.d (.int .i64 d)] [] (.d (.bool (decide (1 ≤ d ∧ d ≤ 4096)))) [] := by
 refine Eqn.pure o_oa (o_0 _) ?_
 simp only [o_fs]
 by_cases h : 1 ≤ d
 ·refine G1 h ?_; try with_reducible exact tt
 ·refine G1 h ?_; try with_reducible exact tt

/-- what is wrong -/
def wrongM (d : Int) (ks : List Int) : Int := if 1 ≤ d ∧ d ≤ 4096 then (if ks.all okK then 0 else 2) else 10

theorem o_hl (d : Int) (ks : List Int) (hn : ks.length ≤ 1000000) : Eqn Tryz.prog o_6v [.d (.int .i64 d), .d (.sl ks.length (ks.map fun k : Int => .int .i64 k))] [] (.d (.int .i64 (wrongM d ks))) [] := by
 refine Eqn.pure o_oc (o_0 _) ?_
 simp only [o_fv]
 refine G0 ?_; try with_reducible exact tt
 refine CallS.pu (o_hk d) (R0 ?_); try with_reducible exact tt
 by_cases hd : 1 ≤ d ∧ d ≤ 4096
 ·refine AW.cond rfl (fun h => ?_) (fun h => ?_)
  ·simp [hd] at h
  refine G0 ?_; try with_reducible exact tt
  refine AW.loopT (α := Nat) 0 (fun i => [(12, .d (.int .i64 (i : Int)))]) (fun i => []) (fun i => i ≤ ks.length ∧ (ks.take i).all okK = true) (fun i => ks.length - i) 0 ?_ ?_ ⟨Nat.zero_le _, by simp⟩ ?_ ?_ ?_
  ·simp
  ·simp
  ·simp
  ·simp
  rintro i ⟨hi, hall⟩
  simp
  by_cases h : i = ks.length
  ·subst h
   rw [List.take_length] at hall
   refine G0 ?_; try with_reducible exact tt
   refine AW.cond rfl (fun h => ?_) (fun h => ?_)
   ·simp at h
   refine G0 ?_; try with_reducible exact tt
   refine Sub1.int ?_
   rw [wrongM, if_pos hd, if_pos hall]
  ·have hi' : i < ks.length := by omega
   have hp : (i : Int) < ks.length := by omega
   refine G1 (fs hi' hp) ?_; try with_reducible exact tt
   refine AW.cond rfl (fun h => ?_) (fun h => ?_)
   ·have hbad : okK ks[i] = false → wrongM d ks = 2 := by
     intro hb
     rw [wrongM, if_pos hd, if_neg]
     intro ha
     rw [List.all_eq_true] at ha
     have := ha ks[i] (List.getElem_mem _)
     rw [hb] at this; cases this
    by_cases h0 : ks[i] < 0
    ·refine G1 (fs hi' (fs hp h0)) ?_; try with_reducible exact tt
     refine AW.cond rfl (fun h => ?_) (fun h => ?_)
     ·refine G0 ?_; try with_reducible exact tt
      refine Sub1.int ?_
      rw [hbad (by simp [okK]; omega)]
     ·simp [h0] at h
    ·by_cases h1 : 1023 < ks[i]
     ·refine G1 (fs hi' (fs hp (fs h0 h1))) ?_; try with_reducible exact tt
      refine AW.cond rfl (fun h => ?_) (fun h => ?_)
      ·refine G0 ?_; try with_reducible exact tt
       refine Sub1.int ?_
       rw [hbad (by simp [okK]; omega)]
      ·simp [h0, h1] at h
     ·refine G1 (fs hi' (fs hp (fs h0 h1))) ?_; try with_reducible exact tt
      refine AW.cond rfl (fun h => ?_) (fun h => ?_)
      ·simp [h0, h1] at h
      have ew : IntKind.i64.wrap ((i : Int) + 1) = (i : Int) + 1 := w64 (by omega) (by omega)
      refine G1 ew ?_; try with_reducible exact tt
      refine ⟨i + 1, ⟨by omega, ?_⟩, by omega, by simp⟩
      rw [List.take_add_one, List.getElem?_eq_getElem hi']
      intro x hx
      rcases List.mem_append.1 hx with hx | hx
      ·exact List.all_eq_true.1 hall x hx
      ·simp at hx
       subst hx
       simp [okK]; omega
   ·simp [hi'] at h
 ·refine AW.cond rfl (fun h => ?_) (fun h => ?_)
  ·refine G0 ?_; try with_reducible exact tt
   refine Sub1.int ?_
   rw [wrongM, if_neg hd]
  ·simp at h
   exact absurd h hd

theorem o_qd (d k : Int) : Eqn Tryz.prog o_6v [.d (.int .i64 d), .d (.sl 1 [.int .i64 k])] [] (.d (.int .i64 (wrongM d [k]))) [] := o_hl d [k] (by simp)
theorem o_qe {d k : Int} {ks : List Int} (h : wrongM d (k :: ks) = 0) : 1 ≤ d ∧ d ≤ 4096 ∧ 0 ≤ k ∧ k ≤ 1023 := by
 unfold wrongM at h
 split at h
 ·split at h
  ·rename_i h1 h2
   simp [okK] at h2
   omega
  ·omega
 ·omega

theorem o_13 (x : Nat) : wval [x] = x := by simp [wval]
theorem o_hm (cs : List Bool) (a : Nat) (k : Int) (p : Nat) (dd : Bool) (h1 : 1 ≤ a) (h2 : a ≤ 4096) (hk : k ≤ 4000000) (hp : p ≤ cs.length) (hn : cs.length ≤ 4000000) :
  Eqn Tryz.prog o_fw [.p 0 0, .d (.int .i64 a), .d (.int .i64 k)] [tapeO cs p dd] (.tup [.d (.bool (powerR cs a (a + 1) k.toNat p dd).1), .d (.int .i64 (powerR cs a (a + 1) k.toNat p dd).2.1)]) [tapeO cs (powerR cs a (a + 1) k.toNat p dd).2.2.1 (powerR cs a (a + 1) k.toNat p dd).2.2.2] := by
 refine Eqn.obj1 o_od (o_1 _ _) ⟨rfl, fun _ => rfl⟩ ?_
 simp only [o_fx]
 have hh := o_qc cs a (a + 1) p dd k (by omega) (by omega) (by omega) hk hp hn
 generalize powerR cs a (a + 1) k.toNat p dd = R at *
 obtain ⟨R1, R2, R3, R4⟩ := R
 simp only at hh ⊢
 have e1 : IntKind.u64.wrap (a : Int) = a := wu64 (by omega) (by omega)
 have e2 : IntKind.i64.wrap ((a : Int) + 1) = ((a + 1 : Nat) : Int) := w64 (by omega) (by omega)
 have e3 : IntKind.u64.wrap ((a + 1 : Nat) : Int) = ((a + 1 : Nat) : Int) := wu64 (by omega) (by omega)
 obtain ⟨b, hb⟩ : ∃ b, b = a + 1 := ⟨_, rfl⟩
 rw [← hb] at hh e2 e3
 refine G1B e1 ?_; try with_reducible exact tt
 refine CallS.pf 1 1 ⟨28, _⟩ [.int .u64 (a : Nat)] (o_1c [a] (o_12 (by omega)) (by simp)) (by first | rfl | (simp [e2, e3, o_13, -Bool.exists_bool]; done)) ?_
 (try (simp -implicitDefEqProofs [e2, e3, o_13, -Bool.exists_bool]; try simp (disch := omega) only [w64, wu64]))
 repeat (first | refine AW.seq ?_ | refine AW.block ?_ | (refine AW.reg mix ?_; simp -implicitDefEqProofs [e2, e3, o_13, -Bool.exists_bool]; try simp (disch := omega) only [w64, wu64]) | (refine need.of (by first | omega | kernel_rfl) ?_) | (refine AW.fin ?_; try simp -implicitDefEqProofs [e2, e3, o_13, -Bool.exists_bool]))
 refine CallS.pf 2 1 ⟨28, _⟩ [.int .u64 (b : Nat)] (o_1c [b] (o_12 (by omega)) (by simp)) (by first | rfl | (simp [o_13, -Bool.exists_bool]; done)) ?_
 (try (simp -implicitDefEqProofs [o_13, -Bool.exists_bool]; try simp (disch := omega) only [w64, wu64]))
 repeat (first | refine AW.seq ?_ | refine AW.block ?_ | (refine AW.reg mix ?_; simp -implicitDefEqProofs [o_13, -Bool.exists_bool]; try simp (disch := omega) only [w64, wu64]) | (refine need.of (by first | omega | kernel_rfl) ?_) | (refine AW.fin ?_; try simp -implicitDefEqProofs [o_13, -Bool.exists_bool]))
 refine CallS.o1 0 (hh) (R0B ?_); try with_reducible exact tt

/-- a step at a place -/
def stepM (cs : List Bool) (d k : Int) (p : Nat) (dd : Bool) : Bool × Int × Nat × Bool := if wrongM d [k] = 0 then powerR cs d.toNat (d.toNat + 1) k.toNat p dd else (false, wrongM d [k], p, dd)

theorem o_qf (cs : List Bool) (d k : Int) (p : Nat) (dd : Bool) (hp : p ≤ cs.length) (hn : cs.length ≤ 4000000) :
  Eqn Tryz.prog o_ft [.p 0 0, .d (.int .i64 d), .d (.int .i64 k)] [tapeO cs p dd] (.tup [.d (.bool (stepM cs d k p dd).1), .d (.int .i64 (stepM cs d k p dd).2.1)]) [tapeO cs (stepM cs d k p dd).2.2.1 (stepM cs d k p dd).2.2.2] := by
 refine Eqn.obj1 o_ob (o_1 _ _) ⟨rfl, fun _ => rfl⟩ ?_
 simp only [o_fu]
 refine G0B ?_; try with_reducible exact tt
 refine CallS.pf 1 1 ⟨3, _⟩ [.int .i64 k] (o_qd d k) (by first | rfl | (simp [-Bool.exists_bool]; done)) (R0B ?_); try with_reducible exact tt
 by_cases h : wrongM d [k] = 0
 ·obtain ⟨h1, h2, h3, h4⟩ := o_qe h
  obtain ⟨d, rfl⟩ : ∃ n : Nat, d = n := ⟨d.toNat, by omega⟩
  rw [stepM, if_pos h]
  have hh := o_hm cs d k p dd (by omega) (by omega) (by omega) hp hn
  simp only [Int.toNat_natCast]
  generalize powerR cs d (d + 1) k.toNat p dd = R at *
  obtain ⟨R1, R2, R3, R4⟩ := R
  simp only at hh ⊢
  refine AW.cond rfl (fun h => ?_) (fun h => ?_)
  ·simp [*] at h
  clear h
  refine G0B ?_; try with_reducible exact tt
  refine CallS.o1 0 (hh) (R0B ?_); try with_reducible exact tt
 ·rw [stepM, if_neg h]
  refine AW.cond rfl (fun h => ?_) (fun h => ?_)
  ·refine G0B ?_; try with_reducible exact tt
  ·simp [*] at h
end
end Go.Proofs.YtijbgbpjionfjaaGreatDoor.Am
namespace Go.Proofs.YtijbgbpjionfjaaGreatDoor.Am
section
open Go.RowKit
theorem o_qg : MethOK Tryz.prog 245 "tallymark/chain.good" o_6s := fun v w => by kernel_rfl
theorem o_qh : MethOK Tryz.prog 246 "tallymark/chain.good" o_6z := fun v w => by kernel_rfl
theorem o_qi : MethOK Tryz.prog 247 "tallymark/chain.good" o_75 := fun v w => by kernel_rfl
theorem o_qj : MethOK Tryz.prog 245 "tallymark/chain.step" o_6t := fun v w => by kernel_rfl
theorem o_qk : MethOK Tryz.prog 246 "tallymark/chain.step" o_70 := fun v w => by kernel_rfl
theorem o_ql : MethOK Tryz.prog 247 "tallymark/chain.step" o_76 := fun v w => by kernel_rfl

theorem o_qm (a : Int) : Eqn Tryz.prog o_6s [.d (.int .i64 a)] [] (.d (.bool (decide (1 ≤ a ∧ a ≤ 4096)))) [] := by
 refine Eqn.pure o_o7 (o_0 _) ?_
 simp only [o_fo]
 refine G0 ?_; try with_reducible exact tt
 refine CallS.pu (o_hk a) (R0 ?_); try with_reducible exact tt
theorem o_qn (a : Int) : Eqn Tryz.prog o_6z [.d (.int .i64 a)] [] (.d (.bool (decide (0 ≤ a ∧ a ≤ 8)))) [] := by
 refine Eqn.pure o_oj (o_0 _) ?_
 simp only [o_g8]
 refine G0 ?_; try with_reducible exact tt
 refine CallS.pu (o_hf a) (R0 ?_); try with_reducible exact tt

/-- what a kind does -/
def kindD (k a : Int) : D := if k = 1 then .ifc 245 (.int .i64 a) else if k = 2 then .ifc 246 (.int .i64 a) else if k = 3 then .ifc 247 (.int .i64 a) else .nilifc
theorem o_1u (k a w : Int) : Eqn Tryz.prog o_dz [.d (.agg [.int .i64 k, .int .i64 a, .int .i64 w])] [] (.d (kindD k a)) [] := by
 refine Eqn.pure o_nb (o_0 _) ?_
 simp only [o_e0, kindD]
 refine G0 ?_; try with_reducible exact tt
 refine AW.cond rfl (fun h => ?_) (fun h => ?_)
 ·have hk : k = 1 := by simpa using h
  subst hk
  refine G0 ?_; try with_reducible exact tt
 have h1 : ¬ k = 1 := by simpa using h
 clear h
 refine G1 h1 ?_; try with_reducible exact tt
 refine AW.cond rfl (fun h => ?_) (fun h => ?_)
 ·have hk : k = 2 := by simpa using h
  subst hk
  refine G0 ?_; try with_reducible exact tt
 have h2 : ¬ k = 2 := by simpa using h
 clear h
 refine G1 (fs h1 h2) ?_; try with_reducible exact tt
 refine AW.cond rfl (fun h => ?_) (fun h => ?_)
 ·have hk : k = 3 := by simpa using h
  subst hk
  refine G0 ?_; try with_reducible exact tt
 have h3 : ¬ k = 3 := by simpa using h
 clear h
 refine G1 (fs h1 (fs h2 h3)) ?_; try with_reducible exact tt
end
end Go.Proofs.YtijbgbpjionfjaaGreatDoor.Am
namespace Go.Proofs.YtijbgbpjionfjaaGreatDoor.Am
section
/-- how many bits -/
def bitsN (n : Nat) : Nat := if n = 0 then 0 else Nat.log2 n + 1
theorem o_3u (n : Nat) : n < 2 ^ bitsN n := by
 unfold bitsN
 split
 ·omega
 ·exact Nat.lt_log2_self
theorem o_1e {n k : Nat} (h : n < 2 ^ k) : bitsN n ≤ k := by
 unfold bitsN
 split
 ·omega
 ·rename_i h0
  have := (Nat.log2_lt h0).2 h
  omega
/-- the next block's number -/
def moreY (s t : Nat) : Nat := t + (if t / 2 ^ s * 2 ^ s < t then t / 2 ^ s + 1 else t / 2 ^ s)
def shiftY (s t : Nat) : Nat := bitsN t - 1 - 2 * s
structure Pl where
 x : Nat
 shift : Nat
 value : Nat
 reply : Nat
def nextY (s : Nat) (p : Pl) : Pl := if p.reply ≤ p.value + 2 ^ p.shift then ⟨p.x + 1, shiftY s (moreY s p.reply), p.value + 2 ^ p.shift, moreY s p.reply⟩ else ⟨p.x, p.shift, p.value + 2 ^ p.shift, p.reply⟩
def placeY (s : Nat) : Nat → Pl
 | 0 => ⟨0, 0, 0, 2 ^ (2 * s)⟩
 | k + 1 => nextY s (placeY s k)

theorem o_3v {n k : Nat} (h : 2 ^ k ≤ n) : bitsN n = k + bitsN (n / 2 ^ k) := by
 have hp := Nat.two_pow_pos k
 have hq : 0 < n / 2 ^ k := Nat.div_pos h hp
 have h1 := o_3u (n / 2 ^ k)
 have h2 : 2 ^ (bitsN (n / 2 ^ k) - 1) ≤ n / 2 ^ k := by
  unfold bitsN
  rw [if_neg (by omega), Nat.add_sub_cancel]
  exact Nat.log2_self_le (by omega)
 have h3 : 0 < bitsN (n / 2 ^ k) := by unfold bitsN; rw [if_neg (by omega)]; omega
 apply Nat.le_antisymm
 ·apply o_1e
  rw [Nat.pow_add, Nat.mul_comm]
  exact (Nat.div_lt_iff_lt_mul hp).1 h1
 ·apply Nat.le_of_not_lt
  intro hlt
  have h4 := o_3u n
  have h5 : 2 ^ bitsN n ≤ 2 ^ (k + (bitsN (n / 2 ^ k) - 1)) := Nat.pow_le_pow_right (by omega) (by omega)
  rw [Nat.pow_add] at h5
  have h6 : 2 ^ k * 2 ^ (bitsN (n / 2 ^ k) - 1) ≤ n := by
   rw [Nat.mul_comm]; exact Nat.le_trans (Nat.mul_le_mul_right _ h2) (Nat.div_mul_le_self _ _)
  omega
theorem o_qo {s t : Nat} (hs : 1 ≤ s) (ht : 2 ≤ t) : moreY s t ≤ 2 * t := by
 unfold moreY
 have h2 : 2 ≤ 2 ^ s := by
  calc 2 = 2 ^ 1 := by decide
   _ ≤ 2 ^ s := Nat.pow_le_pow_right (by decide) hs
 have h1 : t / 2 ^ s ≤ t / 2 := Nat.div_le_div_left h2 (by decide)
 split <;> omega

theorem o_qp {s : Nat} (hs : 1 ≤ s) : ∀ k, 4 ≤ (placeY s k).reply ∧ (placeY s k).reply ≤ 2 ^ (2 * s + k) ∧ (placeY s k).shift ≤ 2 * s + k ∧ (placeY s k).value ≤ k * 2 ^ (2 * s + k) ∧ (placeY s k).x ≤ k := by
 intro k
 induction k with
 | zero =>
  simp only [placeY]
  have : 2 ^ 2 ≤ 2 ^ (2 * s) := Nat.pow_le_pow_right (by decide) (by omega)
  rw [Nat.add_zero]
  omega
 | succ k ih =>
  obtain ⟨h1, h2, h3, h4, h5⟩ := ih
  have hp : 2 ^ (2 * s + (k + 1)) = 2 * 2 ^ (2 * s + k) := by rw [show 2 * s + (k + 1) = 2 * s + k + 1 by omega, Nat.pow_succ]; omega
  have hm := o_qo hs (show 2 ≤ (placeY s k).reply by omega)
  have hm4 : (placeY s k).reply ≤ moreY s (placeY s k).reply := by unfold moreY; omega
  have hsh : 2 ^ (placeY s k).shift ≤ 2 ^ (2 * s + k) := Nat.pow_le_pow_right (by decide) h3
  have hv : (placeY s k).value + 2 ^ (placeY s k).shift ≤ (k + 1) * 2 ^ (2 * s + (k + 1)) := by
   rw [hp, Nat.add_mul, Nat.one_mul, Nat.mul_left_comm]
   generalize 2 ^ (2 * s + k) = P at *
   generalize k * P = Q at *
   omega
  have hb : bitsN (moreY s (placeY s k).reply) ≤ 2 * s + (k + 1) + 1 := o_1e (by
   rw [Nat.pow_succ, hp]
   have : 0 < 2 ^ (2 * s + k) := Nat.pow_pos (by decide)
   omega)
  simp only [placeY, nextY]
  split
  ·refine ⟨by simp only; omega, by simp only; omega, ?_, hv, by simp only; omega⟩
   simp only [shiftY]
   omega
  ·refine ⟨by simp only; omega, by simp only; omega, by simp only; omega, hv, by simp only; omega⟩
end
end Go.Proofs.YtijbgbpjionfjaaGreatDoor.Am
namespace Go.Proofs.YtijbgbpjionfjaaGreatDoor.Am
section
set_option maxRecDepth 10000
/-- words moved down by less than a word -/
def shrL (k : Nat) : List Nat → List Nat
 | [] => []
 | x :: l => (x / 2 ^ k + l.getD 0 0 * 2 ^ (64 - k) % 18446744073709551616) :: shrL k l
theorem o_u (k : Nat) : ∀ l, (shrL k l).length = l.length
 | [] => rfl
 | x :: l => by simp [shrL, o_u k l]
theorem o_qq : ∀ l : List Nat, small l → wval l % 18446744073709551616 = l.getD 0 0
 | [], _ => rfl
 | x :: l, h => by
  have := h x (by simp)
  simp only [wval, List.getD_cons_zero]
  omega
theorem o_hn {k : Nat} (hk : k < 64) : ∀ l : List Nat, small l → wval (shrL k l) = wval l / 2 ^ k ∧ small (shrL k l)
 | [], _ => ⟨by simp [shrL, wval], by simp [shrL, small]⟩
 | x :: l, h => by
  have hl : small l := fun y hy => h y (by simp [hy])
  obtain ⟨h1, h2⟩ := o_hn hk l hl
  have hx := h x (by simp)
  have hhd := o_qq l hl
  have hB : (18446744073709551616 : Nat) = 2 ^ k * 2 ^ (64 - k) := by rw [← Nat.pow_add, show k + (64 - k) = 64 by omega]
  have hp := Nat.two_pow_pos k
  have hp' := Nat.two_pow_pos (64 - k)
  -- the part that comes from above
  have h3 : l.getD 0 0 * 2 ^ (64 - k) % 18446744073709551616 = wval l % 2 ^ k * 2 ^ (64 - k) := by
   rw [hB, Nat.mul_mod_mul_right, ← hhd]
   congr 1
   rw [hB, Nat.mod_mul_right_mod]
  have h4 : wval (x :: l) / 2 ^ k = x / 2 ^ k + 2 ^ (64 - k) * wval l := by
   rw [wval]
   conv => lhs; rw [hB]
   rw [Nat.mul_assoc, Nat.add_mul_div_left _ _ hp]
  have h5 : 2 ^ (64 - k) * wval l = 18446744073709551616 * (wval l / 2 ^ k) + wval l % 2 ^ k * 2 ^ (64 - k) := by
   conv => lhs; rw [← Nat.div_add_mod (wval l) (2 ^ k)]
   rw [Nat.mul_add, ← Nat.mul_assoc, Nat.mul_comm (2 ^ (64 - k)) (2 ^ k), ← hB, Nat.mul_comm (2 ^ (64 - k))]
  have h6 : x / 2 ^ k < 2 ^ (64 - k) := by
   rw [Nat.div_lt_iff_lt_mul hp, Nat.mul_comm, ← hB]; exact hx
  have h7 : wval l % 2 ^ k * 2 ^ (64 - k) + 2 ^ (64 - k) ≤ 18446744073709551616 := by
   have := Nat.mul_le_mul_right (2 ^ (64 - k)) (Nat.succ_le_of_lt (Nat.mod_lt (wval l) hp))
   rw [Nat.succ_mul, ← hB] at this
   exact this
  refine ⟨?_, ?_⟩
  ·rw [h4, h5, shrL, wval, h1, h3]
   omega
  ·intro y hy
   rw [shrL, List.mem_cons] at hy
   rcases hy with rfl | hy
   ·rw [h3]; omega
   ·exact h2 y hy
theorem o_ho : ∀ (q : Nat) (l : List Nat), small l → wval (l.drop q) = wval l / 18446744073709551616 ^ q
 | 0, l, _ => by simp
 | q + 1, [], _ => by simp [wval]
 | q + 1, x :: l, h => by
  have hx := h x (by simp)
  rw [List.drop_succ_cons, o_ho q l (fun y hy => h y (by simp [hy])), wval, Nat.pow_succ, Nat.mul_comm (18446744073709551616 ^ q), ← Nat.div_div_eq_div_mul]
  congr 1
  omega
end
end Go.Proofs.YtijbgbpjionfjaaGreatDoor.Am
namespace Go.Proofs.YtijbgbpjionfjaaGreatDoor.Am
section
open Go.RowKit
theorem o_qr : ∀ i : Nat, i < 256 → (([0, 1, 2, 2, 3, 3, 3, 3, 4, 4, 4, 4, 4, 4, 4, 4, 5, 5, 5, 5, 5, 5, 5, 5, 5, 5, 5, 5, 5, 5, 5, 5, 6, 6, 6, 6, 6, 6, 6, 6, 6, 6, 6, 6, 6, 6, 6, 6, 6, 6, 6, 6, 6, 6, 6, 6, 6, 6, 6, 6, 6, 6, 6, 6, 7, 7, 7, 7, 7, 7, 7, 7, 7, 7, 7, 7, 7, 7, 7, 7, 7, 7, 7, 7, 7, 7, 7, 7, 7, 7, 7, 7, 7, 7, 7, 7, 7, 7, 7, 7, 7, 7, 7, 7, 7, 7, 7, 7, 7, 7, 7, 7, 7, 7, 7, 7, 7, 7, 7, 7, 7, 7, 7, 7, 7, 7, 7, 7, 8, 8, 8, 8, 8, 8, 8, 8, 8, 8, 8, 8, 8, 8, 8, 8, 8, 8, 8, 8, 8, 8, 8, 8, 8, 8, 8, 8, 8, 8, 8, 8, 8, 8, 8, 8, 8, 8, 8, 8, 8, 8, 8, 8, 8, 8, 8, 8, 8, 8, 8, 8, 8, 8, 8, 8, 8, 8, 8, 8, 8, 8, 8, 8, 8, 8, 8, 8, 8, 8, 8, 8, 8, 8, 8, 8, 8, 8, 8, 8, 8, 8, 8, 8, 8, 8, 8, 8, 8, 8, 8, 8, 8, 8, 8, 8, 8, 8, 8, 8, 8, 8, 8, 8, 8, 8, 8, 8, 8, 8, 8, 8, 8, 8, 8, 8, 8, 8, 8, 8, 8, 8, 8, 8, 8, 8, 8, 8] : List UInt8)[i]?.getD 0).toNat = bitsN i := by
 have h : ((List.range 256).all fun i => (([0, 1, 2, 2, 3, 3, 3, 3, 4, 4, 4, 4, 4, 4, 4, 4, 5, 5, 5, 5, 5, 5, 5, 5, 5, 5, 5, 5, 5, 5, 5, 5, 6, 6, 6, 6, 6, 6, 6, 6, 6, 6, 6, 6, 6, 6, 6, 6, 6, 6, 6, 6, 6, 6, 6, 6, 6, 6, 6, 6, 6, 6, 6, 6, 7, 7, 7, 7, 7, 7, 7, 7, 7, 7, 7, 7, 7, 7, 7, 7, 7, 7, 7, 7, 7, 7, 7, 7, 7, 7, 7, 7, 7, 7, 7, 7, 7, 7, 7, 7, 7, 7, 7, 7, 7, 7, 7, 7, 7, 7, 7, 7, 7, 7, 7, 7, 7, 7, 7, 7, 7, 7, 7, 7, 7, 7, 7, 7, 8, 8, 8, 8, 8, 8, 8, 8, 8, 8, 8, 8, 8, 8, 8, 8, 8, 8, 8, 8, 8, 8, 8, 8, 8, 8, 8, 8, 8, 8, 8, 8, 8, 8, 8, 8, 8, 8, 8, 8, 8, 8, 8, 8, 8, 8, 8, 8, 8, 8, 8, 8, 8, 8, 8, 8, 8, 8, 8, 8, 8, 8, 8, 8, 8, 8, 8, 8, 8, 8, 8, 8, 8, 8, 8, 8, 8, 8, 8, 8, 8, 8, 8, 8, 8, 8, 8, 8, 8, 8, 8, 8, 8, 8, 8, 8, 8, 8, 8, 8, 8, 8, 8, 8, 8, 8, 8, 8, 8, 8, 8, 8, 8, 8, 8, 8, 8, 8, 8, 8, 8, 8, 8, 8, 8, 8, 8, 8] : List UInt8)[i]?.getD 0).toNat == bitsN i) = true := by kernel_rfl
 intro i hi
 have := List.all_eq_true.1 h i (List.mem_range.2 hi)
 exact eq_of_beq this

set_option maxHeartbeats 1000000 in
theorem o_7g (x : Nat) (hx : x < 18446744073709551616) : Eqn Tryz.prog o_ea [.d (.int .u64 x)] [] (.d (.int .i64 (bitsN x))) [] := by
 refine Eqn.pure o_nh (o_0 _) ?_
 simp only [o_eb]
 obtain ⟨x1, n1, h1, hx1, hn1, e1⟩ : ∃ x1 n1 : Nat, (x1, n1) = (if 4294967296 ≤ x then (x / 4294967296, 32) else (x, 0)) ∧ x1 < 4294967296 ∧ n1 ≤ 32 ∧ bitsN x = n1 + bitsN x1 := by
  by_cases h : 4294967296 ≤ x
  ·exact ⟨x / 4294967296, 32, by rw [if_pos h], by omega, by omega, o_3v (k := 32) h⟩
  ·exact ⟨x, 0, by rw [if_neg h], by omega, by omega, by omega⟩
 obtain ⟨x2, n2, h2, hx2, hn2, e2⟩ : ∃ x2 n2 : Nat, (x2, n2) = (if 65536 ≤ x1 then (x1 / 65536, n1 + 16) else (x1, n1)) ∧ x2 < 65536 ∧ n2 ≤ 48 ∧ bitsN x = n2 + bitsN x2 := by
  by_cases h : 65536 ≤ x1
  ·exact ⟨x1 / 65536, n1 + 16, by rw [if_pos h], by omega, by omega, by have := o_3v (k := 16) h; rw [e1, this]; simp; omega⟩
  ·exact ⟨x1, n1, by rw [if_neg h], by omega, by omega, by omega⟩
 obtain ⟨x3, n3, h3, hx3, hn3, e3⟩ : ∃ x3 n3 : Nat, (x3, n3) = (if 256 ≤ x2 then (x2 / 256, n2 + 8) else (x2, n2)) ∧ x3 < 256 ∧ n3 ≤ 56 ∧ bitsN x = n3 + bitsN x3 := by
  by_cases h : 256 ≤ x2
  ·exact ⟨x2 / 256, n2 + 8, by rw [if_pos h], by omega, by omega, by have := o_3v (k := 8) h; rw [e2, this]; simp; omega⟩
  ·exact ⟨x2, n2, by rw [if_neg h], by omega, by omega, by omega⟩
 rw [e3]
 clear e1 e2 e3
 refine AW.seq (AW.reg mix ?_)
 (simp -implicitDefEqProofs; try simp (disch := omega) only [w64, wu64])
 refine AW.cut 0 [(0, .d (.int .u64 x1)), (2, .d (.int .i64 n1))] [] (by simp) (by simp) ?_ ?_
 ·have hd : (x : Int) / 4294967296 = (x / 4294967296 : Nat) := rfl
  refine G0 ?_; try with_reducible exact tt
  refine AW.cond rfl (fun h => ?_) (fun h => ?_)
  ·rw [if_pos (by simp at h; omega)] at h1
   cases h1
   generalize x / 4294967296 = q at *
   refine G1 hd ?_; try with_reducible exact tt
  ·rw [if_neg (by simp at h; omega)] at h1
   cases h1
   refine G0 ?_; try with_reducible exact tt
 clear h1 hx
 simp
 refine AW.cut 0 [(0, .d (.int .u64 x2)), (2, .d (.int .i64 n2))] [] (by simp) (by simp) ?_ ?_
 ·have hd : (x1 : Int) / 65536 = (x1 / 65536 : Nat) := rfl
  have ew : IntKind.i64.wrap ((n1 : Int) + 16) = ((n1 + 16 : Nat) : Int) := w64 (by omega) (by omega)
  refine G0 ?_; try with_reducible exact tt
  refine AW.cond rfl (fun h => ?_) (fun h => ?_)
  ·rw [if_pos (by simp at h; omega)] at h2
   cases h2
   generalize x1 / 65536 = q at *
   refine G1 (fs hd ew) ?_; try with_reducible exact tt
  ·rw [if_neg (by simp at h; omega)] at h2
   cases h2
   refine G0 ?_; try with_reducible exact tt
 clear h2 hx1 hn1
 simp
 refine AW.cut 0 [(0, .d (.int .u64 x3)), (2, .d (.int .i64 n3))] [] (by simp) (by simp) ?_ ?_
 ·have hd : (x2 : Int) / 256 = (x2 / 256 : Nat) := rfl
  have ew : IntKind.i64.wrap ((n2 : Int) + 8) = ((n2 + 8 : Nat) : Int) := w64 (by omega) (by omega)
  refine G0 ?_; try with_reducible exact tt
  refine AW.cond rfl (fun h => ?_) (fun h => ?_)
  ·rw [if_pos (by simp at h; omega)] at h3
   cases h3
   generalize x2 / 256 = q at *
   refine G1 (fs hd ew) ?_; try with_reducible exact tt
  ·rw [if_neg (by simp at h; omega)] at h3
   cases h3
   refine G0 ?_; try with_reducible exact tt
 clear h3 hx2 hn2
 simp
 have ew1 : IntKind.u8.wrap (x3 : Int) = x3 := by rw [show IntKind.u8.wrap (x3 : Int) = (x3 : Int) % 256 from rfl]; omega
 have hb := o_qr x3 hx3
 have hB : bitsN x3 ≤ 8 := o_1e (by omega)
 have ew2 : IntKind.i64.wrap (bitsN x3 : Int) = bitsN x3 := w64 (by omega) (by omega)
 have ew3 : IntKind.i64.wrap ((n3 : Int) + bitsN x3) = (n3 : Int) + bitsN x3 := w64 (by omega) (by omega)
 refine AW.seq (AW.reg mix ?_)
 simp [ew1, hb, ew2, ew3]
 refine need.of (Nat.lt_of_lt_of_le hx3 (by decide)) ?_
 refine G0 ?_; try with_reducible exact tt

theorem o_qs {l : List Nat} {x : Nat} (hs : small l) (h0 : 0 < x) : bitsN (wval (l ++ [x])) = 64 * l.length + bitsN x := by
 have hp : (18446744073709551616 : Nat) ^ l.length = 2 ^ (64 * l.length) := by rw [show (18446744073709551616 : Nat) = 2 ^ 64 by rfl, ← Nat.pow_mul]
 have hlt := o_i hs
 have hv : wval (l ++ [x]) = wval l + 2 ^ (64 * l.length) * x := by rw [o_1a, hp]; simp [wval]
 rw [hp] at hlt
 rw [hv, o_3v (k := 64 * l.length) (by have := Nat.le_mul_of_pos_right (2 ^ (64 * l.length)) h0; omega), Nat.add_mul_div_left _ _ (Nat.two_pow_pos _), Nat.div_eq_of_lt hlt, Nat.zero_add]

theorem o_qt (n : Nat) (hn : size n ≤ 1000000) : Eqn Tryz.prog o_fl [.d (.agg [natW n])] [] (.d (.int .i64 (bitsN n))) [] := by
 refine Eqn.pure o_o5 (o_0 _) ?_
 simp only [o_fm, natW, W]
 unfold size at hn
 have hs := o_6 n
 have ht := o_1b n
 have hv := o_4 n
 generalize words n = ws at *
 rcases List.eq_nil_or_concat ws with rfl | ⟨l, x, rfl⟩
 ·refine G0 ?_; try with_reducible exact tt
  refine AW.cond rfl (fun h => ?_) (fun h => ?_)
  ·refine G0 ?_; try with_reducible exact tt
   rw [← hv]
   exact Sub1.refl _
  ·simp at h
 ·rw [List.concat_eq_append] at *
  have hx0 : 0 < x := by
   have := ht l.length (by simp)
   simp [List.getD] at this
   omega
  have hx : x < 18446744073709551616 := hs x (by simp)
  have hb := o_qs (l := l) (x := x) (fun y hy => hs y (by simp [hy])) hx0
  rw [hv] at hb
  have hB : bitsN x ≤ 64 := o_1e (by omega)
  have hll : l.length ≤ 1000000 := by simp at hn; omega
  have e1 : IntKind.i64.wrap ((l.length : Int) + 1 - 1) = (l.length : Int) := by rw [Int.add_sub_cancel]; exact w64 (by omega) (by omega)
  have e2 : IntKind.i64.wrap ((64 : Int) * l.length) = ((64 * l.length : Nat) : Int) := w64 (by omega) (by omega)
  have e0 : IntKind.i64.wrap (l.length : Int) = (l.length : Int) := w64 (by omega) (by omega)
  have hne : ¬ (l.length : Int) + 1 = 0 := by omega
  refine G1 (fs hne (fs e1 (fs e2 e0))) ?_; try with_reducible exact tt
  refine AW.cond rfl (fun h => ?_) (fun h => ?_)
  ·simp at h
   omega
  rw [hb]
  have e3 : IntKind.i64.wrap (((64 * l.length : Nat) : Int) + bitsN x) = ((64 * l.length + bitsN x : Nat) : Int) := w64 (by omega) (by omega)
  generalize 64 * l.length = q at *
  refine G1 (fs hne (fs e1 (fs e2 e0))) ?_; try with_reducible exact tt
  refine CallS.pu (o_7g x hx) (R1 e3 ?_); try with_reducible exact tt

theorem o_qu (n : Nat) (l : List D) (hl : l.length = n) (h0 : 0 < n) (hn : n ≤ 4000000000) : Eqn Tryz.prog o_2h [.d (.sl n l)] [] (.own 0 1 n) [⟨28, l.map .d⟩] := by
 refine Eqn.newX o_3j rfl (o_28 _) (fun n => rfl) ?_
 simp only [o_2i]
 refine G1 h0 ?_; try with_reducible exact tt
 refine AW.cond rfl (fun h => ?_) (fun h => ?_)
 ·simp at h
 ·refine G0 ?_; try with_reducible exact tt
  have h1 : ¬ n = 0 := by omega
  simp [h1, hl]
  refine need.of (by omega) ?_
  refine G0 ?_; try with_reducible exact tt
  exact ⟨0, Sub1.refl _, _, rfl, rfl, Subs.refl _⟩

/-- words so far moved down -/
def shrI (k : Nat) (A : List Nat) (i : Nat) : List Nat := (shrL k A).take i ++ A.drop i
theorem o_hp (k : Nat) : ∀ (A : List Nat) (i : Nat), i < A.length → (shrL k A).getD i 0 = A.getD i 0 / 2 ^ k + A.getD (i + 1) 0 * 2 ^ (64 - k) % 18446744073709551616
 | [], i, h => by simp at h
 | x :: l, 0, h => by simp [shrL]
 | x :: l, i + 1, h => by
  have := o_hp k l i (by simpa using h)
  simpa [shrL] using this
theorem o_qv (k : Nat) (A : List Nat) (i : Nat) (h : i ≤ A.length) : (shrI k A i).length = A.length := by
 rw [shrI, List.length_append, List.length_take, o_u, List.length_drop]; omega
theorem o_hq (k : Nat) (A : List Nat) (i j : Nat) (h : i ≤ j) (hj : j < A.length) : (shrI k A i)[j]? = some (A.getD j 0) := by
 rw [shrI, List.getElem?_append_right (by rw [List.length_take, o_u]; omega), List.length_take, o_u, List.getElem?_drop, show i + (j - min i A.length) = j by omega]
 simp [List.getD, hj]
theorem o_qw (k : Nat) (A : List Nat) (i : Nat) (h : i < A.length) (y : Nat) (hy : y = (shrL k A).getD i 0) : (shrI k A i).set i y = shrI k A (i + 1) := by
 have hi : ((shrL k A).take i).length = i := by rw [List.length_take, o_u]; omega
 rw [shrI, shrI, List.set_append_right _ _ (by omega), hi, Nat.sub_self, o_3m _ _ (by rw [o_u]; exact h), ← hy, List.append_assoc]
 congr 1
 rw [List.drop_eq_getElem_cons h]
 rfl
theorem o_qx (k : Nat) (A : List Nat) : shrI k A A.length = shrL k A := by
 rw [shrI, List.drop_length, List.append_nil, List.take_of_length_le (by rw [o_u]; omega)]

theorem o_qy {k x y : Nat} (hk : k < 64) (hx : x < 18446744073709551616) : x / 2 ^ k ||| (y * 2 ^ (64 - k) % 18446744073709551616) = x / 2 ^ k + y * 2 ^ (64 - k) % 18446744073709551616 := by
 have hB : (18446744073709551616 : Nat) = 2 ^ k * 2 ^ (64 - k) := by rw [← Nat.pow_add, show k + (64 - k) = 64 by omega]
 have h6 : x / 2 ^ k < 2 ^ (64 - k) := by
  rw [Nat.div_lt_iff_lt_mul (Nat.two_pow_pos k), Nat.mul_comm, ← hB]; exact hx
 have e : y * 2 ^ (64 - k) % 18446744073709551616 = 2 ^ (64 - k) * (y % 2 ^ k) := by rw [hB, Nat.mul_mod_mul_right, Nat.mul_comm]
 rw [e, Nat.or_comm, ← Nat.two_pow_add_eq_or_of_lt h6, Nat.add_comm]

set_option maxHeartbeats 2000000 in
theorem o_qz (a n : Nat) (ha : size a ≤ 1000000) (hn : n ≤ 1000000000) : Eqn Tryz.prog o_g5 [.d (.agg [natW a]), .d (.int .i64 n)] [] (.d (.agg [natW (a / 2 ^ n)])) [] := by
 refine Eqn.pure o_oh (o_0 _) ?_
 simp only [o_g6]
 rw [show natW a = .sl (words a).length ((words a).map fun x : Nat => .int .u64 x) from rfl]
 unfold size at ha
 have hs := o_6 a
 have hv := o_4 a
 generalize words a = ws at *
 have hm : max 0 (n : Int) = n := by omega
 have hq : (n : Int) / 64 = (n / 64 : Nat) := rfl
 have hr : (n : Int).tmod 64 = (n % 64 : Nat) := by rw [Int.tmod_eq_emod_of_nonneg (by omega)]; rfl
 have hval : wval (shrL (n % 64) (ws.drop (n / 64))) = a / 2 ^ n ∧ small (shrL (n % 64) (ws.drop (n / 64))) := by
  obtain ⟨h1, h2⟩ := o_hn (k := n % 64) (by omega) (ws.drop (n / 64)) (fun x hx => hs x (List.mem_of_mem_drop hx))
  refine ⟨?_, h2⟩
  rw [h1, o_ho _ _ hs, hv, show (18446744073709551616 : Nat) = 2 ^ 64 by rfl, ← Nat.pow_mul, Nat.div_div_eq_div_mul, ← Nat.pow_add, Nat.div_add_mod]
 have hmk : n % 64 < 64 := by omega
 have hqn : n / 64 ≤ n := Nat.div_le_self _ _
 generalize hk : n % 64 = k at *
 generalize n / 64 = q at *
 refine G1 (fs hm hq) ?_; try with_reducible exact tt
 refine AW.cond rfl (fun h => ?_) (fun h => ?_)
 ·have hlen : ws.length ≤ q := by simp at h; omega
  refine G0 ?_; try with_reducible exact tt
  rw [List.drop_of_length_le hlen] at hval
  rw [← hval.1]
  exact Sub1.nat0
 ·have hlt : q < ws.length := by simp at h; omega
  have hlt' : (q : Int) < ws.length := by omega
  have hb1 : ((ws.length : Int) - q).toNat = (ws.drop q).length := by rw [List.length_drop]; omega
  have hbp : 0 < (ws.drop q).length ∧ (ws.drop q).length ≤ 1000000 := by rw [List.length_drop]; omega
  have hsB : small (ws.drop q) := fun x hx => hs x (List.mem_of_mem_drop hx)
  have htk : (V.d (.sl ((ws.length : Int) - q).toNat (((ws.map fun x : Nat => D.int .u64 x).drop ((q : Int)).toNat).take ((ws.length : Int) - q).toNat)) : V) = .d (.sl (ws.drop q).length ((ws.drop q).map fun x : Nat => D.int .u64 x)) := by
   rw [hb1, Int.toNat_natCast, ← List.map_drop, List.take_of_length_le (by simp)]
  refine G1 (fs hm (fs hq hlt')) ?_; try with_reducible exact tt
  generalize hB : ws.drop q = B at *
  refine CallS.newX (o_qu B.length (B.map fun x : Nat => .int .u64 x) (by simp) hbp.1 (by omega)) (o_28 _) rfl (fun _ => rfl) (Subs.of (by rw [htk])) ?_
  rw [show ((B.map fun x : Nat => D.int .u64 x).map V.d) = U (shrI k B 0) by simp [U, shrI]]
  simp
  refine G1 hr ?_; try with_reducible exact tt
  clear htk hb1 hv hs ha hB hlt hlt'
  refine AW.loopT (α := Nat) 3 (fun i => [(6, .d (.int .i64 (i : Int)))]) (fun i => [(2, ⟨28, U (shrI k B i)⟩)]) (fun i => i ≤ B.length) (fun i => B.length - i) 0 ?_ ?_ (Nat.zero_le _) ?_ ?_ ?_
  ·simp
  ·simp
  ·simp
  ·simp
  rintro i hi
  simp
  by_cases h : i = B.length
  ·subst h
   refine G0 ?_; try with_reducible exact tt
   refine AW.cond rfl (fun h => ?_) (fun h => ?_)
   ·simp at h
   refine AW.exit ?_
   (try (simp -implicitDefEqProofs; try simp (disch := omega) only [w64, wu64]))
   rw [o_qx]
   have hl : (shrL k B).length = B.length := o_u k B
   have hvw : natW (a / 2 ^ n) = natW (wval (shrL k B)) := by rw [hval.1]
   rw [hvw]
   have hsm := hval.2
   generalize shrL k B = r at hl hsm ⊢
   have hcell : U r = (r.map fun x : Nat => D.int .u64 x).map V.d := by simp [U]
   rw [hcell]
   refine AW.freeze 2 1 ⟨28, _⟩ (r.map fun x : Nat => .int .u64 x) (by rfl) (by rfl) ?_
   simp [← hl, List.take_of_length_le]
   refine G0 ?_; try with_reducible exact tt
   refine CallS.pu (o_1s r hsm (by omega)) (R0 ?_); try with_reducible exact tt
  ·have hi' : i < B.length := by omega
   have hp : (i : Int) < B.length := by omega
   have hxB : B.getD i 0 < 18446744073709551616 := hsB.getD i
   have hset : ∀ z : Nat, z = (shrL k B).getD i 0 → (U (shrI k B i)).set i (.d (.int .u64 z)) = U (shrI k B (i + 1)) := fun z hz => by
    rw [← o_qw k B i hi' z hz, U, U, List.map_set]
   have hg := o_hp k B i hi'
   have hl : (U (shrI k B i)).length = B.length := by simp [U, o_qv k B i hi]
   have hq1 : (U (shrI k B i))[i]? = some (.d (.int .u64 (B.getD i 0 : Nat))) := by
    rw [U, List.getElem?_map, o_hq k B i i (Nat.le_refl _) hi']; rfl
   have hq2 : i + 1 < B.length → (U (shrI k B i))[i + 1]? = some (.d (.int .u64 (B.getD (i + 1) 0 : Nat))) := fun h => by
    rw [U, List.getElem?_map, o_hq k B i (i + 1) (by omega) h]; rfl
   have hor := o_qy (k := k) (x := B.getD i 0) (y := B.getD (i + 1) 0) hmk hxB
   rw [← hg] at hor
   have hu : ((B.getD i 0 : Nat) : Int) / 2 ^ k = ((B.getD i 0 / 2 ^ k : Nat) : Int) := by rw [Int.natCast_ediv, Int.natCast_pow]; rfl
   have hule : B.getD i 0 / 2 ^ k ≤ B.getD i 0 := Nat.div_le_self _ _
   have hw : IntKind.u64.wrap (((B.getD (i + 1) 0 : Nat) : Int) * 2 ^ (64 - k)) = ((B.getD (i + 1) 0 * 2 ^ (64 - k) % 18446744073709551616 : Nat) : Int) := by
    rw [IntKind.wrap_u64, Int.natCast_emod, Int.natCast_mul, Int.natCast_pow]; rfl
   have hwl : B.getD (i + 1) 0 * 2 ^ (64 - k) % 18446744073709551616 < 18446744073709551616 := Nat.mod_lt _ (by decide)
   have hlast : ¬ i + 1 < B.length → B.getD i 0 / 2 ^ k = (shrL k B).getD i 0 := fun h => by
    rw [hg, o_7b h]; simp
   have hls : (shrL k B).length = B.length := o_u k B
   generalize B.getD i 0 / 2 ^ k = u at *
   generalize B.getD i 0 = x at *
   generalize B.getD (i + 1) 0 * 2 ^ (64 - k) % 18446744073709551616 = t at *
   generalize B.getD (i + 1) 0 = y at *
   have hb := bits_or_u64_nat u t (by omega) hwl
   rw [hor] at hb
   have hz := hset _ rfl
   generalize (shrL k B).getD i 0 = z at *
   generalize U (shrI k B i) = cm at *
   have e1 : IntKind.i64.wrap ((i : Int) + 1) = (i : Int) + 1 := w64 (by omega) (by omega)
   have e2 : IntKind.i64.wrap ((64 : Int) - k) = (64 : Int) - k := w64 (by omega) (by omega)
   have hn : ((64 : Int) - k).toNat = 64 - k := by omega
   have e3 : (((i : Int) + 1)).toNat = i + 1 := by omega
   have hkl : (k : Int) ≤ 64 := by omega
   have hg1 : ∀ h, cm[i]'h = .d (.int .u64 x) := fun h => by
    have := List.getElem?_eq_getElem h
    rw [hq1] at this
    exact (Option.some.inj this).symm
   have hg2 : ∀ h, cm[i + 1]'h = .d (.int .u64 y) := fun h => by
    have := List.getElem?_eq_getElem h
    rw [hq2 (by omega)] at this
    exact (Option.some.inj this).symm
   refine G1 (fs hi' hp) ?_; try with_reducible exact tt
   refine AW.cond rfl (fun h => ?_) (fun h => ?_)
   ·by_cases hl1 : i + 1 < B.length
    ·have hlp : (i : Int) + 1 < B.length := by omega
     refine G1 (fs hi' (fs hp (fs hl (fs hg1 (fs hu (fs e1 hlp)))))) ?_; try with_reducible exact tt
     refine AW.cond rfl (fun h => ?_) (fun h => ?_)
     ·have hne : ¬ i = i + 1 := by omega
      have h64 : (64 - k : Int) ≤ 64 := by omega
      refine G1 (fs hi' (fs hp (fs hl (fs hg1 (fs hg2 (fs hu (fs e1 (fs hlp (fs hl1 (fs e2 (fs hn (fs e3 (fs hne (fs hw (fs hb hz))))))))))))))) ?_; try with_reducible exact tt
      exact ⟨i + 1, by omega, by omega, by simp, by simp⟩
     ·simp at h
    ·have hlp : ¬ (i : Int) + 1 < B.length := by omega
     refine G1 (fs hi' (fs hp (fs hl (fs hg1 (fs hu (fs e1 hlp)))))) ?_; try with_reducible exact tt
     refine AW.cond rfl (fun h => ?_) (fun h => ?_)
     ·simp at h
     ·have := hlast hl1
      subst this
      refine G1 e1 ?_; try with_reducible exact tt
      refine ⟨i + 1, by omega, by omega, by simp, ?_⟩
      rw [hset u rfl]
      exact Subs.refl _
   ·simp at h
end
end Go.Proofs.YtijbgbpjionfjaaGreatDoor.Am
namespace Go.Proofs.YtijbgbpjionfjaaGreatDoor.Am
section
open Go.RowKit
theorem o_3w (s : Int) : Eqn Tryz.prog o_go [.d (.int .i64 s)] [] (.d (.bool (decide (1 ≤ s ∧ s ≤ 5)))) [] := by
 refine Eqn.pure o_ow (o_0 _) ?_
 simp only [o_gp]
 by_cases h : 1 ≤ s
 ·refine G1 h ?_; try with_reducible exact tt
 ·refine G1 h ?_; try with_reducible exact tt

theorem o_hr {x m : Nat} (h : x < 2 ^ (64 * m)) : size x ≤ m := by
 apply o_2j (o_1b x)
 rw [o_4, show (18446744073709551616 : Nat) = 2 ^ 64 by rfl, ← Nat.pow_mul]
 exact h

theorem o_3x {a b m : Nat} (ha : size a ≤ m) (hb : size b ≤ m) : size (a + b) ≤ m + 1 := by
 refine o_hr ?_
 have h1 := o_i (o_6 a)
 have h2 := o_i (o_6 b)
 rw [o_4, show (18446744073709551616 : Nat) = 2 ^ 64 by rfl, ← Nat.pow_mul] at h1 h2
 have h3 : (2 : Nat) ^ (64 * (words a).length) ≤ 2 ^ (64 * m) := Nat.pow_le_pow_right (by omega) (by unfold size at ha; omega)
 have h4 : (2 : Nat) ^ (64 * (words b).length) ≤ 2 ^ (64 * m) := Nat.pow_le_pow_right (by omega) (by unfold size at hb; omega)
 have h5 : (2 : Nat) ^ (64 * (m + 1)) = 2 ^ (64 * m) * 18446744073709551616 := by rw [show 64 * (m + 1) = 64 * m + 64 by omega, Nat.pow_add]
 rw [h5]
 generalize (2 : Nat) ^ (64 * m) = z at *
 omega

theorem o_7h {x n m : Nat} (h : x < 2 ^ n) (hm : n ≤ 64 * m) : size x ≤ m :=
 o_hr (Nat.lt_of_lt_of_le h (Nat.pow_le_pow_right (by omega) hm))
theorem o_r0 (t : Nat) : bitsN t ≤ 64 * size t := by
 apply o_1e
 have h1 := o_i (o_6 t)
 rw [o_4, show (18446744073709551616 : Nat) = 2 ^ 64 by rfl, ← Nat.pow_mul] at h1
 exact h1
theorem o_r1 (s t : Nat) (hs : s ≤ 5) (ht : size t ≤ 1000) : Eqn Tryz.prog o_gw [.d (.int .i64 s), .d (.agg [natW t])] [] (.d (.int .i64 (shiftY s t))) [] := by
 refine Eqn.pure o_p0 (o_0 _) ?_
 simp only [o_gx]
 have hb := o_r0 t
 refine G0 ?_; try with_reducible exact tt
 refine CallS.pu (o_qt t (by omega)) (R0 ?_); try with_reducible exact tt
 have e1 : IntKind.i64.wrap ((bitsN t : Int) - 1) = (bitsN t : Int) - 1 := w64 (by omega) (by omega)
 have e2 : IntKind.i64.wrap (2 * (s : Int)) = 2 * (s : Int) := w64 (by omega) (by omega)
 have e3 : IntKind.i64.wrap ((bitsN t : Int) - 1 - 2 * (s : Int)) = (bitsN t : Int) - 1 - 2 * (s : Int) := w64 (by omega) (by omega)
 have e4 : max 0 ((bitsN t : Int) - 1 - 2 * (s : Int)) = (shiftY s t : Int) := by unfold shiftY; omega
 simp [e1, e2, e3, e4]

theorem o_r2 (s t : Nat) (hs : s ≤ 5) (ht : size t ≤ 1000) : Eqn Tryz.prog o_gu [.d (.int .i64 s), .d (.agg [natW t])] [] (.d (.agg [natW (moreY s t)])) [] := by
 refine Eqn.pure o_oz (o_0 _) ?_
 simp only [o_gv]
 have hq := Nat.div_le_self t (2 ^ s)
 have hq2 := Nat.div_mul_le_self t (2 ^ s)
 have hm : moreY s t = t + (if t / 2 ^ s * 2 ^ s < t then t / 2 ^ s + 1 else t / 2 ^ s) := rfl
 rw [hm]
 have s1 := o_1d hq
 have s2 := o_1d hq2
 have s1' : size 1 ≤ 1 := o_2m (by omega)
 refine G0 ?_; try with_reducible exact tt
 refine CallS.pu (o_qz t s (by omega) (by omega)) (R0 ?_); try with_reducible exact tt
 refine CallS.pu (o_7d (t / 2 ^ s) s (by omega) (by omega)) (R0 ?_); try with_reducible exact tt
 generalize hQ : t / 2 ^ s = q at *
 generalize q * 2 ^ s = b at *
 refine CallS.pu (o_1t b t (by omega) (by omega)) (R0 ?_); try with_reducible exact tt
 have hb : size (q + 1) ≤ 1001 := by
  have := o_3x (a := q) (b := 1) (m := 1000) (by omega) (by omega)
  omega
 by_cases hlt : b < t
 ·simp only [if_pos hlt]
  refine AW.cond rfl (fun h => ?_) (fun h => ?_)
  ·refine G0 ?_; try with_reducible exact tt
   refine CallS.pf 4 1 ⟨28, _⟩ [.int .u64 (1 : Nat)] (o_1c [1] (o_12 (by omega)) (by simp)) (by first | rfl | (simp; done)) (R0 ?_); try with_reducible exact tt
   refine CallS.pu (o_2l q 1 (by omega) (by omega)) (R0 ?_); try with_reducible exact tt
   refine CallS.pu (o_2l t (q + 1) (by omega) (by omega)) (R0 ?_); try with_reducible exact tt
  ·simp [o_3s, hlt] at h
 ·simp only [if_neg hlt]
  refine AW.cond rfl (fun h => ?_) (fun h => ?_)
  ·simp [o_3s, hlt] at h
  ·refine G0 ?_; try with_reducible exact tt
   refine CallS.pu (o_2l t q (by omega) (by omega)) (R0 ?_); try with_reducible exact tt

/-- a place, as data -/
def plD (p : Pl) : D := .agg [.int .i64 p.x, .int .i64 p.shift, natW p.value, natW p.reply]

theorem o_r3 {s t : Nat} : moreY s t ≤ 4 * t := by
 unfold moreY
 have h1 := Nat.div_le_self t (2 ^ s)
 split
 ·rename_i h
  have : 0 < t := by omega
  omega
 ·omega

theorem o_r4 (s : Nat) (p : Pl) (hs : s ≤ 5) (hx : p.x ≤ 100000) (h1 : p.shift ≤ 8192) (h2 : size p.value ≤ 900) (h3 : size p.reply ≤ 900) :
  Eqn Tryz.prog o_gs [.d (plD p), .d (.int .i64 s)] [] (.d (plD (nextY s p))) [] := by
 refine Eqn.pure o_oy (o_0 _) ?_
 obtain ⟨x, sh, v, r⟩ := p
 simp only at hx h1 h2 h3
 simp only [o_gt, plD, nextY]
 have s1 : size 1 ≤ 1 := o_2m (by omega)
 have hsz : size (1 * 2 ^ sh) ≤ 129 := o_7h (n := sh + 1) (by rw [Nat.one_mul]; exact Nat.pow_lt_pow_right (by omega) (Nat.lt_succ_self _)) (by omega)
 have hv := o_3x (m := 900) h2 (by omega : size (1 * 2 ^ sh) ≤ 900)
 refine G0 ?_; try with_reducible exact tt
 refine CallS.pf 2 1 ⟨28, _⟩ [.int .u64 (1 : Nat)] (o_1c [1] (o_12 (by omega)) (by simp)) (by first | rfl | (simp; done)) (R0 ?_); try with_reducible exact tt
 refine CallS.pu (o_7d 1 sh (by omega) h1) (R0 ?_); try with_reducible exact tt
 rw [Nat.one_mul] at hsz hv
 generalize 2 ^ sh = st at *
 refine CallS.pu (o_2l v st (by omega) (by omega)) (R0 ?_); try with_reducible exact tt
 refine CallS.pu (o_1t (v + st) r (by omega) (by omega)) (R0 ?_); try with_reducible exact tt
 have hge : (0 ≤ cmpZ (v + st) r) ↔ r ≤ v + st := by
  unfold cmpZ; split <;> (try split) <;> omega
 by_cases hr : r ≤ v + st
 ·simp only [if_pos hr]
  have ew : IntKind.i64.wrap ((x : Int) + 1) = (x : Int) + 1 := w64 (by omega) (by omega)
  refine AW.cond rfl (fun h => ?_) (fun h => ?_)
  ·have hm := o_r3 (s := s) (t := r)
   have hms := o_1d hm
   have hrr := o_3x h3 h3
   have hmsz : size (moreY s r) ≤ 1000 := by
    have := o_3x hrr hrr
    have h4 : r + r + (r + r) = 4 * r := by omega
    rw [h4] at this
    omega
   refine G1 ew ?_; try with_reducible exact tt
   refine CallS.pu (o_r2 s r hs (by omega)) (R0 ?_); try with_reducible exact tt
   refine CallS.pu (o_r1 s (moreY s r) hs hmsz) (R0 ?_); try with_reducible exact tt
  ·simp [hge, hr] at h
 ·simp only [if_neg hr]
  refine AW.cond rfl (fun h => ?_) (fun h => ?_)
  ·simp [hge, hr] at h
  ·refine G0 ?_; try with_reducible exact tt
end
end Go.Proofs.YtijbgbpjionfjaaGreatDoor.Am
namespace Go.Proofs.YtijbgbpjionfjaaGreatDoor.Am
section
open Go.RowKit
theorem o_r5 (s : Nat) : Eqn Tryz.prog n_yu_walk [.d (.int .i64 s)] [] (.fn (.func o_h) [.p 0 0]) [⟨3, [.d (.int .i64 s)]⟩] := by
 refine Eqn.newX r_yu_walk rfl ⟨rfl, fun _ => rfl⟩ (fun n => rfl) ?_
 simp only [c_yu_walk]
 refine G0 ?_; try with_reducible exact tt
 exact ⟨0, Sub1.refl _, _, rfl, rfl, Subs.refl _⟩

/-- the walk's code, in its pieces -/
structure WalkS where
 r0 : C
 r1 : C
 g : C
 os : List O
 call : Option (Nat × List Nat × Option Nat)
 o4 : O
 cy : X
 r5 : C
 r6 : C
 ids : Nat × Nat
 calm : Bool
 res : Nat
 nt : Nat
def callS (o : Oper) : Option (Nat × List Nat × Option Nat) := match o.op, o.guard with
 | .call c, none => match c.callee, c.args.toList with
  | .value (.tmp f), [.tmp x, .tmp y] => some (f, [x, y], o.dst)
  | _, _ => none
 | _, _ => none
def walkS (P : Program) (f : FuncId) : Option WalkS := match P.funcs[f]? with
 | some fn => match fn.body with
  | some (.seq r0 (.seq r1 (.block i0 (.loop (.seq g (.seq (.block i1 (.seq (.seq (.region _ ops false) (.cond cy .ret .skip)) r5)) r6)))))) => match ops.toList with
   | [o0, o1, o2, o3, o4] => some ⟨resolveC P r0, resolveC P r1, resolveC P g, [o0, o1, o2].map (resolveO P ops), callS o3, resolveO P ops o4, X.of cy, resolveC P r5, resolveC P r6, (i0, i1), [o0, o1, o2].all notDefer && [o4].all notDefer, fn.results.size, fn.ntmps⟩
   | _ => none
  | _ => none
 | none => none
theorem o_r6 {P : Program} {f : FuncId} {s : WalkS} (h : walkS P f = some s) : ∃ (fn : Func) (r0 r1 g r5 r6 : Code) (i id : Nat) (ops : Array Oper) (o0 o1 o2 o3 o4 : Oper) (cy : Operand),
  P.funcs[f]? = some fn ∧ fn.body = some (.seq r0 (.seq r1 (.block s.ids.1 (.loop (.seq g (.seq (.block s.ids.2 (.seq (.seq (.region id ops false) (.cond cy .ret .skip)) r5)) r6)))))) ∧ ops.toList = [o0, o1, o2, o3, o4] ∧
  resolveC P r0 = s.r0 ∧ resolveC P r1 = s.r1 ∧ resolveC P g = s.g ∧ [o0, o1, o2].map (resolveO P ops) = s.os ∧ callS o3 = s.call ∧ resolveO P ops o4 = s.o4 ∧ X.of cy = s.cy ∧ resolveC P r5 = s.r5 ∧ resolveC P r6 = s.r6 ∧ ([o0, o1, o2].all notDefer && [o4].all notDefer) = s.calm ∧ fn.results.size = s.res ∧ fn.ntmps = s.nt := by
 unfold walkS at h
 split at h
 ·rename_i fn hf
  split at h
  ·rename_i r0 r1 i0 g i1 id ops cy r5 r6 hb
   split at h
   ·rename_i o0 o1 o2 o3 o4 ho
    cases h
    exact ⟨fn, r0, r1, g, r5, r6, 0, id, ops, o0, o1, o2, o3, o4, cy, hf, hb, ho, rfl, rfl, rfl, rfl, rfl, rfl, rfl, rfl, rfl, rfl, rfl, rfl⟩
   ·cases h
  ·cases h
 ·cases h
theorem o_r7 {o : Oper} {f x y : Nat} {d : Option Nat} (h : callS o = some (f, [x, y], d)) : ∃ c, o.op = .call c ∧ o.guard = none ∧ c.callee = .value (.tmp f) ∧ c.args.toList = [.tmp x, .tmp y] ∧ o.dst = d := by
 unfold callS at h
 split at h
 ·rename_i c ho hg
  split at h
  ·rename_i hc ha
   cases h
   exact ⟨c, ho, hg, hc, ha, rfl⟩
  ·cases h
 ·cases h

/-- the asker's code -/
structure AtS where
 a1 : C
 a2 : C
 a3 : C
 a4 : C
 g : X
 ps : List Nat
 asg : C
 bd : C
 a5 : List O
 id : Nat
 calm : Bool
 rs : List RV
 nt : Nat
def atS (P : Program) (f : FuncId) : Option AtS := match P.funcs[f]? with
 | some fn => match fn.body with
  | some (.seq a1 (.seq a2 (.seq a3 (.seq (.seq a4 (.block id (.rangeFunc g ps asg bd))) (.seq (.region _ ops false) .ret))))) =>
   some ⟨resolveC P a1, resolveC P a2, resolveC P a3, resolveC P a4, X.of g, ps.toList, resolveC P asg, resolveC P bd, ops.toList.map (resolveO P ops), id, Code.calm asg && (Code.calm bd && ops.toList.all notDefer), fn.results.toList.map (resolveR P), fn.ntmps⟩
  | _ => none
 | none => none
theorem o_r8 {P : Program} {f : FuncId} {s : AtS} (h : atS P f = some s) : ∃ (fn : Func) (a1 a2 a3 a4 asg bd : Code) (g : Operand) (ps : Array Nat) (id : Nat) (ops : Array Oper),
  P.funcs[f]? = some fn ∧ fn.body = some (.seq a1 (.seq a2 (.seq a3 (.seq (.seq a4 (.block s.id (.rangeFunc g ps asg bd))) (.seq (.region id ops false) .ret))))) ∧
  resolveC P a1 = s.a1 ∧ resolveC P a2 = s.a2 ∧ resolveC P a3 = s.a3 ∧ resolveC P a4 = s.a4 ∧ X.of g = s.g ∧ ps.toList = s.ps ∧ resolveC P asg = s.asg ∧ resolveC P bd = s.bd ∧ ops.toList.map (resolveO P ops) = s.a5 ∧ (Code.calm asg && (Code.calm bd && ops.toList.all notDefer)) = s.calm ∧ fn.results.toList.map (resolveR P) = s.rs ∧ fn.ntmps = s.nt := by
 unfold atS at h
 split at h
 ·rename_i fn hf
  split at h
  ·rename_i a1 a2 a3 a4 id g ps asg bd id' ops hb
   cases h
   exact ⟨fn, a1, a2, a3, a4, asg, bd, g, ps, id', ops, hf, hb, rfl, rfl, rfl, rfl, rfl, rfl, rfl, rfl, rfl, rfl, rfl, rfl⟩
  ·cases h
 ·cases h

def C.l : C → C
 | .seq a _ => a
 | c => c
def C.r : C → C
 | .seq _ b => b
 | c => c
def C.b : C → C
 | .block _ a | .loop a => a
 | c => c
def C.os : C → List O
 | .reg _ l => l
 | _ => []
/-- the assignment to the loop's variables -/
def cAsg : C := .seq (.reg false [⟨some 7, .mv (.t 24), none, []⟩]) (.reg false [⟨some 8, .new 303 [.int .i64 0, .int .i64 0, .nilsl, .nilsl], none, []⟩, ⟨none, .store 4 (.t 8) (.t 25), none, [0, 0]⟩])
/-- the loop's body -/
def cBd : C := .block 2 (.seq (.reg false [⟨some 26, .load true 4 (.t 8), none, []⟩, ⟨none, .store 4 (.t 6) (.t 26), none, [0, 0]⟩])
 (.seq (.reg false [⟨some 27, .mv (.t 7), none, []⟩, ⟨some 28, .load false 1 (.t 3), none, []⟩, ⟨some 29, .bin .eql (.t 27) (.t 28), none, [0, 1]⟩]) (.cond (.t 29) (.exit 1) .skip)))
theorem at_s : atS Tryz.prog o_3l = some ⟨o_9.l, o_9.r.l, o_9.r.r.l, o_9.r.r.r.l.l, .t 23, [24, 25], cAsg, cBd, o_9.r.r.r.r.l.os, 1, true, [.cell 4 true 4, .t 5], 31⟩ := by kernel_rfl
abbrev cWb : C := o_e.r.r.b.b
theorem o_r9 : walkS Tryz.prog o_h = some ⟨o_e.l, o_e.r.l, cWb.l, (cWb.r.l.b.l.l.os).take 3, some (15, [16, 17], some 18), ((cWb.r.l.b.l.l.os).drop 4).headD ⟨none, .bad, none, []⟩, .t 19, cWb.r.l.b.r, cWb.r.r, (0, 1), true, 0, 23⟩ := by kernel_rfl

abbrev kO (K : Nat) : Ob := ⟨3, [.d (.int .i64 K)]⟩
abbrev plO (c : List V) : Ob := ⟨303, c⟩

def Tr (i : Nat) (p : List D) : List V := [.junk, .junk, .junk, .p 0 0, .junk, .junk, .p 2 0] ++ List.replicate 17 .junk ++ [.d (.int .i64 i), .d (.agg p)] ++ List.replicate 5 .junk

theorem o_ra (l n K i : Nat) (c : List V) (p : List D) (hp : p.length = 4) : AWr Tryz.prog (some l) n 3 cAsg (thenQ (fun T H => T = ((Tr i p).set 7 (.d (.int .i64 i))).set 8 (.p 3 0) ∧ H = [some (kO K), none, some (plO c), some (plO (p.map .d))]) noQ) (Tr i p) [some (kO K), none, some (plO c)] := by
 obtain ⟨p1, p2, p3, p4, rfl⟩ : ∃ a b c d, p = [a, b, c, d] := by
  match p, hp with
  | [a, b, c, d], _ => exact ⟨a, b, c, d, rfl⟩
 simp only [cAsg, Tr]
 refine AWr.seq (AWr.reg ?_)
 simp
 refine AWr.reg ?_
 simp

theorem o_rb (l n K i : Nat) (c : List V) (hc : c.length = 4) (p : List D) (hp : p.length = 4) : AWr Tryz.prog (some l) n 3 cBd (fun e T H => H = [some (kO K), none, some (plO (p.map .d)), some (plO (p.map .d))] ∧ e = if i = K then .exit 1 else .normal) (((Tr i p).set 7 (.d (.int .i64 i))).set 8 (.p 3 0)) [some (kO K), none, some (plO c), some (plO (p.map .d))] := by
 obtain ⟨p1, p2, p3, p4, rfl⟩ : ∃ a b c d, p = [a, b, c, d] := by
  match p, hp with
  | [a, b, c, d], _ => exact ⟨a, b, c, d, rfl⟩
 obtain ⟨c1, c2, c3, c4, rfl⟩ : ∃ a b c' d, c = [a, b, c', d] := by
  match c, hc with
  | [a, b, c, d], _ => exact ⟨a, b, c, d, rfl⟩
 simp only [cBd, Tr]
 refine AWr.block ?_
 refine AWr.seq (AWr.reg ?_)
 simp
 refine AWr.seq (AWr.reg ?_)
 by_cases h : i = K
 ·subst h
  simp
  refine AWr.cond rfl (fun h => ?_) (fun h => ?_)
  ·refine AWr.exit ?_
   simp
  ·simp at h
 ·have h' : ¬ (i : Int) = K := by omega
  simp [h, h']
  refine AWr.cond rfl (fun h => ?_) (fun h => ?_)
  ·simp at h
   omega
  ·refine AWr.skip ?_
   simp

theorem o_7i {m : Mem} {n : Nat} {o : Ob} (h : m.obj n o) : ∃ b, m.ρ n = some b := by
 obtain ⟨b, _, _, h1, _⟩ := h; exact ⟨b, h1⟩

/-- what a round leaves behind -/
def RoundR (K i : Nat) (p : List D) (m : Mem) (l : Nat) (rec : LoopState → Option Code → Loop) (e : Ending) (w' : World) : Prop :=
 ∃ m' : Mem, m'.w = w' ∧ m'.base ∧ m'.obj 0 (kO K) ∧ m'.obj 2 (plO (p.map .d)) ∧
  if i = K then e = .returned (.bool false) ∧ (m.at (m.w.putObj l (.loop (rec .done (some (.exit 1)))))).le m' (· < 3) else e = .returned (.bool true) ∧ m.le m' (· < 3)

theorem o_rc {asg bd : Code} (hasg : resolveC Tryz.prog asg = cAsg) (hbd : resolveC Tryz.prog bd = cBd) (ca : Code.calm asg = true) (cb : Code.calm bd = true) {fn df : Nat} {tmps : Array Value} {rec : LoopState → Option Code → Loop}
  (hrec : rec = fun st pe => { state := st, pending := pe, fn, tmps, params := #[24, 25], assign := asg, body := bd, defers := df }) (n K i : Nat) (p : List D) (hp : p.length = 4) {m : Mem} {l : Nat} {c : List V} (mb : m.base) (h0 : m.obj 0 (kO K)) (h2 : m.obj 2 (plO c)) (hc : c.length = 4)
  (hinj : ∀ b, m.ρ 0 = some b → m.ρ 2 ≠ some b) (htop : ∀ n, n ≠ 0 → n ≠ 2 → m.ρ n = none) (t3 : (V.p 0 0).rep m (tmps.getD 3 undef)) (t6 : (V.p 2 0).rep m (tmps.getD 6 undef)) (hsz : tmps.size = 31) (hlo : m.loose l) (hl : m.w.heap[l]? = some (.loop (rec .ready none))) {v : Value} (hv : (V.d (.agg p)).rep m v) :
  YieldAt Fence.wide n Tryz.prog l #[.int .i64 i, v] m.w (RoundR K i p m l rec) := by
 have hy := run_yield (P := Tryz.prog) (args := #[.int .i64 i, v]) hl (by rw [hrec]; rfl)
 refine ⟨_, _, _, _, hy, ?_⟩
 have ht : ((rec .ready none).params.zip #[.int .i64 i, v]).foldl (fun tmps (t, a) => tmps.setIfInBounds t a) (rec .ready none).tmps = (tmps.setIfInBounds 24 (.int .i64 i)).setIfInBounds 25 v := by
  rw [hrec]; simp
 rw [ht, show (rec .ready none).assign = asg by rw [hrec], show (rec .ready none).body = bd by rw [hrec]]
 clear hy ht
 have sat : Sat m ⟨(tmps.setIfInBounds 24 (.int .i64 i)).setIfInBounds 25 v, []⟩ (Tr i p) [some (kO K), none, some (plO c)] := by
  refine ⟨mb, fun s => ?_, fun n ob h => ?_, fun n k b ln lk h1 h3 => ?_, fun n h => htop n (by simp at h; omega) (by simp at h; omega), by simp [Tr, hsz], rfl⟩
  ·have g : ((tmps.setIfInBounds 24 (.int .i64 i)).setIfInBounds 25 v).getD s undef = if s = 25 then v else if s = 24 then .int .i64 i else tmps.getD s undef := by
    rw [Array.getD_eq_getD_getElem?, Array.getElem?_setIfInBounds]
    by_cases e1 : s = 25
    ·subst e1; simp [hsz]
    ·rw [if_neg (by omega), if_neg e1, Array.getElem?_setIfInBounds]
     by_cases e2 : s = 24
     ·subst e2; simp [hsz]
     ·rw [if_neg (by omega), if_neg e2, Array.getD_eq_getD_getElem?]
   have g2 : (Tr i p).getD s .junk = if s = 25 then .d (.agg p) else if s = 24 then .d (.int .i64 i) else if s = 3 then .p 0 0 else if s = 6 then .p 2 0 else .junk := by
    rcases Nat.lt_or_ge s 31 with hs | hs
    ·have : ∀ s, s < 31 → (Tr i p).getD s .junk = if s = 25 then .d (.agg p) else if s = 24 then .d (.int .i64 i) else if s = 3 then .p 0 0 else if s = 6 then .p 2 0 else .junk := by
      intro s hs
      iterate 31 (rcases s with _ | s; · rfl)
      omega
     exact this s hs
    ·rw [if_neg (by omega), if_neg (by omega), if_neg (by omega), if_neg (by omega), List.getD_eq_getElem?_getD, List.getElem?_eq_none (by simp [Tr]; omega)]; rfl
   rw [g, g2]
   split
   ·exact hv
   ·split
    ·exact V.rep_int.2 rfl
    ·split
     ·rename_i e; subst e; exact t3
     ·split
      ·rename_i e; subst e; exact t6
      ·unfold V.rep; trivial
  ·rcases n with _ | _ | _ | n
   ·simp at h; subst h; exact h0
   ·simp at h
   ·simp at h; subst h; exact h2
   ·simp at h
  ·have l2 : ∀ n, live [some (kO K), none, some (plO c)] n → n = 0 ∨ n = 2 := fun n h => by
    rcases n with _ | _ | _ | n
    ·exact .inl rfl
    ·simp [live] at h
    ·exact .inr rfl
    ·simp [live] at h
   rcases l2 n ln with rfl | rfl <;> rcases l2 k lk with rfl | rfl
   ·rfl
   ·exact (hinj b h1 h3).elim
   ·exact (hinj b h3 h1).elim
   ·rfl
 have htop3 : ∀ n, 3 ≤ n → m.ρ n = none := fun n h => htop n (by omega) (by omega)
 refine roundIn_of_wpIn trivial (wpIn_mono (o_ra l n K i c p hp asg hasg ca m m _ sat (Mem.le.refl _ _) htop3 (by simp)) ?_)
 rintro e a1 w1 ⟨T1, H1, m1, rfl, hq, sat1, hle1, _⟩
 cases e with
 | normal =>
  obtain ⟨rfl, rfl⟩ := hq
  obtain ⟨lo1, hl1⟩ := hlo.keep hle1
  have hl1' := hl1.trans hl
  refine ⟨_, run_beginRound hl1' (by rw [hrec]), ?_⟩
  have nc : ∀ (r : Loop) c t f, Obj.loop r ≠ .cells c t f := by intro r c t f h; cases h
  have hle2 := hlo.le hle1 (o := .loop { rec .ready none with state := .busy }) (o' := .loop { rec .ready none with state := .busy }) hl (nc _) (nc _) (nc _) rfl
  have sat2 := lo1.sat (.loop { rec .ready none with state := .busy }) sat1
  refine wpIn_mono (o_rb l n K i c hc p hp bd hbd cb (m.at (m.w.putObj l (.loop { rec .ready none with state := .busy }))) _ a1 sat2 hle2 htop3 (by simp)) ?_
  rintro e a3 w3 ⟨T3, H3, m3, rfl, ⟨rfl, rfl⟩, sat3, hle3, _⟩
  obtain ⟨lo3, hl3⟩ := (hlo.put (.loop { rec .ready none with state := .busy })).keep hle3
  rw [World.putObj_heap_same hlo.lt] at hl3
  have hend := fun jump => run_endRound (P := Tryz.prog) jump hl3
  have hle4 := fun o (ho : ∀ c t f, o ≠ Obj.cells c t f) => (hlo.put (.loop { rec .ready none with state := .busy })).le hle3 (o := o) (o' := o) (World.putObj_heap_same hlo.lt) (nc _) ho ho rfl
  have sat4 := fun o => lo3.sat o sat3
  by_cases hik : i = K
  ·simp only [if_pos hik]
   refine ⟨_, _, hend (some (.exit 1)), ⟨_, rfl, (sat4 _).base, (sat4 _).obj 0 _ rfl, (sat4 _).obj 2 _ rfl, ?_⟩⟩
   rw [if_pos hik]
   refine ⟨rfl, ?_⟩
   have := hle4 (.loop { rec .ready none with state := .done, pending := some (.exit 1) }) (nc _)
   simp only [o_a2] at this
   rw [hrec] at this ⊢
   exact this
  ·simp only [if_neg hik]
   refine ⟨_, _, hend none, ⟨_, rfl, (sat4 _).base, (sat4 _).obj 0 _ rfl, (sat4 _).obj 2 _ rfl, ?_⟩⟩
   rw [if_neg hik]
   refine ⟨rfl, ?_⟩
   have := hle4 (.loop (rec .ready none)) (nc _)
   simp only [o_a2, o_5l hl] at this
   rw [hrec] at this ⊢
   exact this
 | _ => exact hq.elim
end
end Go.Proofs.YtijbgbpjionfjaaGreatDoor.Am
namespace Go.Proofs.YtijbgbpjionfjaaGreatDoor.Am
section
open Go.RowKit
theorem Sat.put {m : Mem} {a : Act} {T : List V} {H : List (Option Ob)} (sat : Sat m a T H) (s : Nat) {x : V} {v : Value} (hv : x.rep m v) : Sat m (a.put (some s) v) (T.set s x) H := by
 refine ⟨sat.base, fun i => ?_, sat.obj, sat.inj, sat.top, by rw [o_26]; simpa using sat.size, by rw [o_35]; exact sat.defers⟩
 have h1 : T.set s x = putT T (some s) x := rfl
 rw [h1, o_36, o_34, sat.size]
 split
 ·exact hv
 ·exact sat.slots i

abbrev sO (s : Nat) : Ob := ⟨3, [.d (.int .i64 s)]⟩
def plC (p : Pl) : List D := [.int .i64 p.x, .int .i64 p.shift, natW p.value, natW p.reply]
abbrev fnY (l : Nat) : V := .fn (.yield l) []
def Tw0 (l : Nat) : List V := [fnY l, .p 3 0, .junk, .p 5 0] ++ List.replicate 19 .junk
def Tw (l i : Nat) : List V := [fnY l, .p 3 0, .junk, .p 5 0, .d (.int .i64 i)] ++ List.replicate 18 .junk
def Hw (K s i : Nat) (c : List V) : List (Option Ob) := [some (kO K), none, some (plO c), some (sO s), none, some (plO ((plC (placeY s i)).map .d))]

theorem o_3y {s k : Nat} (h1 : 1 ≤ s) (h5 : s ≤ 5) (hk : k ≤ 1024) : (placeY s k).x ≤ 100000 ∧ (placeY s k).shift ≤ 8192 ∧ size (placeY s k).value ≤ 900 ∧ size (placeY s k).reply ≤ 900 := by
 obtain ⟨a1, a2, a3, a4, a5⟩ := o_qp h1 k
 refine ⟨by omega, by omega, ?_, ?_⟩
 ·refine Nat.le_trans (o_7h (n := 11 + (2 * s + k)) (m := 20) (Nat.lt_of_le_of_lt a4 ?_) (by omega)) (by omega)
  have hp := Nat.two_pow_pos (2 * s + k)
  rw [Nat.pow_add 2 11]
  generalize 2 ^ (2 * s + k) = z at *
  have h1 : k * z ≤ 1024 * z := Nat.mul_le_mul_right _ hk
  have h2 : (2 : Nat) ^ 11 * z = 2048 * z := rfl
  rw [h2]
  omega
 ·exact Nat.le_trans (o_7h (n := 2 * s + k + 1) (m := 20) (Nat.lt_of_le_of_lt a2 (Nat.pow_lt_pow_right (by omega) (Nat.lt_succ_self _))) (by omega)) (by omega)

theorem w_r0 (l K s : Nat) (h1 : 1 ≤ s) (h5 : s ≤ 5) (c : List V) (hc : V.lowl 6 c = true) : AW Tryz.prog 4 o_e.l (thenQ (fun T H => wk 6 T (Tw0 l) ∧ wkH 6 H (Hw K s 0 c)) noQ) ([fnY l, .p 3 0] ++ List.replicate 21 .junk) [some (kO K), none, some (plO c), some (sO s)] := by
 simp only [o_e, C.l, Tw0, Hw]
 have e1 : IntKind.i64.wrap (2 * (s : Int)) = 2 * (s : Int) := w64 (by omega) (by omega)
 have e2 : ((2 : Int) * s).toNat = 2 * s := by omega
 have e3 : (2 : Int) ^ (2 * s) = (2 ^ (2 * s) : Nat) := by rw [Int.natCast_pow]; rfl
 have hlt : 2 ^ (2 * s) ≤ 2 ^ 10 := Nat.pow_le_pow_right (by omega) (by omega)
 have hp0 : placeY s 0 = ⟨0, 0, 0, 2 ^ (2 * s)⟩ := rfl
 rw [hp0]
 generalize 2 ^ (2 * s) = q at *
 have e4 : IntKind.u64.wrap (q : Int) = q := wu64 (by omega) (by omega)
 have e5 : (2 : Int) * s ≤ 64 := by omega
 refine G1 (fs e1 (fs e2 (fs e3 (fs e4 e5)))) ?_; try with_reducible exact tt
 refine CallS.pf 4 1 ⟨28, _⟩ [.int .u64 q] (o_1c [q] (o_12 (by omega)) (by simp)) (by first | rfl | (simp; done)) (R0 ?_); try with_reducible exact tt
 exact ⟨Subs.cons (Sub1.refl _) (Subs.cons (Sub1.refl _) (Subs.cons Sub1.nil (Subs.of (by simp [wval])))), rfl⟩

theorem w_r1 (l K s : Nat) (c : List V) (hc : V.lowl 6 c = true) : AW Tryz.prog 4 o_e.r.l (thenQ (fun T H => wk 6 T (Tw l 0) ∧ wkH 6 H (Hw K s 0 c)) noQ) (Tw0 l) (Hw K s 0 c) := by
 simp only [o_e, C.l, C.r, Tw0, Tw, Hw]
 have hp : V.lowl 6 ((plC (placeY s 0)).map V.d) = true := rfl
 refine G1 (fs hc hp) ?_; try with_reducible exact tt

theorem w_g (l K s i : Nat) (hi : i ≤ 1023) (c : List V) (hc : V.lowl 6 c = true) : AW Tryz.prog 4 cWb.l (thenQ (fun T H => wk 6 T (Tw l i) ∧ wkH 6 H (Hw K s i c)) noQ) (Tw l i) (Hw K s i c) := by
 simp only [o_e, C.l, C.r, C.b, Tw, Hw]
 have hp : V.lowl 6 ((plC (placeY s i)).map V.d) = true := rfl
 have h1 : (i : Int) ≤ 1023 := by omega
 refine G1 (fs hc (fs hp h1)) ?_; try with_reducible exact tt
 refine AW.cond rfl (fun h => ?_) (fun h => ?_)
 ·refine G1 (fs hc hp) ?_; try with_reducible exact tt
 ·simp [h1] at h

theorem w_r5 (l K s i : Nat) (h1 : 1 ≤ s) (h5 : s ≤ 5) (hi : i ≤ 1023) (c : List V) (hc : V.lowl 6 c = true) : AW Tryz.prog 4 cWb.r.l.b.r (thenQ (fun T H => wk 6 T (Tw l i) ∧ wkH 6 H (Hw K s (i + 1) c)) noQ) (Tw l i) (Hw K s i c) := by
 simp only [o_e, C.l, C.r, C.b, Tw, Hw]
 obtain ⟨b1, b2, b3, b4⟩ := o_3y h1 h5 (k := i) (by omega)
 have hn := o_r4 s (placeY s i) h5 b1 b2 b3 b4
 rw [show nextY s (placeY s i) = placeY s (i + 1) from rfl] at hn
 generalize placeY s i = p at *
 generalize placeY s (i + 1) = p' at *
 simp only [plC, List.map_cons, List.map_nil, plD] at hn ⊢
 refine G1 hc ?_; try with_reducible exact tt
 refine CallS.pu (hn) (R1 hc ?_); try with_reducible exact tt

theorem w_r6 (l K s i : Nat) (hi : i ≤ 1023) (c : List V) (hc : V.lowl 6 c = true) : AW Tryz.prog 4 cWb.r.r (thenQ (fun T H => wk 6 T (Tw l (i + 1)) ∧ wkH 6 H (Hw K s (i + 1) c)) noQ) (Tw l i) (Hw K s (i + 1) c) := by
 simp only [o_e, C.l, C.r, C.b, Tw, Hw]
 have hp : V.lowl 6 ((plC (placeY s (i + 1))).map V.d) = true := rfl
 generalize (plC (placeY s (i + 1))).map V.d = pc at *
 have ew : IntKind.i64.wrap ((i : Int) + 1) = (i : Int) + 1 := w64 (by omega) (by omega)
 refine G1 (fs hc (fs hp ew)) ?_; try with_reducible exact tt

/-- what is read ahead of the call of yield -/
theorem w_os (l K s i : Nat) (c : List V) (ops : Array Oper) {K' : List V → List (Option Ob) → Prop} (h : K' ((((Tw l i).set 15 (fnY l)).set 16 (.d (.int .i64 i))).set 17 (.d (.agg (plC (placeY s i))))) (Hw K s i c)) :
  vops Tryz.prog false K' ((cWb.r.l.b.l.l.os).take 3) [] (Tw l i) (Hw K s i c) := by
 simp only [cWb, o_e, C.l, C.r, C.b, C.os, Tw, Hw] at h ⊢
 generalize placeY s i = p at *
 simp only [plC, List.map_cons, List.map_nil] at h ⊢
 simp
 simpa using h
theorem w_o4 (l K s i : Nat) (p : D) (b : Bool) (H : List (Option Ob)) {K' : List V → List (Option Ob) → Prop} (h : K' (((((Tw l i).set 15 (fnY l)).set 16 (.d (.int .i64 i))).set 17 (.d p)).set 18 (.d (.bool b)) |>.set 19 (.d (.bool !b))) H) :
  vops Tryz.prog false K' [((cWb.r.l.b.l.l.os).drop 4).headD ⟨none, .bad, none, []⟩] [] (((((Tw l i).set 15 (fnY l)).set 16 (.d (.int .i64 i))).set 17 (.d p)).set 18 (.d (.bool b))) H := by
 simp only [cWb, o_e, C.l, C.r, C.b, C.os, Tw] at h ⊢
 simp
 simpa using h
end
end Go.Proofs.YtijbgbpjionfjaaGreatDoor.Am
namespace Go.Proofs.YtijbgbpjionfjaaGreatDoor.Am
section
open Go.RowKit
theorem o_rd (n : Nat) (p : Pl) : V.lowl n ((plC p).map V.d) = true := rfl
theorem o_1v {m : Mem} {a : Act} {T : List V} {H : List (Option Ob)} (sat : Sat m a T H) {s : Nat} {x : V} (h : T.getD s .junk = x) : x.rep m (a.tmps.getD s undef) := h ▸ sat.slots s
theorem nloop (r : Loop) : ∀ c t f, Obj.loop r ≠ .cells c t f := by intro c t f h; cases h

theorem o_2o {m m' : Mem} (hI : m'.I = m.I) (hw : m'.w = m.w) {ds : List D} {vs : List Value} (h : V.reps m (ds.map V.d) vs) : V.reps m' (ds.map V.d) vs := by
 rw [V.reps_map_d] at h ⊢
 rw [hI, hw]; exact h
theorem o_hs {m : Mem} {a : Act} {T : List V} {H : List (Option Ob)} (sat : Sat m a T H) {c : Operand} {s : Nat} (hc : X.of c = .t s) {b : Bool} (h : T.getD s .junk = .d (.bool b)) : a.eval c = .bool b :=
 V.rep_bool.1 (X.rep' (T := T) (fun s _ => sat.slots s) (by rw [hc]; exact h))
def zD : List D := [.int .i64 0, .int .i64 0, .nilsl, .nilsl]
def SS : Nat → Bool := fun n => n == 0 || n == 2

set_option maxHeartbeats 4000000 in
theorem o_re {asg bd : Code} (hasg : resolveC Tryz.prog asg = cAsg) (hbd : resolveC Tryz.prog bd = cBd) (ca : Code.calm asg = true) (cb : Code.calm bd = true) {fn df : Nat} {tmps : Array Value} {rec : LoopState → Option Code → Loop}
  (hrec : rec = fun st pe => { state := st, pending := pe, fn, tmps, params := #[24, 25], assign := asg, body := bd, defers := df }) (s K : Nat) (s1 : 1 ≤ s) (s5 : s ≤ 5) (hK : K ≤ 1023) {m : Mem} {l : Nat} {sv : Value}
  (sat : ∀ a : Act, a.tmps = #[.func (.yield l) #[] #[], sv] ++ Array.replicate 21 undef → a.defers = [] → Sat m a ([fnY l, .p 3 0] ++ List.replicate 21 .junk) [some (kO K), none, some (plO (zD.map V.d)), some (sO s)])
  (t3 : (V.p 0 0).rep m (tmps.getD 3 undef)) (t6 : (V.p 2 0).rep m (tmps.getD 6 undef)) (hsz : tmps.size = 31) (hlo : m.loose l) (hl : m.w.heap[l]? = some (.loop (rec .ready none))) :
  Calls Tryz.prog o_h #[.func (.yield l) #[] #[], sv] m.w fun e w' => (∃ v, e = .returned v) ∧ ∃ m' : Mem, m'.w = w' ∧ m'.base ∧ m'.obj 2 (plO ((plC (placeY s K)).map .d)) ∧ (m.at (m.w.putObj l (.loop (rec .done (some (.exit 1)))))).le m' (· < 4) := by
 obtain ⟨f67, r0, r1, g, r5, r6, -, id, ops, o0, o1, o2, o3, o4, cy, hf, hb, hops, e0, e1, eg, eos, ecall, eo4, ecy, er5, er6, ecalm, eres, ent⟩ := o_r6 o_r9
 simp only at hb e0 e1 eg eos ecall eo4 ecy er5 er6 ecalm eres ent
 obtain ⟨cc, ho3, hg3, hc3, ha3, hd3⟩ := o_r7 ecall
 rw [Bool.and_eq_true] at ecalm
 refine calls_of_wp hf hb ((wpIn_wide (n := 0)).1 ?_)
 have sat0 := sat { tmps := #[.func (.yield l) #[] #[], sv] ++ Array.replicate (f67.ntmps - #[Value.func (.yield l) #[] #[], sv].size) undef, defers := [] } (by rw [ent]; rfl) rfl
 have htop : ∀ n, 4 ≤ n → m.ρ n = none := sat0.top
 refine AW.then (L := 4) e0 (w_r0 l K s s1 s5 (zD.map V.d) rfl) sat0 (Mem.le.refl _ _) htop (by simp) fun T1 H1 m1 a1 hq st1 le1 L1 => ?_
 obtain ⟨m1', hw1, st1', le1', L1'⟩ := Sat.weaken (T1 := Tw0 l) (H1 := Hw K s 0 (zD.map V.d)) (Weak.of hq.1 hq.2) st1 le1 htop (by simp [Hw])
 rw [← hw1]
 refine AW.then (L := 4) e1 (w_r1 l K s (zD.map V.d) rfl) st1' le1' htop (by simp [Hw]) fun T2 H2 m2 a2 hq st2 le2 L2 => ?_
 obtain ⟨m2', hw2, st2', le2', L2'⟩ := Sat.weaken (T1 := Tw l 0) (H1 := Hw K s 0 (zD.map V.d)) (Weak.of hq.1 hq.2) st2 le2 htop (by simp [Hw])
 rw [← hw2]
 clear hw1 hw2 st1 st2 sat0 sat le1 le2 L1 L2 st1' le1' L1' hq
 refine wpIn_block (wpIn_wide.2 (o_27 (fun k a w => ∃ (i : Nat) (c : List D) (m' : Mem), m'.w = w ∧ k = 1024 - i ∧ i ≤ K ∧ c.length = 4 ∧ Sat m' a (Tw l i) (Hw K s i (c.map V.d)) ∧ m.le m' (· < 4)) ?_ 1024 a2 m2'.w ⟨0, _, m2', rfl, rfl, Nat.zero_le _, rfl, st2', le2'⟩))
 clear st2' le2' L2' hq m2 m2' a2 T2 H2 m1 m1' a1 T1 H1
 rintro k a w ⟨i, c, mw, rfl, rfl, hi, hc, st, le⟩
 have hlc : V.lowl 6 (c.map V.d) = true := V.lowl_mono (by omega) _ (o_28 c).1
 refine (wpIn_wide (n := 0)).1 ?_
 refine AW.then (L := 4) eg (w_g l K s i (by omega) (c.map V.d) hlc) st le htop (by simp [Hw]) fun T1 H1 m1 a1 hq st1 le1 L1 => ?_
 obtain ⟨m1', hw1, st1', le1', L1'⟩ := Sat.weaken (T1 := Tw l i) (H1 := Hw K s i (c.map V.d)) (Weak.of hq.1 hq.2) st1 le1 htop (by simp [Hw])
 rw [← hw1]
 clear hw1 st1 le1 L1 hq st le m1 T1 H1 a mw
 refine wpIn_seq (wpIn_block (wpIn_seq (wpIn_seq (o_a4 ?_))))
 rw [hops, show [o0, o1, o2, o3, o4] = [o0, o1, o2] ++ [o3, o4] from rfl]
 refine o_2a (l := none) (L := 4) (K := fun T H => T = ((((Tw l i).set 15 (fnY l)).set 16 (.d (.int .i64 i))).set 17 (.d (.agg (plC (placeY s i))))) ∧ H = Hw K s i (c.map V.d)) [o3, o4] ecalm.1 (by rw [eos]; exact w_os l K s i (c.map V.d) ops ⟨rfl, rfl⟩) st1' le1' htop (by simp [Hw]) fun T2 H2 a2 m2 hq st2 le2 L2 => ?_
 obtain ⟨rfl, rfl⟩ := hq
 clear st1' le1' L1' m1' a1
 -- the call of yield
 have g15 : a2.eval (.tmp 15) = .func (.yield l) #[] #[] := by
  have := o_1v st2 (s := 15) (x := fnY l) (by simp [Tw])
  unfold V.rep at this
  obtain ⟨vs, h1, h2⟩ := this
  simp at h2
  subst h2
  exact h1
 have g16 : a2.eval (.tmp 16) = .int .i64 i := V.rep_int.1 (o_1v st2 (s := 16) (by simp [Tw]))
 have g17 : (V.d (.agg (plC (placeY s i)))).rep m2 (a2.eval (.tmp 17)) := o_1v st2 (s := 17) (by simp [Tw])
 obtain ⟨lo2, hl2⟩ := hlo.keep le2
 have hl2' := hl2.trans hl
 have hcut : ∀ n, n = 0 ∨ n = 2 → (m2.cut SS).ρ n = m2.ρ n := fun n h => by rcases h with rfl | rfl <;> simp [SS]
 have hobj : ∀ (n : Nat) (ty : TypeId) (ds : List D), n = 0 ∨ n = 2 → m2.obj n ⟨ty, ds.map V.d⟩ → (m2.cut SS).obj n ⟨ty, ds.map V.d⟩ := by
  rintro n ty ds hn ⟨b, vs, more, h1, h2, h3, h4, h5⟩
  exact ⟨b, vs, more, by rw [hcut n hn]; exact h1, h2, h3, o_2o (m := m2) (m' := m2.cut SS) rfl rfl (show V.reps m2 (ds.map V.d) vs from h4), h5⟩
 have hun : ∀ (n : Nat) (ty : TypeId) (ds : List D) (mr : Mem), n = 0 ∨ n = 2 → (∀ b, m2.ρ n = some b → mr.ρ n = some b) → mr.obj n ⟨ty, ds.map V.d⟩ → (⟨m2.ρ, mr.I, mr.w⟩ : Mem).obj n ⟨ty, ds.map V.d⟩ := by
  rintro n ty ds mr hn hρ ⟨b, vs, more, h1, h2, h3, h4, h5⟩
  obtain ⟨b', hb'⟩ : ∃ b', m2.ρ n = some b' := by
   rcases hn with rfl | rfl
   ·exact o_7i (st2.obj 0 _ rfl)
   ·exact o_7i (st2.obj 2 _ rfl)
  have := hρ b' hb'
  rw [h1] at this
  cases this
  exact ⟨b, vs, more, hb', h2, h3, o_2o (m := mr) (m' := ⟨m2.ρ, mr.I, mr.w⟩) rfl rfl (show V.reps mr (ds.map V.d) vs from h4), h5⟩
 have r3 : (V.p 0 0).rep (m2.cut SS) (tmps.getD 3 undef) := by
  unfold V.rep at t3 ⊢
  obtain ⟨b, h1, h2⟩ := t3
  exact ⟨b, by rw [hcut 0 (.inl rfl)]; exact le2.ρ 0 b h1, h2⟩
 have r6' : (V.p 2 0).rep (m2.cut SS) (tmps.getD 6 undef) := by
  unfold V.rep at t6 ⊢
  obtain ⟨b, h1, h2⟩ := t6
  exact ⟨b, by rw [hcut 2 (.inr rfl)]; exact le2.ρ 2 b h1, h2⟩
 have rv : (V.d (.agg (plC (placeY s i)))).rep (m2.cut SS) (a2.eval (.tmp 17)) := V.rep_d.2 (V.rep_d.1 g17)
 have loc : (m2.cut SS).loose l := by
  refine ⟨lo2.lt, fun n h => ?_, lo2.I⟩
  simp only at h
  split at h
  ·exact lo2.ρ n h
  ·cases h
 have hround := o_rc hasg hbd ca cb hrec (0 - 1) K i (plC (placeY s i)) rfl (m := m2.cut SS) (l := l) (c := c.map V.d) (Mem.cut_base st2.base SS) (hobj 0 _ [.int .i64 K] (.inl rfl) (st2.obj 0 _ rfl)) (hobj 2 _ c (.inr rfl) (st2.obj 2 _ rfl)) (by simpa using hc)
  (fun b h0 h2 => by
   rw [hcut 0 (.inl rfl)] at h0; rw [hcut 2 (.inr rfl)] at h2
   have := st2.inj 0 2 b rfl rfl h0 h2
   omega)
  (fun n h0 h2 => by simp [SS, h0, h2]) r3 r6' hsz loc hl2' rv
 obtain ⟨fn', tmps', asg', bd', hy, hR⟩ := hround
 rw [← g16] at hy
 refine wpListIn_plain hg3 (fun Kk hKk => ⟨fun _ _ => trivial, ?_⟩)
 rw [show (FR none).round = none from rfl, Oper.semAt_none, o_la ho3 hc3 ha3 g15, hy, Oper.uponIn_round]
 refine ⟨fun h => by simp [FR, Fence.wide] at h, hR.mono ?_⟩
 rintro e w' ⟨mr, rfl, mrb, mr0, mr2, hcase⟩
 -- both ways: a memory that fits
 have key : ∀ (o : Obj), (∀ c t f, o ≠ .cells c t f) → ((m2.cut SS).at (m2.w.putObj l o)).le mr (· < 3) → ∀ b : Bool,
   Sat ⟨m2.ρ, mr.I, mr.w⟩ (a2.put (some 18) (.bool b)) (((((Tw l i).set 15 (fnY l)).set 16 (.d (.int .i64 i))).set 17 (.d (.agg (plC (placeY s i))))).set 18 (.d (.bool b))) (Hw K s i ((plC (placeY s i)).map V.d)) ∧ (m2.at (m2.w.putObj l o)).le ⟨m2.ρ, mr.I, mr.w⟩ (fun n => SS n = true) := by
  intro o ho hle b
  have hu := Mem.uncut (m := m2.at (m2.w.putObj l o)) (S := SS) hle (fun n h => by simp [SS] at h; omega)
  have hρ : ∀ n b, m2.ρ n = some b → n = 0 ∨ n = 2 → mr.ρ n = some b := fun n b h hn => hle.ρ n b (by show (if SS n = true then m2.ρ n else none) = some b; rw [if_pos (by rcases hn with rfl | rfl <;> rfl)]; exact h)
  refine ⟨Sat.put (Sat.uncut (H' := Hw K s i ((plC (placeY s i)).map V.d)) (lo2.sat o st2) mrb hu (fun n h => ?_) rfl fun n ob h => ?_) 18 (V.rep_bool.2 rfl), hu⟩
  ·simp [SS] at h
   rcases h with rfl | rfl <;> rfl
  ·rcases n with _ | _ | _ | _ | _ | _ | n
   ·left; simp [Hw] at h; subst h
    exact ⟨rfl, hun 0 _ [.int .i64 K] mr (.inl rfl) (fun b h => hρ 0 b h (.inl rfl)) mr0⟩
   ·simp [Hw] at h
   ·left; simp [Hw] at h; subst h
    exact ⟨rfl, hun 2 _ (plC (placeY s i)) mr (.inr rfl) (fun b h => hρ 2 b h (.inr rfl)) mr2⟩
   ·right; simp [Hw] at h; subst h; exact ⟨rfl, rfl⟩
   ·simp [Hw] at h
   ·right; simp [Hw] at h; subst h; exact ⟨rfl, by simp [Hw]⟩
   ·simp [Hw] at h
 have hres : ∀ (a : Act) (w : World), (results f67 a.tmps).run Tryz.prog w = .ok (.tuple #[]) w := fun a w => by
  have : f67.results = #[] := Array.eq_empty_of_size_eq_zero eres
  simp [results, this]
 have hmap : [o4].map (resolveO Tryz.prog ops) = [((cWb.r.l.b.l.l.os).drop 4).headD ⟨none, .bad, none, []⟩] := by rw [← eo4]; rfl
 by_cases hik : i = K
 ·rw [if_pos hik] at hcase
  obtain ⟨rfl, hle⟩ := hcase
  obtain ⟨sat5, le5⟩ := key _ (nloop _) hle false
  refine hKk _ _ ?_
  rw [hd3]
  have lem := (hlo.le le2 (o := .loop (rec .done (some (.exit 1)))) (o' := .loop (rec .done (some (.exit 1)))) hl (nloop _) (nloop _) (nloop _) rfl).trans le5 (fun n b _ h => by simp [SS] at h; omega)
  refine o_2a (l := none) (L := 4) (m0 := m.at (m.w.putObj l (.loop (rec .done (some (.exit 1)))))) (m := ⟨m2.ρ, mr.I, mr.w⟩) (K := fun T H => T = (((((Tw l i).set 15 (fnY l)).set 16 (.d (.int .i64 i))).set 17 (.d (.agg (plC (placeY s i))))).set 18 (.d (.bool false))).set 19 (.d (.bool true)) ∧ H = Hw K s i ((plC (placeY s i)).map V.d)) [] ecalm.2 (by rw [hmap]; exact w_o4 l K s i _ false _ ⟨rfl, rfl⟩) sat5 lem htop (by simp [Hw]) fun T6 H6 a6 m6 hq st6 le6 _ => ?_
  obtain ⟨rfl, rfl⟩ := hq
  refine wpListIn_nil ?_
  refine wpIn_cond_split (o_hs st6 ecy (b := true) (by simp [Tw])) (fun _ => wpIn_ret ?_) (fun h => by cases h)
  refine ⟨st6.defers, _, hres _ _, ⟨_, rfl⟩, m6, rfl, st6.base, ?_, le6⟩
  rw [← hik]
  exact st6.obj 2 _ rfl
 ·rw [if_neg hik] at hcase
  obtain ⟨rfl, hle⟩ := hcase
  obtain ⟨sat5, le5⟩ := key (.loop (rec .ready none)) (nloop _) (by rw [o_5l hl2']; exact hle) true
  rw [o_5l hl2'] at le5
  refine hKk _ _ ?_
  rw [hd3]
  refine o_2a (l := none) (L := 4) (m0 := m) (m := ⟨m2.ρ, mr.I, mr.w⟩) (K := fun T H => T = (((((Tw l i).set 15 (fnY l)).set 16 (.d (.int .i64 i))).set 17 (.d (.agg (plC (placeY s i))))).set 18 (.d (.bool true))).set 19 (.d (.bool false)) ∧ H = Hw K s i ((plC (placeY s i)).map V.d)) [] ecalm.2 (by rw [hmap]; exact w_o4 l K s i _ true _ ⟨rfl, rfl⟩) sat5 (le2.trans le5 (fun n b _ h => by simp [SS] at h; omega)) htop (by simp [Hw]) fun T6 H6 a6 m6 hq st6 le6 _ => ?_
  obtain ⟨rfl, rfl⟩ := hq
  refine wpListIn_nil ?_
  refine wpIn_cond_split (o_hs st6 ecy (b := false) (by simp [Tw])) (fun h => by cases h) (fun _ => wpIn_skip ?_)
  have hlp := o_rd 6 (placeY s i)
  obtain ⟨m7, hw7, st7, le7, _⟩ := Sat.weaken (T1 := Tw l i) (H1 := Hw K s i ((plC (placeY s i)).map V.d)) (Weak.of (by simp [Tw, Hw, V.low, V.lowl]) (by simp [Hw, hlp, V.lowl, V.low])) st6 le6 htop (by simp [Hw])
  rw [← hw7]
  refine wpIn_mono (wpIn_wide.2 (w_r5 l K s i s1 s5 (by omega) _ hlp r5 er5 m m7 a6 st7 le7 htop (by simp [Hw]))) ?_
  rintro e a8 w8 ⟨T8, H8, m8, rfl, hq, st8, le8, _⟩
  cases e with
  | normal =>
   obtain ⟨m9, hw9, st9, le9, _⟩ := Sat.weaken (T1 := Tw l i) (H1 := Hw K s (i + 1) ((plC (placeY s i)).map V.d)) (Weak.of hq.1 hq.2) st8 le8 htop (by simp [Hw])
   rw [← hw9]
   refine wpIn_mono (wpIn_wide.2 (w_r6 l K s i (by omega) _ hlp r6 er6 m m9 a8 st9 le9 htop (by simp [Hw]))) ?_
   rintro e a10 w10 ⟨T10, H10, m10, rfl, hq, st10, le10, _⟩
   cases e with
   | normal =>
    obtain ⟨m11, hw11, st11, le11, _⟩ := Sat.weaken (T1 := Tw l (i + 1)) (H1 := Hw K s (i + 1) ((plC (placeY s i)).map V.d)) (Weak.of hq.1 hq.2) st10 le10 htop (by simp [Hw])
    exact ⟨1024 - (i + 1), by omega, i + 1, plC (placeY s i), m11, hw11, rfl, by omega, rfl, st11, le11⟩
   | _ => exact hq.elim
  | _ => exact hq.elim
end
end Go.Proofs.YtijbgbpjionfjaaGreatDoor.Am
