/- Parts of the proof: CodeD, WordsM, Nat1, Nat2, Nat3, Nat4, Nat5, Nat6, Rat1, Text1, Tape1, Float1, Flip1, Flip2, Morris1, Chain1, YuM, DivM, Nat7, Yu1, YuX, YuW, YuAt, YuAt2, Yu2, Float2, Yu3, Chain2, Chain3, Chain4, Chain5, Chain6, ChainP, Chain7, Chain8, ChainA, ChainM, ChainB, ChainC, ChainD, ChainE, Chain9, ChainF, ThinM, Thin1, Thin2, Thin3, Reg1, BitsM, Bits1, Bits2, Bits3, Reg2, Reg3, Reg4, PackM. -/
import Derived.Test.YtlelpbaeplcfiaaPb
set_option linter.unusedVariables false
set_option linter.unusedSimpArgs false
set_option maxRecDepth 100000
namespace Go.Proofs.Ytlelpbaeplcfiaa.Am
section
open Go.Proofs.Ytlelpbaeplcfiaa.Am
theorem mix : Try.prog.follows .mixedOrders = true := by kernel_rfl
@[simp] def om_ (d s : Nat) (l : List Nat) : O := ⟨some d, .mv (.t s), none, l⟩
@[simp] def oo_ (d : Nat) (a : A) (l : List Nat) : O := ⟨some d, a, none, l⟩
@[simp] def og_ (d : Nat) (a : A) (s : Nat) (b : Bool) (l : List Nat) : O := ⟨some d, a, some (s, b), l⟩
@[simp] def on_ (a : A) (l : List Nat) : O := ⟨none, a, none, l⟩

abbrev t_tape_Tape : Nat := 167

abbrev o_50 : FuncId := 3
def o_51 : C := (.seq (.reg false [oo_ 3 (.box 23 (.t 0)) [],oo_ 6 (.mv (.d (.bool false))) []]) (.seq (.seq (.reg false [oo_ 30 (.call 4 []) [],oo_ 31 (.un .not (.t 30)) [0]]) (.cond (.t 31) (.seq (.reg false [oo_ 6 (.mv (.d (.bool
 false))) []]) .ret) .skip)) (.seq (.reg false [oo_ 33 (.load true 3 (.t 3)) [],oo_ 34 (.build [(.int .i64 0),(.int .i64 0),(.bool false)] []) [],oo_ 35 (.call 5 [(.t 33),(.t 34)]) [0,1],om_ 32 35 [2],oo_ 36 (.ext (.t
 32) 0) [3],oo_ 37 (.ext (.t 32) 1) [3],oo_ 7 (.new 23 [(.int .i64 0),(.int .i64 0),(.int .i64 0)]) [],oo_ 8 (.new 28 [(.int .i64 0),(.int .i64 0),(.bool false)]) [],on_ (.store 3 (.t 7) (.t 36))
 [6,4,2,0,1,2,3,4,6,7],on_ (.store 3 (.t 8) (.t 37)) [7,5,8,0,1,2,3,4,5,6,7,8]]) (.seq (.reg false [oo_ 39 (.load true 3 (.t 7)) [],om_ 40 1 [],oo_ 41 (.call 6 [(.t 39),(.t 40)]) [0,1],om_ 38 41 [2],oo_ 42 (.ext (.t 38)
 0) [3],oo_ 43 (.ext (.t 38) 1) [3],oo_ 44 (.ext (.t 38) 2) [3],om_ 9 42 [4,2,0,1,2,3,4],om_ 10 43 [5,7,0,1,2,3,4,5,7],om_ 11 44 [6,8,0,1,2,3,4,5,6,7,8]]) (.seq (.seq (.reg false [om_ 45 11 [],oo_ 46 (.un .not (.t 45))
 [0]]) (.cond (.t 46) (.seq (.reg false [oo_ 6 (.mv (.d (.bool false))) []]) .ret) .skip)) (.seq (.reg false [oo_ 12 (.new 36 [.nilsl,(.int .i64 0)]) []]) (.seq (.reg false [om_ 47 9 [],oo_ 48 (.chk (.t 47)) [0],oo_ 49
 (.fa 0 (.t 48)) [1],oo_ 50 (.load false 1 (.t 49)) [2],oo_ 51 (.call 7 [(.t 50),(.t 12)]) [3]]) (.seq (.reg false [oo_ 13 (.mv (.d .nilsl)) []]) (.seq (.seq (.reg false [om_ 52 10 [],oo_ 53 (.len (.t 52)) [0],oo_ 54
 (.mv (.d (.int .i64 0))) []]) (.block 0 (.loop (.seq (.reg false [oo_ 55 (.bin .lss (.t 54) (.t 53)) []]) (.seq (.cond (.t 55) .skip (.exit 0)) (.seq (.block 1 (.seq (.reg false [oo_ 56 (.ix 3 (.t 52) (.t 54)) [],oo_ 57
 (.load true 3 (.t 56)) [0],oo_ 15 (.new 43 [(.int .i64 0),(.int .i64 0),(.bool false)]) [],on_ (.store 3 (.t 15) (.t 57)) [2,1,0,1,2]]) (.reg false [om_ 58 13 [],oo_ 59 (.fa 0 (.t 15)) [],oo_ 60 (.load false 1 (.t 59))
 [1],oo_ 61 (.fa 1 (.t 15)) [],oo_ 62 (.load false 1 (.t 61)) [3],oo_ 63 (.fa 2 (.t 15)) [],oo_ 64 (.load false 1 (.t 63)) [5],oo_ 65 (.build [(.int .i64 0),(.int .i64 0),(.bool false)] [(0,1,(.t 60)),(1,1,(.t
 62)),(2,1,(.t 64))]) [2,4,6],oo_ 66 (.bsl 28 3 1 [(.int .i64 0),(.int .i64 0),(.bool false)] [(0,3,(.t 65))]) [7],oo_ 67 (.app 28 3 24 (.t 58) (.t 66)) [0,8],om_ 13 67 [9,9,0,1,2,3,4,5,6,7,8,9]]))) (.reg false [oo_ 68
 (.bin .add (.t 54) (.d (.int .i64 1))) [],om_ 54 68 [0]]))))))) (.seq (.reg false [oo_ 69 (.load true 3 (.t 7)) [],om_ 70 13 [],oo_ 71 (.call 8 [(.t 69),(.t 70)]) [0,1],om_ 16 71 [2,2,0,1,2]]) (.seq (.reg true [oo_ 73
 (.call 11 [(.t 12)]) [],oo_ 74 (.call 10 [(.t 73)]) [0,0],om_ 75 9 [],oo_ 76 (.call 12 [(.t 75)]) [2,1],om_ 77 9 [],oo_ 78 (.chk (.t 77)) [4],oo_ 79 (.fa 0 (.t 78)) [5],oo_ 80 (.load false 1 (.t 79)) [6],oo_ 81 (.call
 13 [(.t 80)]) [7,3],oo_ 82 (.call 9 [(.t 74),(.t 76),(.t 81)]) [1,3,8,8],om_ 72 82 [9],oo_ 83 (.ext (.t 72) 0) [10],oo_ 84 (.ext (.t 72) 1) [10],om_ 17 83 [11,9,0,1,2,3,4,5,6,7,8,9,10,11],om_ 18 84
 [12,13,0,1,2,3,4,5,6,7,8,9,10,11,12,13]]) (.seq (.seq (.reg false [oo_ 85 (.call 14 [(.t 12)]) [],om_ 86 16 [],oo_ 87 (.len (.t 86)) [1],oo_ 88 (.bin .neq (.t 85) (.t 87)) [0,2],om_ 89 88 [3,0],og_ 90 (.call 11 [(.t
 12)]) 89 false [4,4],og_ 91 (.mv (.t 16)) 89 false [4],og_ 92 (.call 16 [(.t 91)]) 89 false [6,5,4],og_ 93 (.call 15 [(.t 90),(.t 92)]) 89 false [5,7,7,4],og_ 94 (.un .not (.t 93)) 89 false [8,4],oo_ 95 (.pick (.t 89)
 (.d (.bool true)) (.t 94)) [4,9],om_ 96 95 [10,8],og_ 97 (.mv (.t 18)) 96 false [11],og_ 98 (.bin .neq (.t 97) (.d (.int .i64 0))) 96 false [12,11],oo_ 99 (.pick (.t 96) (.d (.bool true)) (.t 98)) [11,13],om_ 100 99
 [14,11],og_ 101 (.mv (.t 17)) 100 false [15],og_ 102 (.mv (.t 9)) 100 false [15],og_ 103 (.call 17 [(.t 101),(.t 102)]) 100 false [16,17,15,15],og_ 104 (.un .not (.t 103)) 100 false [18,15],oo_ 105 (.pick (.t 100) (.d
 (.bool true)) (.t 104)) [15,19]]) (.cond (.t 105) (.seq (.reg false [oo_ 6 (.mv (.d (.bool false))) []]) .ret) .skip)) (.seq (.seq (.reg false [om_ 106 2 [],oo_ 107 (.len (.t 106)) [0],oo_ 108 (.bin .gtr (.t 107) (.d
 (.int .i64 30))) [1]]) (.cond (.t 108) (.reg false [om_ 109 2 [],oo_ 110 (.slice 1 (.t 109) none (some (.d (.int .i64 30))) none) [0],om_ 2 110 [1,0,1]]) .skip)) (.seq (.reg false [om_ 111 2 [],oo_ 112 (.call 10 [(.t
 111)]) [0],om_ 19 112 [1,1,0,1]]) (.seq (.reg true [om_ 114 19 [],om_ 115 9 [],oo_ 116 (.call 12 [(.t 115)]) [1],om_ 117 9 [],oo_ 118 (.chk (.t 117)) [3],oo_ 119 (.fa 0 (.t 118)) [4],oo_ 120 (.load false 1 (.t 119))
 [5],oo_ 121 (.call 13 [(.t 120)]) [6,2],oo_ 122 (.call 9 [(.t 114),(.t 116),(.t 121)]) [0,2,7,7],om_ 113 122 [8],oo_ 123 (.ext (.t 113) 0) [9],oo_ 124 (.ext (.t 113) 1) [9],om_ 20 123 [10,8,0,1,2,3,4,5,6,7,8,9,10],om_
 18 124 [11,12,0,1,2,3,4,5,6,7,8,9,10,11,12]]) (.seq (.reg true [om_ 126 2 [],oo_ 127 (.call 19 [(.t 126)]) [0],oo_ 128 (.load true 3 (.t 7)) [],om_ 129 9 [],oo_ 130 (.chk (.t 129)) [3],oo_ 131 (.fa 0 (.t 130)) [4],oo_
 132 (.load false 1 (.t 131)) [5],oo_ 133 (.call 13 [(.t 132)]) [6,1],oo_ 134 (.call 18 [(.t 127),(.d (.int .i64 0)),(.t 128),(.t 133)]) [1,2,7,7],om_ 125 134 [8],oo_ 135 (.ext (.t 125) 0) [9],oo_ 136 (.ext (.t 125) 1)
 [9],oo_ 137 (.ext (.t 125) 2) [9],om_ 21 135 [10,8,0,1,2,3,4,5,6,7,8,9,10],om_ 22 136 [11,13,0,1,2,3,4,5,6,7,8,9,10,11,13],om_ 23 137 [12,14,0,1,2,3,4,5,6,7,8,9,10,11,12,13,14]]) (.seq (.seq (.reg false [om_ 138 18
 [],om_ 139 23 [],oo_ 140 (.bin .neq (.t 138) (.t 139)) [0,1],om_ 141 140 [2],og_ 142 (.mv (.t 20)) 141 false [3],og_ 143 (.pnl false (.t 142)) 141 false [4,3],og_ 144 (.mv (.t 23)) 141 false [3],og_ 145 (.bin .neq (.t
 144) (.d (.int .i64 0))) 141 false [6,3],og_ 146 (.beq true (.t 143) (.t 145)) 141 false [5,7,3],oo_ 147 (.pick (.t 141) (.d (.bool true)) (.t 146)) [3,8]]) (.cond (.t 147) (.seq (.reg false [oo_ 6 (.mv (.d (.bool
 false))) []]) .ret) .skip)) (.seq (.seq (.reg false [om_ 148 21 [],oo_ 149 (.len (.t 148)) [0],oo_ 150 (.mv (.d (.int .i64 0))) []]) (.block 2 (.loop (.seq (.reg false [oo_ 151 (.bin .lss (.t 150) (.t 149)) []]) (.seq
 (.cond (.t 151) .skip (.exit 2)) (.seq (.block 3 (.seq (.reg false [om_ 152 150 [],oo_ 153 (.ix 3 (.t 148) (.t 150)) [],oo_ 154 (.load true 3 (.t 153)) [1],oo_ 25 (.new 28 [(.int .i64 0),(.int .i64 0),(.bool false)])
 [],om_ 24 152 [0,0,1,2,3],on_ (.store 3 (.t 25) (.t 154)) [3,2,4,0,1,2,3,4]]) (.seq (.reg false [om_ 156 20 [],om_ 157 24 [],oo_ 158 (.call 20 [(.t 156),(.t 157)]) [0,1],om_ 155 158 [2],oo_ 159 (.ext (.t 155) 0) [3],oo_
 160 (.ext (.t 155) 1) [3],oo_ 26 (.new 43 [(.int .i64 0),(.int .i64 0),(.bool false)]) [],on_ (.store 3 (.t 26) (.t 159)) [6,4,2,0,1,2,3,4,6],om_ 27 160 [5,7,0,1,2,3,4,5,6,7]]) (.seq (.reg true [oo_ 161 (.load true 3
 (.t 26)) [],oo_ 162 (.load true 3 (.t 25)) [],oo_ 163 (.call 21 [(.t 162)]) [1],oo_ 164 (.aeq true [0,0,1] (.t 161) (.t 163)) [0,2]]) (.cond (.t 164) (.seq (.reg false [oo_ 6 (.mv (.d (.bool false))) []]) .ret)
 .skip))))) (.reg false [oo_ 165 (.bin .add (.t 150) (.d (.int .i64 1))) [],om_ 150 165 [0]]))))))) (.seq (.reg false [oo_ 167 (.load true 3 (.t 3)) [],oo_ 168 (.call 23 [(.t 167)]) [0],oo_ 169 (.call 22 [(.t 168),(.d
 (.int .i64 257))]) [1,1],om_ 166 169 [2],oo_ 170 (.ext (.t 166) 0) [3],oo_ 171 (.ext (.t 166) 1) [3],om_ 28 170 [4,2,0,1,2,3,4],om_ 29 171 [5,6,0,1,2,3,4,5,6]]) (.seq (.reg false [om_ 172 23 [],oo_ 173 (.bin .neq (.t
 172) (.d (.int .i64 0))) [0],om_ 174 173 [1],og_ 175 (.mv (.t 19)) 174 false [2],og_ 176 (.call 24 [(.t 175)]) 174 false [3,2,2],og_ 177 (.mv (.t 2)) 174 false [2],og_ 178 (.len (.t 177)) 174 false [5,2],og_ 179 (.bin
 .mul (.d (.int .i64 8)) (.t 178)) 174 false [6,2],og_ 180 (.mv (.t 22)) 174 false [2],og_ 181 (.bin .sub (.t 179) (.t 180)) 174 false [7,8,2],og_ 182 (.bin .eql (.t 176) (.t 181)) 174 false [4,9,2],oo_ 183 (.pick (.t
 174) (.d (.bool true)) (.t 182)) [2,10],om_ 184 183 [11,4],og_ 185 (.mv (.t 28)) 184 true [12],og_ 186 (.pnl false (.t 185)) 184 true [13,12],oo_ 187 (.pick (.t 184) (.t 186) (.d (.bool false))) [12,14],om_ 188 187
 [15,12],og_ 189 (.mv (.t 29)) 188 true [16],og_ 190 (.bin .eql (.t 189) (.d (.int .i64 10))) 188 true [17,16],oo_ 191 (.pick (.t 188) (.t 190) (.d (.bool false))) [16,18],om_ 6 191
 [19,16,0,1,2,3,4,5,6,7,8,9,10,11,12,13,14,15,16,17,18,19]]) .ret))))))))))))))))))))
theorem o_52 : fnOf Try.prog o_50 = some (o_51, [.t 6], 192, false) := by kernel_rfl

abbrev o_53 : FuncId := 4
def o_54 : C := (.seq (.reg false [oo_ 0 (.mv (.d (.bool false))) []]) (.seq (.reg false [oo_ 7 (.build [(.int .i64 0),(.int .i64 0),(.int .i64 0)] [(0,1,(.d (.int .i64 2))),(1,1,(.d (.int .i64 1))),(2,1,(.d (.int .i64 3)))]) [],oo_ 8
 (.call 22 [(.t 7),(.d (.int .i64 2))]) [0],om_ 6 8 [1],oo_ 9 (.ext (.t 6) 0) [2],oo_ 10 (.ext (.t 6) 1) [2],om_ 1 9 [3,1,0,1,2,3],om_ 2 10 [4,5,0,1,2,3,4,5]]) (.seq (.seq (.reg false [om_ 11 2 [],oo_ 12 (.bin .neq (.t
 11) (.d (.int .i64 0))) [0],om_ 13 12 [1],og_ 14 (.mv (.t 1)) 13 false [2],og_ 15 (.pnl false (.t 14)) 13 false [3,2],oo_ 16 (.pick (.t 13) (.d (.bool true)) (.t 15)) [2,4],om_ 17 16 [5,2],og_ 18 (.mv (.t 1)) 17 false
 [6],og_ 19 (.build [(.int .i64 0),(.int .i64 0),(.bool false)] [(0,1,(.d (.int .i64 5)))]) 17 false [6],og_ 20 (.call 25 [(.t 18),(.d (.int .i64 0)),(.t 19)]) 17 false [7,8,6,6],og_ 21 (.bin .neq (.t 20) (.d (.int .i64
 0))) 17 false [9,6],oo_ 22 (.pick (.t 17) (.d (.bool true)) (.t 21)) [6,10]]) (.cond (.t 22) (.seq (.reg false [oo_ 0 (.mv (.d (.bool false))) []]) .ret) .skip)) (.seq (.reg false [om_ 24 1 [],oo_ 25 (.call 20 [(.t
 24),(.d (.int .i64 0))]) [0],om_ 23 25 [1],oo_ 26 (.ext (.t 23) 0) [2],oo_ 27 (.ext (.t 23) 1) [2],oo_ 3 (.new 43 [(.int .i64 0),(.int .i64 0),(.bool false)]) [],on_ (.store 3 (.t 3) (.t 26)) [5,3,1,0,1,2,3,5],om_ 4 27
 [4,6,0,1,2,3,4,5,6]]) (.seq (.reg false [oo_ 5 (.new 36 [.nilsl,(.int .i64 0)]) []]) (.seq (.reg false [om_ 28 1 [],oo_ 29 (.chk (.t 28)) [0],oo_ 30 (.fa 0 (.t 29)) [1],oo_ 31 (.load false 1 (.t 30)) [2],oo_ 32 (.call 7
 [(.t 31),(.t 5)]) [3]]) (.seq (.reg false [om_ 33 4 [],oo_ 34 (.bin .eql (.t 33) (.d (.int .i64 0))) [0],om_ 35 34 [1],og_ 36 (.fa 0 (.t 3)) 35 true [2],og_ 37 (.load false 1 (.t 36)) 35 true [3,2],og_ 38 (.bin .eql (.t
 37) (.d (.int .i64 5))) 35 true [4,2],oo_ 39 (.pick (.t 35) (.t 38) (.d (.bool false))) [2,5],om_ 40 39 [6,2],og_ 41 (.mv (.t 1)) 40 true [7],og_ 42 (.chk (.t 41)) 40 true [8,7],og_ 43 (.fa 0 (.t 42)) 40 true [9,7],og_
 44 (.load false 1 (.t 43)) 40 true [10,7],og_ 45 (.call 13 [(.t 44)]) 40 true [11,7,7],og_ 46 (.bin .eql (.t 45) (.d (.int .i64 2))) 40 true [12,7],oo_ 47 (.pick (.t 40) (.t 46) (.d (.bool false))) [7,13],om_ 48 47
 [14,12],og_ 49 (.call 14 [(.t 5)]) 48 true [15,15],og_ 50 (.bin .eql (.t 49) (.d (.int .i64 8))) 48 true [16,15],oo_ 51 (.pick (.t 48) (.t 50) (.d (.bool false))) [15,17],om_ 0 51
 [18,16,0,1,2,3,4,5,6,7,8,9,10,11,12,13,14,15,16,17,18]]) .ret)))))))
theorem o_55 : fnOf Try.prog o_53 = some (o_54, [.t 0], 52, false) := by kernel_rfl

abbrev o_56 : FuncId := 5
def o_57 : C := (.seq (.reg false [oo_ 2 (.box 23 (.t 0)) [],oo_ 3 (.box 28 (.t 1)) [],oo_ 4 (.new 23 [(.int .i64 0),(.int .i64 0),(.int .i64 0)]) [],oo_ 5 (.new 28 [(.int .i64 0),(.int .i64 0),(.bool false)]) []]) (.seq (.reg false
 [oo_ 6 (.fa 0 (.t 2)) [],oo_ 7 (.load false 1 (.t 6)) [0],oo_ 8 (.bin .rem (.t 7) (.d (.int .i64 4))) [1],oo_ 9 (.bin .add (.t 8) (.d (.int .i64 4))) [2],oo_ 10 (.bin .rem (.t 9) (.d (.int .i64 4))) [3],oo_ 11 (.bin
 .add (.d (.int .i64 1)) (.t 10)) [4],oo_ 12 (.fa 0 (.t 2)) [0,1,2,3,4,5],on_ (.store 1 (.t 12) (.t 11)) [6,5,0,1,2,3,4,5]]) (.seq (.seq (.reg false [oo_ 13 (.fa 0 (.t 2)) [],oo_ 14 (.load false 1 (.t 13)) [0]]) (.block
 0 (.seq (.reg false [oo_ 25 (.bin .eql (.t 14) (.d (.int .i64 1))) [],om_ 24 25 [0]]) (.cond (.t 24) (.reg false [oo_ 26 (.fa 1 (.t 2)) [],oo_ 27 (.load false 1 (.t 26)) [0],oo_ 28 (.bin .and (.t 27) (.d (.int .i64 3)))
 [1],oo_ 29 (.bin .add (.d (.int .i64 1)) (.t 28)) [2],oo_ 30 (.fa 2 (.t 2)) [],oo_ 31 (.load false 1 (.t 30)) [4],oo_ 32 (.bin .and (.t 31) (.d (.int .i64 255))) [5],oo_ 33 (.bin .rem (.t 32) (.d (.int .i64 4))) [6],oo_
 34 (.bin .add (.d (.int .i64 1)) (.t 33)) [7],oo_ 35 (.fa 1 (.t 2)) [0,1,2,3,4,5],on_ (.store 1 (.t 35) (.t 29)) [9,3,0,1,2,3,4,5],oo_ 36 (.fa 2 (.t 2)) [0,1,2,3,4,5,6,7,8,9,10],on_ (.store 1 (.t 36) (.t 34))
 [11,8,10,0,1,2,3,4,5,6,7,8,9,10]]) (.seq (.reg false [oo_ 38 (.bin .eql (.t 14) (.d (.int .i64 2))) [],om_ 37 38 [0]]) (.cond (.t 37) (.reg false [oo_ 39 (.fa 1 (.t 2)) [],oo_ 40 (.load false 1 (.t 39)) [0],oo_ 41 (.bin
 .and (.t 40) (.d (.int .i64 1))) [1],oo_ 42 (.fa 2 (.t 2)) [],oo_ 43 (.load false 1 (.t 42)) [3],oo_ 44 (.bin .and (.t 43) (.d (.int .i64 255))) [4],oo_ 45 (.bin .rem (.t 44) (.d (.int .i64 4))) [5],oo_ 46 (.bin .add
 (.d (.int .i64 1)) (.t 45)) [6],oo_ 47 (.fa 1 (.t 2)) [0,1,2,3,4],on_ (.store 1 (.t 47) (.t 41)) [8,2,0,1,2,3,4],oo_ 48 (.fa 2 (.t 2)) [0,1,2,3,4,5,6,7,8,9],on_ (.store 1 (.t 48) (.t 46)) [10,7,9,0,1,2,3,4,5,6,7,8,9]])
 (.seq (.reg false [oo_ 50 (.bin .eql (.t 14) (.d (.int .i64 3))) [],om_ 49 50 [0]]) (.cond (.t 49) (.reg false [oo_ 51 (.fa 1 (.t 2)) [],oo_ 52 (.load false 1 (.t 51)) [0],oo_ 53 (.bin .and (.t 52) (.d (.int .i64 1)))
 [1],oo_ 54 (.bin .add (.d (.int .i64 1)) (.t 53)) [2],oo_ 55 (.fa 2 (.t 2)) [],oo_ 56 (.load false 1 (.t 55)) [4],oo_ 57 (.bin .and (.t 56) (.d (.int .i64 255))) [5],oo_ 58 (.bin .rem (.t 57) (.d (.int .i64 4))) [6],oo_
 59 (.bin .add (.d (.int .i64 1)) (.t 58)) [7],oo_ 60 (.fa 1 (.t 2)) [0,1,2,3,4,5],on_ (.store 1 (.t 60) (.t 54)) [9,3,0,1,2,3,4,5],oo_ 61 (.fa 2 (.t 2)) [0,1,2,3,4,5,6,7,8,9,10],on_ (.store 1 (.t 61) (.t 59))
 [11,8,10,0,1,2,3,4,5,6,7,8,9,10]]) (.reg false [oo_ 15 (.fa 1 (.t 2)) [],oo_ 16 (.load false 1 (.t 15)) [0],oo_ 17 (.bin .and (.t 16) (.d (.int .i64 7))) [1],oo_ 18 (.bin .add (.d (.int .i64 1)) (.t 17)) [2],oo_ 19 (.fa
 2 (.t 2)) [],oo_ 20 (.load false 1 (.t 19)) [4],oo_ 21 (.bin .and (.t 20) (.d (.int .i64 3))) [5],oo_ 22 (.fa 1 (.t 2)) [0,1,2,3,4,5],on_ (.store 1 (.t 22) (.t 18)) [7,3,0,1,2,3,4,5],oo_ 23 (.fa 2 (.t 2))
 [0,1,2,3,4,5,6,7,8],on_ (.store 1 (.t 23) (.t 21)) [9,6,8,0,1,2,3,4,5,6,7,8]]))))))))) (.seq (.reg true [oo_ 62 (.load true 3 (.t 2)) [],oo_ 63 (.load true 3 (.t 2)) [],oo_ 64 (.load true 3 (.t 3)) [],oo_ 65 (.call 26
 [(.t 63),(.t 64)]) [1,2],on_ (.store 3 (.t 4) (.t 62)) [0,3,0],on_ (.store 3 (.t 5) (.t 65)) [3,4,0,1,2,3,4]]) .ret))))
theorem o_58 : fnOf Try.prog o_56 = some (o_57, [.cell 4 true 3, .cell 5 true 3], 66, false) := by kernel_rfl

abbrev o_59 : FuncId := 6
def o_5a : C := (.seq (.reg false [oo_ 2 (.box 23 (.t 0)) [],oo_ 4 (.mv (.d .nilp)) [],oo_ 5 (.mv (.d .nilsl)) [1],oo_ 6 (.mv (.d (.bool false))) [2]]) (.seq (.reg false [oo_ 7 (.mv (.d .nilsl)) []]) (.seq (.seq (.reg false [oo_ 8 (.mv
 (.d (.int .i64 0))) []]) (.block 0 (.loop (.seq (.seq (.reg false [om_ 13 8 [],om_ 14 1 [],oo_ 15 (.len (.t 14)) [1],oo_ 16 (.bin .lss (.t 13) (.t 15)) [0,2],om_ 17 16 [3],og_ 18 (.mv (.t 8)) 17 true [4],og_ 19 (.bin
 .lss (.t 18) (.d (.int .i64 8))) 17 true [5,4],oo_ 20 (.pick (.t 17) (.t 19) (.d (.bool false))) [4,6]]) (.cond (.t 20) .skip (.exit 0))) (.seq (.block 1 (.reg true [om_ 23 7 [],oo_ 24 (.load true 3 (.t 2)) [],om_ 25 1
 [],om_ 26 8 [],oo_ 27 (.ix 3 (.t 25) (.t 26)) [2,3],oo_ 28 (.load true 3 (.t 27)) [4],oo_ 29 (.call 26 [(.t 24),(.t 28)]) [1,5],oo_ 30 (.call 21 [(.t 29)]) [6,6],oo_ 31 (.bsl 43 3 1 [(.int .i64 0),(.int .i64 0),(.bool
 false)] [(0,3,(.t 30))]) [7],oo_ 32 (.app 43 3 24 (.t 23) (.t 31)) [0,8,7],om_ 7 32 [9,9,0,1,2,3,4,5,6,7,8,9]])) (.reg false [om_ 21 8 [],oo_ 22 (.bin .add (.t 21) (.d (.int .i64 1))) [0],om_ 8 22 [1,0,1]])))))) (.seq
 (.seq (.reg false [om_ 33 7 [],oo_ 34 (.len (.t 33)) [0],oo_ 35 (.bin .eql (.t 34) (.d (.int .i64 0))) [1]]) (.cond (.t 35) (.reg false [oo_ 36 (.mksl 43 3 24 [(.int .i64 0),(.int .i64 0),(.bool false)] (.d (.int .i64
 1)) (.d (.int .i64 1))) [],om_ 7 36 [0,0]]) .skip)) (.seq (.reg false [oo_ 38 (.load true 3 (.t 2)) [],oo_ 39 (.call 23 [(.t 38)]) [0],om_ 40 7 [],oo_ 41 (.len (.t 40)) [2],oo_ 42 (.call 22 [(.t 39),(.t 41)])
 [1,3,1],om_ 37 42 [4],oo_ 43 (.ext (.t 37) 0) [5],oo_ 44 (.ext (.t 37) 1) [5],om_ 9 43 [6,4,0,1,2,3,4,5,6],om_ 10 44 [7,8,0,1,2,3,4,5,6,7,8]]) (.seq (.seq (.reg false [om_ 45 10 [],oo_ 46 (.bin .neq (.t 45) (.d (.int
 .i64 0))) [0],om_ 47 46 [1],og_ 48 (.mv (.t 9)) 47 false [2],og_ 49 (.pnl false (.t 48)) 47 false [3,2],oo_ 50 (.pick (.t 47) (.d (.bool true)) (.t 49)) [2,4]]) (.cond (.t 50) (.seq (.reg false [om_ 51 7 [],oo_ 4 (.mv
 (.d .nilp)) [],om_ 5 51 [0,1,0,1],oo_ 6 (.mv (.d (.bool false))) [2,0,1,2]]) .ret) .skip)) (.seq (.seq (.reg false [om_ 52 7 [],oo_ 53 (.len (.t 52)) [0],oo_ 54 (.mv (.d (.int .i64 0))) []]) (.block 2 (.loop (.seq (.reg
 false [oo_ 55 (.bin .lss (.t 54) (.t 53)) []]) (.seq (.cond (.t 55) .skip (.exit 2)) (.seq (.block 3 (.seq (.reg false [om_ 56 54 [],oo_ 57 (.ix 3 (.t 52) (.t 54)) [],oo_ 58 (.load true 3 (.t 57)) [1],oo_ 12 (.new 43
 [(.int .i64 0),(.int .i64 0),(.bool false)]) [],om_ 11 56 [0,0,1,2,3],on_ (.store 3 (.t 12) (.t 58)) [3,2,4,0,1,2,3,4]]) (.seq (.reg false [om_ 59 9 [],om_ 60 11 [],oo_ 61 (.load true 3 (.t 12)) [],oo_ 62 (.call 25 [(.t
 59),(.t 60),(.t 61)]) [0,1,2],oo_ 63 (.bin .neq (.t 62) (.d (.int .i64 0))) [3]]) (.cond (.t 63) (.seq (.reg false [om_ 64 7 [],oo_ 4 (.mv (.d .nilp)) [],om_ 5 64 [0,1,0,1],oo_ 6 (.mv (.d (.bool false))) [2,0,1,2]])
 .ret) .skip)))) (.reg false [oo_ 65 (.bin .add (.t 54) (.d (.int .i64 1))) [],om_ 54 65 [0]]))))))) (.seq (.reg false [om_ 66 9 [],om_ 67 7 [],om_ 4 66 [0,0],om_ 5 67 [1,2,0,1,2],oo_ 6 (.mv (.d (.bool true)))
 [3,0,1,2,3]]) .ret))))))))
theorem o_5b : fnOf Try.prog o_59 = some (o_5a, [.t 4, .t 5, .t 6], 68, false) := by kernel_rfl

abbrev o_5c : FuncId := 7
def o_5d : C := (.seq (.reg false [om_ 7 0 [],oo_ 8 (.chk (.t 7)) [0],oo_ 9 (.fa 1 (.t 8)) [1],oo_ 10 (.load false 1 (.t 9)) [2],oo_ 11 (.mv (.d (.int .i64 0))) []]) (.block 0 (.loop (.seq (.reg false [oo_ 12 (.bin .lss (.t 11) (.t
 10)) []]) (.seq (.cond (.t 12) .skip (.exit 0)) (.seq (.block 1 (.seq (.reg false [om_ 13 11 [],om_ 4 13 [0,0]]) (.seq (.reg false [om_ 15 0 [],om_ 16 4 [],oo_ 17 (.call 27 [(.t 15),(.t 16)]) [0,1],om_ 14 17 [2],oo_ 18
 (.ext (.t 14) 0) [3],oo_ 19 (.ext (.t 14) 1) [3],om_ 5 18 [4,2,0,1,2,3,4],om_ 6 19 [5,6,0,1,2,3,4,5,6]]) (.reg false [om_ 20 1 [],om_ 21 5 [],om_ 22 0 [],oo_ 23 (.chk (.t 22)) [2],oo_ 24 (.fa 2 (.t 23)) [3],oo_ 25
 (.load false 1 (.t 24)) [4],oo_ 26 (.call 28 [(.t 20),(.t 21),(.t 25)]) [0,1,5]])))) (.reg false [oo_ 27 (.bin .add (.t 11) (.d (.int .i64 1))) [],om_ 11 27 [0]])))))))
theorem o_5e : fnOf Try.prog o_5c = some (o_5d, [], 28, false) := by kernel_rfl

abbrev o_5f : FuncId := 8
def o_5g : C := (.seq (.reg false [oo_ 2 (.box 23 (.t 0)) [],oo_ 4 (.mv (.d .nilsl)) []]) (.seq (.reg false [oo_ 5 (.mv (.d .nilsl)) []]) (.seq (.seq (.reg false [oo_ 6 (.mv (.d (.int .i64 0))) []]) (.block 0 (.loop (.seq (.seq (.reg
 false [om_ 7 6 [],om_ 8 1 [],oo_ 9 (.len (.t 8)) [1],oo_ 10 (.bin .lss (.t 7) (.t 9)) [0,2]]) (.cond (.t 10) .skip (.exit 0))) (.seq (.block 1 (.reg true [om_ 13 5 [],oo_ 14 (.load true 3 (.t 2)) [],om_ 15 1 [],om_ 16 6
 [],oo_ 17 (.ix 3 (.t 15) (.t 16)) [2,3],oo_ 18 (.load true 3 (.t 17)) [4],oo_ 19 (.call 29 [(.t 13),(.t 14),(.t 18)]) [0,1,5],om_ 5 19 [6,6,0,1,2,3,4,5,6]])) (.reg false [om_ 11 6 [],oo_ 12 (.bin .add (.t 11) (.d (.int
 .i64 1))) [0],om_ 6 12 [1,0,1]])))))) (.seq (.reg false [om_ 20 5 [],om_ 4 20 [0,0]]) .ret))))
theorem o_5h : fnOf Try.prog o_5f = some (o_5g, [.t 4], 21, false) := by kernel_rfl

abbrev o_5i : FuncId := 9
def o_5j : C := (.seq (.reg false [oo_ 4 (.box 39 (.t 1)) [],oo_ 6 (.mv (.d .nilp)) [],oo_ 7 (.mv (.d (.int .i64 0))) [1]]) (.seq (.reg false [oo_ 14 (.load true 3 (.t 4)) [],om_ 15 2 [],oo_ 16 (.call 22 [(.t 14),(.t 15)]) [0,1],om_ 13
 16 [2],oo_ 17 (.ext (.t 13) 0) [3],oo_ 18 (.ext (.t 13) 1) [3],om_ 8 17 [4,2,0,1,2,3,4],om_ 9 18 [5,6,0,1,2,3,4,5,6]]) (.seq (.seq (.reg false [om_ 19 9 [],oo_ 20 (.bin .neq (.t 19) (.d (.int .i64 0))) [0]]) (.cond (.t
 20) (.seq (.reg false [om_ 21 9 [],oo_ 6 (.mv (.d .nilp)) [],om_ 7 21 [0,1,0,1]]) .ret) .skip)) (.seq (.seq (.reg false [om_ 22 2 [],oo_ 23 (.mv (.d (.int .i64 0))) []]) (.block 0 (.loop (.seq (.reg false [oo_ 24 (.bin
 .lss (.t 23) (.t 22)) []]) (.seq (.cond (.t 24) .skip (.exit 0)) (.seq (.block 1 (.seq (.reg false [om_ 25 23 [],om_ 10 25 [0,0]]) (.seq (.reg false [oo_ 27 (.load true 3 (.t 4)) [],om_ 28 0 [],oo_ 29 (.call 30 [(.t
 27),(.t 28)]) [0,1],om_ 26 29 [2],oo_ 30 (.ext (.t 26) 0) [3],oo_ 31 (.ext (.t 26) 1) [3],oo_ 11 (.new 43 [(.int .i64 0),(.int .i64 0),(.bool false)]) [],on_ (.store 3 (.t 11) (.t 30)) [6,4,2,0,1,2,3,4,6],om_ 12 31
 [5,7,0,1,2,3,4,5,6,7]]) (.seq (.seq (.reg false [om_ 32 12 [],oo_ 33 (.bin .neq (.t 32) (.d (.int .i64 0))) [0]]) (.cond (.t 33) (.seq (.reg false [om_ 34 12 [],oo_ 6 (.mv (.d .nilp)) [],om_ 7 34 [0,1,0,1]]) .ret)
 .skip)) (.reg false [om_ 35 8 [],om_ 36 10 [],oo_ 37 (.load true 3 (.t 11)) [],oo_ 38 (.call 25 [(.t 35),(.t 36),(.t 37)]) [0,1,2]]))))) (.reg false [oo_ 39 (.bin .add (.t 23) (.d (.int .i64 1))) [],om_ 23 39
 [0]]))))))) (.seq (.reg false [om_ 40 8 [],om_ 6 40 [0,0],oo_ 7 (.mv (.d (.int .i64 0))) [1,0,1]]) .ret)))))
theorem o_5k : fnOf Try.prog o_5i = some (o_5j, [.t 6, .t 7], 41, false) := by kernel_rfl

abbrev o_5l : FuncId := 10
def o_5m : C := (.seq (.reg false [oo_ 2 (.mv (.d .nilp)) []]) (.seq (.reg false [om_ 3 0 [],oo_ 4 (.call 31 [(.t 3)]) [0],oo_ 5 (.build [.nilsl,(.int .i64 0)] [(0,1,(.t 4))]) [1],oo_ 6 (.box 79 (.t 5)) [2],om_ 2 6 [3,1,0,1,2,3]])
 .ret))
theorem o_5n : fnOf Try.prog o_5l = some (o_5m, [.t 2], 7, false) := by kernel_rfl

abbrev o_5o : FuncId := 11
def o_5p : C := (.seq (.reg false [oo_ 2 (.mv (.d .nilsl)) []]) (.seq (.reg false [om_ 4 0 [],oo_ 5 (.chk (.t 4)) [0],oo_ 6 (.fa 0 (.t 5)) [1],oo_ 7 (.load false 1 (.t 6)) [2],oo_ 8 (.len (.t 7)) [3],oo_ 9 (.mksl 5 1 1 [(.int .u8 0)]
 (.t 8) (.t 8)) [4,4],om_ 3 9 [5,0,1,2,3,4,5]]) (.seq (.reg false [om_ 10 3 [],om_ 11 0 [],oo_ 12 (.chk (.t 11)) [1],oo_ 13 (.fa 0 (.t 12)) [2],oo_ 14 (.load false 1 (.t 13)) [3],oo_ 15 (.cpy 1 (.t 10) (.t 14)) [0,4]])
 (.seq (.reg false [om_ 16 3 [],om_ 2 16 [0,0]]) .ret))))
theorem o_5q : fnOf Try.prog o_5o = some (o_5p, [.t 2], 17, false) := by kernel_rfl

abbrev o_5r : FuncId := 12
def o_5s : C := (.seq (.reg false [oo_ 2 (.new 39 [(.int .i64 0),(.int .i64 0),(.int .i64 0)]) []]) (.seq (.reg false [om_ 3 0 [],oo_ 4 (.chk (.t 3)) [0],oo_ 5 (.fa 1 (.t 4)) [1],oo_ 6 (.load true 3 (.t 5)) [2],on_ (.store 3 (.t 2) (.t
 6)) [3,0,1,2,3]]) .ret))
theorem o_5t : fnOf Try.prog o_5r = some (o_5s, [.cell 2 true 3], 7, false) := by kernel_rfl

abbrev o_5u : FuncId := 13
def o_5v : C := (.seq (.reg false [oo_ 2 (.mv (.d (.int .i64 0))) []]) (.seq (.reg false [om_ 3 0 [],oo_ 4 (.chk (.t 3)) [0],oo_ 5 (.fa 1 (.t 4)) [1],oo_ 6 (.load false 1 (.t 5)) [2],om_ 2 6 [3,0,1,2,3]]) .ret))
theorem o_5w : fnOf Try.prog o_5u = some (o_5v, [.t 2], 7, false) := by kernel_rfl

abbrev o_5x : FuncId := 14
def o_5y : C := (.seq (.reg false [oo_ 2 (.mv (.d (.int .i64 0))) []]) (.seq (.reg false [om_ 3 0 [],oo_ 4 (.chk (.t 3)) [0],oo_ 5 (.fa 1 (.t 4)) [1],oo_ 6 (.load false 1 (.t 5)) [2],om_ 2 6 [3,0,1,2,3]]) .ret))
theorem o_5z : fnOf Try.prog o_5x = some (o_5y, [.t 2], 7, false) := by kernel_rfl

abbrev o_60 : FuncId := 15
def o_61 : C := (.seq (.reg false [oo_ 4 (.mv (.d (.bool false))) []]) (.seq (.seq (.reg false [om_ 6 0 [],oo_ 7 (.len (.t 6)) [0],om_ 8 1 [],oo_ 9 (.len (.t 8)) [2],oo_ 10 (.bin .neq (.t 7) (.t 9)) [1,3]]) (.cond (.t 10) (.seq (.reg
 false [oo_ 4 (.mv (.d (.bool false))) []]) .ret) .skip)) (.seq (.seq (.reg false [oo_ 5 (.mv (.d (.int .i64 0))) []]) (.block 0 (.loop (.seq (.seq (.reg false [om_ 11 5 [],om_ 12 0 [],oo_ 13 (.len (.t 12)) [1],oo_ 14
 (.bin .lss (.t 11) (.t 13)) [0,2]]) (.cond (.t 14) .skip (.exit 0))) (.seq (.block 1 (.seq (.reg true [om_ 17 0 [],om_ 18 5 [],oo_ 19 (.ix 1 (.t 17) (.t 18)) [0,1],oo_ 20 (.load false 1 (.t 19)) [2],om_ 21 1 [],om_ 22 5
 [],oo_ 23 (.ix 1 (.t 21) (.t 22)) [4,5],oo_ 24 (.load false 1 (.t 23)) [6],oo_ 25 (.bin .neq (.t 20) (.t 24)) [3,7]]) (.cond (.t 25) (.seq (.reg false [oo_ 4 (.mv (.d (.bool false))) []]) .ret) .skip))) (.reg false [om_
 15 5 [],oo_ 16 (.bin .add (.t 15) (.d (.int .i64 1))) [0],om_ 5 16 [1,0,1]])))))) (.seq (.reg false [oo_ 4 (.mv (.d (.bool true))) []]) .ret))))
theorem o_62 : fnOf Try.prog o_60 = some (o_61, [.t 4], 26, false) := by kernel_rfl

abbrev o_63 : FuncId := 16
def o_64 : C := (.seq (.reg false [oo_ 2 (.mv (.d .nilsl)) []]) (.seq (.reg false [oo_ 3 (.mv (.d .nilsl)) []]) (.seq (.seq (.reg false [oo_ 4 (.mv (.d (.int .i64 0))) []]) (.block 0 (.loop (.seq (.seq (.reg false [om_ 7 4 [],om_ 8 0
 [],oo_ 9 (.len (.t 8)) [1],oo_ 10 (.bin .lss (.t 7) (.t 9)) [0,2]]) (.cond (.t 10) .skip (.exit 0))) (.seq (.block 1 (.seq (.reg false [oo_ 5 (.mv (.d (.int .i64 0))) []]) (.seq (.seq (.reg false [oo_ 6 (.mv (.d (.int
 .i64 0))) []]) (.block 2 (.loop (.seq (.seq (.reg false [om_ 13 6 [],oo_ 14 (.bin .lss (.t 13) (.d (.int .i64 8))) [0]]) (.cond (.t 14) .skip (.exit 2))) (.seq (.block 3 (.seq (.reg false [om_ 17 5 [],oo_ 18 (.bin .mul
 (.d (.int .i64 2)) (.t 17)) [0],om_ 5 18 [1,0,1]]) (.seq (.reg false [om_ 19 4 [],om_ 20 6 [],oo_ 21 (.bin .add (.t 19) (.t 20)) [0,1],om_ 22 0 [],oo_ 23 (.len (.t 22)) [3],oo_ 24 (.bin .lss (.t 21) (.t 23)) [2,4],om_
 25 24 [5],og_ 26 (.mv (.t 0)) 25 true [6],og_ 27 (.mv (.t 4)) 25 true [6],og_ 28 (.mv (.t 6)) 25 true [6],og_ 29 (.bin .add (.t 27) (.t 28)) 25 true [8,9,6],og_ 30 (.ix 1 (.t 26) (.t 29)) 25 true [7,10,6],og_ 31 (.load
 false 1 (.t 30)) 25 true [11,6],oo_ 32 (.pick (.t 25) (.t 31) (.d (.bool false))) [6,12]]) (.cond (.t 32) (.reg false [om_ 33 5 [],oo_ 34 (.bin .add (.t 33) (.d (.int .i64 1))) [0],om_ 5 34 [1,0,1]]) .skip)))) (.reg
 false [om_ 15 6 [],oo_ 16 (.bin .add (.t 15) (.d (.int .i64 1))) [0],om_ 6 16 [1,0,1]])))))) (.reg false [om_ 35 3 [],om_ 36 5 [],oo_ 37 (.conv .u8 (.t 36)) [1],oo_ 38 (.bsl 5 1 1 [(.int .u8 0)] [(0,1,(.t 37))]) [2],oo_
 39 (.app 5 1 1 (.t 35) (.t 38)) [0,3],om_ 3 39 [4,4,0,1,2,3,4]])))) (.reg false [om_ 11 4 [],oo_ 12 (.bin .add (.t 11) (.d (.int .i64 8))) [0],om_ 4 12 [1,0,1]])))))) (.seq (.reg false [om_ 40 3 [],om_ 2 40 [0,0]])
 .ret))))
theorem o_65 : fnOf Try.prog o_63 = some (o_64, [.t 2], 41, false) := by kernel_rfl

abbrev o_66 : FuncId := 17
def o_67 : C := (.seq (.reg false [oo_ 4 (.mv (.d (.bool false))) []]) (.seq (.reg true [om_ 5 0 [],oo_ 6 (.chk (.t 5)) [0],oo_ 7 (.fa 1 (.t 6)) [1],oo_ 8 (.load true 3 (.t 7)) [2],om_ 9 1 [],oo_ 10 (.chk (.t 9)) [4],oo_ 11 (.fa 1 (.t
 10)) [5],oo_ 12 (.load true 3 (.t 11)) [6],oo_ 13 (.aeq false [0,0,0] (.t 8) (.t 12)) [3,7],om_ 14 13 [8],og_ 15 (.mv (.t 0)) 14 true [9],og_ 16 (.chk (.t 15)) 14 true [10,9],og_ 17 (.fa 0 (.t 16)) 14 true [11,9],og_ 18
 (.load false 1 (.t 17)) 14 true [12,9],og_ 19 (.mv (.t 1)) 14 true [9],og_ 20 (.chk (.t 19)) 14 true [14,9],og_ 21 (.fa 0 (.t 20)) 14 true [15,9],og_ 22 (.load false 1 (.t 21)) 14 true [16,9],og_ 23 (.call 32 [(.t
 18),(.t 22)]) 14 true [13,17,9,9],oo_ 24 (.pick (.t 14) (.t 23) (.d (.bool false))) [9,18],om_ 4 24 [19,18,0,1,2,3,4,5,6,7,8,9,10,11,12,13,14,15,16,17,18,19]]) .ret))
theorem o_68 : fnOf Try.prog o_66 = some (o_67, [.t 4], 25, false) := by kernel_rfl

abbrev o_69 : FuncId := 18
def o_6a : C := (.seq (.reg false [oo_ 6 (.box 23 (.t 2)) [],oo_ 8 (.mv (.d .nilsl)) [],oo_ 9 (.mv (.d (.int .i64 0))) [1],oo_ 10 (.mv (.d (.int .i64 0))) [2]]) (.seq (.seq (.reg false [oo_ 16 (.load true 3 (.t 6)) [],oo_ 17 (.call 33
 [(.t 16)]) [0],oo_ 18 (.un .not (.t 17)) [1],om_ 19 18 [2,1],og_ 20 (.mv (.t 3)) 19 false [3],og_ 21 (.bin .lss (.t 20) (.d (.int .i64 1))) 19 false [4,3],oo_ 22 (.pick (.t 19) (.d (.bool true)) (.t 21)) [3,5],om_ 23 22
 [6,3],og_ 24 (.mv (.t 3)) 23 false [7],og_ 25 (.bin .gtr (.t 24) (.d (.int .i64 256))) 23 false [8,7],oo_ 26 (.pick (.t 23) (.d (.bool true)) (.t 25)) [7,9]]) (.cond (.t 26) (.seq (.reg false [om_ 27 1 [],oo_ 8 (.mv (.d
 .nilsl)) [],om_ 9 27 [0,1,0,1],oo_ 10 (.mv (.d (.int .i64 10))) [2,0,1,2]]) .ret) .skip)) (.seq (.reg false [oo_ 11 (.mv (.d .nilsl)) []]) (.seq (.seq (.reg false [oo_ 12 (.mv (.d (.int .i64 0))) []]) (.block 0 (.loop
 (.seq (.seq (.reg false [om_ 28 12 [],om_ 29 3 [],oo_ 30 (.bin .lss (.t 28) (.t 29)) [0,1]]) (.cond (.t 30) .skip (.exit 0))) (.seq (.block 1 (.seq (.reg false [om_ 34 0 [],om_ 35 1 [],oo_ 36 (.load true 3 (.t 6))
 [],oo_ 37 (.call 34 [(.t 34),(.t 35),(.t 36)]) [0,1,2],om_ 33 37 [3],oo_ 38 (.ext (.t 33) 0) [4],oo_ 39 (.ext (.t 33) 1) [4],oo_ 40 (.ext (.t 33) 2) [4],oo_ 13 (.new 28 [(.int .i64 0),(.int .i64 0),(.bool false)])
 [],on_ (.store 3 (.t 13) (.t 38)) [8,5,3,0,1,2,3,4,5,8],om_ 14 39 [6,9,0,1,2,3,4,5,6,8,9],om_ 15 40 [7,10,0,1,2,3,4,5,6,7,8,9,10]]) (.seq (.seq (.reg false [om_ 41 15 [],oo_ 42 (.bin .neq (.t 41) (.d (.int .i64 0)))
 [0]]) (.cond (.t 42) (.seq (.reg false [om_ 43 1 [],om_ 44 15 [],oo_ 8 (.mv (.d .nilsl)) [],om_ 9 43 [0,2,0,2],om_ 10 44 [1,3,0,1,2,3]]) .ret) .skip)) (.seq (.reg false [om_ 45 11 [],oo_ 46 (.load true 3 (.t 13)) [],oo_
 47 (.bsl 28 3 1 [(.int .i64 0),(.int .i64 0),(.bool false)] [(0,3,(.t 46))]) [1],oo_ 48 (.app 28 3 24 (.t 45) (.t 47)) [0,2],om_ 11 48 [3,3,0,1,2,3]]) (.reg false [om_ 49 14 [],om_ 1 49 [0,0]]))))) (.reg false [om_ 31
 12 [],oo_ 32 (.bin .add (.t 31) (.d (.int .i64 1))) [0],om_ 12 32 [1,0,1]])))))) (.seq (.reg false [om_ 50 11 [],om_ 51 1 [],om_ 8 50 [0,0],om_ 9 51 [1,2,0,1,2],oo_ 10 (.mv (.d (.int .i64 0))) [3,0,1,2,3]]) .ret)))))
theorem o_6b : fnOf Try.prog o_69 = some (o_6a, [.t 8, .t 9, .t 10], 52, false) := by kernel_rfl

abbrev o_6c : FuncId := 19
def o_6d : C := (.seq (.reg false [oo_ 2 (.mv (.d .nilsl)) []]) (.seq (.reg false [oo_ 3 (.mv (.d .nilsl)) []]) (.seq (.seq (.reg false [oo_ 4 (.mv (.d (.int .i64 0))) []]) (.block 0 (.loop (.seq (.seq (.reg false [om_ 6 4 [],om_ 7 0
 [],oo_ 8 (.len (.t 7)) [1],oo_ 9 (.bin .lss (.t 6) (.t 8)) [0,2]]) (.cond (.t 9) .skip (.exit 0))) (.seq (.block 1 (.seq (.reg false [oo_ 5 (.mv (.d (.int .i64 7))) []]) (.block 2 (.loop (.seq (.seq (.reg false [om_ 12
 5 [],oo_ 13 (.bin .geq (.t 12) (.d (.int .i64 0))) [0]]) (.cond (.t 13) .skip (.exit 2))) (.seq (.block 3 (.reg false [om_ 16 3 [],om_ 17 0 [],om_ 18 4 [],oo_ 19 (.ix 1 (.t 17) (.t 18)) [1,2],oo_ 20 (.load false 1 (.t
 19)) [3],om_ 21 5 [],oo_ 22 (.conv .u64 (.t 21)) [5],oo_ 23 (.bin .shr (.t 20) (.t 22)) [4,6],oo_ 24 (.bin .rem (.t 23) (.d (.int .u8 2))) [7],oo_ 25 (.bin .eql (.t 24) (.d (.int .u8 1))) [8],oo_ 26 (.bsl 4 1 1 [(.bool
 false)] [(0,1,(.t 25))]) [9],oo_ 27 (.app 4 1 1 (.t 16) (.t 26)) [0,10],om_ 3 27 [11,11,0,1,2,3,4,5,6,7,8,9,10,11]])) (.reg false [om_ 14 5 [],oo_ 15 (.bin .sub (.t 14) (.d (.int .i64 1))) [0],om_ 5 15 [1,0,1]])))))))
 (.reg false [om_ 10 4 [],oo_ 11 (.bin .add (.t 10) (.d (.int .i64 1))) [0],om_ 4 11 [1,0,1]])))))) (.seq (.reg false [om_ 28 3 [],om_ 2 28 [0,0]]) .ret))))
theorem o_6e : fnOf Try.prog o_6c = some (o_6d, [.t 2], 29, false) := by kernel_rfl

abbrev o_6f : FuncId := 20
def o_6g : C := (.seq (.reg false [oo_ 4 (.new 43 [(.int .i64 0),(.int .i64 0),(.bool false)]) [],oo_ 5 (.mv (.d (.int .i64 0))) []]) (.seq (.reg false [om_ 10 0 [],oo_ 11 (.chk (.t 10)) [0],oo_ 12 (.fa 0 (.t 11)) [1],oo_ 13 (.load
 false 1 (.t 12)) [2],om_ 14 1 [],oo_ 15 (.call 27 [(.t 13),(.t 14)]) [3,4],om_ 9 15 [5],oo_ 16 (.ext (.t 9) 0) [6],oo_ 17 (.ext (.t 9) 1) [6],om_ 6 16 [7,5,0,1,2,3,4,5,6,7],om_ 7 17 [8,9,0,1,2,3,4,5,6,7,8,9]]) (.seq
 (.seq (.reg false [om_ 18 7 [],oo_ 19 (.bin .neq (.t 18) (.d (.int .i64 0))) [0]]) (.cond (.t 19) (.seq (.reg false [oo_ 20 (.build [(.int .i64 0),(.int .i64 0),(.bool false)] []) [],om_ 21 7 [],on_ (.store 3 (.t 4) (.t
 20)) [0,0],om_ 5 21 [1,2,0,1,2]]) .ret) .skip)) (.seq (.reg false [oo_ 8 (.new 36 [.nilsl,(.int .i64 0)]) []]) (.seq (.reg false [om_ 22 6 [],om_ 23 0 [],oo_ 24 (.chk (.t 23)) [1],oo_ 25 (.fa 0 (.t 24)) [2],oo_ 26
 (.load false 1 (.t 25)) [3],oo_ 27 (.call 35 [(.t 26)]) [4],oo_ 28 (.call 28 [(.t 8),(.t 22),(.t 27)]) [0,5,5]]) (.seq (.reg true [om_ 29 0 [],oo_ 30 (.chk (.t 29)) [0],oo_ 31 (.fa 1 (.t 30)) [1],oo_ 32 (.load true 3
 (.t 31)) [2],oo_ 33 (.call 11 [(.t 8)]) [],oo_ 34 (.call 10 [(.t 33)]) [4,4],oo_ 35 (.call 30 [(.t 32),(.t 34)]) [3,5,5],oo_ 36 (.ext (.t 35) 0) [6],oo_ 37 (.ext (.t 35) 1) [6],on_ (.store 3 (.t 4) (.t 36))
 [7,6,0,1,2,3,4,5,6,7,8],om_ 5 37 [8,9,0,1,2,3,4,5,6,7,8,9]]) .ret))))))
theorem o_6h : fnOf Try.prog o_6f = some (o_6g, [.cell 4 true 3, .t 5], 38, false) := by kernel_rfl

abbrev o_6i : FuncId := 21
def o_6j : C := (.seq (.reg false [oo_ 1 (.box 28 (.t 0)) [],oo_ 2 (.new 43 [(.int .i64 0),(.int .i64 0),(.bool false)]) []]) (.seq (.reg false [oo_ 3 (.fa 0 (.t 1)) [],oo_ 4 (.load false 1 (.t 3)) [0],oo_ 5 (.fa 1 (.t 1)) [],oo_ 6
 (.load false 1 (.t 5)) [2],oo_ 7 (.fa 2 (.t 1)) [],oo_ 8 (.load false 1 (.t 7)) [4],oo_ 9 (.build [(.int .i64 0),(.int .i64 0),(.bool false)] [(0,1,(.t 4)),(1,1,(.t 6)),(2,1,(.t 8))]) [1,3,5],on_ (.store 3 (.t 2) (.t
 9)) [6,0,1,2,3,4,5,6]]) .ret))
theorem o_6k : fnOf Try.prog o_6i = some (o_6j, [.cell 2 true 3], 10, false) := by kernel_rfl

abbrev o_6l : FuncId := 22
def o_6m : C := (.seq (.reg false [oo_ 2 (.box 39 (.t 0)) [],oo_ 4 (.mv (.d .nilp)) [],oo_ 5 (.mv (.d (.int .i64 0))) [1]]) (.seq (.seq (.reg false [oo_ 8 (.load true 3 (.t 2)) [],oo_ 9 (.call 36 [(.t 8)]) [0],oo_ 10 (.bin .neq (.t 9)
 (.d (.int .i64 0))) [1],om_ 11 10 [2,1],og_ 12 (.mv (.t 1)) 11 false [3],og_ 13 (.bin .lss (.t 12) (.d (.int .i64 1))) 11 false [4,3],oo_ 14 (.pick (.t 11) (.d (.bool true)) (.t 13)) [3,5],om_ 15 14 [6,3],og_ 16 (.mv
 (.t 1)) 15 false [7],og_ 17 (.bin .gtr (.t 16) (.d (.int .i64 256))) 15 false [8,7],oo_ 18 (.pick (.t 15) (.d (.bool true)) (.t 17)) [7,9]]) (.cond (.t 18) (.seq (.reg false [oo_ 4 (.mv (.d .nilp)) [],oo_ 5 (.mv (.d
 (.int .i64 10))) [0,0]]) .ret) .skip)) (.seq (.reg false [om_ 20 1 [],oo_ 21 (.load true 3 (.t 2)) [],oo_ 22 (.call 38 [(.t 21)]) [1],oo_ 23 (.call 37 [(.t 20),(.t 22)]) [0,2,2],om_ 19 23 [3],oo_ 24 (.ext (.t 19) 0)
 [4],oo_ 25 (.ext (.t 19) 1) [4],om_ 6 24 [5,3,0,1,2,3,4,5],om_ 7 25 [6,7,0,1,2,3,4,5,6,7]]) (.seq (.seq (.reg false [om_ 26 7 [],oo_ 27 (.bin .neq (.t 26) (.d (.int .i64 0))) [0]]) (.cond (.t 27) (.seq (.reg false [om_
 28 7 [],oo_ 4 (.mv (.d .nilp)) [],om_ 5 28 [0,1,0,1]]) .ret) .skip)) (.seq (.reg false [om_ 29 6 [],oo_ 30 (.load true 3 (.t 2)) [],oo_ 31 (.build [.nilp,(.int .i64 0),(.int .i64 0),(.int .i64 0)] [(0,1,(.t
 29)),(1,3,(.t 30))]) [0,1],oo_ 32 (.box 41 (.t 31)) [2],om_ 4 32 [3,0,1,2,3],oo_ 5 (.mv (.d (.int .i64 0))) [4,0,1,2,3,4]]) .ret)))))
theorem o_6n : fnOf Try.prog o_6l = some (o_6m, [.t 4, .t 5], 33, false) := by kernel_rfl

abbrev o_6o : FuncId := 23
def o_6p : C := (.seq (.reg false [oo_ 1 (.box 23 (.t 0)) [],oo_ 2 (.new 39 [(.int .i64 0),(.int .i64 0),(.int .i64 0)]) []]) (.seq (.reg false [oo_ 3 (.fa 0 (.t 1)) [],oo_ 4 (.load false 1 (.t 3)) [0],oo_ 5 (.fa 1 (.t 1)) [],oo_ 6
 (.load false 1 (.t 5)) [2],oo_ 7 (.fa 2 (.t 1)) [],oo_ 8 (.load false 1 (.t 7)) [4],oo_ 9 (.build [(.int .i64 0),(.int .i64 0),(.int .i64 0)] [(0,1,(.t 4)),(1,1,(.t 6)),(2,1,(.t 8))]) [1,3,5],on_ (.store 3 (.t 2) (.t
 9)) [6,0,1,2,3,4,5,6]]) .ret))
theorem o_6q : fnOf Try.prog o_6o = some (o_6p, [.cell 2 true 3], 10, false) := by kernel_rfl

abbrev o_6r : FuncId := 24
def o_6s : C := (.seq (.reg false [oo_ 2 (.mv (.d (.int .i64 0))) []]) (.seq (.reg true [om_ 3 0 [],oo_ 4 (.chk (.t 3)) [0],oo_ 5 (.fa 0 (.t 4)) [1],oo_ 6 (.load false 1 (.t 5)) [2],oo_ 7 (.len (.t 6)) [3],oo_ 8 (.bin .mul (.d (.int
 .i64 8)) (.t 7)) [4],om_ 9 0 [],oo_ 10 (.chk (.t 9)) [6],oo_ 11 (.fa 1 (.t 10)) [7],oo_ 12 (.load false 1 (.t 11)) [8],oo_ 13 (.bin .sub (.t 8) (.t 12)) [5,9],om_ 2 13 [10,0,1,2,3,4,5,6,7,8,9,10]]) .ret))
theorem o_6t : fnOf Try.prog o_6r = some (o_6s, [.t 2], 14, false) := by kernel_rfl

abbrev o_6u : FuncId := 25
def o_6v : C := (.seq (.reg false [oo_ 5 (.box 43 (.t 2)) [],oo_ 6 (.mv (.d (.int .i64 0))) []]) (.seq (.seq (.reg false [om_ 14 0 [],oo_ 15 (.chk (.t 14)) [0],oo_ 16 (.fa 0 (.t 15)) [1],oo_ 17 (.load false 1 (.t 16)) [2],om_ 18 1
 [],oo_ 19 (.call 27 [(.t 17),(.t 18)]) [3,4],om_ 13 19 [5],oo_ 20 (.ext (.t 13) 0) [6],oo_ 21 (.ext (.t 13) 1) [6],om_ 7 20 [7,5,0,1,2,3,4,5,6,7],om_ 8 21 [8,9,0,1,2,3,4,5,6,7,8,9]]) (.seq (.reg false [om_ 22 8 [],oo_
 23 (.bin .neq (.t 22) (.d (.int .i64 0))) [0]]) (.cond (.t 23) (.seq (.reg false [om_ 24 8 [],om_ 6 24 [0,0]]) .ret) .skip))) (.seq (.reg false [oo_ 9 (.new 36 [.nilsl,(.int .i64 0)]) []]) (.seq (.seq (.reg true [om_ 25
 0 [],oo_ 26 (.chk (.t 25)) [0],oo_ 27 (.fa 1 (.t 26)) [1],oo_ 28 (.load true 3 (.t 27)) [2],oo_ 29 (.load true 3 (.t 5)) [],oo_ 30 (.call 39 [(.t 28),(.t 9),(.t 29)]) [3,4],om_ 10 30 [5,5,0,1,2,3,4,5]]) (.seq (.reg
 false [om_ 31 10 [],oo_ 32 (.bin .neq (.t 31) (.d (.int .i64 0))) [0]]) (.cond (.t 32) (.seq (.reg false [om_ 33 10 [],om_ 6 33 [0,0]]) .ret) .skip))) (.seq (.reg true [oo_ 35 (.call 11 [(.t 9)]) [],oo_ 36 (.call 10
 [(.t 35)]) [0,0],om_ 37 0 [],oo_ 38 (.chk (.t 37)) [2],oo_ 39 (.fa 0 (.t 38)) [3],oo_ 40 (.load false 1 (.t 39)) [4],oo_ 41 (.call 35 [(.t 40)]) [5,1],oo_ 42 (.call 40 [(.t 36),(.t 41)]) [1,6,6],om_ 34 42 [7],oo_ 43
 (.ext (.t 34) 0) [8],oo_ 44 (.ext (.t 34) 1) [8],om_ 11 43 [9,7,0,1,2,3,4,5,6,7,8,9],om_ 12 44 [10,11,0,1,2,3,4,5,6,7,8,9,10,11]]) (.seq (.reg false [om_ 45 0 [],oo_ 46 (.chk (.t 45)) [0],oo_ 47 (.fa 0 (.t 46)) [1],oo_
 48 (.load false 1 (.t 47)) [2],om_ 49 1 [],om_ 50 11 [],oo_ 51 (.call 41 [(.t 48),(.t 49),(.t 50)]) [3,4,5],om_ 6 51 [6,6,0,1,2,3,4,5,6]]) .ret))))))
theorem o_6w : fnOf Try.prog o_6u = some (o_6v, [.t 6], 52, false) := by kernel_rfl

abbrev o_6x : FuncId := 26
def o_6y : C := (.seq (.reg false [oo_ 2 (.box 23 (.t 0)) [],oo_ 3 (.box 28 (.t 1)) [],oo_ 4 (.new 28 [(.int .i64 0),(.int .i64 0),(.bool false)]) []]) (.seq (.seq (.reg false [oo_ 6 (.fa 0 (.t 2)) [],oo_ 7 (.load false 1 (.t 6))
 [0],oo_ 8 (.bin .eql (.t 7) (.d (.int .i64 4))) [1]]) (.cond (.t 8) (.seq (.reg true [oo_ 9 (.fa 0 (.t 3)) [],oo_ 10 (.load false 1 (.t 9)) [0],oo_ 11 (.bin .and (.t 10) (.d (.int .i64 7))) [1],oo_ 12 (.fa 1 (.t 2))
 [],oo_ 13 (.load false 1 (.t 12)) [3],oo_ 14 (.bin .add (.t 13) (.d (.int .i64 1))) [4],oo_ 15 (.bin .rem (.t 11) (.t 14)) [2,5],oo_ 16 (.fa 1 (.t 3)) [],oo_ 17 (.load false 1 (.t 16)) [7],oo_ 18 (.bin .and (.t 17) (.d
 (.int .i64 3))) [8],oo_ 19 (.fa 2 (.t 2)) [],oo_ 20 (.load false 1 (.t 19)) [10],oo_ 21 (.bin .add (.t 20) (.d (.int .i64 1))) [11],oo_ 22 (.bin .rem (.t 18) (.t 21)) [9,12],oo_ 23 (.fa 0 (.t 3)) [0,1,2,3,4,5,6,7,8],on_
 (.store 1 (.t 23) (.t 15)) [14,6,0,1,2,3,4,5,6,7,8],oo_ 24 (.fa 1 (.t 3)) [0,1,2,3,4,5,6,7,8,9,10,11,12,13,14,15],on_ (.store 1 (.t 24) (.t 22)) [16,13,15,0,1,2,3,4,5,6,7,8,9,10,11,12,13,14,15]]) (.seq (.reg false [oo_
 25 (.fa 2 (.t 3)) [],oo_ 26 (.load false 1 (.t 25)) [0],om_ 27 26 [1],og_ 28 (.fa 1 (.t 3)) 27 true [2],og_ 29 (.load false 1 (.t 28)) 27 true [3,2],og_ 30 (.fa 2 (.t 2)) 27 true [2],og_ 31 (.load false 1 (.t 30)) 27
 true [5,2],og_ 32 (.bin .eql (.t 29) (.t 31)) 27 true [4,6,2],oo_ 33 (.pick (.t 27) (.t 32) (.d (.bool false))) [2,7],oo_ 34 (.fa 2 (.t 3)) [0,1,2,3,4,5,6,7,8],on_ (.store 1 (.t 34) (.t 33)) [9,8,2,0,1,2,3,4,5,6,7,8]])
 (.seq (.reg false [oo_ 35 (.load true 3 (.t 3)) [],on_ (.store 3 (.t 4) (.t 35)) [0,0]]) .ret))) .skip)) (.seq (.reg false [oo_ 36 (.fa 2 (.t 2)) [],oo_ 37 (.load false 1 (.t 36)) [0],oo_ 38 (.bin .shl (.d (.int .i64
 1)) (.t 37)) [1],oo_ 39 (.bin .sub (.t 38) (.d (.int .i64 1))) [2],om_ 5 39 [3,0,1,2,3]]) (.seq (.reg false [oo_ 40 (.fa 0 (.t 3)) [],oo_ 41 (.load false 1 (.t 40)) [0],oo_ 42 (.bin .and (.t 41) (.d (.int .i64 15)))
 [1],om_ 43 5 [],oo_ 44 (.bin .add (.t 43) (.d (.int .i64 1))) [3],oo_ 45 (.bin .rem (.t 42) (.t 44)) [2,4],oo_ 46 (.fa 0 (.t 3)) [0,1,2,3,4,5],on_ (.store 1 (.t 46) (.t 45)) [6,5,0,1,2,3,4,5],oo_ 47 (.fa 1 (.t 3))
 [0,1,2,3,4,5,6,7],on_ (.store 1 (.t 47) (.d (.int .i64 0))) [8,7,0,1,2,3,4,5,6,7]]) (.seq (.reg false [oo_ 48 (.fa 2 (.t 3)) [],oo_ 49 (.load false 1 (.t 48)) [0],om_ 50 49 [1],og_ 51 (.fa 0 (.t 3)) 50 true [2],og_ 52
 (.load false 1 (.t 51)) 50 true [3,2],og_ 53 (.mv (.t 5)) 50 true [2],og_ 54 (.bin .eql (.t 52) (.t 53)) 50 true [4,5,2],oo_ 55 (.pick (.t 50) (.t 54) (.d (.bool false))) [2,6],oo_ 56 (.fa 2 (.t 3))
 [0,1,2,3,4,5,6,7],on_ (.store 1 (.t 56) (.t 55)) [8,7,2,0,1,2,3,4,5,6,7]]) (.seq (.reg false [oo_ 57 (.load true 3 (.t 3)) [],on_ (.store 3 (.t 4) (.t 57)) [0,0]]) .ret))))))
theorem o_6z : fnOf Try.prog o_6x = some (o_6y, [.cell 4 true 3], 58, false) := by kernel_rfl

abbrev o_70 : FuncId := 27
def o_71 : C := (.seq (.reg false [oo_ 4 (.mv (.d (.int .u64 0))) [],oo_ 5 (.mv (.d (.int .i64 0))) [0]]) (.seq (.seq (.reg false [om_ 9 1 [],oo_ 10 (.bin .lss (.t 9) (.d (.int .i64 0))) [0],om_ 11 10 [1],og_ 12 (.mv (.t 1)) 11 false
 [2],og_ 13 (.mv (.t 0)) 11 false [2],og_ 14 (.chk (.t 13)) 11 false [4,2],og_ 15 (.fa 1 (.t 14)) 11 false [5,2],og_ 16 (.load false 1 (.t 15)) 11 false [6,2],og_ 17 (.bin .geq (.t 12) (.t 16)) 11 false [3,7,2],oo_ 18
 (.pick (.t 11) (.d (.bool true)) (.t 17)) [2,8]]) (.cond (.t 18) (.seq (.reg false [oo_ 4 (.mv (.d (.int .u64 0))) [],oo_ 5 (.mv (.d (.int .i64 1))) [0,0]]) .ret) .skip)) (.seq (.reg false [om_ 20 0 [],om_ 21 1 [],oo_
 22 (.call 42 [(.t 20),(.t 21)]) [0,1],om_ 19 22 [2],oo_ 23 (.ext (.t 19) 0) [3],oo_ 24 (.ext (.t 19) 1) [3],om_ 6 23 [4,2,0,1,2,3,4],om_ 7 24 [5,6,0,1,2,3,4,5,6]]) (.seq (.reg false [om_ 25 0 [],oo_ 26 (.chk (.t 25))
 [0],oo_ 27 (.fa 0 (.t 26)) [1],oo_ 28 (.load false 1 (.t 27)) [2],om_ 29 6 [],oo_ 30 (.ix 1 (.t 28) (.t 29)) [3,4],oo_ 31 (.load false 1 (.t 30)) [5],om_ 32 7 [],oo_ 33 (.bin .shr (.t 31) (.t 32)) [6,7],om_ 8 33
 [8,0,1,2,3,4,5,6,7,8]]) (.seq (.seq (.reg false [om_ 34 7 [],om_ 35 0 [],oo_ 36 (.chk (.t 35)) [1],oo_ 37 (.fa 2 (.t 36)) [2],oo_ 38 (.load false 1 (.t 37)) [3],oo_ 39 (.bin .add (.t 34) (.t 38)) [0,4],oo_ 40 (.bin .gtr
 (.t 39) (.d (.int .i64 64))) [5]]) (.cond (.t 40) (.reg false [om_ 41 8 [],om_ 42 0 [],oo_ 43 (.chk (.t 42)) [1],oo_ 44 (.fa 0 (.t 43)) [2],oo_ 45 (.load false 1 (.t 44)) [3],om_ 46 6 [],oo_ 47 (.bin .add (.t 46) (.d
 (.int .i64 1))) [5],oo_ 48 (.ix 1 (.t 45) (.t 47)) [4,6],oo_ 49 (.load false 1 (.t 48)) [7],om_ 50 7 [],oo_ 51 (.bin .sub (.d (.int .i64 64)) (.t 50)) [9],oo_ 52 (.bin .shl (.t 49) (.t 51)) [8,10],oo_ 53 (.bin .or (.t
 41) (.t 52)) [0,11],om_ 8 53 [12,0,1,2,3,4,5,6,7,8,9,10,11,12]]) .skip)) (.seq (.reg false [om_ 54 8 [],om_ 55 0 [],oo_ 56 (.call 43 [(.t 55)]) [1],oo_ 57 (.bin .and (.t 54) (.t 56)) [0,2],om_ 4 57 [3,2,0,1,2,3],oo_ 5
 (.mv (.d (.int .i64 0))) [4,0,1,2,3,4]]) .ret))))))
theorem o_72 : fnOf Try.prog o_70 = some (o_71, [.t 4, .t 5], 58, false) := by kernel_rfl

abbrev o_73 : FuncId := 28
def o_74 : C := (.seq (.reg false [oo_ 6 (.mv (.d (.int .i64 0))) []]) (.seq (.seq (.reg false [om_ 8 2 [],oo_ 9 (.call 44 [(.t 8)]) [0],oo_ 10 (.un .not (.t 9)) [1],om_ 11 10 [2,1],og_ 12 (.mv (.t 1)) 11 false [3],og_ 13 (.mv (.t 2))
 11 false [3],og_ 14 (.call 45 [(.t 12),(.t 13)]) 11 false [4,5,3,3],og_ 15 (.un .not (.t 14)) 11 false [6,3],oo_ 16 (.pick (.t 11) (.d (.bool true)) (.t 15)) [3,7]]) (.cond (.t 16) (.seq (.reg false [oo_ 6 (.mv (.d
 (.int .i64 2))) []]) .ret) .skip)) (.seq (.seq (.reg false [om_ 17 2 [],oo_ 18 (.mv (.d (.int .i64 0))) []]) (.block 0 (.loop (.seq (.reg false [oo_ 19 (.bin .lss (.t 18) (.t 17)) []]) (.seq (.cond (.t 19) .skip (.exit
 0)) (.seq (.block 1 (.seq (.reg false [om_ 20 18 [],om_ 7 20 [0,0]]) (.reg false [om_ 21 0 [],om_ 22 1 [],om_ 23 2 [],oo_ 24 (.bin .sub (.t 23) (.d (.int .i64 1))) [2],om_ 25 7 [],oo_ 26 (.bin .sub (.t 24) (.t 25))
 [3,4],oo_ 27 (.bin .shr (.t 22) (.t 26)) [1,5],oo_ 28 (.bin .and (.t 27) (.d (.int .u64 1))) [6],oo_ 29 (.bin .eql (.t 28) (.d (.int .u64 1))) [7],oo_ 30 (.call 46 [(.t 21),(.t 29)]) [0,8]]))) (.reg false [oo_ 31 (.bin
 .add (.t 18) (.d (.int .i64 1))) [],om_ 18 31 [0]]))))))) (.seq (.reg false [oo_ 6 (.mv (.d (.int .i64 0))) []]) .ret))))
theorem o_75 : fnOf Try.prog o_73 = some (o_74, [.t 6], 32, false) := by kernel_rfl

abbrev o_76 : FuncId := 29
def o_77 : C := (.seq (.reg false [oo_ 4 (.box 23 (.t 1)) [],oo_ 5 (.box 28 (.t 2)) [],oo_ 6 (.mv (.d .nilsl)) []]) (.seq (.reg false [oo_ 10 (.load true 3 (.t 4)) [],oo_ 11 (.call 47 [(.t 10)]) [0],om_ 9 11 [1],oo_ 12 (.ext (.t 9) 0)
 [2],oo_ 13 (.ext (.t 9) 1) [2],om_ 7 12 [3,1,0,1,2,3],om_ 8 13 [4,5,0,1,2,3,4,5]]) (.seq (.reg false [om_ 15 0 [],oo_ 16 (.fa 0 (.t 5)) [],oo_ 17 (.load false 1 (.t 16)) [1],oo_ 18 (.conv .u64 (.t 17)) [2],om_ 19 7
 [],oo_ 20 (.call 48 [(.t 15),(.t 18),(.t 19)]) [0,3,4],om_ 14 20 [5],oo_ 21 (.ext (.t 14) 0) [6],oo_ 22 (.ext (.t 14) 1) [6],om_ 0 21 [7,5,0,1,2,3,4,5,6,7]]) (.seq (.reg false [om_ 24 0 [],oo_ 25 (.fa 1 (.t 5)) [],oo_
 26 (.load false 1 (.t 25)) [1],oo_ 27 (.conv .u64 (.t 26)) [2],om_ 28 8 [],oo_ 29 (.call 48 [(.t 24),(.t 27),(.t 28)]) [0,3,4],om_ 23 29 [5],oo_ 30 (.ext (.t 23) 0) [6],oo_ 31 (.ext (.t 23) 1) [6],om_ 0 30
 [7,5,0,1,2,3,4,5,6,7]]) (.seq (.reg false [om_ 32 0 [],oo_ 33 (.fa 2 (.t 5)) [],oo_ 34 (.load false 1 (.t 33)) [1],oo_ 35 (.bsl 4 1 1 [(.bool false)] [(0,1,(.t 34))]) [2],oo_ 36 (.app 4 1 1 (.t 32) (.t 35)) [0,3],om_ 6
 36 [4,4,0,1,2,3,4]]) .ret)))))
theorem o_78 : fnOf Try.prog o_76 = some (o_77, [.t 6], 37, false) := by kernel_rfl

abbrev o_79 : FuncId := 30
def o_7a : C := (.seq (.reg false [oo_ 2 (.box 39 (.t 0)) [],oo_ 4 (.new 43 [(.int .i64 0),(.int .i64 0),(.bool false)]) [],oo_ 5 (.mv (.d (.int .i64 0))) []]) (.seq (.seq (.reg false [oo_ 16 (.load true 3 (.t 2)) [],oo_ 17 (.call 36
 [(.t 16)]) [0],om_ 6 17 [1,1,0,1]]) (.seq (.reg false [om_ 18 6 [],oo_ 19 (.bin .neq (.t 18) (.d (.int .i64 0))) [0]]) (.cond (.t 19) (.seq (.reg false [oo_ 20 (.build [(.int .i64 0),(.int .i64 0),(.bool false)] [])
 [],om_ 21 6 [],on_ (.store 3 (.t 4) (.t 20)) [0,0],om_ 5 21 [1,2,0,1,2]]) .ret) .skip))) (.seq (.seq (.reg true [om_ 22 1 [],oo_ 23 (.call 24 [(.t 22)]) [0],oo_ 24 (.load true 3 (.t 2)) [],oo_ 25 (.call 38 [(.t 24)])
 [2,1],oo_ 26 (.bin .lss (.t 23) (.t 25)) [1,3]]) (.cond (.t 26) (.seq (.reg false [oo_ 27 (.build [(.int .i64 0),(.int .i64 0),(.bool false)] []) [],on_ (.store 3 (.t 4) (.t 27)) [0,0],oo_ 5 (.mv (.d (.int .i64 5)))
 [1,0,1]]) .ret) .skip)) (.seq (.reg false [oo_ 29 (.load true 3 (.t 2)) [],oo_ 30 (.call 49 [(.t 29)]) [0],om_ 28 30 [1],oo_ 31 (.ext (.t 28) 0) [2],oo_ 32 (.ext (.t 28) 1) [2],om_ 7 31 [3,1,0,1,2,3],om_ 8 32
 [4,5,0,1,2,3,4,5]]) (.seq (.reg false [om_ 34 1 [],om_ 35 7 [],oo_ 36 (.call 40 [(.t 34),(.t 35)]) [0,1],om_ 33 36 [2],oo_ 37 (.ext (.t 33) 0) [3],oo_ 38 (.ext (.t 33) 1) [3],om_ 9 37 [4,2,0,1,2,3,4],om_ 10 38
 [5,6,0,1,2,3,4,5,6]]) (.seq (.reg false [om_ 40 1 [],om_ 41 8 [],oo_ 42 (.call 40 [(.t 40),(.t 41)]) [0,1],om_ 39 42 [2],oo_ 43 (.ext (.t 39) 0) [3],oo_ 44 (.ext (.t 39) 1) [3],om_ 11 43 [4,2,0,1,2,3,4],om_ 12 44
 [5,6,0,1,2,3,4,5,6]]) (.seq (.reg false [om_ 46 1 [],oo_ 47 (.call 50 [(.t 46)]) [0],om_ 45 47 [1],oo_ 48 (.ext (.t 45) 0) [2],oo_ 49 (.ext (.t 45) 1) [2],om_ 13 48 [3,1,0,1,2,3],om_ 14 49 [4,5,0,1,2,3,4,5]]) (.seq
 (.reg false [om_ 50 9 [],oo_ 51 (.conv .i64 (.t 50)) [0],om_ 52 11 [],oo_ 53 (.conv .i64 (.t 52)) [2],om_ 54 13 [],oo_ 55 (.build [(.int .i64 0),(.int .i64 0),(.bool false)] [(0,1,(.t 51)),(1,1,(.t 53)),(2,1,(.t 54))])
 [1,3,4],oo_ 15 (.new 43 [(.int .i64 0),(.int .i64 0),(.bool false)]) [],on_ (.store 3 (.t 15) (.t 55)) [6,5,0,1,2,3,4,5,6]]) (.seq (.seq (.reg false [oo_ 56 (.load true 3 (.t 2)) [],oo_ 57 (.load true 3 (.t 15)) [],oo_
 58 (.call 51 [(.t 56),(.t 57)]) [0,1],oo_ 59 (.un .not (.t 58)) [2]]) (.cond (.t 59) (.seq (.reg false [oo_ 60 (.build [(.int .i64 0),(.int .i64 0),(.bool false)] []) [],on_ (.store 3 (.t 4) (.t 60)) [0,0],oo_ 5 (.mv
 (.d (.int .i64 4))) [1,0,1]]) .ret) .skip)) (.seq (.reg false [oo_ 61 (.load true 3 (.t 15)) [],on_ (.store 3 (.t 4) (.t 61)) [0,0],oo_ 5 (.mv (.d (.int .i64 0))) [1,0,1]]) .ret))))))))))
theorem o_7b : fnOf Try.prog o_79 = some (o_7a, [.cell 4 true 3, .t 5], 62, false) := by kernel_rfl

abbrev o_7c : FuncId := 31
def o_7d : C := (.seq (.reg false [oo_ 2 (.mv (.d .nilsl)) []]) (.seq (.seq (.reg false [om_ 3 0 [],oo_ 4 (.snl false (.t 3)) [0]]) (.cond (.t 4) (.seq (.reg false [oo_ 2 (.mv (.d .nilsl)) []]) .ret) .skip)) (.seq (.reg false [oo_ 5
 (.bsl0) [],om_ 6 0 [],oo_ 7 (.app 5 1 1 (.t 5) (.t 6)) [0,1],om_ 2 7 [2,2,0,1,2]]) .ret)))
theorem o_7e : fnOf Try.prog o_7c = some (o_7d, [.t 2], 8, false) := by kernel_rfl

abbrev o_7f : FuncId := 32
def o_7g : C := (.seq (.reg false [oo_ 4 (.mv (.d (.bool false))) []]) (.seq (.reg true [om_ 5 0 [],oo_ 6 (.chk (.t 5)) [0],oo_ 7 (.fa 1 (.t 6)) [1],oo_ 8 (.load false 1 (.t 7)) [2],om_ 9 1 [],oo_ 10 (.chk (.t 9)) [4],oo_ 11 (.fa 1 (.t
 10)) [5],oo_ 12 (.load false 1 (.t 11)) [6],oo_ 13 (.bin .eql (.t 8) (.t 12)) [3,7],om_ 14 13 [8],og_ 15 (.mv (.t 0)) 14 true [9],og_ 16 (.chk (.t 15)) 14 true [10,9],og_ 17 (.fa 2 (.t 16)) 14 true [11,9],og_ 18 (.load
 false 1 (.t 17)) 14 true [12,9],og_ 19 (.mv (.t 1)) 14 true [9],og_ 20 (.chk (.t 19)) 14 true [14,9],og_ 21 (.fa 2 (.t 20)) 14 true [15,9],og_ 22 (.load false 1 (.t 21)) 14 true [16,9],og_ 23 (.bin .eql (.t 18) (.t 22))
 14 true [13,17,9],oo_ 24 (.pick (.t 14) (.t 23) (.d (.bool false))) [9,18],om_ 25 24 [19,9],og_ 26 (.mv (.t 0)) 25 true [20],og_ 27 (.chk (.t 26)) 25 true [21,20],og_ 28 (.fa 0 (.t 27)) 25 true [22,20],og_ 29 (.load
 false 1 (.t 28)) 25 true [23,20],og_ 30 (.mv (.t 1)) 25 true [20],og_ 31 (.chk (.t 30)) 25 true [25,20],og_ 32 (.fa 0 (.t 31)) 25 true [26,20],og_ 33 (.load false 1 (.t 32)) 25 true [27,20],og_ 34 (.call 52 [(.t 29),(.t
 33)]) 25 true [24,28,20,20],oo_ 35 (.pick (.t 25) (.t 34) (.d (.bool false))) [20,29],om_ 4 35 [30,29,0,1,2,3,4,5,6,7,8,9,10,11,12,13,14,15,16,17,18,19,20,21,22,23,24,25,26,27,28,29,30]]) .ret))
theorem o_7h : fnOf Try.prog o_7f = some (o_7g, [.t 4], 36, false) := by kernel_rfl

abbrev o_7i : FuncId := 33
def o_7j : C := (.seq (.reg false [oo_ 1 (.box 23 (.t 0)) [],oo_ 2 (.mv (.d (.bool false))) []]) (.seq (.seq (.reg false [oo_ 3 (.fa 0 (.t 1)) [],oo_ 4 (.load false 1 (.t 3)) [0],oo_ 5 (.bin .eql (.t 4) (.d (.int .i64 4))) [1]]) (.cond
 (.t 5) (.seq (.reg false [oo_ 6 (.fa 1 (.t 1)) [],oo_ 7 (.load false 1 (.t 6)) [0],oo_ 8 (.fa 2 (.t 1)) [],oo_ 9 (.load false 1 (.t 8)) [2],oo_ 10 (.build [(.int .i64 0),(.int .i64 0)] [(0,1,(.t 7)),(1,1,(.t 9))])
 [1,3],oo_ 11 (.call 53 [(.t 10)]) [4],om_ 2 11 [5,5,0,1,2,3,4,5]]) .ret) .skip)) (.seq (.reg false [oo_ 12 (.fa 0 (.t 1)) [],oo_ 13 (.load false 1 (.t 12)) [0],oo_ 14 (.fa 1 (.t 1)) [],oo_ 15 (.load false 1 (.t 14))
 [2],oo_ 16 (.fa 2 (.t 1)) [],oo_ 17 (.load false 1 (.t 16)) [4],oo_ 18 (.build [(.int .i64 0),(.int .i64 0),(.int .i64 0)] [(0,1,(.t 13)),(1,1,(.t 15)),(2,1,(.t 17))]) [1,3,5],oo_ 19 (.call 54 [(.t 18)]) [6],om_ 2 19
 [7,7,0,1,2,3,4,5,6,7]]) .ret)))
theorem o_7k : fnOf Try.prog o_7i = some (o_7j, [.t 2], 20, false) := by kernel_rfl

abbrev o_7l : FuncId := 34
def o_7m : C := (.seq (.reg false [oo_ 5 (.box 23 (.t 2)) [],oo_ 6 (.new 28 [(.int .i64 0),(.int .i64 0),(.bool false)]) [],oo_ 7 (.mv (.d (.int .i64 0))) [],oo_ 8 (.mv (.d (.int .i64 0))) [2]]) (.seq (.reg false [oo_ 17 (.load true 3
 (.t 5)) [],oo_ 18 (.call 47 [(.t 17)]) [0],om_ 16 18 [1],oo_ 19 (.ext (.t 16) 0) [2],oo_ 20 (.ext (.t 16) 1) [2],om_ 9 19 [3,1,0,1,2,3],om_ 10 20 [4,5,0,1,2,3,4,5]]) (.seq (.seq (.reg false [om_ 21 0 [],oo_ 22 (.len (.t
 21)) [0],om_ 23 1 [],oo_ 24 (.bin .sub (.t 22) (.t 23)) [1,2],om_ 25 9 [],om_ 26 10 [],oo_ 27 (.bin .add (.t 25) (.t 26)) [4,5],oo_ 28 (.bin .add (.t 27) (.d (.int .i64 1))) [6],oo_ 29 (.bin .lss (.t 24) (.t 28))
 [3,7]]) (.cond (.t 29) (.seq (.reg false [oo_ 30 (.build [(.int .i64 0),(.int .i64 0),(.bool false)] []) [],om_ 31 1 [],on_ (.store 3 (.t 6) (.t 30)) [0,0],om_ 7 31 [1,2,0,1,2],oo_ 8 (.mv (.d (.int .i64 5)))
 [3,0,1,2,3]]) .ret) .skip)) (.seq (.reg false [om_ 33 0 [],om_ 34 1 [],om_ 35 9 [],oo_ 36 (.call 55 [(.t 33),(.t 34),(.t 35)]) [0,1,2],om_ 32 36 [3],oo_ 37 (.ext (.t 32) 0) [4],oo_ 38 (.ext (.t 32) 1) [4],oo_ 39 (.ext
 (.t 32) 2) [4],om_ 11 37 [5,3,0,1,2,3,4,5],om_ 1 38 [6,8,0,1,2,3,4,5,6,8],om_ 12 39 [7,9,0,1,2,3,4,5,6,7,8,9]]) (.seq (.reg false [om_ 41 0 [],om_ 42 1 [],om_ 43 10 [],oo_ 44 (.call 55 [(.t 41),(.t 42),(.t 43)])
 [0,1,2],om_ 40 44 [3],oo_ 45 (.ext (.t 40) 0) [4],oo_ 46 (.ext (.t 40) 1) [4],oo_ 47 (.ext (.t 40) 2) [4],om_ 13 45 [5,3,0,1,2,3,4,5],om_ 1 46 [6,8,0,1,2,3,4,5,6,8],om_ 14 47 [7,9,0,1,2,3,4,5,6,7,8,9]]) (.seq (.reg
 false [om_ 48 11 [],oo_ 49 (.conv .i64 (.t 48)) [0],om_ 50 13 [],oo_ 51 (.conv .i64 (.t 50)) [2],om_ 52 0 [],om_ 53 1 [],oo_ 54 (.ix 1 (.t 52) (.t 53)) [4,5],oo_ 55 (.load false 1 (.t 54)) [6],oo_ 56 (.build [(.int .i64
 0),(.int .i64 0),(.bool false)] [(0,1,(.t 49)),(1,1,(.t 51)),(2,1,(.t 55))]) [1,3,7],oo_ 15 (.new 28 [(.int .i64 0),(.int .i64 0),(.bool false)]) [],on_ (.store 3 (.t 15) (.t 56)) [9,8,0,1,2,3,4,5,6,7,8,9]]) (.seq (.seq
 (.reg false [oo_ 57 (.load true 3 (.t 5)) [],oo_ 58 (.load true 3 (.t 15)) [],oo_ 59 (.call 56 [(.t 57),(.t 58)]) [0,1],oo_ 60 (.un .not (.t 59)) [2]]) (.cond (.t 60) (.seq (.reg false [oo_ 61 (.build [(.int .i64
 0),(.int .i64 0),(.bool false)] []) [],om_ 62 1 [],oo_ 63 (.bin .add (.t 62) (.d (.int .i64 1))) [1],on_ (.store 3 (.t 6) (.t 61)) [0,0],om_ 7 63 [2,3,0,1,2,3],oo_ 8 (.mv (.d (.int .i64 4))) [4,0,1,2,3,4]]) .ret)
 .skip)) (.seq (.reg false [oo_ 64 (.load true 3 (.t 15)) [],om_ 65 1 [],oo_ 66 (.bin .add (.t 65) (.d (.int .i64 1))) [1],on_ (.store 3 (.t 6) (.t 64)) [0,0],om_ 7 66 [2,3,0,1,2,3],oo_ 8 (.mv (.d (.int .i64 0)))
 [4,0,1,2,3,4]]) .ret))))))))
theorem o_7n : fnOf Try.prog o_7l = some (o_7m, [.cell 6 true 3, .t 7, .t 8], 67, false) := by kernel_rfl

abbrev o_7o : FuncId := 35
def o_7p : C := (.seq (.reg false [oo_ 2 (.mv (.d (.int .i64 0))) []]) (.seq (.reg false [om_ 3 0 [],oo_ 4 (.chk (.t 3)) [0],oo_ 5 (.fa 2 (.t 4)) [1],oo_ 6 (.load false 1 (.t 5)) [2],om_ 2 6 [3,0,1,2,3]]) .ret))
theorem o_7q : fnOf Try.prog o_7o = some (o_7p, [.t 2], 7, false) := by kernel_rfl

abbrev o_7r : FuncId := 36
def o_7s : C := (.seq (.reg false [oo_ 1 (.box 39 (.t 0)) [],oo_ 2 (.mv (.d (.int .i64 0))) []]) (.seq (.seq (.reg false [oo_ 3 (.fa 0 (.t 1)) [],oo_ 4 (.load false 1 (.t 3)) [0],oo_ 5 (.bin .eql (.t 4) (.d (.int .i64 4))) [1]]) (.cond
 (.t 5) (.seq (.reg false [oo_ 6 (.load true 3 (.t 1)) [],oo_ 7 (.call 57 [(.t 6)]) [0],oo_ 8 (.call 58 [(.t 7)]) [1,1],om_ 2 8 [2,2,0,1,2]]) .ret) .skip)) (.seq (.reg false [oo_ 9 (.load true 3 (.t 1)) [],oo_ 10 (.call
 59 [(.t 9)]) [0],oo_ 11 (.call 60 [(.t 10)]) [1,1],om_ 2 11 [2,2,0,1,2]]) .ret)))
theorem o_7t : fnOf Try.prog o_7r = some (o_7s, [.t 2], 12, false) := by kernel_rfl

abbrev o_7u : FuncId := 37
def o_7v : C := (.seq (.reg false [oo_ 4 (.mv (.d .nilp)) [],oo_ 5 (.mv (.d (.int .i64 0))) [0]]) (.seq (.seq (.reg false [om_ 6 0 [],oo_ 7 (.bin .lss (.t 6) (.d (.int .i64 0))) [0],om_ 8 7 [1],og_ 9 (.mv (.t 0)) 8 false [2],og_ 10
 (.bin .gtr (.t 9) (.d (.int .i64 256))) 8 false [3,2],oo_ 11 (.pick (.t 8) (.d (.bool true)) (.t 10)) [2,4],om_ 12 11 [5,2],og_ 13 (.mv (.t 1)) 12 false [6],og_ 14 (.bin .lss (.t 13) (.d (.int .i64 1))) 12 false
 [7,6],oo_ 15 (.pick (.t 12) (.d (.bool true)) (.t 14)) [6,8],om_ 16 15 [9,6],og_ 17 (.mv (.t 1)) 16 false [10],og_ 18 (.bin .gtr (.t 17) (.d (.int .i64 32))) 16 false [11,10],oo_ 19 (.pick (.t 16) (.d (.bool true)) (.t
 18)) [10,12]]) (.cond (.t 19) (.seq (.reg false [oo_ 4 (.mv (.d .nilp)) [],oo_ 5 (.mv (.d (.int .i64 10))) [0,0]]) .ret) .skip)) (.seq (.reg false [om_ 20 0 [],om_ 21 1 [],oo_ 22 (.bin .mul (.t 20) (.t 21)) [0,1],oo_ 23
 (.bin .add (.t 22) (.d (.int .i64 64))) [2],oo_ 24 (.bin .sub (.t 23) (.d (.int .i64 1))) [3],oo_ 25 (.bin .quo (.t 24) (.d (.int .i64 64))) [4],oo_ 26 (.mksl 71 1 8 [(.int .u64 0)] (.t 25) (.t 25)) [5,5],om_ 27 0
 [],om_ 28 1 [],oo_ 29 (.build [.nilsl,(.int .i64 0),(.int .i64 0)] [(0,1,(.t 26)),(1,1,(.t 27)),(2,1,(.t 28))]) [6,7,8],oo_ 30 (.box 70 (.t 29)) [9],om_ 4 30 [10,0,1,2,3,4,5,6,7,8,9,10],oo_ 5 (.mv (.d (.int .i64 0)))
 [11,0,1,2,3,4,5,6,7,8,9,10,11]]) .ret)))
theorem o_7w : fnOf Try.prog o_7u = some (o_7v, [.t 4, .t 5], 31, false) := by kernel_rfl

abbrev o_7x : FuncId := 38
def o_7y : C := (.seq (.reg false [oo_ 1 (.box 39 (.t 0)) [],oo_ 2 (.mv (.d (.int .i64 0))) []]) (.seq (.seq (.reg false [oo_ 5 (.load true 3 (.t 1)) [],oo_ 6 (.call 36 [(.t 5)]) [0],oo_ 7 (.bin .neq (.t 6) (.d (.int .i64 0))) [1]])
 (.cond (.t 7) (.seq (.reg false [oo_ 2 (.mv (.d (.int .i64 0))) []]) .ret) .skip)) (.seq (.reg false [oo_ 9 (.load true 3 (.t 1)) [],oo_ 10 (.call 49 [(.t 9)]) [0],om_ 8 10 [1],oo_ 11 (.ext (.t 8) 0) [2],oo_ 12 (.ext
 (.t 8) 1) [2],om_ 3 11 [3,1,0,1,2,3],om_ 4 12 [4,5,0,1,2,3,4,5]]) (.seq (.reg false [om_ 13 3 [],om_ 14 4 [],oo_ 15 (.bin .add (.t 13) (.t 14)) [0,1],oo_ 16 (.bin .add (.t 15) (.d (.int .i64 1))) [2],om_ 2 16
 [3,0,1,2,3]]) .ret))))
theorem o_7z : fnOf Try.prog o_7x = some (o_7y, [.t 2], 17, false) := by kernel_rfl

abbrev o_80 : FuncId := 39
def o_81 : C := (.seq (.reg false [oo_ 3 (.box 39 (.t 0)) [],oo_ 5 (.box 43 (.t 2)) [],oo_ 6 (.mv (.d (.int .i64 0))) []]) (.seq (.seq (.reg false [oo_ 10 (.load true 3 (.t 3)) [],oo_ 11 (.load true 3 (.t 5)) [],oo_ 12 (.bsl 43 3 1
 [(.int .i64 0),(.int .i64 0),(.bool false)] [(0,3,(.t 11))]) [1],oo_ 13 (.call 61 [(.t 10),(.t 12)]) [0,2],om_ 7 13 [3,3,0,1,2,3]]) (.seq (.reg false [om_ 14 7 [],oo_ 15 (.bin .neq (.t 14) (.d (.int .i64 0))) [0]])
 (.cond (.t 15) (.seq (.reg false [om_ 16 7 [],om_ 6 16 [0,0]]) .ret) .skip))) (.seq (.reg false [oo_ 18 (.load true 3 (.t 3)) [],oo_ 19 (.call 49 [(.t 18)]) [0],om_ 17 19 [1],oo_ 20 (.ext (.t 17) 0) [2],oo_ 21 (.ext (.t
 17) 1) [2],om_ 8 20 [3,1,0,1,2,3],om_ 9 21 [4,5,0,1,2,3,4,5]]) (.seq (.reg false [om_ 22 1 [],oo_ 23 (.fa 0 (.t 5)) [],oo_ 24 (.load false 1 (.t 23)) [1],oo_ 25 (.conv .u64 (.t 24)) [2],om_ 26 8 [],oo_ 27 (.call 28 [(.t
 22),(.t 25),(.t 26)]) [0,3,4]]) (.seq (.reg false [om_ 28 1 [],oo_ 29 (.fa 1 (.t 5)) [],oo_ 30 (.load false 1 (.t 29)) [1],oo_ 31 (.conv .u64 (.t 30)) [2],om_ 32 9 [],oo_ 33 (.call 28 [(.t 28),(.t 31),(.t 32)])
 [0,3,4]]) (.seq (.reg false [om_ 34 1 [],oo_ 35 (.fa 2 (.t 5)) [],oo_ 36 (.load false 1 (.t 35)) [1],oo_ 37 (.call 46 [(.t 34),(.t 36)]) [0,2]]) (.seq (.reg false [oo_ 6 (.mv (.d (.int .i64 0))) []]) .ret)))))))
theorem o_82 : fnOf Try.prog o_80 = some (o_81, [.t 6], 38, false) := by kernel_rfl

abbrev o_83 : FuncId := 40
def o_84 : C := (.seq (.reg false [oo_ 4 (.mv (.d (.int .u64 0))) [],oo_ 5 (.mv (.d (.int .i64 0))) [0]]) (.seq (.block 0 (.seq (.reg false [om_ 8 1 [],oo_ 9 (.call 44 [(.t 8)]) [0],oo_ 10 (.un .not (.t 9)) [1],om_ 7 10 [2,1]]) (.cond
 (.t 7) (.seq (.reg false [oo_ 4 (.mv (.d (.int .u64 0))) [],oo_ 5 (.mv (.d (.int .i64 2))) [0,0]]) .ret) (.seq (.reg false [om_ 12 1 [],om_ 13 0 [],oo_ 14 (.call 24 [(.t 13)]) [1],oo_ 15 (.bin .gtr (.t 12) (.t 14))
 [0,2],om_ 11 15 [3,2]]) (.cond (.t 11) (.seq (.reg false [oo_ 4 (.mv (.d (.int .u64 0))) [],oo_ 5 (.mv (.d (.int .i64 5))) [0,0]]) .ret) .skip))))) (.seq (.reg false [oo_ 6 (.mv (.d (.int .u64 0))) []]) (.seq (.seq
 (.reg false [om_ 16 1 [],oo_ 17 (.mv (.d (.int .i64 0))) []]) (.block 1 (.loop (.seq (.reg false [oo_ 18 (.bin .lss (.t 17) (.t 16)) []]) (.seq (.cond (.t 18) .skip (.exit 1)) (.seq (.block 2 (.reg false [om_ 19 6
 [],oo_ 20 (.bin .shl (.t 19) (.d (.int .u64 1))) [0],om_ 21 0 [],oo_ 22 (.call 62 [(.t 21)]) [2],oo_ 23 (.bin .or (.t 20) (.t 22)) [1,3],om_ 6 23 [4,3,0,1,2,3,4]])) (.reg false [oo_ 24 (.bin .add (.t 17) (.d (.int .i64
 1))) [],om_ 17 24 [0]]))))))) (.seq (.reg false [om_ 25 6 [],om_ 4 25 [0,0],oo_ 5 (.mv (.d (.int .i64 0))) [1,0,1]]) .ret)))))
theorem o_85 : fnOf Try.prog o_83 = some (o_84, [.t 4, .t 5], 26, false) := by kernel_rfl

abbrev o_86 : FuncId := 41
def o_87 : C := (.seq (.reg false [oo_ 6 (.mv (.d (.int .i64 0))) []]) (.seq (.block 0 (.seq (.reg false [om_ 11 1 [],oo_ 12 (.bin .lss (.t 11) (.d (.int .i64 0))) [0],om_ 13 12 [1],og_ 14 (.mv (.t 1)) 13 false [2],og_ 15 (.mv (.t 0))
 13 false [2],og_ 16 (.chk (.t 15)) 13 false [4,2],og_ 17 (.fa 1 (.t 16)) 13 false [5,2],og_ 18 (.load false 1 (.t 17)) 13 false [6,2],og_ 19 (.bin .geq (.t 14) (.t 18)) 13 false [3,7,2],oo_ 20 (.pick (.t 13) (.d (.bool
 true)) (.t 19)) [2,8],om_ 10 20 [9,2]]) (.cond (.t 10) (.seq (.reg false [oo_ 6 (.mv (.d (.int .i64 1))) []]) .ret) (.seq (.reg false [om_ 22 2 [],om_ 23 0 [],oo_ 24 (.call 43 [(.t 23)]) [1],oo_ 25 (.bin .gtr (.t 22)
 (.t 24)) [0,2],om_ 21 25 [3,2]]) (.cond (.t 21) (.seq (.reg false [oo_ 6 (.mv (.d (.int .i64 2))) []]) .ret) .skip))))) (.seq (.reg false [om_ 27 0 [],om_ 28 1 [],oo_ 29 (.call 42 [(.t 27),(.t 28)]) [0,1],om_ 26 29
 [2],oo_ 30 (.ext (.t 26) 0) [3],oo_ 31 (.ext (.t 26) 1) [3],om_ 7 30 [4,2,0,1,2,3,4],om_ 8 31 [5,6,0,1,2,3,4,5,6]]) (.seq (.reg true [om_ 32 0 [],oo_ 33 (.chk (.t 32)) [0],oo_ 34 (.fa 0 (.t 33)) [1],oo_ 35 (.load false
 1 (.t 34)) [2],om_ 36 7 [],om_ 37 0 [],oo_ 38 (.chk (.t 37)) [5],oo_ 39 (.fa 0 (.t 38)) [6],oo_ 40 (.load false 1 (.t 39)) [7],om_ 41 7 [],oo_ 42 (.ix 1 (.t 40) (.t 41)) [8,9],oo_ 43 (.load false 1 (.t 42)) [10],om_ 44
 0 [],oo_ 45 (.call 43 [(.t 44)]) [12],om_ 46 8 [],oo_ 47 (.bin .shl (.t 45) (.t 46)) [13,14],oo_ 48 (.bin .andNot (.t 43) (.t 47)) [11,15],om_ 49 2 [],om_ 50 8 [],oo_ 51 (.bin .shl (.t 49) (.t 50)) [17,18],oo_ 52 (.bin
 .or (.t 48) (.t 51)) [16,19],oo_ 53 (.ix 1 (.t 35) (.t 36)) [3,4,0,1,2,3,4,5,6,7,8,9,10,11,12,13,14,15,16,17,18,19,20],on_ (.store 1 (.t 53) (.t 52)) [21,20,13,0,1,2,3,4,5,6,7,8,9,10,11,12,13,14,15,16,17,18,19,20]])
 (.seq (.seq (.reg false [om_ 54 8 [],om_ 55 0 [],oo_ 56 (.chk (.t 55)) [1],oo_ 57 (.fa 2 (.t 56)) [2],oo_ 58 (.load false 1 (.t 57)) [3],oo_ 59 (.bin .add (.t 54) (.t 58)) [0,4],oo_ 60 (.bin .gtr (.t 59) (.d (.int .i64
 64))) [5]]) (.cond (.t 60) (.seq (.reg false [om_ 61 8 [],oo_ 62 (.bin .sub (.d (.int .i64 64)) (.t 61)) [0],om_ 9 62 [1,0,1]]) (.reg true [om_ 63 0 [],oo_ 64 (.chk (.t 63)) [0],oo_ 65 (.fa 0 (.t 64)) [1],oo_ 66 (.load
 false 1 (.t 65)) [2],om_ 67 7 [],oo_ 68 (.bin .add (.t 67) (.d (.int .i64 1))) [4],om_ 69 0 [],oo_ 70 (.chk (.t 69)) [6],oo_ 71 (.fa 0 (.t 70)) [7],oo_ 72 (.load false 1 (.t 71)) [8],om_ 73 7 [],oo_ 74 (.bin .add (.t
 73) (.d (.int .i64 1))) [10],oo_ 75 (.ix 1 (.t 72) (.t 74)) [9,11],oo_ 76 (.load false 1 (.t 75)) [12],om_ 77 0 [],oo_ 78 (.call 43 [(.t 77)]) [14],om_ 79 9 [],oo_ 80 (.bin .shr (.t 78) (.t 79)) [15,16],oo_ 81 (.bin
 .andNot (.t 76) (.t 80)) [13,17],om_ 82 2 [],om_ 83 9 [],oo_ 84 (.bin .shr (.t 82) (.t 83)) [19,20],oo_ 85 (.bin .or (.t 81) (.t 84)) [18,21],oo_ 86 (.ix 1 (.t 66) (.t 68))
 [3,5,0,1,2,3,4,5,6,7,8,9,10,11,12,13,14,15,16,17,18,19,20,21,22],on_ (.store 1 (.t 86) (.t 85)) [23,22,15,0,1,2,3,4,5,6,7,8,9,10,11,12,13,14,15,16,17,18,19,20,21,22]])) .skip)) (.seq (.reg false [oo_ 6 (.mv (.d (.int
 .i64 0))) []]) .ret))))))
theorem o_88 : fnOf Try.prog o_86 = some (o_87, [.t 6], 87, false) := by kernel_rfl

abbrev o_89 : FuncId := 42
def o_8a : C := (.seq (.reg false [oo_ 4 (.mv (.d (.int .i64 0))) [],oo_ 5 (.mv (.d (.int .i64 0))) [0]]) (.seq (.reg true [om_ 6 1 [],om_ 7 0 [],oo_ 8 (.chk (.t 7)) [1],oo_ 9 (.fa 2 (.t 8)) [2],oo_ 10 (.load false 1 (.t 9)) [3],oo_ 11
 (.bin .mul (.t 6) (.t 10)) [0,4],oo_ 12 (.bin .quo (.t 11) (.d (.int .i64 64))) [5],om_ 13 1 [],om_ 14 0 [],oo_ 15 (.chk (.t 14)) [8],oo_ 16 (.fa 2 (.t 15)) [9],oo_ 17 (.load false 1 (.t 16)) [10],oo_ 18 (.bin .mul (.t
 13) (.t 17)) [7,11],oo_ 19 (.bin .rem (.t 18) (.d (.int .i64 64))) [12],om_ 4 12 [6,0,1,2,3,4,5,6],om_ 5 19 [13,14,0,1,2,3,4,5,6,7,8,9,10,11,12,13,14]]) .ret))
theorem o_8b : fnOf Try.prog o_89 = some (o_8a, [.t 4, .t 5], 20, false) := by kernel_rfl

abbrev o_8c : FuncId := 43
def o_8d : C := (.seq (.reg false [oo_ 2 (.mv (.d (.int .u64 0))) []]) (.seq (.reg false [om_ 3 0 [],oo_ 4 (.chk (.t 3)) [0],oo_ 5 (.fa 2 (.t 4)) [1],oo_ 6 (.load false 1 (.t 5)) [2],oo_ 7 (.bin .shl (.d (.int .u64 1)) (.t 6)) [3],oo_
 8 (.bin .sub (.t 7) (.d (.int .u64 1))) [4],om_ 2 8 [5,0,1,2,3,4,5]]) .ret))
theorem o_8e : fnOf Try.prog o_8c = some (o_8d, [.t 2], 9, false) := by kernel_rfl

abbrev o_8f : FuncId := 44
def o_8g : C := (.seq (.reg false [oo_ 2 (.mv (.d (.bool false))) []]) (.seq (.reg false [om_ 3 0 [],oo_ 4 (.bin .geq (.t 3) (.d (.int .i64 0))) [0],om_ 5 4 [1],og_ 6 (.mv (.t 0)) 5 true [2],og_ 7 (.bin .leq (.t 6) (.d (.int .i64 64)))
 5 true [3,2],oo_ 8 (.pick (.t 5) (.t 7) (.d (.bool false))) [2,4],om_ 2 8 [5,2,0,1,2,3,4,5]]) .ret))
theorem o_8h : fnOf Try.prog o_8f = some (o_8g, [.t 2], 9, false) := by kernel_rfl

abbrev o_8i : FuncId := 45
def o_8j : C := (.seq (.reg false [oo_ 4 (.mv (.d (.bool false))) []]) (.seq (.reg false [om_ 5 1 [],oo_ 6 (.bin .eql (.t 5) (.d (.int .i64 64))) [0],om_ 7 6 [1],og_ 8 (.mv (.t 0)) 7 false [2],og_ 9 (.mv (.t 1)) 7 false [2],og_ 10
 (.bin .shr (.t 8) (.t 9)) 7 false [3,4,2],og_ 11 (.bin .eql (.t 10) (.d (.int .u64 0))) 7 false [5,2],oo_ 12 (.pick (.t 7) (.d (.bool true)) (.t 11)) [2,6],om_ 4 12 [7,2,0,1,2,3,4,5,6,7]]) .ret))
theorem o_8k : fnOf Try.prog o_8i = some (o_8j, [.t 4], 13, false) := by kernel_rfl

abbrev o_8l : FuncId := 46
def o_8m : C := (.seq (.seq (.reg false [om_ 4 0 [],oo_ 5 (.chk (.t 4)) [0],oo_ 6 (.fa 1 (.t 5)) [1],oo_ 7 (.load false 1 (.t 6)) [2],oo_ 8 (.bin .rem (.t 7) (.d (.int .i64 8))) [3],oo_ 9 (.bin .eql (.t 8) (.d (.int .i64 0))) [4]])
 (.cond (.t 9) (.reg false [om_ 10 0 [],om_ 11 0 [],oo_ 12 (.chk (.t 11)) [1],oo_ 13 (.fa 0 (.t 12)) [2],oo_ 14 (.load false 1 (.t 13)) [3],oo_ 15 (.bsl 5 1 1 [(.int .u8 0)] [(0,1,(.d (.int .u8 0)))]) [],oo_ 16 (.app 5 1
 1 (.t 14) (.t 15)) [4,5],oo_ 17 (.chk (.t 10)) [0,0,1,2,3,4,5,6],oo_ 18 (.fa 0 (.t 17)) [7,0,1,2,3,4,5,6],on_ (.store 1 (.t 18) (.t 16)) [8,6,6,0,1,2,3,4,5,6]]) .skip)) (.seq (.seq (.reg false [om_ 19 1 []]) (.cond (.t
 19) (.reg true [om_ 20 0 [],oo_ 21 (.chk (.t 20)) [0],oo_ 22 (.fa 0 (.t 21)) [1],oo_ 23 (.load false 1 (.t 22)) [2],om_ 24 0 [],oo_ 25 (.chk (.t 24)) [4],oo_ 26 (.fa 1 (.t 25)) [5],oo_ 27 (.load false 1 (.t 26)) [6],oo_
 28 (.bin .quo (.t 27) (.d (.int .i64 8))) [7],oo_ 29 (.ix 1 (.t 23) (.t 28)) [3,8],oo_ 30 (.load false 1 (.t 29)) [9],om_ 31 0 [],oo_ 32 (.chk (.t 31)) [11],oo_ 33 (.fa 1 (.t 32)) [12],oo_ 34 (.load false 1 (.t 33))
 [13],oo_ 35 (.bin .rem (.t 34) (.d (.int .i64 8))) [14],oo_ 36 (.bin .sub (.d (.int .i64 7)) (.t 35)) [15],oo_ 37 (.bin .shl (.d (.int .u8 1)) (.t 36)) [16],oo_ 38 (.bin .or (.t 30) (.t 37)) [10,17],oo_ 39 (.ix 1 (.t
 23) (.t 28)) [3,8,0,1,2,3,4,5,6,7,8,9,10,11,12,13,14,15,16,17,18],on_ (.store 1 (.t 39) (.t 38)) [19,18,0,1,2,3,4,5,6,7,8,9,10,11,12,13,14,15,16,17,18]]) .skip)) (.reg false [om_ 40 0 [],oo_ 41 (.chk (.t 40)) [0],oo_ 42
 (.fa 1 (.t 41)) [1],oo_ 43 (.load false 1 (.t 42)) [2],oo_ 44 (.bin .add (.t 43) (.d (.int .i64 1))) [3],oo_ 45 (.chk (.t 40)) [0,0,1,2,3,4],oo_ 46 (.fa 1 (.t 45)) [5,0,1,2,3,4],on_ (.store 1 (.t 46) (.t 44))
 [6,4,0,1,2,3,4]])))
theorem o_8n : fnOf Try.prog o_8l = some (o_8m, [], 47, false) := by kernel_rfl

abbrev o_8o : FuncId := 47
def o_8p : C := (.seq (.reg false [oo_ 1 (.box 23 (.t 0)) [],oo_ 2 (.mv (.d (.int .i64 0))) [],oo_ 3 (.mv (.d (.int .i64 0))) [1]]) (.seq (.seq (.reg false [oo_ 4 (.fa 0 (.t 1)) [],oo_ 5 (.load false 1 (.t 4)) [0],oo_ 6 (.bin .eql (.t
 5) (.d (.int .i64 4))) [1]]) (.cond (.t 6) (.seq (.reg true [oo_ 7 (.fa 1 (.t 1)) [],oo_ 8 (.load false 1 (.t 7)) [0],oo_ 9 (.call 63 [(.t 8)]) [1],oo_ 10 (.fa 2 (.t 1)) [],oo_ 11 (.load false 1 (.t 10)) [3],oo_ 12
 (.call 63 [(.t 11)]) [4,2],om_ 2 9 [2,5,0,1,2],om_ 3 12 [5,6,0,1,2,3,4,5,6]]) .ret) .skip)) (.seq (.reg false [oo_ 13 (.fa 2 (.t 1)) [],oo_ 14 (.load false 1 (.t 13)) [0],om_ 2 14 [1,0,1],oo_ 3 (.mv (.d (.int .i64 0)))
 [2,0,1,2]]) .ret)))
theorem o_8q : fnOf Try.prog o_8o = some (o_8p, [.t 2, .t 3], 15, false) := by kernel_rfl

abbrev o_8r : FuncId := 48
def o_8s : C := (.seq (.reg false [oo_ 6 (.mv (.d .nilsl)) [],oo_ 7 (.mv (.d (.int .i64 0))) [0]]) (.seq (.seq (.reg false [om_ 10 2 [],oo_ 11 (.bin .lss (.t 10) (.d (.int .i64 0))) [0],om_ 12 11 [1],og_ 13 (.mv (.t 2)) 12 false
 [2],og_ 14 (.bin .gtr (.t 13) (.d (.int .i64 64))) 12 false [3,2],oo_ 15 (.pick (.t 12) (.d (.bool true)) (.t 14)) [2,4]]) (.cond (.t 15) (.seq (.reg false [om_ 16 0 [],om_ 6 16 [0,0],oo_ 7 (.mv (.d (.int .i64 2)))
 [1,0,1]]) .ret) .skip)) (.seq (.reg false [oo_ 8 (.mv (.d .nilsl)) []]) (.seq (.seq (.reg false [oo_ 9 (.mv (.d (.int .i64 0))) []]) (.block 0 (.loop (.seq (.seq (.reg false [om_ 17 9 [],om_ 18 2 [],oo_ 19 (.bin .lss
 (.t 17) (.t 18)) [0,1]]) (.cond (.t 19) .skip (.exit 0))) (.seq (.block 1 (.seq (.reg false [om_ 22 1 [],oo_ 23 (.bin .rem (.t 22) (.d (.int .u64 2))) [0],oo_ 24 (.bin .eql (.t 23) (.d (.int .u64 1))) [1],oo_ 25 (.bsl 4
 1 1 [(.bool false)] [(0,1,(.t 24))]) [2],om_ 26 8 [],oo_ 27 (.app 4 1 1 (.t 25) (.t 26)) [3,4],om_ 8 27 [5,5,0,1,2,3,4,5]]) (.reg false [om_ 28 1 [],oo_ 29 (.bin .quo (.t 28) (.d (.int .u64 2))) [0],om_ 1 29 [1,0,1]])))
 (.reg false [om_ 20 9 [],oo_ 21 (.bin .add (.t 20) (.d (.int .i64 1))) [0],om_ 9 21 [1,0,1]])))))) (.seq (.seq (.reg false [om_ 30 1 [],oo_ 31 (.bin .gtr (.t 30) (.d (.int .u64 0))) [0]]) (.cond (.t 31) (.seq (.reg
 false [om_ 32 0 [],om_ 6 32 [0,0],oo_ 7 (.mv (.d (.int .i64 2))) [1,0,1]]) .ret) .skip)) (.seq (.reg false [oo_ 33 (.bsl0) [],om_ 34 0 [],oo_ 35 (.app 4 1 1 (.t 33) (.t 34)) [0,1],om_ 36 8 [],oo_ 37 (.app 4 1 1 (.t 35)
 (.t 36)) [2,3,2],om_ 6 37 [4,4,0,1,2,3,4],oo_ 7 (.mv (.d (.int .i64 0))) [5,0,1,2,3,4,5]]) .ret))))))
theorem o_8t : fnOf Try.prog o_8r = some (o_8s, [.t 6, .t 7], 38, false) := by kernel_rfl

abbrev o_8u : FuncId := 49
def o_8v : C := (.seq (.reg false [oo_ 1 (.box 39 (.t 0)) [],oo_ 2 (.mv (.d (.int .i64 0))) [],oo_ 3 (.mv (.d (.int .i64 0))) [1]]) (.seq (.seq (.reg false [oo_ 4 (.fa 0 (.t 1)) [],oo_ 5 (.load false 1 (.t 4)) [0],oo_ 6 (.bin .eql (.t
 5) (.d (.int .i64 4))) [1]]) (.cond (.t 6) (.seq (.reg true [oo_ 7 (.fa 1 (.t 1)) [],oo_ 8 (.load false 1 (.t 7)) [0],oo_ 9 (.conv .u64 (.t 8)) [1],oo_ 10 (.call 64 [(.t 9)]) [2],oo_ 11 (.fa 2 (.t 1)) [],oo_ 12 (.load
 false 1 (.t 11)) [4],oo_ 13 (.conv .u64 (.t 12)) [5],oo_ 14 (.call 64 [(.t 13)]) [6,3],om_ 2 10 [3,7,0,1,2,3],om_ 3 14 [7,8,0,1,2,3,4,5,6,7,8]]) .ret) .skip)) (.seq (.reg false [oo_ 15 (.fa 2 (.t 1)) [],oo_ 16 (.load
 false 1 (.t 15)) [0],om_ 2 16 [1,0,1],oo_ 3 (.mv (.d (.int .i64 0))) [2,0,1,2]]) .ret)))
theorem o_8w : fnOf Try.prog o_8u = some (o_8v, [.t 2, .t 3], 17, false) := by kernel_rfl

abbrev o_8x : FuncId := 50
def o_8y : C := (.seq (.reg false [oo_ 2 (.mv (.d (.bool false))) [],oo_ 3 (.mv (.d (.int .i64 0))) [0]]) (.seq (.reg false [om_ 7 0 [],oo_ 8 (.call 40 [(.t 7),(.d (.int .i64 1))]) [0],om_ 6 8 [1],oo_ 9 (.ext (.t 6) 0) [2],oo_ 10 (.ext
 (.t 6) 1) [2],om_ 4 9 [3,1,0,1,2,3],om_ 5 10 [4,5,0,1,2,3,4,5]]) (.seq (.reg false [om_ 11 4 [],oo_ 12 (.bin .eql (.t 11) (.d (.int .u64 1))) [0],om_ 13 5 [],om_ 2 12 [1,0,1],om_ 3 13 [2,3,0,1,2,3]]) .ret)))
theorem o_8z : fnOf Try.prog o_8x = some (o_8y, [.t 2, .t 3], 14, false) := by kernel_rfl

abbrev o_90 : FuncId := 51
def o_91 : C := (.seq (.reg false [oo_ 2 (.box 39 (.t 0)) [],oo_ 3 (.box 43 (.t 1)) [],oo_ 4 (.mv (.d (.bool false))) []]) (.seq (.seq (.reg false [oo_ 6 (.load true 3 (.t 2)) [],oo_ 7 (.call 36 [(.t 6)]) [0],oo_ 8 (.bin .neq (.t 7)
 (.d (.int .i64 0))) [1]]) (.cond (.t 8) (.seq (.reg false [oo_ 4 (.mv (.d (.bool false))) []]) .ret) .skip)) (.seq (.seq (.reg false [oo_ 9 (.fa 0 (.t 2)) [],oo_ 10 (.load false 1 (.t 9)) [0],oo_ 11 (.bin .eql (.t 10)
 (.d (.int .i64 4))) [1]]) (.cond (.t 11) (.seq (.reg true [oo_ 12 (.load true 3 (.t 2)) [],oo_ 13 (.call 57 [(.t 12)]) [0],oo_ 14 (.load true 3 (.t 3)) [],oo_ 15 (.call 66 [(.t 14)]) [2,1],oo_ 16 (.call 65 [(.t 13),(.t
 15)]) [1,3,3],om_ 4 16 [4,4,0,1,2,3,4]]) .ret) .skip)) (.seq (.reg false [oo_ 17 (.load true 3 (.t 2)) [],oo_ 18 (.call 59 [(.t 17)]) [0],oo_ 19 (.call 67 [(.t 18)]) [1,1],om_ 5 19 [2,2,0,1,2]]) (.seq (.reg false [oo_
 20 (.fa 1 (.t 3)) [],oo_ 21 (.load false 1 (.t 20)) [0],oo_ 22 (.bin .eql (.t 21) (.d (.int .i64 0))) [1],om_ 23 22 [2],og_ 24 (.fa 0 (.t 3)) 23 true [3],og_ 25 (.load false 1 (.t 24)) 23 true [4,3],og_ 26 (.bin .geq
 (.t 25) (.d (.int .i64 0))) 23 true [5,3],oo_ 27 (.pick (.t 23) (.t 26) (.d (.bool false))) [3,6],om_ 28 27 [7,3],og_ 29 (.fa 0 (.t 3)) 28 true [8],og_ 30 (.load false 1 (.t 29)) 28 true [9,8],og_ 31 (.mv (.t 5)) 28
 true [8],og_ 32 (.bin .leq (.t 30) (.t 31)) 28 true [10,11,8],oo_ 33 (.pick (.t 28) (.t 32) (.d (.bool false))) [8,12],om_ 34 33 [13,8],og_ 35 (.fa 2 (.t 3)) 34 true [14],og_ 36 (.load false 1 (.t 35)) 34 true
 [15,14],og_ 37 (.un .not (.t 36)) 34 true [16,14],og_ 38 (.mv (.t 37)) 34 true [17,14,14],og_ 39 (.fa 0 (.t 3)) 38 false [18],og_ 40 (.load false 1 (.t 39)) 38 false [19,18],og_ 41 (.mv (.t 5)) 38 false [18],og_ 42
 (.bin .eql (.t 40) (.t 41)) 38 false [20,21,18],og_ 43 (.pick (.t 38) (.d (.bool true)) (.t 42)) 34 true [18,22,14],oo_ 44 (.pick (.t 34) (.t 43) (.d (.bool false))) [14,23],om_ 4 44
 [24,18,0,1,2,3,4,5,6,7,8,9,10,11,12,13,14,15,16,17,18,19,20,21,22,23,24]]) .ret)))))
theorem o_92 : fnOf Try.prog o_90 = some (o_91, [.t 4], 45, false) := by kernel_rfl

abbrev o_93 : FuncId := 52
def o_94 : C := (.seq (.reg false [oo_ 4 (.mv (.d (.bool false))) []]) (.seq (.seq (.reg false [om_ 6 0 [],oo_ 7 (.len (.t 6)) [0],om_ 8 1 [],oo_ 9 (.len (.t 8)) [2],oo_ 10 (.bin .neq (.t 7) (.t 9)) [1,3]]) (.cond (.t 10) (.seq (.reg
 false [oo_ 4 (.mv (.d (.bool false))) []]) .ret) .skip)) (.seq (.seq (.reg false [om_ 11 0 [],oo_ 12 (.len (.t 11)) [0],oo_ 13 (.mv (.d (.int .i64 0))) []]) (.block 0 (.loop (.seq (.reg false [oo_ 14 (.bin .lss (.t 13)
 (.t 12)) []]) (.seq (.cond (.t 14) .skip (.exit 0)) (.seq (.block 1 (.seq (.reg false [om_ 15 13 [],om_ 5 15 [0,0]]) (.seq (.reg true [om_ 16 0 [],om_ 17 5 [],oo_ 18 (.ix 1 (.t 16) (.t 17)) [0,1],oo_ 19 (.load false 1
 (.t 18)) [2],om_ 20 1 [],om_ 21 5 [],oo_ 22 (.ix 1 (.t 20) (.t 21)) [4,5],oo_ 23 (.load false 1 (.t 22)) [6],oo_ 24 (.bin .neq (.t 19) (.t 23)) [3,7]]) (.cond (.t 24) (.seq (.reg false [oo_ 4 (.mv (.d (.bool false)))
 []]) .ret) .skip)))) (.reg false [oo_ 25 (.bin .add (.t 13) (.d (.int .i64 1))) [],om_ 13 25 [0]]))))))) (.seq (.reg false [oo_ 4 (.mv (.d (.bool true))) []]) .ret))))
theorem o_95 : fnOf Try.prog o_93 = some (o_94, [.t 4], 26, false) := by kernel_rfl

abbrev o_96 : FuncId := 53
def o_97 : C := (.seq (.reg false [oo_ 1 (.box 106 (.t 0)) [],oo_ 2 (.mv (.d (.bool false))) []]) (.seq (.reg false [oo_ 3 (.fa 0 (.t 1)) [],oo_ 4 (.load false 1 (.t 3)) [0],oo_ 5 (.bin .geq (.t 4) (.d (.int .i64 1))) [1],om_ 6 5
 [2],og_ 7 (.fa 0 (.t 1)) 6 true [3],og_ 8 (.load false 1 (.t 7)) 6 true [4,3],og_ 9 (.bin .leq (.t 8) (.d (.int .i64 1023))) 6 true [5,3],oo_ 10 (.pick (.t 6) (.t 9) (.d (.bool false))) [3,6],om_ 11 10 [7,3],og_ 12 (.fa
 1 (.t 1)) 11 true [8],og_ 13 (.load false 1 (.t 12)) 11 true [9,8],og_ 14 (.bin .geq (.t 13) (.d (.int .i64 0))) 11 true [10,8],oo_ 15 (.pick (.t 11) (.t 14) (.d (.bool false))) [8,11],om_ 16 15 [12,8],og_ 17 (.fa 1 (.t
 1)) 16 true [13],og_ 18 (.load false 1 (.t 17)) 16 true [14,13],og_ 19 (.bin .leq (.t 18) (.d (.int .i64 20))) 16 true [15,13],oo_ 20 (.pick (.t 16) (.t 19) (.d (.bool false))) [13,16],om_ 2 20
 [17,13,0,1,2,3,4,5,6,7,8,9,10,11,12,13,14,15,16,17]]) .ret))
theorem o_98 : fnOf Try.prog o_96 = some (o_97, [.t 2], 21, false) := by kernel_rfl

abbrev o_99 : FuncId := 54
def o_9a : C := (.seq (.reg false [oo_ 1 (.box 109 (.t 0)) [],oo_ 2 (.mv (.d (.bool false))) []]) (.seq (.seq (.reg false [oo_ 6 (.fa 2 (.t 1)) [],oo_ 7 (.load false 1 (.t 6)) [0],oo_ 8 (.bin .lss (.t 7) (.d (.int .i64 1))) [1],om_ 9 8
 [2],og_ 10 (.fa 2 (.t 1)) 9 false [3],og_ 11 (.load false 1 (.t 10)) 9 false [4,3],og_ 12 (.bin .gtr (.t 11) (.d (.int .i64 10))) 9 false [5,3],oo_ 13 (.pick (.t 9) (.d (.bool true)) (.t 12)) [3,6]]) (.cond (.t 13)
 (.seq (.reg false [oo_ 2 (.mv (.d (.bool false))) []]) .ret) .skip)) (.seq (.reg false [oo_ 14 (.fa 2 (.t 1)) [],oo_ 15 (.load false 1 (.t 14)) [0],oo_ 16 (.call 68 [(.t 15)]) [1],oo_ 17 (.bin .sub (.t 16) (.d (.int
 .i64 1))) [2],om_ 3 17 [3,2,0,1,2,3]]) (.seq (.seq (.reg false [oo_ 18 (.fa 0 (.t 1)) [],oo_ 19 (.load false 1 (.t 18)) [0]]) (.block 0 (.seq (.reg false [oo_ 21 (.bin .eql (.t 19) (.d (.int .i64 1))) [],om_ 20 21 [0]])
 (.cond (.t 20) (.seq (.reg false [oo_ 4 (.mv (.d (.int .i64 0))) []]) (.seq (.seq (.reg false [oo_ 22 (.fa 1 (.t 1)) [],oo_ 23 (.load false 1 (.t 22)) [0],oo_ 24 (.bin .lss (.t 23) (.d (.int .i64 1))) [1],om_ 25 24
 [2],og_ 26 (.fa 1 (.t 1)) 25 false [3],og_ 27 (.load false 1 (.t 26)) 25 false [4,3],og_ 28 (.bin .gtr (.t 27) (.d (.int .i64 4096))) 25 false [5,3],oo_ 29 (.pick (.t 25) (.d (.bool true)) (.t 28)) [3,6]]) (.cond (.t
 29) (.seq (.reg false [oo_ 2 (.mv (.d (.bool false))) []]) .ret) .skip)) (.seq (.seq (.reg false [oo_ 30 (.fa 1 (.t 1)) [],oo_ 31 (.load false 1 (.t 30)) [0],oo_ 32 (.bin .add (.t 31) (.d (.int .i64 1))) [1],om_ 5 32
 [2,0,1,2]]) (.block 1 (.loop (.seq (.seq (.reg false [om_ 33 5 [],oo_ 34 (.bin .gtr (.t 33) (.d (.int .i64 0))) [0]]) (.cond (.t 34) .skip (.exit 1))) (.seq (.block 2 (.reg false [om_ 37 4 [],oo_ 38 (.bin .add (.t 37)
 (.d (.int .i64 1))) [0],om_ 4 38 [1,0,1]])) (.reg false [om_ 35 5 [],oo_ 36 (.bin .quo (.t 35) (.d (.int .i64 2))) [0],om_ 5 36 [1,0,1]])))))) (.seq (.reg false [om_ 39 4 [],om_ 40 3 [],oo_ 41 (.bin .mul (.t 39) (.t
 40)) [0,1],oo_ 42 (.bin .leq (.t 41) (.d (.int .i64 8192))) [2],om_ 2 42 [3,0,1,2,3]]) .ret)))) (.seq (.reg false [oo_ 44 (.bin .eql (.t 19) (.d (.int .i64 2))) [],om_ 43 44 [0]]) (.cond (.t 43) (.seq (.reg false [oo_
 45 (.fa 1 (.t 1)) [],oo_ 46 (.load false 1 (.t 45)) [0],oo_ 47 (.bin .geq (.t 46) (.d (.int .i64 0))) [1],om_ 48 47 [2],og_ 49 (.fa 1 (.t 1)) 48 true [3],og_ 50 (.load false 1 (.t 49)) 48 true [4,3],og_ 51 (.bin .leq
 (.t 50) (.d (.int .i64 8))) 48 true [5,3],oo_ 52 (.pick (.t 48) (.t 51) (.d (.bool false))) [3,6],om_ 2 52 [7,3,0,1,2,3,4,5,6,7]]) .ret) (.seq (.reg false [oo_ 54 (.bin .eql (.t 19) (.d (.int .i64 3))) [],om_ 53 54
 [0]]) (.cond (.t 53) (.seq (.reg false [oo_ 55 (.fa 1 (.t 1)) [],oo_ 56 (.load false 1 (.t 55)) [0],oo_ 57 (.bin .geq (.t 56) (.d (.int .i64 1))) [1],om_ 58 57 [2],og_ 59 (.fa 1 (.t 1)) 58 true [3],og_ 60 (.load false 1
 (.t 59)) 58 true [4,3],og_ 61 (.bin .leq (.t 60) (.d (.int .i64 5))) 58 true [5,3],oo_ 62 (.pick (.t 58) (.t 61) (.d (.bool false))) [3,6],om_ 2 62 [7,3,0,1,2,3,4,5,6,7]]) .ret) .skip)))))))) (.seq (.reg false [oo_ 2
 (.mv (.d (.bool false))) []]) .ret)))))
theorem o_9b : fnOf Try.prog o_99 = some (o_9a, [.t 2], 63, false) := by kernel_rfl

abbrev o_9c : FuncId := 55
def o_9d : C := (.seq (.reg false [oo_ 6 (.mv (.d (.int .u64 0))) [],oo_ 7 (.mv (.d (.int .i64 0))) [0],oo_ 8 (.mv (.d (.int .i64 0))) [1]]) (.seq (.seq (.reg false [om_ 11 2 [],oo_ 12 (.bin .lss (.t 11) (.d (.int .i64 0))) [0],om_ 13
 12 [1],og_ 14 (.mv (.t 2)) 13 false [2],og_ 15 (.bin .gtr (.t 14) (.d (.int .i64 64))) 13 false [3,2],oo_ 16 (.pick (.t 13) (.d (.bool true)) (.t 15)) [2,4]]) (.cond (.t 16) (.seq (.reg false [om_ 17 1 [],oo_ 6 (.mv (.d
 (.int .u64 0))) [],om_ 7 17 [0,1,0,1],oo_ 8 (.mv (.d (.int .i64 2))) [2,0,1,2]]) .ret) .skip)) (.seq (.seq (.reg false [om_ 18 2 [],om_ 19 0 [],oo_ 20 (.len (.t 19)) [1],om_ 21 1 [],oo_ 22 (.bin .sub (.t 20) (.t 21))
 [2,3],oo_ 23 (.bin .gtr (.t 18) (.t 22)) [0,4]]) (.cond (.t 23) (.seq (.reg false [om_ 24 1 [],oo_ 6 (.mv (.d (.int .u64 0))) [],om_ 7 24 [0,1,0,1],oo_ 8 (.mv (.d (.int .i64 5))) [2,0,1,2]]) .ret) .skip)) (.seq (.reg
 false [oo_ 9 (.mv (.d (.int .u64 0))) []]) (.seq (.seq (.reg false [oo_ 10 (.mv (.d (.int .i64 0))) []]) (.block 0 (.loop (.seq (.seq (.reg false [om_ 25 10 [],om_ 26 2 [],oo_ 27 (.bin .lss (.t 25) (.t 26)) [0,1]])
 (.cond (.t 27) .skip (.exit 0))) (.seq (.block 1 (.seq (.reg false [om_ 30 9 [],oo_ 31 (.bin .mul (.d (.int .u64 2)) (.t 30)) [0],om_ 9 31 [1,0,1]]) (.seq (.reg false [om_ 32 0 [],om_ 33 1 [],om_ 34 10 [],oo_ 35 (.bin
 .add (.t 33) (.t 34)) [1,2],oo_ 36 (.ix 1 (.t 32) (.t 35)) [0,3],oo_ 37 (.load false 1 (.t 36)) [4]]) (.cond (.t 37) (.reg false [om_ 38 9 [],oo_ 39 (.bin .add (.t 38) (.d (.int .u64 1))) [0],om_ 9 39 [1,0,1]])
 .skip)))) (.reg false [om_ 28 10 [],oo_ 29 (.bin .add (.t 28) (.d (.int .i64 1))) [0],om_ 10 29 [1,0,1]])))))) (.seq (.reg false [om_ 40 9 [],om_ 41 1 [],om_ 42 2 [],oo_ 43 (.bin .add (.t 41) (.t 42)) [1,2],om_ 6 40
 [0,0],om_ 7 43 [3,4,0,1,2,3,4],oo_ 8 (.mv (.d (.int .i64 0))) [5,0,1,2,3,4,5]]) .ret))))))
theorem o_9e : fnOf Try.prog o_9c = some (o_9d, [.t 6, .t 7, .t 8], 44, false) := by kernel_rfl

abbrev o_9f : FuncId := 56
def o_9g : C := (.seq (.reg false [oo_ 2 (.box 23 (.t 0)) [],oo_ 3 (.box 28 (.t 1)) [],oo_ 4 (.mv (.d (.bool false))) []]) (.seq (.seq (.reg false [oo_ 6 (.load true 3 (.t 2)) [],oo_ 7 (.call 33 [(.t 6)]) [0],oo_ 8 (.un .not (.t 7))
 [1]]) (.cond (.t 8) (.seq (.reg false [oo_ 4 (.mv (.d (.bool false))) []]) .ret) .skip)) (.seq (.seq (.reg false [oo_ 9 (.fa 0 (.t 2)) [],oo_ 10 (.load false 1 (.t 9)) [0],oo_ 11 (.bin .eql (.t 10) (.d (.int .i64 4)))
 [1]]) (.cond (.t 11) (.seq (.reg false [oo_ 12 (.fa 1 (.t 2)) [],oo_ 13 (.load false 1 (.t 12)) [0],oo_ 14 (.fa 2 (.t 2)) [],oo_ 15 (.load false 1 (.t 14)) [2],oo_ 16 (.build [(.int .i64 0),(.int .i64 0)] [(0,1,(.t
 13)),(1,1,(.t 15))]) [1,3],oo_ 17 (.fa 0 (.t 3)) [],oo_ 18 (.load false 1 (.t 17)) [5],oo_ 19 (.fa 1 (.t 3)) [],oo_ 20 (.load false 1 (.t 19)) [7],oo_ 21 (.fa 2 (.t 3)) [],oo_ 22 (.load false 1 (.t 21)) [9],oo_ 23
 (.build [(.int .i64 0),(.int .i64 0),(.bool false)] [(0,1,(.t 18)),(1,1,(.t 20)),(2,1,(.t 22))]) [6,8,10],oo_ 24 (.call 69 [(.t 16),(.t 23)]) [4,11],om_ 4 24 [12,12,0,1,2,3,4,5,6,7,8,9,10,11,12]]) .ret) .skip)) (.seq
 (.reg false [oo_ 25 (.fa 0 (.t 2)) [],oo_ 26 (.load false 1 (.t 25)) [0],oo_ 27 (.fa 1 (.t 2)) [],oo_ 28 (.load false 1 (.t 27)) [2],oo_ 29 (.fa 2 (.t 2)) [],oo_ 30 (.load false 1 (.t 29)) [4],oo_ 31 (.build [(.int .i64
 0),(.int .i64 0),(.int .i64 0)] [(0,1,(.t 26)),(1,1,(.t 28)),(2,1,(.t 30))]) [1,3,5],oo_ 32 (.call 70 [(.t 31)]) [6],om_ 5 32 [7,7,0,1,2,3,4,5,6,7]]) (.seq (.reg false [oo_ 33 (.fa 1 (.t 3)) [],oo_ 34 (.load false 1 (.t
 33)) [0],oo_ 35 (.bin .eql (.t 34) (.d (.int .i64 0))) [1],om_ 36 35 [2],og_ 37 (.fa 0 (.t 3)) 36 true [3],og_ 38 (.load false 1 (.t 37)) 36 true [4,3],og_ 39 (.bin .geq (.t 38) (.d (.int .i64 0))) 36 true [5,3],oo_ 40
 (.pick (.t 36) (.t 39) (.d (.bool false))) [3,6],om_ 41 40 [7,3],og_ 42 (.fa 0 (.t 3)) 41 true [8],og_ 43 (.load false 1 (.t 42)) 41 true [9,8],og_ 44 (.mv (.t 5)) 41 true [8],og_ 45 (.bin .leq (.t 43) (.t 44)) 41 true
 [10,11,8],oo_ 46 (.pick (.t 41) (.t 45) (.d (.bool false))) [8,12],om_ 47 46 [13,8],og_ 48 (.fa 2 (.t 3)) 47 true [14],og_ 49 (.load false 1 (.t 48)) 47 true [15,14],og_ 50 (.un .not (.t 49)) 47 true [16,14],og_ 51 (.mv
 (.t 50)) 47 true [17,14,14],og_ 52 (.fa 0 (.t 3)) 51 false [18],og_ 53 (.load false 1 (.t 52)) 51 false [19,18],og_ 54 (.mv (.t 5)) 51 false [18],og_ 55 (.bin .eql (.t 53) (.t 54)) 51 false [20,21,18],og_ 56 (.pick (.t
 51) (.d (.bool true)) (.t 55)) 47 true [18,22,14],oo_ 57 (.pick (.t 47) (.t 56) (.d (.bool false))) [14,23],om_ 4 57 [24,18,0,1,2,3,4,5,6,7,8,9,10,11,12,13,14,15,16,17,18,19,20,21,22,23,24]]) .ret)))))
theorem o_9h : fnOf Try.prog o_9f = some (o_9g, [.t 4], 58, false) := by kernel_rfl

abbrev o_9i : FuncId := 57
def o_9j : C := (.seq (.reg false [oo_ 1 (.box 39 (.t 0)) [],oo_ 2 (.new 113 [(.int .i64 0),(.int .i64 0)]) []]) (.seq (.reg false [oo_ 3 (.fa 1 (.t 1)) [],oo_ 4 (.load false 1 (.t 3)) [0],oo_ 5 (.fa 2 (.t 1)) [],oo_ 6 (.load false 1
 (.t 5)) [2],oo_ 7 (.build [(.int .i64 0),(.int .i64 0)] [(0,1,(.t 4)),(1,1,(.t 6))]) [1,3],on_ (.store 2 (.t 2) (.t 7)) [4,0,1,2,3,4]]) .ret))
theorem o_9k : fnOf Try.prog o_9i = some (o_9j, [.cell 2 true 2], 8, false) := by kernel_rfl

abbrev o_9l : FuncId := 58
def o_9m : C := (.seq (.reg false [oo_ 1 (.box 113 (.t 0)) [],oo_ 2 (.mv (.d (.int .i64 0))) []]) (.seq (.seq (.reg false [oo_ 3 (.fa 0 (.t 1)) [],oo_ 4 (.load false 1 (.t 3)) [0],oo_ 5 (.bin .lss (.t 4) (.d (.int .i64 1))) [1],om_ 6 5
 [2],og_ 7 (.fa 0 (.t 1)) 6 false [3],og_ 8 (.load false 1 (.t 7)) 6 false [4,3],og_ 9 (.bin .gtr (.t 8) (.d (.int .i64 1023))) 6 false [5,3],oo_ 10 (.pick (.t 6) (.d (.bool true)) (.t 9)) [3,6],om_ 11 10 [7,3],og_ 12
 (.fa 1 (.t 1)) 11 false [8],og_ 13 (.load false 1 (.t 12)) 11 false [9,8],og_ 14 (.bin .lss (.t 13) (.d (.int .i64 0))) 11 false [10,8],oo_ 15 (.pick (.t 11) (.d (.bool true)) (.t 14)) [8,11],om_ 16 15 [12,8],og_ 17
 (.fa 1 (.t 1)) 16 false [13],og_ 18 (.load false 1 (.t 17)) 16 false [14,13],og_ 19 (.bin .gtr (.t 18) (.d (.int .i64 20))) 16 false [15,13],oo_ 20 (.pick (.t 16) (.d (.bool true)) (.t 19)) [13,16]]) (.cond (.t 20)
 (.seq (.reg false [oo_ 2 (.mv (.d (.int .i64 10))) []]) .ret) .skip)) (.seq (.reg false [oo_ 2 (.mv (.d (.int .i64 0))) []]) .ret)))
theorem o_9n : fnOf Try.prog o_9l = some (o_9m, [.t 2], 21, false) := by kernel_rfl

abbrev o_9o : FuncId := 59
def o_9p : C := (.seq (.reg false [oo_ 1 (.box 39 (.t 0)) [],oo_ 2 (.new 115 [(.int .i64 0),(.int .i64 0),(.int .i64 0)]) []]) (.seq (.reg false [oo_ 3 (.fa 0 (.t 1)) [],oo_ 4 (.load false 1 (.t 3)) [0],oo_ 5 (.fa 1 (.t 1)) [],oo_ 6
 (.load false 1 (.t 5)) [2],oo_ 7 (.fa 2 (.t 1)) [],oo_ 8 (.load false 1 (.t 7)) [4],oo_ 9 (.build [(.int .i64 0),(.int .i64 0),(.int .i64 0)] [(0,1,(.t 4)),(1,1,(.t 6)),(2,1,(.t 8))]) [1,3,5],on_ (.store 3 (.t 2) (.t
 9)) [6,0,1,2,3,4,5,6]]) .ret))
theorem o_9q : fnOf Try.prog o_9o = some (o_9p, [.cell 2 true 3], 10, false) := by kernel_rfl

abbrev o_9r : FuncId := 60
def o_9s : C := (.seq (.reg false [oo_ 1 (.box 115 (.t 0)) [],oo_ 2 (.mv (.d (.int .i64 0))) []]) (.seq (.reg false [oo_ 4 (.load true 3 (.t 1)) [],oo_ 5 (.call 71 [(.t 4)]) [0],om_ 3 5 [1,1,0,1]]) (.seq (.seq (.reg false [om_ 6 3
 [],oo_ 7 (.inl false (.t 6)) [0],om_ 8 7 [1],og_ 9 (.mv (.t 3)) 8 false [2],og_ 10 (.inv (.t 9) "tallymark/chain.good" []) 8 false [3,2,2],og_ 11 (.un .not (.t 10)) 8 false [4,2],oo_ 12 (.pick (.t 8) (.d (.bool true))
 (.t 11)) [2,5],om_ 13 12 [6,4],og_ 14 (.fa 2 (.t 1)) 13 false [7],og_ 15 (.load false 1 (.t 14)) 13 false [8,7],og_ 16 (.bin .lss (.t 15) (.d (.int .i64 1))) 13 false [9,7],oo_ 17 (.pick (.t 13) (.d (.bool true)) (.t
 16)) [7,10],om_ 18 17 [11,7],og_ 19 (.fa 2 (.t 1)) 18 false [12],og_ 20 (.load false 1 (.t 19)) 18 false [13,12],og_ 21 (.bin .gtr (.t 20) (.d (.int .i64 10))) 18 false [14,12],oo_ 22 (.pick (.t 18) (.d (.bool true))
 (.t 21)) [12,15]]) (.cond (.t 22) (.seq (.reg false [oo_ 2 (.mv (.d (.int .i64 10))) []]) .ret) .skip)) (.seq (.seq (.reg true [oo_ 23 (.fa 0 (.t 1)) [],oo_ 24 (.load false 1 (.t 23)) [0],oo_ 25 (.bin .eql (.t 24) (.d
 (.int .i64 1))) [1],om_ 26 25 [2],og_ 27 (.fa 1 (.t 1)) 26 true [3],og_ 28 (.load false 1 (.t 27)) 26 true [4,3],og_ 29 (.bin .add (.t 28) (.d (.int .i64 1))) 26 true [5,3],og_ 30 (.conv .u64 (.t 29)) 26 true [6,3],og_
 31 (.call 64 [(.t 30)]) 26 true [7,3,3],og_ 32 (.fa 2 (.t 1)) 26 true [3],og_ 33 (.load false 1 (.t 32)) 26 true [9,3],og_ 34 (.bin .shl (.d (.int .i64 1)) (.t 33)) 26 true [10,3],og_ 35 (.bin .sub (.t 34) (.d (.int
 .i64 1))) 26 true [11,3],og_ 36 (.bin .mul (.t 31) (.t 35)) 26 true [8,12,3],og_ 37 (.bin .gtr (.t 36) (.d (.int .i64 8192))) 26 true [13,3],oo_ 38 (.pick (.t 26) (.t 37) (.d (.bool false))) [3,14]]) (.cond (.t 38)
 (.seq (.reg false [oo_ 2 (.mv (.d (.int .i64 10))) []]) .ret) .skip)) (.seq (.reg false [oo_ 2 (.mv (.d (.int .i64 0))) []]) .ret)))))
theorem o_9t : fnOf Try.prog o_9r = some (o_9s, [.t 2], 39, false) := by kernel_rfl

abbrev o_9u : FuncId := 61
def o_9v : C := (.seq (.reg false [oo_ 2 (.box 39 (.t 0)) [],oo_ 4 (.mv (.d (.int .i64 0))) []]) (.seq (.seq (.reg false [oo_ 8 (.load true 3 (.t 2)) [],oo_ 9 (.call 36 [(.t 8)]) [0],om_ 5 9 [1,1,0,1]]) (.seq (.reg false [om_ 10 5
 [],oo_ 11 (.bin .neq (.t 10) (.d (.int .i64 0))) [0]]) (.cond (.t 11) (.seq (.reg false [om_ 12 5 [],om_ 4 12 [0,0]]) .ret) .skip))) (.seq (.seq (.reg false [om_ 13 1 [],oo_ 14 (.len (.t 13)) [0],oo_ 15 (.mv (.d (.int
 .i64 0))) []]) (.block 0 (.loop (.seq (.reg false [oo_ 16 (.bin .lss (.t 15) (.t 14)) []]) (.seq (.cond (.t 16) .skip (.exit 0)) (.seq (.block 1 (.seq (.reg false [oo_ 17 (.ix 3 (.t 13) (.t 15)) [],oo_ 18 (.load true 3
 (.t 17)) [0],oo_ 7 (.new 43 [(.int .i64 0),(.int .i64 0),(.bool false)]) [],on_ (.store 3 (.t 7) (.t 18)) [2,1,0,1,2]]) (.seq (.reg false [oo_ 19 (.load true 3 (.t 2)) [],oo_ 20 (.load true 3 (.t 7)) [],oo_ 21 (.call 51
 [(.t 19),(.t 20)]) [0,1],oo_ 22 (.un .not (.t 21)) [2]]) (.cond (.t 22) (.seq (.reg false [oo_ 4 (.mv (.d (.int .i64 2))) []]) .ret) .skip)))) (.reg false [oo_ 23 (.bin .add (.t 15) (.d (.int .i64 1))) [],om_ 15 23
 [0]]))))))) (.seq (.reg false [oo_ 4 (.mv (.d (.int .i64 0))) []]) .ret))))
theorem o_9w : fnOf Try.prog o_9u = some (o_9v, [.t 4], 24, false) := by kernel_rfl

abbrev o_9x : FuncId := 62
def o_9y : C := (.seq (.reg false [oo_ 2 (.mv (.d (.int .u64 0))) []]) (.seq (.reg true [om_ 4 0 [],oo_ 5 (.chk (.t 4)) [0],oo_ 6 (.fa 0 (.t 5)) [1],oo_ 7 (.load false 1 (.t 6)) [2],om_ 8 0 [],oo_ 9 (.chk (.t 8)) [4],oo_ 10 (.fa 1 (.t
 9)) [5],oo_ 11 (.load false 1 (.t 10)) [6],oo_ 12 (.bin .quo (.t 11) (.d (.int .i64 8))) [7],oo_ 13 (.ix 1 (.t 7) (.t 12)) [3,8],oo_ 14 (.load false 1 (.t 13)) [9],om_ 15 0 [],oo_ 16 (.chk (.t 15)) [11],oo_ 17 (.fa 1
 (.t 16)) [12],oo_ 18 (.load false 1 (.t 17)) [13],oo_ 19 (.bin .rem (.t 18) (.d (.int .i64 8))) [14],oo_ 20 (.bin .sub (.d (.int .i64 7)) (.t 19)) [15],oo_ 21 (.bin .shr (.t 14) (.t 20)) [10,16],oo_ 22 (.bin .and (.t
 21) (.d (.int .u8 1))) [17],om_ 3 22 [18,0,1,2,3,4,5,6,7,8,9,10,11,12,13,14,15,16,17,18]]) (.seq (.reg false [om_ 23 0 [],oo_ 24 (.chk (.t 23)) [0],oo_ 25 (.fa 1 (.t 24)) [1],oo_ 26 (.load false 1 (.t 25)) [2],oo_ 27
 (.bin .add (.t 26) (.d (.int .i64 1))) [3],oo_ 28 (.chk (.t 23)) [0,0,1,2,3,4],oo_ 29 (.fa 1 (.t 28)) [5,0,1,2,3,4],on_ (.store 1 (.t 29) (.t 27)) [6,4,0,1,2,3,4]]) (.seq (.reg false [om_ 30 3 [],oo_ 31 (.conv .u64 (.t
 30)) [0],om_ 2 31 [1,0,1]]) .ret))))
theorem o_9z : fnOf Try.prog o_9x = some (o_9y, [.t 2], 32, false) := by kernel_rfl

abbrev o_a0 : FuncId := 63
def o_a1 : C := (.seq (.reg false [oo_ 2 (.mv (.d (.int .i64 0))) []]) (.seq (.reg false [oo_ 3 (.mv (.d (.int .i64 0))) []]) (.seq (.block 0 (.loop (.seq (.seq (.reg false [om_ 4 0 [],oo_ 5 (.bin .gtr (.t 4) (.d (.int .i64 0))) [0]])
 (.cond (.t 5) .skip (.exit 0))) (.block 1 (.seq (.reg false [om_ 6 0 [],oo_ 7 (.bin .quo (.t 6) (.d (.int .i64 2))) [0],om_ 0 7 [1,0,1]]) (.reg false [om_ 8 3 [],oo_ 9 (.bin .add (.t 8) (.d (.int .i64 1))) [0],om_ 3 9
 [1,0,1]])))))) (.seq (.reg false [om_ 10 3 [],om_ 2 10 [0,0]]) .ret))))
theorem o_a2 : fnOf Try.prog o_a0 = some (o_a1, [.t 2], 11, false) := by kernel_rfl

abbrev o_a3 : FuncId := 64
def o_a4 : C := (.seq (.reg false [oo_ 2 (.mv (.d (.int .i64 0))) []]) (.seq (.cond (.d (.bool false)) (.seq (.reg false [om_ 3 0 [],oo_ 4 (.conv .u32 (.t 3)) [0],oo_ 5 (.call 72 [(.t 4)]) [1],om_ 2 5 [2,2,0,1,2]]) .ret) .skip) (.seq
 (.reg false [om_ 6 0 [],oo_ 7 (.call 73 [(.t 6)]) [0],om_ 2 7 [1,1,0,1]]) .ret)))
theorem o_a5 : fnOf Try.prog o_a3 = some (o_a4, [.t 2], 8, false) := by kernel_rfl

abbrev o_a6 : FuncId := 65
def o_a7 : C := (.seq (.reg false [oo_ 2 (.box 113 (.t 0)) [],oo_ 3 (.box 122 (.t 1)) [],oo_ 4 (.mv (.d (.bool false))) []]) (.seq (.reg false [oo_ 6 (.fa 0 (.t 3)) [],oo_ 7 (.load false 1 (.t 6)) [0],oo_ 8 (.bin .geq (.t 7) (.d (.int
 .i64 0))) [1],om_ 9 8 [2],og_ 10 (.fa 0 (.t 3)) 9 true [3],og_ 11 (.load false 1 (.t 10)) 9 true [4,3],og_ 12 (.fa 0 (.t 2)) 9 true [3],og_ 13 (.load false 1 (.t 12)) 9 true [6,3],og_ 14 (.bin .leq (.t 11) (.t 13)) 9
 true [5,7,3],oo_ 15 (.pick (.t 9) (.t 14) (.d (.bool false))) [3,8],om_ 16 15 [9,3],og_ 17 (.fa 1 (.t 3)) 16 true [10],og_ 18 (.load false 1 (.t 17)) 16 true [11,10],og_ 19 (.bin .geq (.t 18) (.d (.int .i64 0))) 16 true
 [12,10],oo_ 20 (.pick (.t 16) (.t 19) (.d (.bool false))) [10,13],om_ 21 20 [14,10],og_ 22 (.fa 1 (.t 3)) 21 true [15],og_ 23 (.load false 1 (.t 22)) 21 true [16,15],og_ 24 (.fa 1 (.t 2)) 21 true [15],og_ 25 (.load
 false 1 (.t 24)) 21 true [18,15],og_ 26 (.bin .leq (.t 23) (.t 25)) 21 true [17,19,15],oo_ 27 (.pick (.t 21) (.t 26) (.d (.bool false))) [15,20],om_ 5 27 [21,15,0,1,2,3,4,5,6,7,8,9,10,11,12,13,14,15,16,17,18,19,20,21]])
 (.seq (.reg false [oo_ 28 (.load true 2 (.t 2)) [],oo_ 29 (.call 58 [(.t 28)]) [0],oo_ 30 (.bin .eql (.t 29) (.d (.int .i64 0))) [1],om_ 31 30 [2,1],og_ 32 (.mv (.t 5)) 31 true [3],oo_ 33 (.pick (.t 31) (.t 32) (.d
 (.bool false))) [3,4],om_ 34 33 [5,3],og_ 35 (.fa 2 (.t 3)) 34 true [6],og_ 36 (.load false 1 (.t 35)) 34 true [7,6],og_ 37 (.un .not (.t 36)) 34 true [8,6],og_ 38 (.mv (.t 37)) 34 true [9,6,6],og_ 39 (.fa 1 (.t 3)) 38
 false [10],og_ 40 (.load false 1 (.t 39)) 38 false [11,10],og_ 41 (.fa 1 (.t 2)) 38 false [10],og_ 42 (.load false 1 (.t 41)) 38 false [13,10],og_ 43 (.bin .eql (.t 40) (.t 42)) 38 false [12,14,10],og_ 44 (.pick (.t 38)
 (.d (.bool true)) (.t 43)) 34 true [10,15,6],oo_ 45 (.pick (.t 34) (.t 44) (.d (.bool false))) [6,16],om_ 4 45 [17,10,0,1,2,3,4,5,6,7,8,9,10,11,12,13,14,15,16,17]]) .ret)))
theorem o_a8 : fnOf Try.prog o_a6 = some (o_a7, [.t 4], 46, false) := by kernel_rfl

abbrev o_a9 : FuncId := 66
def o_aa : C := (.seq (.reg false [oo_ 1 (.box 43 (.t 0)) [],oo_ 2 (.new 122 [(.int .i64 0),(.int .i64 0),(.bool false)]) []]) (.seq (.reg false [oo_ 3 (.fa 0 (.t 1)) [],oo_ 4 (.load false 1 (.t 3)) [0],oo_ 5 (.fa 1 (.t 1)) [],oo_ 6
 (.load false 1 (.t 5)) [2],oo_ 7 (.fa 2 (.t 1)) [],oo_ 8 (.load false 1 (.t 7)) [4],oo_ 9 (.build [(.int .i64 0),(.int .i64 0),(.bool false)] [(0,1,(.t 4)),(1,1,(.t 6)),(2,1,(.t 8))]) [1,3,5],on_ (.store 3 (.t 2) (.t
 9)) [6,0,1,2,3,4,5,6]]) .ret))
theorem o_ab : fnOf Try.prog o_a9 = some (o_aa, [.cell 2 true 3], 10, false) := by kernel_rfl

abbrev o_ac : FuncId := 67
def o_ad : C := (.seq (.reg false [oo_ 1 (.box 115 (.t 0)) [],oo_ 2 (.mv (.d (.int .i64 0))) []]) (.seq (.seq (.reg false [oo_ 3 (.load true 3 (.t 1)) [],oo_ 4 (.call 60 [(.t 3)]) [0],oo_ 5 (.bin .neq (.t 4) (.d (.int .i64 0))) [1]])
 (.cond (.t 5) (.seq (.reg false [oo_ 2 (.mv (.d (.int .i64 0))) []]) .ret) .skip)) (.seq (.reg false [oo_ 6 (.fa 2 (.t 1)) [],oo_ 7 (.load false 1 (.t 6)) [0],oo_ 8 (.bin .shl (.d (.int .i64 1)) (.t 7)) [1],oo_ 9 (.bin
 .sub (.t 8) (.d (.int .i64 1))) [2],om_ 2 9 [3,0,1,2,3]]) .ret)))
theorem o_ae : fnOf Try.prog o_ac = some (o_ad, [.t 2], 10, false) := by kernel_rfl

abbrev o_af : FuncId := 68
def o_ag : C := (.seq (.reg false [oo_ 2 (.mv (.d (.int .i64 0))) []]) (.seq (.reg false [oo_ 3 (.mv (.d (.int .i64 1))) []]) (.seq (.seq (.reg false [oo_ 4 (.mv (.d (.int .i64 0))) []]) (.block 0 (.loop (.seq (.seq (.reg false [om_ 5
 4 [],om_ 6 0 [],oo_ 7 (.bin .lss (.t 5) (.t 6)) [0,1]]) (.cond (.t 7) .skip (.exit 0))) (.seq (.block 1 (.reg false [om_ 10 3 [],oo_ 11 (.bin .mul (.d (.int .i64 2)) (.t 10)) [0],om_ 3 11 [1,0,1]])) (.reg false [om_ 8 4
 [],oo_ 9 (.bin .add (.t 8) (.d (.int .i64 1))) [0],om_ 4 9 [1,0,1]])))))) (.seq (.reg false [om_ 12 3 [],om_ 2 12 [0,0]]) .ret))))
theorem o_ah : fnOf Try.prog o_af = some (o_ag, [.t 2], 13, false) := by kernel_rfl

abbrev o_ai : FuncId := 69
def o_aj : C := (.seq (.reg false [oo_ 2 (.box 106 (.t 0)) [],oo_ 3 (.box 125 (.t 1)) [],oo_ 4 (.mv (.d (.bool false))) []]) (.seq (.seq (.reg false [oo_ 5 (.fa 2 (.t 3)) [],oo_ 6 (.load false 1 (.t 5)) [0],om_ 7 6 [1],og_ 8 (.fa 1 (.t
 3)) 7 true [2],og_ 9 (.load false 1 (.t 8)) 7 true [3,2],og_ 10 (.fa 1 (.t 2)) 7 true [2],og_ 11 (.load false 1 (.t 10)) 7 true [5,2],og_ 12 (.bin .neq (.t 9) (.t 11)) 7 true [4,6,2],oo_ 13 (.pick (.t 7) (.t 12) (.d
 (.bool false))) [2,7]]) (.cond (.t 13) (.seq (.reg false [oo_ 4 (.mv (.d (.bool false))) []]) .ret) .skip)) (.seq (.reg false [oo_ 14 (.fa 0 (.t 3)) [],oo_ 15 (.load false 1 (.t 14)) [0],oo_ 16 (.bin .geq (.t 15) (.d
 (.int .i64 0))) [1],om_ 17 16 [2],og_ 18 (.fa 0 (.t 3)) 17 true [3],og_ 19 (.load false 1 (.t 18)) 17 true [4,3],og_ 20 (.fa 0 (.t 2)) 17 true [3],og_ 21 (.load false 1 (.t 20)) 17 true [6,3],og_ 22 (.bin .leq (.t 19)
 (.t 21)) 17 true [5,7,3],oo_ 23 (.pick (.t 17) (.t 22) (.d (.bool false))) [3,8],om_ 24 23 [9,3],og_ 25 (.fa 1 (.t 3)) 24 true [10],og_ 26 (.load false 1 (.t 25)) 24 true [11,10],og_ 27 (.bin .geq (.t 26) (.d (.int .i64
 0))) 24 true [12,10],oo_ 28 (.pick (.t 24) (.t 27) (.d (.bool false))) [10,13],om_ 29 28 [14,10],og_ 30 (.fa 1 (.t 3)) 29 true [15],og_ 31 (.load false 1 (.t 30)) 29 true [16,15],og_ 32 (.fa 1 (.t 2)) 29 true [15],og_
 33 (.load false 1 (.t 32)) 29 true [18,15],og_ 34 (.bin .leq (.t 31) (.t 33)) 29 true [17,19,15],oo_ 35 (.pick (.t 29) (.t 34) (.d (.bool false))) [15,20],om_ 4 35
 [21,15,0,1,2,3,4,5,6,7,8,9,10,11,12,13,14,15,16,17,18,19,20,21]]) .ret)))
theorem o_ak : fnOf Try.prog o_ai = some (o_aj, [.t 4], 36, false) := by kernel_rfl

abbrev o_al : FuncId := 70
def o_am : C := (.seq (.reg false [oo_ 1 (.box 109 (.t 0)) [],oo_ 2 (.mv (.d (.int .i64 0))) []]) (.seq (.reg false [oo_ 3 (.fa 2 (.t 1)) [],oo_ 4 (.load false 1 (.t 3)) [0],oo_ 5 (.call 68 [(.t 4)]) [1],oo_ 6 (.bin .sub (.t 5) (.d
 (.int .i64 1))) [2],om_ 2 6 [3,2,0,1,2,3]]) .ret))
theorem o_an : fnOf Try.prog o_al = some (o_am, [.t 2], 7, false) := by kernel_rfl

abbrev o_ao : FuncId := 71
def o_ap : C := (.seq (.reg false [oo_ 1 (.box 115 (.t 0)) [],oo_ 2 (.mv (.d .nilifc)) []]) (.seq (.seq (.reg false [oo_ 3 (.fa 0 (.t 1)) [],oo_ 4 (.load false 1 (.t 3)) [0]]) (.block 0 (.seq (.reg false [oo_ 6 (.bin .eql (.t 4) (.d
 (.int .i64 1))) [],om_ 5 6 [0]]) (.cond (.t 5) (.seq (.reg false [oo_ 7 (.fa 1 (.t 1)) [],oo_ 8 (.load false 1 (.t 7)) [0],oo_ 9 (.ifc 133 (.t 8)) [1],om_ 2 9 [2,0,1,2]]) .ret) (.seq (.reg false [oo_ 11 (.bin .eql (.t
 4) (.d (.int .i64 2))) [],om_ 10 11 [0]]) (.cond (.t 10) (.seq (.reg false [oo_ 12 (.fa 1 (.t 1)) [],oo_ 13 (.load false 1 (.t 12)) [0],oo_ 14 (.ifc 134 (.t 13)) [1],om_ 2 14 [2,0,1,2]]) .ret) (.seq (.reg false [oo_ 16
 (.bin .eql (.t 4) (.d (.int .i64 3))) [],om_ 15 16 [0]]) (.cond (.t 15) (.seq (.reg false [oo_ 17 (.fa 1 (.t 1)) [],oo_ 18 (.load false 1 (.t 17)) [0],oo_ 19 (.ifc 135 (.t 18)) [1],om_ 2 19 [2,0,1,2]]) .ret)
 .skip)))))))) (.seq (.reg false [oo_ 2 (.mv (.d .nilifc)) []]) .ret)))
theorem o_aq : fnOf Try.prog o_ao = some (o_ap, [.t 2], 20, false) := by kernel_rfl

abbrev o_ar : FuncId := 73
def o_as : C := (.seq (.reg false [oo_ 2 (.mv (.d (.int .i64 0))) []]) (.seq (.seq (.reg false [om_ 3 0 [],oo_ 4 (.bin .geq (.t 3) (.d (.int .u64 4294967296))) [0]]) (.cond (.t 4) (.seq (.reg false [om_ 5 0 [],oo_ 6 (.bin .shr (.t 5)
 (.d (.int .u64 32))) [0],om_ 0 6 [1,0,1]]) (.reg false [oo_ 2 (.mv (.d (.int .i64 32))) []])) .skip)) (.seq (.seq (.reg false [om_ 7 0 [],oo_ 8 (.bin .geq (.t 7) (.d (.int .u64 65536))) [0]]) (.cond (.t 8) (.seq (.reg
 false [om_ 9 0 [],oo_ 10 (.bin .shr (.t 9) (.d (.int .u64 16))) [0],om_ 0 10 [1,0,1]]) (.reg false [om_ 11 2 [],oo_ 12 (.bin .add (.t 11) (.d (.int .i64 16))) [0],om_ 2 12 [1,0,1]])) .skip)) (.seq (.seq (.reg false [om_
 13 0 [],oo_ 14 (.bin .geq (.t 13) (.d (.int .u64 256))) [0]]) (.cond (.t 14) (.seq (.reg false [om_ 15 0 [],oo_ 16 (.bin .shr (.t 15) (.d (.int .u64 8))) [0],om_ 0 16 [1,0,1]]) (.reg false [om_ 17 2 [],oo_ 18 (.bin .add
 (.t 17) (.d (.int .i64 8))) [0],om_ 2 18 [1,0,1]])) .skip)) (.seq (.reg false [om_ 19 2 [],om_ 20 0 [],oo_ 21 (.conv .u8 (.t 20)) [1],⟨some 22,.gstr (.d (.str
 ⟨#[0,1,2,2,3,3,3,3,4,4,4,4,4,4,4,4,5,5,5,5,5,5,5,5,5,5,5,5,5,5,5,5,6,6,6,6,6,6,6,6,6,6,6,6,6,6,6,6,6,6,6,6,6,6,6,6,6,6,6,6,6,6,6,6,7,7,7,7,7,7,7,7,7,7,7,7,7,7,7,7,7,7,7,7,7,7,7,7,7,7,7,7,7,7,7,7,7,7,7,7,7,7,7,7,7,7,7,7,7,7,7,7,7,7,7,7,7,7,7,7,7,7,7,7,7,7,7,7,8,8,8,8,8,8,8,8,8,8,8,8,8,8,8,8,8,8,8,8,8,8,8,8,8,8,8,8,8,8,8,8,8,8,8,8,8,8,8,8,8,8,8,8,8,8,8,8,8,8,8,8,8,8,8,8,8,8,8,8,8,8,8,8,8,8,8,8,8,8,8,8,8,8,8,8,8,8,8,8,8,8,8,8,8,8,8,8,8,8,8,8,8,8,8,8,8,8,8,8,8,8,8,8,8,8,8,8,8,8,8,8,8,8,8,8,8,8,8,8,8,8,8,8,8,8,8,8]⟩)) (.t 21),none,[2]⟩,oo_ 23 (.conv .i64 (.t 22)) [3],oo_ 24 (.bin .add (.t 19) (.t 23)) [0,4],om_ 2 24 [5,0,1,2,3,4,5]]) .ret)))))
theorem o_at : fnOf Try.prog o_ar = some (o_as, [.t 2], 25, false) := by kernel_rfl

abbrev o_au : FuncId := 92
def o_av : C := (.seq (.reg false [oo_ 2 (.mv (.d (.bool false))) []]) (.seq (.reg false [om_ 3 0 [],oo_ 4 (.call 96 [(.t 3)]) [0],om_ 2 4 [1,1,0,1]]) .ret))
theorem o_aw : fnOf Try.prog o_au = some (o_av, [.t 2], 5, false) := by kernel_rfl

abbrev o_ax : FuncId := 96
def o_ay : C := (.seq (.reg false [oo_ 2 (.mv (.d (.bool false))) []]) (.seq (.reg false [om_ 3 0 [],oo_ 4 (.bin .geq (.t 3) (.d (.int .i64 1))) [0],om_ 5 4 [1],og_ 6 (.mv (.t 0)) 5 true [2],og_ 7 (.bin .leq (.t 6) (.d (.int .i64
 4096))) 5 true [3,2],oo_ 8 (.pick (.t 5) (.t 7) (.d (.bool false))) [2,4],om_ 2 8 [5,2,0,1,2,3,4,5]]) .ret))
theorem o_az : fnOf Try.prog o_ax = some (o_ay, [.t 2], 9, false) := by kernel_rfl

abbrev o_b0 : FuncId := 99
def o_b1 : C := (.seq (.reg false [oo_ 2 (.mv (.d (.bool false))) []]) (.seq (.reg false [om_ 3 0 [],oo_ 4 (.call 103 [(.t 3)]) [0],om_ 2 4 [1,1,0,1]]) .ret))
theorem o_b2 : fnOf Try.prog o_b0 = some (o_b1, [.t 2], 5, false) := by kernel_rfl

abbrev o_b3 : FuncId := 103
def o_b4 : C := (.seq (.reg false [oo_ 2 (.mv (.d (.bool false))) []]) (.seq (.reg false [om_ 3 0 [],oo_ 4 (.bin .geq (.t 3) (.d (.int .i64 0))) [0],om_ 5 4 [1],og_ 6 (.mv (.t 0)) 5 true [2],og_ 7 (.bin .leq (.t 6) (.d (.int .i64 8)))
 5 true [3,2],oo_ 8 (.pick (.t 5) (.t 7) (.d (.bool false))) [2,4],om_ 2 8 [5,2,0,1,2,3,4,5]]) .ret))
theorem o_b5 : fnOf Try.prog o_b3 = some (o_b4, [.t 2], 9, false) := by kernel_rfl

abbrev o_b6 : FuncId := 106
def o_b7 : C := (.seq (.reg false [oo_ 2 (.mv (.d (.bool false))) []]) (.seq (.reg false [om_ 3 0 [],oo_ 4 (.call 110 [(.t 3)]) [0],om_ 2 4 [1,1,0,1]]) .ret))
theorem o_b8 : fnOf Try.prog o_b6 = some (o_b7, [.t 2], 5, false) := by kernel_rfl

abbrev o_b9 : FuncId := 110
def o_ba : C := (.seq (.reg false [oo_ 2 (.mv (.d (.bool false))) []]) (.seq (.reg false [om_ 3 0 [],oo_ 4 (.bin .geq (.t 3) (.d (.int .i64 1))) [0],om_ 5 4 [1],og_ 6 (.mv (.t 0)) 5 true [2],og_ 7 (.bin .leq (.t 6) (.d (.int .i64 5)))
 5 true [3,2],oo_ 8 (.pick (.t 5) (.t 7) (.d (.bool false))) [2,4],om_ 2 8 [5,2,0,1,2,3,4,5]]) .ret))
theorem o_bb : fnOf Try.prog o_b9 = some (o_ba, [.t 2], 9, false) := by kernel_rfl
end
end Go.Proofs.Ytlelpbaeplcfiaa.Am
namespace Go.Proofs.Ytlelpbaeplcfiaa.Am
section
def wval : List Nat → Nat
 | [] => 0
 | x :: l => x + 18446744073709551616 * wval l
def small (ws : List Nat) : Prop := ∀ x ∈ ws, x < 18446744073709551616

def trimN (ws : List Nat) : Nat → Nat
 | 0 => 0
 | n + 1 => if ws.getD n 0 = 0 then trimN ws n else n + 1
def top1 (ws : List Nat) : Prop := ∀ k, ws.length = k + 1 → ws.getD k 0 ≠ 0
theorem small.take {ws : List Nat} (h : small ws) (n : Nat) : small (ws.take n) := fun x hx => h x (List.mem_of_mem_take hx)

def movedL (k : Nat) : Nat → List Nat → List Nat
 | c, [] => [c]
 | c, x :: l => ((x * 2 ^ k) % 18446744073709551616 + c) :: movedL k (x * 2 ^ k / 18446744073709551616) l
def movedB (k : Nat) : Nat → List Nat → List Nat
 | _, [] => []
 | c, x :: l => ((x * 2 ^ k) % 18446744073709551616 + c) :: movedB k (x * 2 ^ k / 18446744073709551616) l
def movedC (k : Nat) : Nat → List Nat → Nat
 | c, [] => c
 | _, x :: l => movedC k (x * 2 ^ k / 18446744073709551616) l
def carryW (a b : List Nat) : Nat → Nat
 | 0 => 0
 | n + 1 => (a.getD n 0 + b.getD n 0 + carryW a b n) / 18446744073709551616
def addW (a b : List Nat) (n : Nat) : Nat := (a.getD n 0 + b.getD n 0 + carryW a b n) % 18446744073709551616

theorem small.getD {l : List Nat} (h : small l) (n : Nat) : l.getD n 0 < 18446744073709551616 := by
 by_cases hn : n < l.length
 ·rw [List.getD, List.getElem?_eq_getElem hn]; exact h _ (List.getElem_mem hn)
 ·simp [List.getD, List.getElem?_eq_none (show l.length ≤ n by omega)]
def borrowW (a b : List Nat) : Nat → Nat
 | 0 => 0
 | n + 1 => if a.getD n 0 < b.getD n 0 + borrowW a b n then 1 else 0
def subW (a b : List Nat) (n : Nat) : Nat := (a.getD n 0 + 18446744073709551616 - b.getD n 0 - borrowW a b n) % 18446744073709551616
def cmpN (a b : List Nat) : Nat → Int
 | 0 => 0
 | n + 1 => if a.getD n 0 < b.getD n 0 then -1 else if b.getD n 0 < a.getD n 0 then 1 else cmpN a b n
def cmpZ (m n : Nat) : Int := if m < n then -1 else if n < m then 1 else 0
end
end Go.Proofs.Ytlelpbaeplcfiaa.Am
namespace Go.Proofs.Ytlelpbaeplcfiaa.Am
section
open Go.RowKit
def W (ws : List Nat) : D := .sl ws.length (ws.map fun x : Nat => .int .u64 x)

def wordsF : Nat → Nat → List Nat
 | 0, _ => []
 | f + 1, n => if n = 0 then [] else (n % 18446744073709551616) :: wordsF f (n / 18446744073709551616)
def words (n : Nat) : List Nat := wordsF n n

def natW (n : Nat) : D := W (words n)
def size (n : Nat) : Nat := (words n).length
end
end Go.Proofs.Ytlelpbaeplcfiaa.Am
namespace Go.Proofs.Ytlelpbaeplcfiaa.Am
section
open Go.RowKit
abbrev U (ws : List Nat) : List V := ws.map fun x : Nat => V.d (.int .u64 x)

def rowV (f : Nat → D) (n i : Nat) : List V := (List.range i).map (fun k => V.d (f k)) ++ List.replicate (n - i) (.d (.int .u64 0))
@[simp] theorem o_bc (f : Nat → D) (n i : Nat) : (rowV f n i).length = i + (n - i) := by simp [rowV]
theorem out0 (n : Nat) (f : Nat → D) : List.replicate n (V.d (.int .u64 0)) = rowV f n 0 := by simp [rowV]
@[simp] theorem o_bd (n : Nat) (f : Nat → D) (k i : Nat) : V.lowl n (rowV f k i) = true := by
 have h1 : ∀ l : List D, V.lowl n (l.map V.d) = true := fun l => by induction l <;> simp_all [V.lowl, V.low]
 have : rowV f k i = ((List.range i).map f ++ List.replicate (k - i) (D.int .u64 0)).map .d := by simp [rowV]
 rw [this, h1]
@[simp] theorem o_be (l : List V) : Subs l l ↔ True := iff_true_intro (Subs.refl l)
theorem o_bf {f : Nat → D} {n : Nat} {z : D} : (rowV f (n + 1) n).set n (.d z) = ((List.range n).map f ++ [z]).map .d := by
 rw [rowV, List.set_append_right _ _ (by simp)]
 simp
end
end Go.Proofs.Ytlelpbaeplcfiaa.Am
namespace Go.Proofs.Ytlelpbaeplcfiaa.Am
section
open Go.RowKit
end
end Go.Proofs.Ytlelpbaeplcfiaa.Am
namespace Go.Proofs.Ytlelpbaeplcfiaa.Am
section
open Go.RowKit
def rowM (k : Nat) (A : List Nat) (i : Nat) : List Nat := movedL k 0 (A.take i) ++ List.replicate (A.length - i) 0
def cellM (k : Nat) (A : List Nat) (i : Nat) : List V := U (rowM k A i)
end
end Go.Proofs.Ytlelpbaeplcfiaa.Am
namespace Go.Proofs.Ytlelpbaeplcfiaa.Am
section
open Go.RowKit
end
end Go.Proofs.Ytlelpbaeplcfiaa.Am
namespace Go.Proofs.Ytlelpbaeplcfiaa.Am
section
open Go.RowKit
theorem Sub1.tup {l r : List V} (h : Subs l r) : Sub1 (.tup l) (.tup r) := fun m v k => by
 unfold V.rep at k ⊢
 obtain ⟨vs, h1, h2⟩ := k
 exact ⟨vs, h1, h m vs h2⟩
theorem Subs.cons {x y : V} {l r : List V} (h : Sub1 x y) (h' : Subs l r) : Subs (x :: l) (y :: r) := fun m vs k => by
 obtain ⟨v, r, rfl, h1, h2⟩ := V.reps_cons'.1 k
 exact V.reps_cons.2 ⟨h m v h1, h' m r h2⟩
end
end Go.Proofs.Ytlelpbaeplcfiaa.Am
namespace Go.Proofs.Ytlelpbaeplcfiaa.Am
section
open Go.RowKit
end
end Go.Proofs.Ytlelpbaeplcfiaa.Am
namespace Go.Proofs.Ytlelpbaeplcfiaa.Am
section
open Go.RowKit
def lit1 : ByteArray := ⟨#[48, 49, 50, 51, 52, 53, 54, 55, 56, 57, 97, 98, 99, 100, 101, 102, 103, 104, 105, 106, 107, 108, 109, 110, 111, 112, 113, 114, 115, 116, 117, 118, 119, 120, 121, 122]⟩
def lit2 : ByteArray := ⟨#[48, 48, 48, 49, 48, 50, 48, 51, 48, 52, 48, 53, 48, 54, 48, 55, 48, 56, 48, 57, 49, 48, 49, 49, 49, 50, 49, 51, 49, 52, 49, 53, 49, 54, 49, 55, 49, 56, 49, 57, 50, 48, 50, 49, 50, 50, 50, 51, 50, 52, 50, 53, 50, 54, 50, 55, 50, 56, 50, 57, 51, 48, 51, 49, 51, 50, 51, 51, 51, 52, 51, 53, 51, 54, 51, 55, 51, 56, 51, 57, 52, 48, 52, 49, 52, 50, 52, 51, 52, 52, 52, 53, 52, 54, 52, 55, 52, 56, 52, 57, 53, 48, 53, 49, 53, 50, 53, 51, 53, 52, 53, 53, 53, 54, 53, 55, 53, 56, 53, 57, 54, 48, 54, 49, 54, 50, 54, 51, 54, 52, 54, 53, 54, 54, 54, 55, 54, 56, 54, 57, 55, 48, 55, 49, 55, 50, 55, 51, 55, 52, 55, 53, 55, 54, 55, 55, 55, 56, 55, 57, 56, 48, 56, 49, 56, 50, 56, 51, 56, 52, 56, 53, 56, 54, 56, 55, 56, 56, 56, 57, 57, 48, 57, 49, 57, 50, 57, 51, 57, 52, 57, 53, 57, 54, 57, 55, 57, 56, 57, 57]⟩
def smallS (n : Nat) : ByteArray := if n < 10 then lit1.extract n (n + 1) else lit2.extract (n * 2) (n * 2 + 2)

@[simp] theorem o_bg : ByteArray.size ⟨#[]⟩ = 0 := rfl
@[simp] theorem o_bh : ByteArray.size ⟨#[47]⟩ = 1 := rfl
theorem o_bi (s : ByteArray) : s ++ (⟨#[]⟩ : ByteArray) = s := by
 exact ByteArray.append_empty
end
end Go.Proofs.Ytlelpbaeplcfiaa.Am
namespace Go.Proofs.Ytlelpbaeplcfiaa.Am
section
open Go.RowKit
def BL (cs : List Bool) : D := .sl cs.length (cs.map .bool)
abbrev tapeO (cs : List Bool) (p : Nat) (dead : Bool) : Ob := ⟨t_tape_Tape, [.d (.int .i64 p), .d (.bool dead), .d (BL cs)]⟩

def flipB (cs : List Bool) (p : Nat) (dead : Bool) : Bool := if dead ∨ p = cs.length then false else cs.getD p false
def flipE (cs : List Bool) (p : Nat) (dead : Bool) : Int := if dead ∨ p = cs.length then 8 else 0
def flipP (cs : List Bool) (p : Nat) (dead : Bool) : Nat := if dead ∨ p = cs.length then p else p + 1
def flipD (cs : List Bool) (p : Nat) (dead : Bool) : Bool := if dead ∨ p = cs.length then true else dead

def halfR (cs : List Bool) : Nat → Nat → Bool → Bool × Int × Nat × Bool
 | 0, p, dd => (true, 0, p, dd)
 | k + 1, p, dd => if flipB cs p dd then halfR cs k (flipP cs p dd) (flipD cs p dd) else (false, flipE cs p dd, flipP cs p dd, flipD cs p dd)
end
end Go.Proofs.Ytlelpbaeplcfiaa.Am
namespace Go.Proofs.Ytlelpbaeplcfiaa.Am
section
open Go.RowKit
theorem o_bj (d : Int) : Eqn Try.prog o_b3 [.d (.int .i64 d)] [] (.d (.bool (decide (0 ≤ d ∧ d ≤ 8)))) [] := by
 refine Eqn.pure o_b5 (o_3z _) ?_
 simp only [o_b4]
 by_cases h : 0 ≤ d
 ·refine G1 h ?_; try with_reducible exact tt
 ·refine G1 h ?_; try with_reducible exact tt

def okK (k : Int) : Bool := decide (0 ≤ k ∧ k ≤ 1023)
def wrongZ (d : Int) (ks : List Int) : Int := if 0 ≤ d ∧ d ≤ 8 then (if ks.all okK then 0 else 2) else 10

def partV (d k : Nat) : Int := bits .and .i64 k (IntKind.i64.wrap (IntKind.i64.wrap (2 ^ d) - 1))
def againR (cs : List Bool) (d k j : Int) : Bool × Int × Nat × Bool := if wrongZ d [k, j] = 0 then halfR cs (k.toNat / 2 ^ d.toNat - j.toNat / 2 ^ d.toNat) 0 false else (false, wrongZ d [k, j], 0, false)

def stepR (cs : List Bool) (d k : Int) : Bool × Int × Nat × Bool := if wrongZ d [k] = 0 then halfR cs (k.toNat / 2 ^ d.toNat) 0 false else (false, wrongZ d [k], 0, false)
end
end Go.Proofs.Ytlelpbaeplcfiaa.Am
namespace Go.Proofs.Ytlelpbaeplcfiaa.Am
section
open Go.RowKit
def ratioR (cs : List Bool) (q : Nat) : Nat → Nat → Nat → Bool → Bool × Int × Nat × Bool
 | 0, _, p, dd => (true, 0, p, dd)
 | f + 1, r, p, dd =>
  if r < q then
   if flipE cs p dd = 0 then
    if flipB cs p dd ≠ decide (q ≤ r + r) ∨ (if q ≤ r + r then r + r - q else r + r) = 0 then (decide (q ≤ r + r) && !flipB cs p dd, 0, flipP cs p dd, flipD cs p dd)
    else ratioR cs q f (if q ≤ r + r then r + r - q else r + r) (flipP cs p dd) (flipD cs p dd)
   else (false, flipE cs p dd, flipP cs p dd, flipD cs p dd)
  else (true, 0, p, dd)
def ratioA (cs : List Bool) (a q : Nat) (p : Nat) (dd : Bool) : Bool × Int × Nat × Bool := if a = 0 then (false, 0, p, dd) else ratioR cs q (cs.length + 1 - p) a p dd
end
end Go.Proofs.Ytlelpbaeplcfiaa.Am
namespace Go.Proofs.Ytlelpbaeplcfiaa.Am
section
open Go.RowKit
def powerR (cs : List Bool) (a q : Nat) : Nat → Nat → Bool → Bool × Int × Nat × Bool
 | 0, p, dd => (true, 0, p, dd)
 | k + 1, p, dd => if (ratioA cs a q p dd).1 then powerR cs a q k (ratioA cs a q p dd).2.2.1 (ratioA cs a q p dd).2.2.2 else ratioA cs a q p dd
end
end Go.Proofs.Ytlelpbaeplcfiaa.Am
namespace Go.Proofs.Ytlelpbaeplcfiaa.Am
section
open Go.RowKit
theorem o_bk (d : Int) : Eqn Try.prog o_ax [.d (.int .i64 d)] [] (.d (.bool (decide (1 ≤ d ∧ d ≤ 4096)))) [] := by
 refine Eqn.pure o_az (o_3z _) ?_
 simp only [o_ay]
 by_cases h : 1 ≤ d
 ·refine G1 h ?_; try with_reducible exact tt
 ·refine G1 h ?_; try with_reducible exact tt

def wrongM (d : Int) (ks : List Int) : Int := if 1 ≤ d ∧ d ≤ 4096 then (if ks.all okK then 0 else 2) else 10

def stepM (cs : List Bool) (d k : Int) (p : Nat) (dd : Bool) : Bool × Int × Nat × Bool := if wrongM d [k] = 0 then powerR cs d.toNat (d.toNat + 1) k.toNat p dd else (false, wrongM d [k], p, dd)
end
end Go.Proofs.Ytlelpbaeplcfiaa.Am
namespace Go.Proofs.Ytlelpbaeplcfiaa.Am
section
open Go.RowKit
theorem o_bl : MethOK Try.prog 133 "tallymark/chain.good" o_au := fun v w => by kernel_rfl
theorem o_bm : MethOK Try.prog 134 "tallymark/chain.good" o_b0 := fun v w => by kernel_rfl
theorem o_bn : MethOK Try.prog 135 "tallymark/chain.good" o_b6 := fun v w => by kernel_rfl
theorem o_bo (a : Int) : Eqn Try.prog o_au [.d (.int .i64 a)] [] (.d (.bool (decide (1 ≤ a ∧ a ≤ 4096)))) [] := by
 refine Eqn.pure o_aw (o_3z _) ?_
 simp only [o_av]
 refine G0 ?_; try with_reducible exact tt
 refine CallS.pu (o_bk a) (R0 ?_); try with_reducible exact tt
theorem o_bp (a : Int) : Eqn Try.prog o_b0 [.d (.int .i64 a)] [] (.d (.bool (decide (0 ≤ a ∧ a ≤ 8)))) [] := by
 refine Eqn.pure o_b2 (o_3z _) ?_
 simp only [o_b1]
 refine G0 ?_; try with_reducible exact tt
 refine CallS.pu (o_bj a) (R0 ?_); try with_reducible exact tt

def kindD (k a : Int) : D := if k = 1 then .ifc 133 (.int .i64 a) else if k = 2 then .ifc 134 (.int .i64 a) else if k = 3 then .ifc 135 (.int .i64 a) else .nilifc
theorem o_bq (k a w : Int) : Eqn Try.prog o_ao [.d (.agg [.int .i64 k, .int .i64 a, .int .i64 w])] [] (.d (kindD k a)) [] := by
 refine Eqn.pure o_aq (o_3z _) ?_
 simp only [o_ap, kindD]
 refine G0 ?_; try with_reducible exact tt
 refine AW.cond rfl (fun h => ?_) (fun h => ?_)
 ·have hk : k = 1 := by simpa using h
  subst hk
  refine G0 ?_; try with_reducible exact tt
 have h1 : ¬ k = 1 := by simpa using h
 clear h
 refine G1 h1 ?_; try with_reducible exact tt
 refine AW.cond rfl (fun h => ?_) (fun h => ?_)
 ·have hk : k = 2 := by simpa using h
  subst hk
  refine G0 ?_; try with_reducible exact tt
 have h2 : ¬ k = 2 := by simpa using h
 clear h
 refine G1 (fs h1 h2) ?_; try with_reducible exact tt
 refine AW.cond rfl (fun h => ?_) (fun h => ?_)
 ·have hk : k = 3 := by simpa using h
  subst hk
  refine G0 ?_; try with_reducible exact tt
 have h3 : ¬ k = 3 := by simpa using h
 clear h
 refine G1 (fs h1 (fs h2 h3)) ?_; try with_reducible exact tt
end
end Go.Proofs.Ytlelpbaeplcfiaa.Am
namespace Go.Proofs.Ytlelpbaeplcfiaa.Am
section
def bitsN (n : Nat) : Nat := if n = 0 then 0 else Nat.log2 n + 1
theorem o_br (n : Nat) : n < 2 ^ bitsN n := by
 unfold bitsN
 split
 ·omega
 ·exact Nat.lt_log2_self
theorem o_bs {n k : Nat} (h : n < 2 ^ k) : bitsN n ≤ k := by
 unfold bitsN
 split
 ·omega
 ·rename_i h0
  have := (Nat.log2_lt h0).2 h
  omega
def moreY (s t : Nat) : Nat := t + (if t / 2 ^ s * 2 ^ s < t then t / 2 ^ s + 1 else t / 2 ^ s)
def shiftY (s t : Nat) : Nat := bitsN t - 1 - 2 * s
structure Pl where
 x : Nat
 shift : Nat
 value : Nat
 reply : Nat
def nextY (s : Nat) (p : Pl) : Pl := if p.reply ≤ p.value + 2 ^ p.shift then ⟨p.x + 1, shiftY s (moreY s p.reply), p.value + 2 ^ p.shift, moreY s p.reply⟩ else ⟨p.x, p.shift, p.value + 2 ^ p.shift, p.reply⟩
def placeY (s : Nat) : Nat → Pl
 | 0 => ⟨0, 0, 0, 2 ^ (2 * s)⟩
 | k + 1 => nextY s (placeY s k)

theorem o_bt {n k : Nat} (h : 2 ^ k ≤ n) : bitsN n = k + bitsN (n / 2 ^ k) := by
 have hp := Nat.two_pow_pos k
 have hq : 0 < n / 2 ^ k := Nat.div_pos h hp
 have h1 := o_br (n / 2 ^ k)
 have h2 : 2 ^ (bitsN (n / 2 ^ k) - 1) ≤ n / 2 ^ k := by
  unfold bitsN
  rw [if_neg (by omega), Nat.add_sub_cancel]
  exact Nat.log2_self_le (by omega)
 have h3 : 0 < bitsN (n / 2 ^ k) := by unfold bitsN; rw [if_neg (by omega)]; omega
 apply Nat.le_antisymm
 ·apply o_bs
  rw [Nat.pow_add, Nat.mul_comm]
  exact (Nat.div_lt_iff_lt_mul hp).1 h1
 ·apply Nat.le_of_not_lt
  intro hlt
  have h4 := o_br n
  have h5 : 2 ^ bitsN n ≤ 2 ^ (k + (bitsN (n / 2 ^ k) - 1)) := Nat.pow_le_pow_right (by omega) (by omega)
  rw [Nat.pow_add] at h5
  have h6 : 2 ^ k * 2 ^ (bitsN (n / 2 ^ k) - 1) ≤ n := by
   rw [Nat.mul_comm]; exact Nat.le_trans (Nat.mul_le_mul_right _ h2) (Nat.div_mul_le_self _ _)
  omega
end
end Go.Proofs.Ytlelpbaeplcfiaa.Am
namespace Go.Proofs.Ytlelpbaeplcfiaa.Am
section
set_option maxRecDepth 10000
def shrL (k : Nat) : List Nat → List Nat
 | [] => []
 | x :: l => (x / 2 ^ k + l.getD 0 0 * 2 ^ (64 - k) % 18446744073709551616) :: shrL k l
end
end Go.Proofs.Ytlelpbaeplcfiaa.Am
namespace Go.Proofs.Ytlelpbaeplcfiaa.Am
section
open Go.RowKit
theorem o_bu : ∀ i : Nat, i < 256 → (([0, 1, 2, 2, 3, 3, 3, 3, 4, 4, 4, 4, 4, 4, 4, 4, 5, 5, 5, 5, 5, 5, 5, 5, 5, 5, 5, 5, 5, 5, 5, 5, 6, 6, 6, 6, 6, 6, 6, 6, 6, 6, 6, 6, 6, 6, 6, 6, 6, 6, 6, 6, 6, 6, 6, 6, 6, 6, 6, 6, 6, 6, 6, 6, 7, 7, 7, 7, 7, 7, 7, 7, 7, 7, 7, 7, 7, 7, 7, 7, 7, 7, 7, 7, 7, 7, 7, 7, 7, 7, 7, 7, 7, 7, 7, 7, 7, 7, 7, 7, 7, 7, 7, 7, 7, 7, 7, 7, 7, 7, 7, 7, 7, 7, 7, 7, 7, 7, 7, 7, 7, 7, 7, 7, 7, 7, 7, 7, 8, 8, 8, 8, 8, 8, 8, 8, 8, 8, 8, 8, 8, 8, 8, 8, 8, 8, 8, 8, 8, 8, 8, 8, 8, 8, 8, 8, 8, 8, 8, 8, 8, 8, 8, 8, 8, 8, 8, 8, 8, 8, 8, 8, 8, 8, 8, 8, 8, 8, 8, 8, 8, 8, 8, 8, 8, 8, 8, 8, 8, 8, 8, 8, 8, 8, 8, 8, 8, 8, 8, 8, 8, 8, 8, 8, 8, 8, 8, 8, 8, 8, 8, 8, 8, 8, 8, 8, 8, 8, 8, 8, 8, 8, 8, 8, 8, 8, 8, 8, 8, 8, 8, 8, 8, 8, 8, 8, 8, 8, 8, 8, 8, 8, 8, 8, 8, 8, 8, 8, 8, 8, 8, 8, 8, 8, 8, 8] : List UInt8)[i]?.getD 0).toNat = bitsN i := by
 have h : ((List.range 256).all fun i => (([0, 1, 2, 2, 3, 3, 3, 3, 4, 4, 4, 4, 4, 4, 4, 4, 5, 5, 5, 5, 5, 5, 5, 5, 5, 5, 5, 5, 5, 5, 5, 5, 6, 6, 6, 6, 6, 6, 6, 6, 6, 6, 6, 6, 6, 6, 6, 6, 6, 6, 6, 6, 6, 6, 6, 6, 6, 6, 6, 6, 6, 6, 6, 6, 7, 7, 7, 7, 7, 7, 7, 7, 7, 7, 7, 7, 7, 7, 7, 7, 7, 7, 7, 7, 7, 7, 7, 7, 7, 7, 7, 7, 7, 7, 7, 7, 7, 7, 7, 7, 7, 7, 7, 7, 7, 7, 7, 7, 7, 7, 7, 7, 7, 7, 7, 7, 7, 7, 7, 7, 7, 7, 7, 7, 7, 7, 7, 7, 8, 8, 8, 8, 8, 8, 8, 8, 8, 8, 8, 8, 8, 8, 8, 8, 8, 8, 8, 8, 8, 8, 8, 8, 8, 8, 8, 8, 8, 8, 8, 8, 8, 8, 8, 8, 8, 8, 8, 8, 8, 8, 8, 8, 8, 8, 8, 8, 8, 8, 8, 8, 8, 8, 8, 8, 8, 8, 8, 8, 8, 8, 8, 8, 8, 8, 8, 8, 8, 8, 8, 8, 8, 8, 8, 8, 8, 8, 8, 8, 8, 8, 8, 8, 8, 8, 8, 8, 8, 8, 8, 8, 8, 8, 8, 8, 8, 8, 8, 8, 8, 8, 8, 8, 8, 8, 8, 8, 8, 8, 8, 8, 8, 8, 8, 8, 8, 8, 8, 8, 8, 8, 8, 8, 8, 8, 8, 8] : List UInt8)[i]?.getD 0).toNat == bitsN i) = true := by kernel_rfl
 intro i hi
 have := List.all_eq_true.1 h i (List.mem_range.2 hi)
 exact eq_of_beq this

set_option maxHeartbeats 1000000 in
theorem o_bv (x : Nat) (hx : x < 18446744073709551616) : Eqn Try.prog o_ar [.d (.int .u64 x)] [] (.d (.int .i64 (bitsN x))) [] := by
 refine Eqn.pure o_at (o_3z _) ?_
 simp only [o_as]
 obtain ⟨x1, n1, h1, hx1, hn1, e1⟩ : ∃ x1 n1 : Nat, (x1, n1) = (if 4294967296 ≤ x then (x / 4294967296, 32) else (x, 0)) ∧ x1 < 4294967296 ∧ n1 ≤ 32 ∧ bitsN x = n1 + bitsN x1 := by
  by_cases h : 4294967296 ≤ x
  ·exact ⟨x / 4294967296, 32, by rw [if_pos h], by omega, by omega, o_bt (k := 32) h⟩
  ·exact ⟨x, 0, by rw [if_neg h], by omega, by omega, by omega⟩
 obtain ⟨x2, n2, h2, hx2, hn2, e2⟩ : ∃ x2 n2 : Nat, (x2, n2) = (if 65536 ≤ x1 then (x1 / 65536, n1 + 16) else (x1, n1)) ∧ x2 < 65536 ∧ n2 ≤ 48 ∧ bitsN x = n2 + bitsN x2 := by
  by_cases h : 65536 ≤ x1
  ·exact ⟨x1 / 65536, n1 + 16, by rw [if_pos h], by omega, by omega, by have := o_bt (k := 16) h; rw [e1, this]; simp; omega⟩
  ·exact ⟨x1, n1, by rw [if_neg h], by omega, by omega, by omega⟩
 obtain ⟨x3, n3, h3, hx3, hn3, e3⟩ : ∃ x3 n3 : Nat, (x3, n3) = (if 256 ≤ x2 then (x2 / 256, n2 + 8) else (x2, n2)) ∧ x3 < 256 ∧ n3 ≤ 56 ∧ bitsN x = n3 + bitsN x3 := by
  by_cases h : 256 ≤ x2
  ·exact ⟨x2 / 256, n2 + 8, by rw [if_pos h], by omega, by omega, by have := o_bt (k := 8) h; rw [e2, this]; simp; omega⟩
  ·exact ⟨x2, n2, by rw [if_neg h], by omega, by omega, by omega⟩
 rw [e3]
 clear e1 e2 e3
 refine AW.seq (AW.reg mix ?_)
 (simp -implicitDefEqProofs; try simp (disch := omega) only [w64, wu64])
 refine AW.cut 0 [(0, .d (.int .u64 x1)), (2, .d (.int .i64 n1))] [] (by simp) (by simp) ?_ ?_
 ·have hd : (x : Int) / 4294967296 = (x / 4294967296 : Nat) := rfl
  refine G0 ?_; try with_reducible exact tt
  refine AW.cond rfl (fun h => ?_) (fun h => ?_)
  ·rw [if_pos (by simp at h; omega)] at h1
   cases h1
   generalize x / 4294967296 = q at *
   refine G1 hd ?_; try with_reducible exact tt
  ·rw [if_neg (by simp at h; omega)] at h1
   cases h1
   refine G0 ?_; try with_reducible exact tt
 clear h1 hx
 simp
 refine AW.cut 0 [(0, .d (.int .u64 x2)), (2, .d (.int .i64 n2))] [] (by simp) (by simp) ?_ ?_
 ·have hd : (x1 : Int) / 65536 = (x1 / 65536 : Nat) := rfl
  have ew : IntKind.i64.wrap ((n1 : Int) + 16) = ((n1 + 16 : Nat) : Int) := w64 (by omega) (by omega)
  refine G0 ?_; try with_reducible exact tt
  refine AW.cond rfl (fun h => ?_) (fun h => ?_)
  ·rw [if_pos (by simp at h; omega)] at h2
   cases h2
   generalize x1 / 65536 = q at *
   refine G1 (fs hd ew) ?_; try with_reducible exact tt
  ·rw [if_neg (by simp at h; omega)] at h2
   cases h2
   refine G0 ?_; try with_reducible exact tt
 clear h2 hx1 hn1
 simp
 refine AW.cut 0 [(0, .d (.int .u64 x3)), (2, .d (.int .i64 n3))] [] (by simp) (by simp) ?_ ?_
 ·have hd : (x2 : Int) / 256 = (x2 / 256 : Nat) := rfl
  have ew : IntKind.i64.wrap ((n2 : Int) + 8) = ((n2 + 8 : Nat) : Int) := w64 (by omega) (by omega)
  refine G0 ?_; try with_reducible exact tt
  refine AW.cond rfl (fun h => ?_) (fun h => ?_)
  ·rw [if_pos (by simp at h; omega)] at h3
   cases h3
   generalize x2 / 256 = q at *
   refine G1 (fs hd ew) ?_; try with_reducible exact tt
  ·rw [if_neg (by simp at h; omega)] at h3
   cases h3
   refine G0 ?_; try with_reducible exact tt
 clear h3 hx2 hn2
 simp
 have ew1 : IntKind.u8.wrap (x3 : Int) = x3 := by rw [show IntKind.u8.wrap (x3 : Int) = (x3 : Int) % 256 from rfl]; omega
 have hb := o_bu x3 hx3
 have hB : bitsN x3 ≤ 8 := o_bs (by omega)
 have ew2 : IntKind.i64.wrap (bitsN x3 : Int) = bitsN x3 := w64 (by omega) (by omega)
 have ew3 : IntKind.i64.wrap ((n3 : Int) + bitsN x3) = (n3 : Int) + bitsN x3 := w64 (by omega) (by omega)
 refine AW.seq (AW.reg mix ?_)
 simp [ew1, hb, ew2, ew3]
 refine need.of (Nat.lt_of_lt_of_le hx3 (by decide)) ?_
 refine G0 ?_; try with_reducible exact tt

def shrI (k : Nat) (A : List Nat) (i : Nat) : List Nat := (shrL k A).take i ++ A.drop i
end
end Go.Proofs.Ytlelpbaeplcfiaa.Am
namespace Go.Proofs.Ytlelpbaeplcfiaa.Am
section
open Go.RowKit
theorem o_bw (s : Int) : Eqn Try.prog o_b9 [.d (.int .i64 s)] [] (.d (.bool (decide (1 ≤ s ∧ s ≤ 5)))) [] := by
 refine Eqn.pure o_bb (o_3z _) ?_
 simp only [o_ba]
 by_cases h : 1 ≤ s
 ·refine G1 h ?_; try with_reducible exact tt
 ·refine G1 h ?_; try with_reducible exact tt

def plD (p : Pl) : D := .agg [.int .i64 p.x, .int .i64 p.shift, natW p.value, natW p.reply]
end
end Go.Proofs.Ytlelpbaeplcfiaa.Am
namespace Go.Proofs.Ytlelpbaeplcfiaa.Am
section
open Go.RowKit
structure WalkS where
 r0 : C
 r1 : C
 g : C
 os : List O
 call : Option (Nat × List Nat × Option Nat)
 o4 : O
 cy : X
 r5 : C
 r6 : C
 ids : Nat × Nat
 calm : Bool
 res : Nat
 nt : Nat
def callS (o : Oper) : Option (Nat × List Nat × Option Nat) := match o.op, o.guard with
 | .call c, none => match c.callee, c.args.toList with
  | .value (.tmp f), [.tmp x, .tmp y] => some (f, [x, y], o.dst)
  | _, _ => none
 | _, _ => none
def walkS (P : Program) (f : FuncId) : Option WalkS := match P.funcs[f]? with
 | some fn => match fn.body with
  | some (.seq r0 (.seq r1 (.block i0 (.loop (.seq g (.seq (.block i1 (.seq (.seq (.region _ ops false) (.cond cy .ret .skip)) r5)) r6)))))) => match ops.toList with
   | [o0, o1, o2, o3, o4] => some ⟨resolveC P r0, resolveC P r1, resolveC P g, [o0, o1, o2].map (resolveO P ops), callS o3, resolveO P ops o4, X.of cy, resolveC P r5, resolveC P r6, (i0, i1), [o0, o1, o2].all notDefer && [o4].all notDefer, fn.results.size, fn.ntmps⟩
   | _ => none
  | _ => none
 | none => none
structure AtS where
 a1 : C
 a2 : C
 a3 : C
 a4 : C
 g : X
 ps : List Nat
 asg : C
 bd : C
 a5 : List O
 id : Nat
 calm : Bool
 rs : List RV
 nt : Nat
def atS (P : Program) (f : FuncId) : Option AtS := match P.funcs[f]? with
 | some fn => match fn.body with
  | some (.seq a1 (.seq a2 (.seq a3 (.seq (.seq a4 (.block id (.rangeFunc g ps asg bd))) (.seq (.region _ ops false) .ret))))) =>
   some ⟨resolveC P a1, resolveC P a2, resolveC P a3, resolveC P a4, X.of g, ps.toList, resolveC P asg, resolveC P bd, ops.toList.map (resolveO P ops), id, Code.calm asg && (Code.calm bd && ops.toList.all notDefer), fn.results.toList.map (resolveR P), fn.ntmps⟩
  | _ => none
 | none => none
def C.l : C → C
 | .seq a _ => a
 | c => c
def C.r : C → C
 | .seq _ b => b
 | c => c
def C.b : C → C
 | .block _ a | .loop a => a
 | c => c
def C.os : C → List O
 | .reg _ l => l
 | _ => []
def cBd : C := .block 2 (.seq (.reg false [⟨some 26, .load true 4 (.t 8), none, []⟩, ⟨none, .store 4 (.t 6) (.t 26), none, [0, 0]⟩])
 (.seq (.reg false [⟨some 27, .mv (.t 7), none, []⟩, ⟨some 28, .load false 1 (.t 3), none, []⟩, ⟨some 29, .bin .eql (.t 27) (.t 28), none, [0, 1]⟩]) (.cond (.t 29) (.exit 1) .skip)))
abbrev kO (K : Nat) : Ob := ⟨3, [.d (.int .i64 K)]⟩
def Tr (i : Nat) (p : List D) : List V := [.junk, .junk, .junk, .p 0 0, .junk, .junk, .p 2 0] ++ List.replicate 17 .junk ++ [.d (.int .i64 i), .d (.agg p)] ++ List.replicate 5 .junk
end
end Go.Proofs.Ytlelpbaeplcfiaa.Am
namespace Go.Proofs.Ytlelpbaeplcfiaa.Am
section
open Go.RowKit
theorem Sat.put {m : Mem} {a : Act} {T : List V} {H : List (Option Ob)} (sat : Sat m a T H) (s : Nat) {x : V} {v : Value} (hv : x.rep m v) : Sat m (a.put (some s) v) (T.set s x) H := by
 refine ⟨sat.base, fun i => ?_, sat.obj, sat.inj, sat.top, by rw [o_2w]; simpa using sat.size, by rw [o_2x]; exact sat.defers⟩
 have h1 : T.set s x = putT T (some s) x := rfl
 rw [h1, o_2y, o_2v, sat.size]
 split
 ·exact hv
 ·exact sat.slots i

abbrev sO (s : Nat) : Ob := ⟨3, [.d (.int .i64 s)]⟩
def plC (p : Pl) : List D := [.int .i64 p.x, .int .i64 p.shift, natW p.value, natW p.reply]
abbrev fnY (l : Nat) : V := .fn (.yield l) []
def Tw0 (l : Nat) : List V := [fnY l, .p 3 0, .junk, .p 5 0] ++ List.replicate 19 .junk
def Tw (l i : Nat) : List V := [fnY l, .p 3 0, .junk, .p 5 0, .d (.int .i64 i)] ++ List.replicate 18 .junk
end
end Go.Proofs.Ytlelpbaeplcfiaa.Am
namespace Go.Proofs.Ytlelpbaeplcfiaa.Am
section
open Go.RowKit
def zD : List D := [.int .i64 0, .int .i64 0, .nilsl, .nilsl]
def SS : Nat → Bool := fun n => n == 0 || n == 2
end
end Go.Proofs.Ytlelpbaeplcfiaa.Am
namespace Go.Proofs.Ytlelpbaeplcfiaa.Am
section
open Go.RowKit
def atE (s k : Int) : Int := if 1 ≤ s ∧ s ≤ 5 then (if 0 ≤ k ∧ k ≤ 1023 then 0 else 2) else 10
def atP (s k : Int) : Pl := if atE s k = 0 then placeY s.toNat k.toNat else ⟨0, 0, 0, 0⟩

def Ta (s k : Nat) (x23 : V) : List V := [.d (.int .i64 s), .d (.int .i64 k), .junk, .p 0 0, .p 1 0, .d (.int .i64 0), .p 2 0] ++ List.replicate 16 .junk ++ [x23] ++ List.replicate 7 .junk
def Ta0 (s k : Nat) : List V := [.d (.int .i64 s), .d (.int .i64 k), .junk, .p 0 0, .p 1 0, .d (.int .i64 0)] ++ List.replicate 25 .junk
def SC : Nat → Bool := fun n => n == 0 || n == 2 || n == 3
end
end Go.Proofs.Ytlelpbaeplcfiaa.Am
namespace Go.Proofs.Ytlelpbaeplcfiaa.Am
section
open Go.RowKit
end
end Go.Proofs.Ytlelpbaeplcfiaa.Am
namespace Go.Proofs.Ytlelpbaeplcfiaa.Am
section
open Go.RowKit
def p2 (n : Nat) : Nat := 2 ^ n
theorem o_bx : p2 0 = 1 := rfl
theorem o_by (n : Nat) : p2 (n + 1) = 2 * p2 n := by rw [p2, p2, Nat.pow_succ, Nat.mul_comm]
theorem o_bz {n m : Nat} (h : n ≤ m) : p2 n ≤ p2 m := Nat.pow_le_pow_right (by omega) h

theorem o_c0 (d : Nat) (hd : d ≤ 60) : Eqn Try.prog o_af [.d (.int .i64 d)] [] (.d (.int .i64 (p2 d))) [] := by
 refine Eqn.pure o_ah (o_3z _) ?_
 simp only [o_ag]
 refine G0 ?_; try with_reducible exact tt
 refine AW.loopT (α := Nat) 0 (fun i => [(4, .d (.int .i64 (i : Int))), (3, .d (.int .i64 (p2 i)))]) (fun i => []) (fun i => i ≤ d) (fun i => d - i) 0 ?_ ?_ (Nat.zero_le _) ?_ ?_ ?_
 ·simp
 ·simp
 ·simp [o_bx]
 ·simp
 rintro i hi
 have hle : p2 i ≤ 2 ^ 60 := o_bz (m := 60) (by omega)
 simp
 by_cases h : i = d
 ·subst h
  refine G0 ?_; try with_reducible exact tt
  refine AW.cond rfl (fun h => ?_) (fun h => ?_)
  ·simp at h
  refine G0 ?_; try with_reducible exact tt
 ·have hlt : (i : Int) < d := by omega
  have hlt' : i < d := by omega
  have e1 : IntKind.i64.wrap (2 * (p2 i : Int)) = (p2 (i + 1) : Int) := by rw [o_by]; exact w64 (by omega) (by omega)
  have e2 : IntKind.i64.wrap ((i : Int) + 1) = (i : Int) + 1 := w64 (by omega) (by omega)
  refine G1 (fs hlt hlt') ?_; try with_reducible exact tt
  refine AW.cond rfl (fun h => ?_) (fun h => ?_)
  ·refine G1 (fs e1 e2) ?_; try with_reducible exact tt
   exact ⟨i + 1, by omega, by omega, by simp, by simp⟩
  ·simp [hlt'] at h

def halfO (cs : List Bool) : Nat → Nat → Bool × Nat × Int
 | 0, i => (true, i, 0)
 | r + 1, i => if i < cs.length then (if cs.getD i false then halfO cs r (i + 1) else (false, i + 1, 0)) else (false, i, 8)
end
end Go.Proofs.Ytlelpbaeplcfiaa.Am
namespace Go.Proofs.Ytlelpbaeplcfiaa.Am
section
open Go.RowKit
def stepY (cs : List Bool) (s k : Int) : Bool × Int × Nat × Bool := if atE s k = 0 then halfR cs (atP s k).shift 0 false else (false, atE s k, 0, false)
def againE (s k j : Int) : Int := if atE s k = 0 then atE s j else atE s k
def againY (cs : List Bool) (s k j : Int) : Bool × Int × Nat × Bool := if againE s k j = 0 then halfR cs ((atP s k).shift - (atP s j).shift) 0 false else (false, againE s k j, 0, false)
end
end Go.Proofs.Ytlelpbaeplcfiaa.Am
namespace Go.Proofs.Ytlelpbaeplcfiaa.Am
section
open Go.RowKit
theorem o_c1 (x : Nat) (hx : x < 18446744073709551616) : Eqn Try.prog o_a3 [.d (.int .u64 x)] [] (.d (.int .i64 (bitsN x))) [] := by
 refine Eqn.pure o_a5 (o_3z _) ?_
 simp only [o_a4]
 refine G0 ?_; try with_reducible exact tt
 refine AW.cond rfl (fun h => ?_) (fun h => ?_)
 ·simp at h
 refine G0 ?_; try with_reducible exact tt
 refine CallS.pu (o_bv x hx) (R0 ?_); try with_reducible exact tt

theorem o_c2 (a w : Nat) (h1 : 1 ≤ a) (h2 : a ≤ 4096) (w1 : 1 ≤ w) (w2 : w ≤ 10) (hm : bitsN (a + 1) * (2 ^ w - 1) ≤ 8192) : Eqn Try.prog o_9r [.d (.agg [.int .i64 1, .int .i64 a, .int .i64 w])] [] (.d (.int .i64 0)) [] := by
 refine Eqn.pure o_9t (o_3z _) ?_
 simp only [o_9s]
 have hk := o_bq 1 a w
 rw [kindD, if_pos rfl] at hk
 have hg := o_bo a
 rw [show decide (1 ≤ (a : Int) ∧ (a : Int) ≤ 4096) = true by simp; omega] at hg
 have g1 : ¬ (w : Int) < 1 := by omega
 have g2 : ¬ (10 : Int) < w := by omega
 refine G0 ?_; try with_reducible exact tt
 refine CallS.pu (hk) (R1 (fs g1 g2) ?_); try with_reducible exact tt
 refine ⟨_, o_bl, ?_⟩
 refine CallS.pu (hg) (R1 (fs g1 g2) ?_); try with_reducible exact tt
 refine AW.cond rfl (fun h => ?_) (fun h => ?_)
 ·simp [g1, g2] at h
 clear h
 have e1 : IntKind.i64.wrap ((a : Int) + 1) = ((a + 1 : Nat) : Int) := w64 (by omega) (by omega)
 have e2 : IntKind.u64.wrap ((a + 1 : Nat) : Int) = ((a + 1 : Nat) : Int) := wu64 (by omega) (by omega)
 have hb := o_c1 (a + 1) (by omega)
 have hbl : bitsN (a + 1) ≤ 8192 := by
  refine Nat.le_trans (Nat.le_mul_of_pos_right _ ?_) hm
  have := Nat.pow_le_pow_right (n := 2) (by omega) w1
  omega
 have h2' : 0 < 2 ^ w := Nat.two_pow_pos w
 have h2 : 2 ^ w ≤ 1024 := Nat.pow_le_pow_right (n := 2) (by omega) w2
 have e0 : (2 : Int) ^ w = (2 ^ w : Nat) := by rw [Int.natCast_pow]; rfl
 generalize 2 ^ w = S at *
 generalize bitsN (a + 1) = B at *
 generalize a + 1 = a1 at *
 have e3 : IntKind.i64.wrap (S : Int) = S := w64 (by omega) (by omega)
 have e4 : IntKind.i64.wrap ((S : Int) - 1) = ((S - 1 : Nat) : Int) := by rw [w64 (by omega) (by omega)]; omega
 have e5 : IntKind.i64.wrap ((B : Int) * ((S - 1 : Nat) : Int)) = ((B * (S - 1) : Nat) : Int) := by
  rw [← Int.natCast_mul]
  generalize B * (S - 1) = x at *
  exact w64 (by omega) (by omega)
 have g3 : ¬ (8192 : Int) < ((B * (S - 1) : Nat) : Int) := by omega
 generalize hS1 : S - 1 = S1 at *
 obtain ⟨x, hx⟩ : ∃ x, x = B * S1 := ⟨_, rfl⟩
 rw [← hx] at e5 g3
 refine G1 (fs e1 e2) ?_; try with_reducible exact tt
 refine CallS.pu (hb) (R1 (fs e0 (fs e3 (fs e4 (fs e5 g3)))) ?_); try with_reducible exact tt
 refine AW.cond rfl (fun h => ?_) (fun h => ?_)
 ·simp [g3] at h
 refine G0 ?_; try with_reducible exact tt

theorem o_c3 (a : Int) : Eqn Try.prog o_b6 [.d (.int .i64 a)] [] (.d (.bool (decide (1 ≤ a ∧ a ≤ 5)))) [] := by
 refine Eqn.pure o_b8 (o_3z _) ?_
 simp only [o_b7]
 refine G0 ?_; try with_reducible exact tt
 refine CallS.pu (o_bw a) (R0 ?_); try with_reducible exact tt

theorem o_c4 (a w : Nat) (h2 : a ≤ 8) (w1 : 1 ≤ w) (w2 : w ≤ 10) : Eqn Try.prog o_9r [.d (.agg [.int .i64 2, .int .i64 a, .int .i64 w])] [] (.d (.int .i64 0)) [] := by
 refine Eqn.pure o_9t (o_3z _) ?_
 simp only [o_9s]
 have hk := o_bq 2 a w
 rw [kindD, if_neg (by omega), if_pos rfl] at hk
 have hg := o_bp a
 rw [show decide (0 ≤ (a : Int) ∧ (a : Int) ≤ 8) = true by simp; omega] at hg
 have g1 : ¬ (w : Int) < 1 := by omega
 have g2 : ¬ (10 : Int) < w := by omega
 refine G0 ?_; try with_reducible exact tt
 refine CallS.pu (hk) (R1 (fs g1 g2) ?_); try with_reducible exact tt
 refine ⟨_, o_bm, ?_⟩
 refine CallS.pu (hg) (R1 (fs g1 g2) ?_); try with_reducible exact tt
 refine AW.cond rfl (fun h => ?_) (fun h => ?_)
 ·simp [g1, g2] at h
 clear h
 refine G0 ?_; try with_reducible exact tt
 refine AW.cond rfl (fun h => ?_) (fun h => ?_)
 ·simp at h
 refine G0 ?_; try with_reducible exact tt
theorem o_c5 (a w : Nat) (h1 : 1 ≤ a) (h2 : a ≤ 5) (w1 : 1 ≤ w) (w2 : w ≤ 10) : Eqn Try.prog o_9r [.d (.agg [.int .i64 3, .int .i64 a, .int .i64 w])] [] (.d (.int .i64 0)) [] := by
 refine Eqn.pure o_9t (o_3z _) ?_
 simp only [o_9s]
 have hk := o_bq 3 a w
 rw [kindD, if_neg (by omega), if_neg (by omega), if_pos rfl] at hk
 have hg := o_c3 a
 rw [show decide (1 ≤ (a : Int) ∧ (a : Int) ≤ 5) = true by simp; omega] at hg
 have g1 : ¬ (w : Int) < 1 := by omega
 have g2 : ¬ (10 : Int) < w := by omega
 refine G0 ?_; try with_reducible exact tt
 refine CallS.pu (hk) (R1 (fs g1 g2) ?_); try with_reducible exact tt
 refine ⟨_, o_bn, ?_⟩
 refine CallS.pu (hg) (R1 (fs g1 g2) ?_); try with_reducible exact tt
 refine AW.cond rfl (fun h => ?_) (fun h => ?_)
 ·simp [g1, g2] at h
 clear h
 refine G0 ?_; try with_reducible exact tt
 refine AW.cond rfl (fun h => ?_) (fun h => ?_)
 ·simp at h
 refine G0 ?_; try with_reducible exact tt
end
end Go.Proofs.Ytlelpbaeplcfiaa.Am
namespace Go.Proofs.Ytlelpbaeplcfiaa.Am
section
open Go.RowKit
def parD (k a w : Int) : D := .agg [.int .i64 k, .int .i64 a, .int .i64 w]
theorem o_c6 (k a : Int) (w : Nat) (w2 : w ≤ 10) (hc : Eqn Try.prog o_9r [.d (parD k a w)] [] (.d (.int .i64 0)) []) : Eqn Try.prog o_ac [.d (parD k a w)] [] (.d (.int .i64 (2 ^ w - 1 : Nat))) [] := by
 refine Eqn.pure o_ae (o_3z _) ?_
 simp only [o_ad, parD] at hc ⊢
 have h2' : 0 < 2 ^ w := Nat.two_pow_pos w
 have h2 : 2 ^ w ≤ 1024 := Nat.pow_le_pow_right (n := 2) (by omega) w2
 have e0 : (2 : Int) ^ w = (2 ^ w : Nat) := by rw [Int.natCast_pow]; rfl
 generalize 2 ^ w = S at *
 have e3 : IntKind.i64.wrap (S : Int) = S := w64 (by omega) (by omega)
 have e4 : IntKind.i64.wrap ((S : Int) - 1) = ((S - 1 : Nat) : Int) := by rw [w64 (by omega) (by omega)]; omega
 generalize S - 1 = S1 at *
 refine G0 ?_; try with_reducible exact tt
 refine CallS.pu (hc) (R0 ?_); try with_reducible exact tt
 refine AW.cond rfl (fun h => ?_) (fun h => ?_)
 ·simp at h
 refine G1 (fs e0 (fs e3 e4)) ?_; try with_reducible exact tt
end
end Go.Proofs.Ytlelpbaeplcfiaa.Am
namespace Go.Proofs.Ytlelpbaeplcfiaa.Am
section
open Go.RowKit
end
end Go.Proofs.Ytlelpbaeplcfiaa.Am
namespace Go.Proofs.Ytlelpbaeplcfiaa.Am
section
open Go.RowKit
end
end Go.Proofs.Ytlelpbaeplcfiaa.Am
namespace Go.Proofs.Ytlelpbaeplcfiaa.Am
section
open Go.RowKit
def stepG (cs : List Bool) (d k : Int) (p : Nat) (dd : Bool) : Bool × Int × Nat × Bool := if wrongZ d [k] = 0 then halfR cs (k.toNat / 2 ^ d.toNat) p dd else (false, wrongZ d [k], p, dd)

def stepYG (cs : List Bool) (s k : Int) (q : Nat) (dd : Bool) : Bool × Int × Nat × Bool := if atE s k = 0 then halfR cs (atP s k).shift q dd else (false, atE s k, q, dd)
end
end Go.Proofs.Ytlelpbaeplcfiaa.Am
namespace Go.Proofs.Ytlelpbaeplcfiaa.Am
section
abbrev StepT := Nat → Nat → Bool → Bool × Int × Nat × Bool
def addL (st : StepT) (top : Nat) : Nat → Nat → Bool → Nat → Bool → Int × Nat × Bool × Nat × Bool
 | 0, x, f, p, d => (0, x, f, p, d)
 | n + 1, x, f, p, d =>
  if x = top then (0, x, true, p, d)
  else if (st x p d).2.1 = 0 then
   if f = true ∧ (if (st x p d).1 then x + 1 else x) = top then (0, top, f, (st x p d).2.2.1, (st x p d).2.2.2)
   else addL st top n (if (st x p d).1 then x + 1 else x) f (st x p d).2.2.1 (st x p d).2.2.2
  else ((st x p d).2.1, x, f, (st x p d).2.2.1, (st x p d).2.2.2)
end
end Go.Proofs.Ytlelpbaeplcfiaa.Am
namespace Go.Proofs.Ytlelpbaeplcfiaa.Am
section
open Go.RowKit
end
end Go.Proofs.Ytlelpbaeplcfiaa.Am
namespace Go.Proofs.Ytlelpbaeplcfiaa.Am
section
open Go.RowKit
def stOf (cs : List Bool) (k a : Int) : StepT := fun x p dd => if k = 1 then stepM cs a x p dd else if k = 2 then stepG cs a x p dd else stepYG cs a x p dd
def GoodS (k a w : Nat) : Prop := (k = 1 ∧ 1 ≤ a ∧ a ≤ 4 ∨ k = 2 ∧ a ≤ 1 ∨ k = 3 ∧ 1 ≤ a ∧ a ≤ 2) ∧ 1 ≤ w ∧ w ≤ 4

theorem o_c7 (k m : Int) (hm : 0 < m) : -m < k.tmod m ∧ k.tmod m < m := by
 refine ⟨?_, Int.tmod_lt_of_pos _ hm⟩
 rcases (by omega : k < 0 ∨ 0 ≤ k) with h | h
 ·have := Int.tmod_lt_of_pos (-k) hm
  rw [Int.neg_tmod] at this
  omega
 ·have := Int.tmod_nonneg m h
  omega
theorem o_c8 (k m : Int) (hm : 0 < m) (hm2 : m ≤ 4611686018427387904) : IntKind.i64.wrap (k.tmod m + m) = k.tmod m + m ∧ ∃ r : Nat, (k.tmod m + m).tmod m = r ∧ r < m ∧ IntKind.i64.wrap (1 + (r : Int)) = ((1 + r : Nat) : Int) := by
 have h := o_c7 k m hm
 have h0 : 0 ≤ k.tmod m + m := by omega
 refine ⟨w64 (by omega) (by omega), ?_⟩
 have h1 := Int.tmod_nonneg m h0
 have h2 := Int.tmod_lt_of_pos (k.tmod m + m) hm
 obtain ⟨r, hr⟩ : ∃ r : Nat, (k.tmod m + m).tmod m = r := ⟨((k.tmod m + m).tmod m).toNat, by omega⟩
 exact ⟨r, hr, by omega, by rw [w64 (by omega) (by omega)]; omega⟩
theorem o_c9 (k : Int) (m : Nat) (hm : m ≤ 4611686018427387904) : ∃ n : Nat, bits BinOp.and IntKind.i64 k (m : Int) = n ∧ n ≤ m ∧ IntKind.i64.wrap (1 + (n : Int)) = ((1 + n : Nat) : Int) := by
 refine ⟨(BitVec.ofInt 64 k).toNat &&& m, ?_, Nat.and_le_right, ?_⟩
 ·have hm' : m % 2 ^ 64 = m := Nat.mod_eq_of_lt (by omega)
  have hle : (BitVec.ofInt 64 k).toNat &&& m ≤ m := Nat.and_le_right
  show IntKind.i64.wrap (((BitVec.ofInt 64 k) &&& (BitVec.ofInt 64 (m : Int))).toNat : Int) = _
  rw [BitVec.toNat_and, BitVec.ofInt_natCast, BitVec.toNat_ofNat, hm']
  generalize (BitVec.ofInt 64 k).toNat &&& m = n at *
  exact w64 (by omega) (by omega)
 ·have hle : (BitVec.ofInt 64 k).toNat &&& m ≤ m := Nat.and_le_right
  generalize (BitVec.ofInt 64 k).toNat &&& m = n at *
  rw [w64 (by omega) (by omega)]; omega
end
end Go.Proofs.Ytlelpbaeplcfiaa.Am
namespace Go.Proofs.Ytlelpbaeplcfiaa.Am
section
open Go.RowKit
abbrev AgT := Nat → Nat → Nat → Bool → Bool × Int × Nat × Bool
def agOf (cs : List Bool) (k a : Nat) : AgT := fun x r p dd => if k = 1 then powerR cs a (a + 1) (x - r) p dd else if k = 2 then halfR cs (x / 2 ^ a - r / 2 ^ a) p dd else halfR cs ((placeY a x).shift - (placeY a r).shift) p dd
end
end Go.Proofs.Ytlelpbaeplcfiaa.Am
namespace Go.Proofs.Ytlelpbaeplcfiaa.Am
section
open Go.RowKit
def mergeL (ag : AgT) (top : Nat) : Nat → Nat → Nat → Bool → Nat → Bool → Int × Nat × Bool × Nat × Bool
 | 0, _, x, f, p, d => (0, x, f, p, d)
 | n + 1, r, x, f, p, d =>
  if x = top then mergeL ag top n (r + 1) x true p d
  else if (ag x r p d).2.1 = 0 then mergeL ag top n (r + 1) (if (ag x r p d).1 then x + 1 else x) f (ag x r p d).2.2.1 (ag x r p d).2.2.2
  else ((ag x r p d).2.1, x, f, (ag x r p d).2.2.1, (ag x r p d).2.2.2)
end
end Go.Proofs.Ytlelpbaeplcfiaa.Am
namespace Go.Proofs.Ytlelpbaeplcfiaa.Am
section
open Go.RowKit
def outD (p : Nat) (R : Bool × Int × Nat × Bool) : D := .agg [.bool R.1, .int .i64 (R.2.2.1 - p : Nat), .int .i64 R.2.1]
end
end Go.Proofs.Ytlelpbaeplcfiaa.Am
namespace Go.Proofs.Ytlelpbaeplcfiaa.Am
section
open Go.RowKit
end
end Go.Proofs.Ytlelpbaeplcfiaa.Am
namespace Go.Proofs.Ytlelpbaeplcfiaa.Am
section
open Go.RowKit
structure Live (p : Nat) (R : Bool × Int × Nat × Bool) : Prop where
 err : R.2.1 = 0 ∨ R.2.1 = 8
 dead : R.2.2.2 = true ↔ R.2.1 ≠ 0
 no : R.2.1 ≠ 0 → R.1 = false
 le : p ≤ R.2.2.1

theorem Live.mono {p q : Nat} {R : Bool × Int × Nat × Bool} (h : Live q R) (hq : p ≤ q) : Live p R := ⟨h.err, h.dead, h.no, Nat.le_trans hq h.le⟩
theorem Live.ok {p : Nat} {R : Bool × Int × Nat × Bool} (h : Live p R) (h1 : R.2.1 = 0) : R.2.2.2 = false := by
 cases hd : R.2.2.2 with
 | false => rfl
 | true => exact absurd h1 (h.dead.1 hd)
end
end Go.Proofs.Ytlelpbaeplcfiaa.Am
namespace Go.Proofs.Ytlelpbaeplcfiaa.Am
section
open Go.RowKit
def halfD (e : Nat) : D := .agg [natW 1, .bool false, natW (2 ^ e - 1)]
def expOf (k a x : Nat) : Nat := if k = 2 then x / 2 ^ a else (placeY a x).shift
end
end Go.Proofs.Ytlelpbaeplcfiaa.Am
namespace Go.Proofs.Ytlelpbaeplcfiaa.Am
section
open Go.RowKit
end
end Go.Proofs.Ytlelpbaeplcfiaa.Am
namespace Go.Proofs.Ytlelpbaeplcfiaa.Am
section
open Go.RowKit
end
end Go.Proofs.Ytlelpbaeplcfiaa.Am
namespace Go.Proofs.Ytlelpbaeplcfiaa.Am
section
structure TR where
 e : Int
 y : Nat
 t : Nat
 f : Bool
 p : Nat
 d : Bool
end
end Go.Proofs.Ytlelpbaeplcfiaa.Am
namespace Go.Proofs.Ytlelpbaeplcfiaa.Am
section
open Go.RowKit
def binM (cs : List Bool) : Nat → Nat → Nat → Bool → Int × Nat × Nat × Bool
 | 0, c, p, d => (0, c, p, d)
 | n + 1, c, p, d => if flipE cs p d = 0 then binM cs n (if flipB cs p d then c + 1 else c) (flipP cs p d) (flipD cs p d) else (flipE cs p d, 0, flipP cs p d, flipD cs p d)
def thinM (cs : List Bool) (f : Bool) : Nat → Nat → Nat → Nat → Bool → TR
 | 0, y, t, p, d => ⟨0, y, t, f, p, d⟩
 | n + 1, y, t, p, d => if (binM cs y 0 p d).1 = 0 then thinM cs f n (binM cs y 0 p d).2.1 (t + 1) (binM cs y 0 p d).2.2.1 (binM cs y 0 p d).2.2.2 else ⟨(binM cs y 0 p d).1, y, t, f, (binM cs y 0 p d).2.2.1, (binM cs y 0 p d).2.2.2⟩
def downM (cs : List Bool) (most times : Nat) : Nat → Nat → Nat → Bool → Nat → Bool → TR
 | 0, y, t, f, p, d => ⟨0, y, t, f, p, d⟩
 | k + 1, y, t, f, p, d =>
  if most < y then
   if t = times then ⟨0, most, t, true, p, d⟩
   else if (thinM cs f 1 y t p d).e = 0 then downM cs most times k (thinM cs f 1 y t p d).y (thinM cs f 1 y t p d).t f (thinM cs f 1 y t p d).p (thinM cs f 1 y t p d).d
   else ⟨(thinM cs f 1 y t p d).e, y, t, f, (thinM cs f 1 y t p d).p, (thinM cs f 1 y t p d).d⟩
  else ⟨0, y, t, f, p, d⟩
def oneM (cs : List Bool) (most times y t : Nat) (f : Bool) (p : Nat) (d : Bool) : TR :=
 if (halfR cs t p d).1 then downM cs most times (times - t + 1) (y + 1) t f (halfR cs t p d).2.2.1 (halfR cs t p d).2.2.2
 else ⟨(halfR cs t p d).2.1, y, t, f, (halfR cs t p d).2.2.1, (halfR cs t p d).2.2.2⟩
def addTM (cs : List Bool) (most times : Nat) : Nat → Nat → Nat → Bool → Nat → Bool → TR
 | 0, y, t, f, p, d => ⟨0, y, t, f, p, d⟩
 | n + 1, y, t, f, p, d => if (oneM cs most times y t f p d).e = 0 then addTM cs most times n (oneM cs most times y t f p d).y (oneM cs most times y t f p d).t (oneM cs most times y t f p d).f (oneM cs most times y t f p d).p (oneM cs most times y t f p d).d else oneM cs most times y t f p d
def mergeTM (cs : List Bool) (most times y t : Nat) (f : Bool) (z u : Nat) (g : Bool) (p : Nat) (d : Bool) : TR :=
 let A := thinM cs f (u - t) y t p d
 if A.e = 0 then
  let B := thinM cs g (t - u) z u A.p A.d
  if B.e = 0 then downM cs most times (times - A.t + 1) (A.y + B.y) A.t (f || g) B.p B.d else B
 else A

def tsD (y t : Nat) (f : Bool) : D := .agg [.int .i64 y, .int .i64 t, .bool f]
end
end Go.Proofs.Ytlelpbaeplcfiaa.Am
namespace Go.Proofs.Ytlelpbaeplcfiaa.Am
section
open Go.RowKit
def tpD (a b : Int) : D := .agg [.int .i64 a, .int .i64 b]

def GoodT (a b : Nat) : Prop := 1 ≤ a ∧ a ≤ 1023 ∧ b ≤ 20
def WellT (a b y t : Nat) (f : Bool) : Prop := y ≤ a ∧ t ≤ b ∧ (f = true → t = b)

theorem o_ca {a b : Nat} (h : GoodT a b) : Eqn Try.prog o_9l [.d (tpD a b)] [] (.d (.int .i64 0)) [] := by
 refine Eqn.pure o_9n Plain.ok ?_
 obtain ⟨h1, h2, h3⟩ := h
 have g1 : ¬ (a : Int) < 1 := by omega
 have g2 : ¬ (1023 : Int) < a := by omega
 have g3 : ¬ (b : Int) < 0 := by omega
 have g4 : ¬ (20 : Int) < b := by omega
 simp only [o_9m, tpD]
 refine G1 (fs g1 (fs g2 (fs g3 g4))) ?_; try with_reducible exact tt
 refine AW.cond rfl (fun h => ?_) (fun h => ?_)
 ·simp at h
 ·refine G0 ?_; try with_reducible exact tt
end
end Go.Proofs.Ytlelpbaeplcfiaa.Am
namespace Go.Proofs.Ytlelpbaeplcfiaa.Am
section
open Go.RowKit
end
end Go.Proofs.Ytlelpbaeplcfiaa.Am
namespace Go.Proofs.Ytlelpbaeplcfiaa.Am
section
open Go.RowKit
def GoodC (k a w : Nat) : Prop := (k = 1 ∧ 1 ≤ a ∧ a ≤ 4096 ∧ bitsN (a + 1) * (2 ^ w - 1) ≤ 8192 ∨ k = 2 ∧ a ≤ 8 ∨ k = 3 ∧ 1 ≤ a ∧ a ≤ 5) ∧ 1 ≤ w ∧ w ≤ 10
theorem o_cb {k a w : Nat} (h : GoodS k a w) : GoodC k a w := by
 obtain ⟨h, h1, h2⟩ := h
 refine ⟨?_, h1, by omega⟩
 rcases h with ⟨rfl, h3, h4⟩ | ⟨rfl, h3⟩ | ⟨rfl, h3, h4⟩
 ·refine .inl ⟨rfl, h3, by omega, ?_⟩
  have ha : a = 1 ∨ a = 2 ∨ a = 3 ∨ a = 4 := by omega
  have hw : w = 1 ∨ w = 2 ∨ w = 3 ∨ w = 4 := by omega
  rcases ha with rfl | rfl | rfl | rfl <;> rcases hw with rfl | rfl | rfl | rfl <;> decide
 ·exact .inr (.inl ⟨rfl, by omega⟩)
 ·exact .inr (.inr ⟨rfl, h3, by omega⟩)
theorem o_cc {k a w : Nat} (h : GoodC k a w) : Eqn Try.prog o_9r [.d (parD k a w)] [] (.d (.int .i64 0)) [] := by
 obtain ⟨h, h1, h2⟩ := h
 rcases h with ⟨rfl, h3, h4, h5⟩ | ⟨rfl, h3⟩ | ⟨rfl, h3, h4⟩
 ·exact o_c2 a w h3 h4 h1 h2 h5
 ·exact o_c4 a w h3 h1 h2
 ·exact o_c5 a w h3 h4 h1 h2
def GoodR (k a b : Nat) : Prop := k = 4 ∧ GoodT a b ∨ k ≠ 4 ∧ GoodC k a b
def WellR (k a b y t : Nat) (f : Bool) : Prop := k = 4 ∧ WellT a b y t f ∨ k ≠ 4 ∧ t = 0 ∧ y ≤ 2 ^ b - 1 ∧ (f = true → y = 2 ^ b - 1)
def addRM (cs : List Bool) (k a b n y t : Nat) (f : Bool) (p : Nat) (d : Bool) : TR :=
 if k = 4 then addTM cs a b n y t f p d
 else ⟨(addL (stOf cs k a) (2 ^ b - 1) n y f p d).1, (addL (stOf cs k a) (2 ^ b - 1) n y f p d).2.1, 0, (addL (stOf cs k a) (2 ^ b - 1) n y f p d).2.2.1, (addL (stOf cs k a) (2 ^ b - 1) n y f p d).2.2.2.1, (addL (stOf cs k a) (2 ^ b - 1) n y f p d).2.2.2.2⟩
def mergeRM (cs : List Bool) (k a b y t : Nat) (f : Bool) (z u : Nat) (g : Bool) (p : Nat) (d : Bool) : TR :=
 if k = 4 then mergeTM cs a b y t f z u g p d
 else ⟨(mergeL (agOf cs k a) (2 ^ b - 1) z 0 y f p d).1, (mergeL (agOf cs k a) (2 ^ b - 1) z 0 y f p d).2.1, 0, (mergeL (agOf cs k a) (2 ^ b - 1) z 0 y f p d).2.2.1 || g, (mergeL (agOf cs k a) (2 ^ b - 1) z 0 y f p d).2.2.2.1, (mergeL (agOf cs k a) (2 ^ b - 1) z 0 y f p d).2.2.2.2⟩
end
end Go.Proofs.Ytlelpbaeplcfiaa.Am
namespace Go.Proofs.Ytlelpbaeplcfiaa.Am
section
def b2n (b : Bool) : Nat := if b then 1 else 0
@[simp] theorem o_cd (b : Bool) : b2n b ≤ 1 := by cases b <;> decide
def numB : List Bool → Nat → Nat
 | [], n => n
 | b :: l, n => numB l (2 * n + b2n b)
theorem o_ce : ∀ (l k : List Bool) (n : Nat), numB (l ++ k) n = numB k (numB l n)
 | [], k, n => rfl
 | b :: l, k, n => o_ce l k _
theorem o_cf : ∀ (l : List Bool) (n : Nat), numB l n = n * 2 ^ l.length + numB l 0
 | [], n => by simp [numB]
 | b :: l, n => by
  rw [numB, o_cf l, numB, o_cf l (2 * 0 + b2n b), List.length_cons, Nat.pow_succ, Nat.add_mul, Nat.mul_zero, Nat.zero_add, ← Nat.add_assoc, Nat.mul_comm 2 n, Nat.mul_assoc, Nat.mul_comm 2]
theorem o_cg : ∀ l : List Bool, numB l 0 < 2 ^ l.length
 | [] => by simp [numB]
 | b :: l => by
  rw [numB, o_cf, List.length_cons, Nat.pow_succ]
  have := o_cg l
  have := o_cd b
  generalize 2 ^ l.length = v at *
  cases b <;> simp [b2n] <;> omega
def bitsW (n w : Nat) : List Bool := (List.range w).map fun i => decide (n / 2 ^ (w - 1 - i) % 2 = 1)
@[simp] theorem o_ch (n w : Nat) : (bitsW n w).length = w := by simp [bitsW]
theorem o_ci (n w : Nat) : bitsW n (w + 1) = bitsW (n / 2) w ++ [decide (n % 2 = 1)] := by
 simp only [bitsW, List.range_succ, List.map_append, List.map_cons, List.map_nil]
 congr 1
 ·apply List.map_congr_left
  intro i hi
  have := List.mem_range.1 hi
  rw [Nat.div_div_eq_div_mul, ← Nat.pow_succ', show w + 1 - 1 - i = (w - 1 - i).succ by omega]
 ·simp
theorem o_cj : ∀ (w n : Nat), numB (bitsW n w) 0 = n % 2 ^ w
 | 0, n => by simp [bitsW, numB, Nat.mod_one]
 | w + 1, n => by
  rw [o_ci, o_ce, o_cj w]
  simp only [numB]
  rw [Nat.pow_succ, Nat.mul_comm (2 ^ w) 2, Nat.mod_mul]
  have h2 : b2n (decide (n % 2 = 1)) = n % 2 := by
   rcases Nat.mod_two_eq_zero_or_one n with h | h <;> simp [h, b2n]
  rw [h2]; omega

def bit (bs : List Bool) (i : Nat) : Nat := b2n (bs.getD i false)
def byteAt (bs : List Bool) (i : Nat) : Nat := bit bs (8 * i) * 128 + bit bs (8 * i + 1) * 64 + bit bs (8 * i + 2) * 32 + bit bs (8 * i + 3) * 16 + bit bs (8 * i + 4) * 8 + bit bs (8 * i + 5) * 4 + bit bs (8 * i + 6) * 2 + bit bs (8 * i + 7)
theorem o_ck (bs : List Bool) (i : Nat) : bit bs i ≤ 1 := o_cd _
theorem o_cl (bs : List Bool) (i : Nat) : byteAt bs i < 256 := by
 unfold byteAt
 have h0 := o_ck bs (8 * i); have h1 := o_ck bs (8 * i + 1); have h2 := o_ck bs (8 * i + 2); have h3 := o_ck bs (8 * i + 3)
 have h4 := o_ck bs (8 * i + 4); have h5 := o_ck bs (8 * i + 5); have h6 := o_ck bs (8 * i + 6); have h7 := o_ck bs (8 * i + 7)
 omega
def bytesOf (bs : List Bool) : List Nat := (List.range ((bs.length + 7) / 8)).map (byteAt bs)
@[simp] theorem o_cm (bs : List Bool) : (bytesOf bs).length = (bs.length + 7) / 8 := by simp [bytesOf]
theorem o_cn {bs : List Bool} {i : Nat} (h : bs.length ≤ i) : bit bs i = 0 := by
 unfold bit; rw [List.getD_eq_getElem?_getD, List.getElem?_eq_none h]; rfl
theorem o_co {bs : List Bool} {b : Bool} {i : Nat} (h : i ≠ bs.length) : bit (bs ++ [b]) i = bit bs i := by
 unfold bit
 rw [List.getD_eq_getElem?_getD, List.getD_eq_getElem?_getD]
 rcases Nat.lt_or_gt_of_ne h with h' | h'
 ·rw [List.getElem?_append_left h']
 ·rw [List.getElem?_eq_none (by simp; omega), List.getElem?_eq_none (by omega)]
theorem o_cp {bs : List Bool} {b : Bool} : bit (bs ++ [b]) bs.length = b2n b := by
 unfold bit; rw [List.getD_eq_getElem?_getD]; simp
theorem o_cq {bs : List Bool} {b : Bool} {i : Nat} (h : i ≠ bs.length / 8) : byteAt (bs ++ [b]) i = byteAt bs i := by
 unfold byteAt
 rw [o_co (by omega), o_co (by omega), o_co (by omega), o_co (by omega), o_co (by omega), o_co (by omega), o_co (by omega), o_co (by omega)]
theorem o_cr {bs : List Bool} {b : Bool} : ∃ c, byteAt bs (bs.length / 8) = c * 2 ^ (8 - bs.length % 8) ∧ byteAt (bs ++ [b]) (bs.length / 8) = c * 2 ^ (8 - bs.length % 8) + b2n b * 2 ^ (7 - bs.length % 8) := by
 have hs : ∀ k, k ≠ bs.length % 8 → k < 8 → bit (bs ++ [b]) (8 * (bs.length / 8) + k) = bit bs (8 * (bs.length / 8) + k) := fun k hk h8 => o_co (by omega)
 have ho : ∀ k, bs.length % 8 ≤ k → bit bs (8 * (bs.length / 8) + k) = 0 := fun k hk => o_cn (by omega)
 have hl : bit (bs ++ [b]) (8 * (bs.length / 8) + bs.length % 8) = b2n b := by rw [show 8 * (bs.length / 8) + bs.length % 8 = bs.length by omega]; exact o_cp
 have hr : bs.length % 8 < 8 := Nat.mod_lt _ (by omega)
 unfold byteAt
 rw [show 8 * (bs.length / 8) = 8 * (bs.length / 8) + 0 by rfl]
 generalize 8 * (bs.length / 8) = q at *
 generalize bs.length % 8 = r at *
 generalize hL : bs ++ [b] = L at *
 have hr' : r = 0 ∨ r = 1 ∨ r = 2 ∨ r = 3 ∨ r = 4 ∨ r = 5 ∨ r = 6 ∨ r = 7 := by omega
 simp only [Nat.add_zero] at *
 rcases hr' with rfl | rfl | rfl | rfl | rfl | rfl | rfl | rfl
 ·refine ⟨0, ?_, ?_⟩
  ·have := ho 0; have := ho 1; have := ho 2; have := ho 3; have := ho 4; have := ho 5; have := ho 6; have := ho 7; simp_all
  ·have := ho 0; have := ho 1; have := ho 2; have := ho 3; have := ho 4; have := ho 5; have := ho 6; have := ho 7; have := hs 1; have := hs 2; have := hs 3; have := hs 4; have := hs 5; have := hs 6; have := hs 7; simp_all
 ·refine ⟨bit bs q, ?_, ?_⟩
  ·have := ho 1; have := ho 2; have := ho 3; have := ho 4; have := ho 5; have := ho 6; have := ho 7; simp_all
  ·have := ho 1; have := ho 2; have := ho 3; have := ho 4; have := ho 5; have := ho 6; have := ho 7; have := hs 0; have := hs 2; have := hs 3; have := hs 4; have := hs 5; have := hs 6; have := hs 7; simp_all
 ·refine ⟨bit bs q * 2 + bit bs (q + 1), ?_, ?_⟩
  ·have := ho 2; have := ho 3; have := ho 4; have := ho 5; have := ho 6; have := ho 7; simp_all; omega
  ·have := ho 2; have := ho 3; have := ho 4; have := ho 5; have := ho 6; have := ho 7; have := hs 0; have := hs 1; have := hs 3; have := hs 4; have := hs 5; have := hs 6; have := hs 7; simp_all; omega
 ·refine ⟨bit bs q * 4 + bit bs (q + 1) * 2 + bit bs (q + 2), ?_, ?_⟩
  ·have := ho 3; have := ho 4; have := ho 5; have := ho 6; have := ho 7; simp_all; omega
  ·have := ho 3; have := ho 4; have := ho 5; have := ho 6; have := ho 7; have := hs 0; have := hs 1; have := hs 2; have := hs 4; have := hs 5; have := hs 6; have := hs 7; simp_all; omega
 ·refine ⟨bit bs q * 8 + bit bs (q + 1) * 4 + bit bs (q + 2) * 2 + bit bs (q + 3), ?_, ?_⟩
  ·have := ho 4; have := ho 5; have := ho 6; have := ho 7; simp_all; omega
  ·have := ho 4; have := ho 5; have := ho 6; have := ho 7; have := hs 0; have := hs 1; have := hs 2; have := hs 3; have := hs 5; have := hs 6; have := hs 7; simp_all; omega
 ·refine ⟨bit bs q * 16 + bit bs (q + 1) * 8 + bit bs (q + 2) * 4 + bit bs (q + 3) * 2 + bit bs (q + 4), ?_, ?_⟩
  ·have := ho 5; have := ho 6; have := ho 7; simp_all; omega
  ·have := ho 5; have := ho 6; have := ho 7; have := hs 0; have := hs 1; have := hs 2; have := hs 3; have := hs 4; have := hs 6; have := hs 7; simp_all; omega
 ·refine ⟨bit bs q * 32 + bit bs (q + 1) * 16 + bit bs (q + 2) * 8 + bit bs (q + 3) * 4 + bit bs (q + 4) * 2 + bit bs (q + 5), ?_, ?_⟩
  ·have := ho 6; have := ho 7; simp_all; omega
  ·have := ho 6; have := ho 7; have := hs 0; have := hs 1; have := hs 2; have := hs 3; have := hs 4; have := hs 5; have := hs 7; simp_all; omega
 ·refine ⟨bit bs q * 64 + bit bs (q + 1) * 32 + bit bs (q + 2) * 16 + bit bs (q + 3) * 8 + bit bs (q + 4) * 4 + bit bs (q + 5) * 2 + bit bs (q + 6), ?_, ?_⟩
  ·have := ho 7; simp_all; omega
  ·have := ho 7; have := hs 0; have := hs 1; have := hs 2; have := hs 3; have := hs 4; have := hs 5; have := hs 6; simp_all; omega

theorem o_cs {bs : List Bool} {b : Bool} (h : bs.length % 8 = 0) : bytesOf (bs ++ [b]) = bytesOf bs ++ [b2n b * 128] := by
 unfold bytesOf
 rw [List.length_append, List.length_singleton, show (bs.length + 1 + 7) / 8 = (bs.length + 7) / 8 + 1 by omega, List.range_succ, List.map_append]
 congr 1
 ·apply List.map_congr_left
  intro i hi
  have := List.mem_range.1 hi
  exact o_cq (by omega)
 ·obtain ⟨c, h1, h2⟩ := o_cr (bs := bs) (b := b)
  have h3 : byteAt bs (bs.length / 8) = 0 := by
   unfold byteAt
   rw [o_cn (by omega), o_cn (by omega), o_cn (by omega), o_cn (by omega), o_cn (by omega), o_cn (by omega), o_cn (by omega), o_cn (by omega)]
  rw [h3, h, Nat.sub_zero] at h1
  rw [h, Nat.sub_zero, Nat.sub_zero] at h2
  rw [List.map_singleton, show (bs.length + 7) / 8 = bs.length / 8 by omega, h2, ← h1]
  simp
theorem o_ct {bs : List Bool} {b : Bool} (h : bs.length % 8 ≠ 0) : ∃ c, (bytesOf bs).getD (bs.length / 8) 0 = c * 2 ^ (8 - bs.length % 8) ∧ bytesOf (bs ++ [b]) = (bytesOf bs).set (bs.length / 8) (c * 2 ^ (8 - bs.length % 8) + b2n b * 2 ^ (7 - bs.length % 8)) := by
 obtain ⟨c, h1, h2⟩ := o_cr (bs := bs) (b := b)
 refine ⟨c, ?_, ?_⟩
 ·unfold bytesOf
  rw [List.getD_eq_getElem?_getD, List.getElem?_map, List.getElem?_range (by omega)]
  exact h1
 ·apply List.ext_getElem?
  intro i
  rw [List.getElem?_set]
  unfold bytesOf
  simp only [List.getElem?_map, List.length_map, List.length_range, List.length_append, List.length_singleton]
  rw [show (bs.length + 1 + 7) / 8 = (bs.length + 7) / 8 by omega]
  by_cases hi : bs.length / 8 = i
  ·subst hi
   rw [if_pos rfl, if_pos (by omega), List.getElem?_range (by omega), Option.map_some, h2]
  ·rw [if_neg hi]
   by_cases hl : i < (bs.length + 7) / 8
   ·rw [List.getElem?_range hl, Option.map_some, Option.map_some, o_cq (fun h => hi h.symm)]
   ·rw [List.getElem?_eq_none (by simp; omega)]; rfl

def bitsOf1 (x : Nat) : List Bool := bitsW x 8
def bitsOf : List Nat → List Bool
 | [] => []
 | x :: l => bitsOf1 x ++ bitsOf l
@[simp] theorem o_cu : ∀ l : List Nat, (bitsOf l).length = 8 * l.length
 | [] => rfl
 | x :: l => by simp [bitsOf, bitsOf1, o_cu l]; omega
theorem o_cv : ∀ l k : List Nat, bitsOf (l ++ k) = bitsOf l ++ bitsOf k
 | [], k => rfl
 | x :: l, k => by simp [bitsOf, o_cv l k]
theorem o_cw : ∀ (l : List Nat) (i : Nat), i < 8 * l.length → (bitsOf l).getD i false = decide (l.getD (i / 8) 0 / 2 ^ (7 - i % 8) % 2 = 1)
 | [], i, h => by simp at h
 | x :: l, i, h => by
  rw [bitsOf, List.getD_eq_getElem?_getD]
  by_cases h8 : i < 8
  ·rw [List.getElem?_append_left (by simp [bitsOf1]; omega), bitsOf1, bitsW, List.getElem?_map, List.getElem?_range h8, show i / 8 = 0 by omega, show i % 8 = i by omega]
   rfl
  ·rw [List.getElem?_append_right (by simp [bitsOf1]; omega), ← List.getD_eq_getElem?_getD]
   have := o_cw l (i - 8) (by simp at h; omega)
   simp only [bitsOf1, o_ch]
   rw [this, show i / 8 = (i - 8) / 8 + 1 by omega, show (i - 8) % 8 = i % 8 by omega]
   simp
theorem o_cx (bs : List Bool) : (bitsOf (bytesOf bs)).take bs.length = bs := by
 apply List.ext_getElem?
 intro i
 rw [List.getElem?_take]
 by_cases h : i < bs.length
 ·rw [if_pos h, List.getElem?_eq_getElem (by simp; omega), List.getElem?_eq_getElem h]
  congr 1
  have h1 := o_cw (bytesOf bs) i (by simp; omega)
  rw [List.getD_eq_getElem?_getD, List.getElem?_eq_getElem (by simp; omega), Option.getD_some] at h1
  rw [h1]
  have h2 : (bytesOf bs).getD (i / 8) 0 = byteAt bs (i / 8) := by
   unfold bytesOf
   rw [List.getD_eq_getElem?_getD, List.getElem?_map, List.getElem?_range (by omega)]; rfl
  rw [h2]
  have h3 : bit bs i = b2n bs[i] := by unfold bit; rw [List.getD_eq_getElem?_getD, List.getElem?_eq_getElem h]; rfl
  have h4 : byteAt bs (i / 8) / 2 ^ (7 - i % 8) % 2 = bit bs i := by
   have e : i = 8 * (i / 8) + i % 8 := by omega
   have hr : i % 8 < 8 := Nat.mod_lt _ (by omega)
   conv => rhs; rw [e]
   unfold byteAt
   generalize i / 8 = q at *
   generalize i % 8 = r at *
   have g0 := o_ck bs (8 * q); have g1 := o_ck bs (8 * q + 1); have g2 := o_ck bs (8 * q + 2); have g3 := o_ck bs (8 * q + 3)
   have g4 := o_ck bs (8 * q + 4); have g5 := o_ck bs (8 * q + 5); have g6 := o_ck bs (8 * q + 6); have g7 := o_ck bs (8 * q + 7)
   have hr' : r = 0 ∨ r = 1 ∨ r = 2 ∨ r = 3 ∨ r = 4 ∨ r = 5 ∨ r = 6 ∨ r = 7 := by omega
   rcases hr' with rfl | rfl | rfl | rfl | rfl | rfl | rfl | rfl <;> simp only [Nat.add_zero, Nat.sub_zero, Nat.reducePow, Nat.reduceSub] <;> omega
  rw [h4, h3]
  cases bs[i] <;> rfl
 ·rw [if_neg h, List.getElem?_eq_none (by omega)]
end
end Go.Proofs.Ytlelpbaeplcfiaa.Am
namespace Go.Proofs.Ytlelpbaeplcfiaa.Am
section
open Go.RowKit
def u8s (ws : List Nat) : List V := ws.map fun x : Nat => V.d (.int .u8 x)
def BY (ws : List Nat) : D := .sl ws.length (ws.map fun x : Nat => .int .u8 x)
theorem o_cy (ws : List Nat) : (u8s ws).length = ws.length := by simp [u8s]
theorem o_cz {ws : List Nat} {j : Nat} (h : j < ws.length) : (u8s ws)[j]? = some (.d (.int .u8 (ws.getD j 0 : Nat))) := by simp [u8s, h]
theorem o_d0 (ws : List Nat) (j v : Nat) : (u8s ws).set j (.d (.int .u8 v)) = u8s (ws.set j v) := by simp [u8s, List.map_set]
theorem o_d1 (ws : List Nat) (v : Nat) : u8s ws ++ [.d (.int .u8 v)] = u8s (ws ++ [v]) := by simp [u8s]
@[simp] theorem o_d2 (n : Nat) (ws : List Nat) : V.lowl n (u8s ws) = true := by induction ws <;> simp_all [u8s]
@[simp] theorem o_d3 (θ : Nat → Nat) (ws : List Nat) : V.rens θ (u8s ws) = u8s ws := by induction ws <;> simp_all [u8s]
def wrO (m : Nat) (bs : List Bool) : Ob := ⟨36, [.own m 1 ((bs.length + 7) / 8), .d (.int .i64 bs.length)]⟩
def wrB (bs : List Bool) : Ob := ⟨5, u8s (bytesOf bs)⟩

theorem o_d4 (x y : Nat) (hx : x < 256) (hy : y < 256) : bits BinOp.or IntKind.u8 (x : Int) (y : Int) = ((x ||| y : Nat) : Int) := by
 show IntKind.u8.wrap (((BitVec.ofInt 8 (x : Int)) ||| (BitVec.ofInt 8 (y : Int))).toNat : Int) = _
 rw [BitVec.toNat_or, BitVec.ofInt_natCast, BitVec.ofInt_natCast, BitVec.toNat_ofNat, BitVec.toNat_ofNat, Nat.mod_eq_of_lt (by omega), Nat.mod_eq_of_lt (by omega)]
 have := Nat.or_lt_two_pow (n := 8) (x := x) (y := y) hx hy
 rw [IntKind.wrap_u8]
 omega
theorem o_d5 {c r : Nat} (hr : r < 8) (h : c * 2 ^ (8 - r) < 256) : bits BinOp.or IntKind.u8 ((c * 2 ^ (8 - r) : Nat) : Int) ((2 ^ (7 - r) : Nat) : Int) = ((c * 2 ^ (8 - r) + 2 ^ (7 - r) : Nat) : Int) := by
 have h2 : 2 ^ (7 - r) < 2 ^ (8 - r) := Nat.pow_lt_pow_right (by omega) (by omega)
 have h3 : 2 ^ (7 - r) ≤ 2 ^ 7 := Nat.pow_le_pow_right (by omega) (by omega)
 rw [o_d4 _ _ h (by omega), Nat.mul_comm c, Nat.two_pow_add_eq_or_of_lt h2]

theorem o_d6 (b : Bool) : Eqn Try.prog o_8l [.p 0 0, .d (.bool b)] [⟨36, [.d .nilsl, .d (.int .i64 0)]⟩] (.tup []) [wrO 1 [b], wrB [b]] := by
 refine Eqn.gen [0, 2] o_8n (by simp) (by simp) (by rfl) (by decide) (by simp) (by simp [wrO, wrB, o_d2]) ?_
 simp only [o_8m]
 have e1 : IntKind.i64.wrap 1 = 1 := w64 (by omega) (by omega)
 have e2 : bits BinOp.or IntKind.u8 0 (IntKind.u8.wrap 128) = 128 := by decide
 refine G0 ?_; try with_reducible exact tt
 refine AW.cond rfl (fun h => ?_) (fun h => ?_)
 ·refine G0 ?_; try with_reducible exact tt
  cases b with
  | true =>
   refine AW.cond rfl (fun h => ?_) (fun h => ?_)
   ·refine G1 (fs e1 e2) ?_; try with_reducible exact tt
    simp [wrO, wrB, u8s, bytesOf, byteAt, bit, b2n, List.range_succ]
   ·simp at h
  | false =>
   refine AW.cond rfl (fun h => ?_) (fun h => ?_)
   ·simp at h
   ·refine G1 (fs e1 e2) ?_; try with_reducible exact tt
    simp [wrO, wrB, u8s, bytesOf, byteAt, bit, b2n, List.range_succ]
 ·simp at h

theorem o_d7 (bs : List Bool) (b : Bool) (h0 : bs ≠ []) (hn : bs.length ≤ 1000000) : EqnD Try.prog o_8l [.p 0 0, .d (.bool b)] [wrO 1 bs, wrB bs] (.tup []) [wrO 2 (bs ++ [b]), wrB bs, wrB (bs ++ [b])] [1] := by
 have e1 : IntKind.i64.wrap ((bs.length : Int) + 1) = (bs.length : Int) + 1 := w64 (by omega) (by omega)
 have e2 : ((bs.length : Nat) : Int).tmod 8 = ((bs.length % 8 : Nat) : Int) := by rw [Int.tmod_eq_emod_of_nonneg (by omega)]; rfl
 have e2' : ((bs.length : Nat) : Int) % 8 = ((bs.length % 8 : Nat) : Int) := rfl
 have e3 : IntKind.i64.wrap (((bs.length : Nat) : Int) / 8) = ((bs.length / 8 : Nat) : Int) := by rw [w64 (by omega) (by omega)]; rfl
 by_cases hr : bs.length % 8 = 0
 ·refine Eqn.gen [0, 1, 3] o_8n (by simp) (by simp) (by rfl) (by decide) (by simp) (by simp [wrO, wrB, o_d2]) ?_
  have hb := o_cs (b := b) hr
  have hl : (bytesOf bs).length = bs.length / 8 := by rw [o_cm]; omega
  simp only [o_8m, wrO, wrB, hb, List.length_append, List.length_singleton]
  rw [show (bs.length + 7) / 8 = bs.length / 8 by omega, show (bs.length + 1 + 7) / 8 = bs.length / 8 + 1 by omega]
  rw [hr] at e2 e2'
  have hg : (u8s (bytesOf bs ++ [0]))[bs.length / 8]? = some (.d (.int .u8 0)) := by rw [o_cz (by simp; omega)]; simp [List.getD, ← hl]
  have hs : ∀ v, (u8s (bytesOf bs ++ [0])).set (bs.length / 8) (.d (.int .u8 v)) = u8s (bytesOf bs) ++ [.d (.int .u8 v)] := fun v => by simp [u8s, ← hl]
  have hu := o_d1 (bytesOf bs) 0
  have hu2 := o_d1 (bytesOf bs) (b2n b * 128)
  have hlen := o_cy (bytesOf bs)
  rw [hl] at hlen
  generalize bytesOf bs = ws at *
  have hq : bs.length / 8 ≤ 1000000 := by omega
  generalize bs.length / 8 = q at *
  generalize bs.length = n at *
  have e4 : bits BinOp.or IntKind.u8 0 (IntKind.u8.wrap 128) = 128 := by decide
  simp at hu
  have hlen2 : (u8s (ws ++ [0])).length = q + 1 := by rw [o_cy]; simp; omega
  refine G1 (fs e2 (fs e2' hu)) ?_; try with_reducible exact tt
  refine AW.cond rfl (fun h => ?_) (fun h => ?_)
  ·refine G1 (fs e2 (fs e2' hu)) ?_; try with_reducible exact tt
   cases b with
   | true =>
    simp [b2n] at hu2
    refine AW.cond rfl (fun h => ?_) (fun h => ?_)
    ·refine G1 (fs e1 (fs e2 (fs e2' (fs e3 (fs e4 (fs hg hs)))))) ?_; try with_reducible exact tt
     simp [hu2, b2n]
    ·simp at h
   | false =>
    simp [b2n] at hu2
    refine AW.cond rfl (fun h => ?_) (fun h => ?_)
    ·simp at h
    ·refine G1 e1 ?_; try with_reducible exact tt
     simp [hu2, b2n]
  ·simp at h
 ·refine Eqn.gen [0, 1, 1] o_8n (by simp) (by simp) (by rfl) (by decide) (by simp) (by simp [wrO, wrB, o_d2]) ?_
  obtain ⟨c, hc, hb⟩ := o_ct (b := b) hr
  have hlt : c * 2 ^ (8 - bs.length % 8) < 256 := by
   rw [← hc]
   have : (bytesOf bs).getD (bs.length / 8) 0 = byteAt bs (bs.length / 8) := by
    unfold bytesOf
    rw [List.getD_eq_getElem?_getD, List.getElem?_map, List.getElem?_range (by omega)]; rfl
   rw [this]; exact o_cl _ _
  have hor := o_d5 (r := bs.length % 8) (Nat.mod_lt _ (by omega)) hlt
  have hR : bs.length % 8 < 8 := Nat.mod_lt _ (by omega)
  have hl : (bytesOf bs).length = bs.length / 8 + 1 := by rw [o_cm]; omega
  have hg := o_cz (ws := bytesOf bs) (j := bs.length / 8) (by omega)
  rw [hc] at hg
  have hs := o_d0 (bytesOf bs) (bs.length / 8)
  have hset : c * 2 ^ (8 - bs.length % 8) = (bytesOf bs).getD (bs.length / 8) 0 := hc.symm
  have hkeep : (bytesOf bs).set (bs.length / 8) (c * 2 ^ (8 - bs.length % 8)) = bytesOf bs := by
   rw [hset]
   apply List.ext_getElem?
   intro i
   rw [List.getElem?_set]
   split
   ·rename_i h; subst h
    rw [if_pos (by omega), List.getD_eq_getElem?_getD, List.getElem?_eq_getElem (by omega)]; rfl
   ·rfl
  have h7 : 2 ^ (7 - bs.length % 8) ≤ 2 ^ 7 := Nat.pow_le_pow_right (by omega) (by omega)
  simp only [o_8m, wrO, wrB, hb, List.length_append, List.length_singleton]
  rw [show (bs.length + 7) / 8 = bs.length / 8 + 1 by omega, show (bs.length + 1 + 7) / 8 = bs.length / 8 + 1 by omega]
  have e5 : IntKind.i64.wrap (7 - ((bs.length % 8 : Nat) : Int)) = ((7 - bs.length % 8 : Nat) : Int) := by rw [w64 (by omega) (by omega)]; omega
  have e6 : IntKind.u8.wrap (2 ^ (7 - bs.length % 8)) = ((2 ^ (7 - bs.length % 8) : Nat) : Int) := by
   have : ((2 : Int) ^ (7 - bs.length % 8)) = ((2 ^ (7 - bs.length % 8) : Nat) : Int) := by rw [Int.natCast_pow]; rfl
   rw [IntKind.wrap_u8, this]
   exact Int.emod_eq_of_lt (Int.natCast_nonneg _) (by exact_mod_cast Nat.lt_of_le_of_lt h7 (by decide))
  have e7 : 7 - bs.length % 8 ≤ 7 := by omega
  have hlen := o_cy (bytesOf bs)
  rw [hl] at hlen
  clear hset hc hl hb
  generalize bytesOf bs = ws at *
  generalize bs.length / 8 = q at *
  generalize bs.length % 8 = r at *
  generalize bs.length = n at *
  generalize 2 ^ (7 - r) = P at *
  generalize c * 2 ^ (8 - r) = C at *
  have hCP : C + b2n b * P = if b then C + P else C := by cases b <;> simp [b2n]
  rw [hCP]
  have hr' : ¬ (r : Int) = 0 := by omega
  refine G1 (fs e2 (fs e2' (fs hr hr'))) ?_; try with_reducible exact tt
  refine AW.cond rfl (fun h => ?_) (fun h => ?_)
  ·simp [hr, hr'] at h
  ·refine G0 ?_; try with_reducible exact tt
   cases b with
   | true =>
    refine AW.cond rfl (fun h => ?_) (fun h => ?_)
    ·refine G1 (fs e1 (fs e2 (fs e2' (fs e3 (fs e5 (fs e6 (fs e7 (fs hg (fs hor hs))))))))) ?_; try with_reducible exact tt
     exact Subs.of (by rw [← hs]; simp)
    ·simp at h
   | false =>
    refine AW.cond rfl (fun h => ?_) (fun h => ?_)
    ·simp at h
    ·refine G1 e1 ?_; try with_reducible exact tt
     simp [hkeep]

theorem o_d8 (m : Nat) (bs : List Bool) : Eqn Try.prog o_5x [.p 0 0] [wrO 1 bs, wrB bs] (.d (.int .i64 bs.length)) [wrO 1 bs, wrB bs] := by
 refine Eqn.gen [0, 1] o_5z (by simp) (by simp) (by rfl) (by decide) (by simp) (by simp [wrO, wrB]) ?_
 simp only [o_5y, wrO, wrB]
 refine G0 ?_; try with_reducible exact tt

theorem o_d9 (bs : List Bool) (h0 : bs ≠ []) (hn : bs.length ≤ 1000000) : Eqn Try.prog o_5o [.p 0 0] [wrO 1 bs, wrB bs] (.own 2 1 (bytesOf bs).length) [wrO 1 bs, wrB bs, wrB bs] := by
 refine Eqn.gen [0, 1, 2] o_5q (by simp) (by simp) (by rfl) (by decide) (by simp) (by simp [wrO, wrB]) ?_
 have hl : 0 < bs.length := by cases bs with | nil => exact absurd rfl h0 | cons _ _ => simp
 simp only [o_5p, wrO, wrB, o_cm]
 have hlen := o_cy (bytesOf bs)
 rw [o_cm] at hlen
 have hq : (bs.length + 7) / 8 ≤ 1000000 := by omega
 have hset : setMany (List.replicate ((bs.length + 7) / 8) (V.d (.int .u8 0))) 0 (u8s (bytesOf bs)) = u8s (bytesOf bs) := by
  rw [o_j _ _ _ (by simp [hlen])]
  simp [hlen]
 have htake : (u8s (bytesOf bs)).take ((bs.length + 7) / 8) = u8s (bytesOf bs) := List.take_of_length_le (by omega)
 have hren : ∀ θ, V.rens θ (u8s (bytesOf bs)) = u8s (bytesOf bs) := fun θ => o_d3 θ _
 generalize u8s (bytesOf bs) = C at *
 generalize (bs.length + 7) / 8 = q at *
 generalize bs.length = n at *
 have e1 : IntKind.i64.wrap (q : Int) = q := w64 (by omega) (by omega)
 refine G1 (fs e1 (fs hset (fs htake hren))) ?_; try with_reducible exact tt

theorem o_da (w : Int) : Eqn Try.prog o_8f [.d (.int .i64 w)] [] (.d (.bool (decide (0 ≤ w ∧ w ≤ 64)))) [] := by
 refine Eqn.pure o_8h (o_3z _) ?_
 simp only [o_8g]
 by_cases h : 0 ≤ w
 ·refine G1 h ?_; try with_reducible exact tt
 ·have h' : w < 0 := by omega
  refine G1 (fs h h') ?_; try with_reducible exact tt

theorem o_db (n w : Nat) (hw : w ≤ 64) (h : n < 2 ^ w) : Eqn Try.prog o_8i [.d (.int .u64 n), .d (.int .i64 w)] [] (.d (.bool true)) [] := by
 refine Eqn.pure o_8k (o_3z _) ?_
 simp only [o_8j]
 by_cases h64 : w = 64
 ·subst h64
  refine G0 ?_; try with_reducible exact tt
 ·have h1 : ¬ (w : Int) = 64 := by omega
  have h2 : ((n : Int) / 2 ^ w) = 0 := by
   have : ((2 : Int) ^ w) = ((2 ^ w : Nat) : Int) := by rw [Int.natCast_pow]; rfl
   rw [this, ← Int.natCast_ediv, Nat.div_eq_of_lt h]; rfl
  have h3 : w < 64 := by omega
  refine G1 (fs h64 (fs h1 (fs h2 h3))) ?_; try with_reducible exact tt

theorem o_dc (x : Nat) (hx : x < 18446744073709551616) : bits BinOp.and IntKind.u64 (x : Int) 1 = ((x % 2 : Nat) : Int) := by
 show IntKind.u64.wrap (((BitVec.ofInt 64 (x : Int)) &&& (BitVec.ofInt 64 (1 : Int))).toNat : Int) = _
 have h1 : (BitVec.ofInt 64 (1 : Int)).toNat = 1 := by decide
 rw [BitVec.toNat_and, h1, BitVec.ofInt_natCast, BitVec.toNat_ofNat, Nat.mod_eq_of_lt (by omega), Nat.and_one_is_mod, IntKind.wrap_u64]
 omega

theorem o_dd (n w i : Nat) (h : i < w) : (bitsW n w).take (i + 1) = (bitsW n w).take i ++ [decide (n / 2 ^ (w - 1 - i) % 2 = 1)] := by
 rw [List.take_add_one, List.getElem?_eq_getElem (by simpa using h)]
 simp [bitsW]

set_option maxHeartbeats 1000000 in
theorem o_de (n w : Nat) (h0 : 0 < w) (hw : w ≤ 64) (h : n < 2 ^ w) (hn : n < 18446744073709551616) : Eqn Try.prog o_73 [.p 0 0, .d (.int .u64 n), .d (.int .i64 w)] [⟨36, [.d .nilsl, .d (.int .i64 0)]⟩] (.d (.int .i64 0)) [wrO 1 (bitsW n w), wrB (bitsW n w)] := by
 refine Eqn.gen [0, 1] o_75 (by simp) (by simp) (by rfl) (by decide) (by simp) (by simp [wrO, wrB]) ?_
 simp only [o_74]
 have hg := o_da w
 rw [show decide (0 ≤ (w : Int) ∧ (w : Int) ≤ 64) = true by simp; omega] at hg
 refine G0 ?_; try with_reducible exact tt
 refine CallS.pu (hg) (R0 ?_); try with_reducible exact tt
 refine CallS.pu (o_db n w hw h) (R0 ?_); try with_reducible exact tt
 refine AW.cond rfl (fun h => ?_) (fun h => ?_)
 ·simp at h
 clear h
 refine G0 ?_; try with_reducible exact tt
 refine AW.loopG (α := Nat) (fun i => [.p 0 0, .d (.int .u64 n), .d (.int .i64 w)] ++ List.replicate 3 .junk ++ [.d (.int .i64 0)] ++ List.replicate 10 .junk ++ [.d (.int .i64 w), .d (.int .i64 (i : Int))] ++ List.replicate 13 .junk) (fun i => if i = 0 then [some ⟨36, [.d .nilsl, .d (.int .i64 0)]⟩] else [some (wrO 1 ((bitsW n w).take i)), some (wrB ((bitsW n w).take i))]) (fun i => i ≤ w) (fun i => w - i) 0 ?_ (Nat.zero_le _) ?_ ?_ ?_
 ·intro i hi; split <;> simp
 ·simp
 ·simp
 rintro i hi
 obtain ⟨W, hW⟩ : ∃ W, W = w - 1 := ⟨_, rfl⟩
 have e2 : IntKind.i64.wrap ((w : Int) - 1) = (W : Int) := by rw [w64 (by omega) (by omega)]; omega
 have hnum : i < w → ∃ (S X : Nat) (b : Bool), IntKind.i64.wrap ((W : Int) - i) = (S : Int) ∧ S = W - i ∧ (n : Int) / 2 ^ S = (X : Int) ∧ bits BinOp.and IntKind.u64 (X : Int) 1 = (X : Int) % 2 ∧ ((X : Int) % 2 == 1) = b ∧ (bitsW n w).take (i + 1) = (bitsW n w).take i ++ [b] := by
  intro h
  refine ⟨W - i, n / 2 ^ (W - i), decide (n / 2 ^ (W - i) % 2 = 1), by rw [w64 (by omega) (by omega)]; omega, rfl, ?_, ?_, ?_, by rw [hW]; exact o_dd n w i h⟩
  ·rw [Int.natCast_ediv, Int.natCast_pow]; rfl
  ·exact o_dc _ (Nat.lt_of_le_of_lt (Nat.div_le_self _ _) hn)
  ·generalize n / 2 ^ (W - i) = z; rw [Bool.eq_iff_iff]; simp; omega
 have hend : (bitsW n w).take w = bitsW n w := List.take_of_length_le (by simp)
 have htl : ∀ k, k ≤ w → ((bitsW n w).take k).length = k := fun k h => by rw [List.length_take, o_ch]; omega
 have e1 : IntKind.i64.wrap ((i : Int) + 1) = ((i + 1 : Nat) : Int) := by rw [w64 (by omega) (by omega)]; omega
 by_cases hiw : i = w
 ·subst hiw
  rw [if_neg (by omega), hend]
  generalize bitsW n i = bs at *
  simp [wrO, wrB]
  refine G0 ?_; try with_reducible exact tt
  refine AW.cond rfl (fun h => ?_) (fun h => ?_)
  ·simp at h
  refine G0 ?_; try with_reducible exact tt
 ·have hlt : i < w := by omega
  have hlt' : (i : Int) < w := by omega
  obtain ⟨S, X, b, e3, e4, e5, e6, e7, e8⟩ := hnum hlt
  have e4' : (S : Int) ≤ 64 := by omega
  have e4w : (W : Int) ≤ 64 := by omega
  by_cases hi0 : i = 0
  ·subst hi0
   rw [if_pos rfl]
   rw [Nat.sub_zero] at e4
   subst e4
   simp
   refine G1 (fs hlt hlt') ?_; try with_reducible exact tt
   refine AW.cond rfl (fun h => ?_) (fun h => ?_)
   ·refine G1 (fs e2 (fs e4w (fs e5 (fs e6 e7)))) ?_; try with_reducible exact tt
    simp only [Int.toNat_natCast, e5, e6, e7]
    refine CallS.g [0] (o_d6 b) (R0 ?_); try with_reducible exact tt
    refine ⟨1, 1, 1, by simp, by omega, by omega, ?_, ?_⟩
    ·simp [swT, sw, V.ren, V.rens]
    ·simp at e8
     simp [swH, sw, Ob.sw, V.ren, V.rens, e8, wrO, wrB]
   ·simp [hlt'] at h
  ·rw [if_neg hi0]
   have hne : (bitsW n w).take i ≠ [] := fun h => by have := htl i hi; rw [h] at this; simp at this; omega
   have hB := o_d7 ((bitsW n w).take i) b hne (by have := htl i hi; omega)
   rw [← e8] at hB
   have hk := htl (i + 1) (by omega)
   have hk0 := htl i hi
   simp only [wrO, wrB, hk, hk0] at hB ⊢
   simp
   refine G1 (fs hlt hlt') ?_; try with_reducible exact tt
   refine AW.cond rfl (fun h => ?_) (fun h => ?_)
   ·refine G1 (fs e2 (fs e3 (fs e4' (fs e5 (fs e6 e7))))) ?_; try with_reducible exact tt
    refine CallS.g [0, 1] (hB) (R1 e1 ?_); try with_reducible exact tt
    refine ⟨i + 1, 1, 2, by simp, by omega, by omega, ?_, ?_⟩
    ·simp [swT, sw, V.ren, V.rens, e1]
    ·have hmin : min (i + 1) w = i + 1 := Nat.min_eq_left (by omega)
     simp [swH, sw, Ob.sw, V.ren, V.rens, hk, hmin]
   ·simp [hlt'] at h
end
end Go.Proofs.Ytlelpbaeplcfiaa.Am
namespace Go.Proofs.Ytlelpbaeplcfiaa.Am
section
open Go.RowKit
set_option maxHeartbeats 1000000 in
theorem o_df (bs : List Bool) (n w : Nat) (hbs : bs ≠ []) (hbl : bs.length ≤ 900000) (hw : w ≤ 64) (h : n < 2 ^ w) (hn : n < 18446744073709551616) : EqnD Try.prog o_73 [.p 0 0, .d (.int .u64 n), .d (.int .i64 w)] [wrO 1 bs, wrB bs] (.d (.int .i64 0)) [wrO 2 (bs ++ bitsW n w), wrB bs, wrB (bs ++ bitsW n w)] [1] := by
 have hg := o_da w
 rw [show decide (0 ≤ (w : Int) ∧ (w : Int) ≤ 64) = true by simp; omega] at hg
 by_cases hw0 : w = 0
 ·subst hw0
  refine Eqn.gen [0, 1, 1] o_75 (by simp) (by simp) (by rfl) (by decide) (by simp) (by simp [wrO, wrB]) ?_
  rw [show bitsW n 0 = [] by rfl, List.append_nil]
  simp only [o_74, wrO, wrB]
  have hf := o_db n 0 hw h
  simp at hg hf
  refine G0 ?_; try with_reducible exact tt
  refine CallS.pu (hg) (R0 ?_); try with_reducible exact tt
  refine CallS.pu (hf) (R0 ?_); try with_reducible exact tt
  refine AW.cond rfl (fun h => ?_) (fun h => ?_)
  ·simp at h
  clear h
  refine G0 ?_; try with_reducible exact tt
  refine AW.loopT (α := Nat) 2 (fun i => [(18, .d (.int .i64 0))]) (fun i => []) (fun i => i = 0) (fun i => i) 0 ?_ ?_ rfl ?_ ?_ ?_
  ·simp
  ·simp
  ·simp
  ·simp
  rintro i rfl
  simp
  refine G0 ?_; try with_reducible exact tt
  refine AW.cond rfl (fun h => ?_) (fun h => ?_)
  ·simp at h
  refine G0 ?_; try with_reducible exact tt
 have h0 : 0 < w := by omega
 refine Eqn.gen [0, 1, 2] o_75 (by simp) (by simp) (by rfl) (by decide) (by simp) (by simp [wrO, wrB]) ?_
 simp only [o_74]
 refine G0 ?_; try with_reducible exact tt
 refine CallS.pu (hg) (R0 ?_); try with_reducible exact tt
 refine CallS.pu (o_db n w hw h) (R0 ?_); try with_reducible exact tt
 refine AW.cond rfl (fun h => ?_) (fun h => ?_)
 ·simp at h
 clear h
 refine G0 ?_; try with_reducible exact tt
 refine AW.loopG (α := Nat) (fun i => [.p 0 0, .d (.int .u64 n), .d (.int .i64 w)] ++ List.replicate 3 .junk ++ [.d (.int .i64 0)] ++ List.replicate 10 .junk ++ [.d (.int .i64 w), .d (.int .i64 (i : Int))] ++ List.replicate 13 .junk) (fun i => if i = 0 then [some (wrO 1 bs), some (wrB bs)] else [some (wrO 2 (bs ++ (bitsW n w).take i)), none, some (wrB (bs ++ (bitsW n w).take i))]) (fun i => i ≤ w) (fun i => w - i) 0 ?_ (Nat.zero_le _) ?_ ?_ ?_
 ·intro i hi; split <;> simp
 ·simp
 ·simp [wrO, wrB]
 rintro i hi
 obtain ⟨W, hW⟩ : ∃ W, W = w - 1 := ⟨_, rfl⟩
 have e2 : IntKind.i64.wrap ((w : Int) - 1) = (W : Int) := by rw [w64 (by omega) (by omega)]; omega
 have hnum : i < w → ∃ (S X : Nat) (b : Bool), IntKind.i64.wrap ((W : Int) - i) = (S : Int) ∧ S = W - i ∧ (n : Int) / 2 ^ S = (X : Int) ∧ bits BinOp.and IntKind.u64 (X : Int) 1 = (X : Int) % 2 ∧ ((X : Int) % 2 == 1) = b ∧ bs ++ (bitsW n w).take (i + 1) = (bs ++ (bitsW n w).take i) ++ [b] := by
  intro h
  refine ⟨W - i, n / 2 ^ (W - i), decide (n / 2 ^ (W - i) % 2 = 1), by rw [w64 (by omega) (by omega)]; omega, rfl, ?_, ?_, ?_, by rw [hW, List.append_assoc]; congr 1; exact o_dd n w i h⟩
  ·rw [Int.natCast_ediv, Int.natCast_pow]; rfl
  ·exact o_dc _ (Nat.lt_of_le_of_lt (Nat.div_le_self _ _) hn)
  ·generalize n / 2 ^ (W - i) = z; rw [Bool.eq_iff_iff]; simp; omega
 have hend : (bitsW n w).take w = bitsW n w := List.take_of_length_le (by simp)
 have htl : ∀ k, k ≤ w → (bs ++ (bitsW n w).take k).length = bs.length + k := fun k h => by rw [List.length_append, List.length_take, o_ch]; omega
 have e1 : IntKind.i64.wrap ((i : Int) + 1) = ((i + 1 : Nat) : Int) := by rw [w64 (by omega) (by omega)]; omega
 by_cases hiw : i = w
 ·subst hiw
  rw [if_neg (by omega), hend]
  generalize bs ++ bitsW n i = cs at *
  simp [wrO, wrB]
  refine G0 ?_; try with_reducible exact tt
  refine AW.cond rfl (fun h => ?_) (fun h => ?_)
  ·simp at h
  refine G0 ?_; try with_reducible exact tt
 ·have hlt : i < w := by omega
  have hlt' : (i : Int) < w := by omega
  obtain ⟨S, X, b, e3, e4, e5, e6, e7, e8⟩ := hnum hlt
  have e4' : (S : Int) ≤ 64 := by omega
  have e4w : (W : Int) ≤ 64 := by omega
  have hne : bs ++ (bitsW n w).take i ≠ [] := fun h => hbs (List.append_eq_nil_iff.1 h).1
  have hB := o_d7 (bs ++ (bitsW n w).take i) b hne (by have := htl i hi; omega)
  rw [← e8] at hB
  have hk := htl (i + 1) (by omega)
  have hk0 := htl i hi
  have hmin : min (i + 1) w = i + 1 := Nat.min_eq_left (by omega)
  generalize hX1 : bs ++ (bitsW n w).take (i + 1) = X1 at *
  by_cases hi0 : i = 0
  ·subst hi0
   rw [if_pos rfl]
   rw [Nat.sub_zero] at e4
   subst e4
   simp only [List.take_zero, List.append_nil] at hB
   simp only [wrO, wrB, hk] at hB ⊢
   simp
   refine G1 (fs hlt hlt') ?_; try with_reducible exact tt
   refine AW.cond rfl (fun h => ?_) (fun h => ?_)
   ·refine G1 (fs e2 (fs e4w (fs e5 (fs e6 e7)))) ?_; try with_reducible exact tt
    simp only [Int.toNat_natCast, e5, e6, e7]
    refine CallS.g [0, 1] (hB) (R1 e1 ?_); try with_reducible exact tt
    refine ⟨1, 2, 2, by simp, by omega, by omega, ?_, ?_⟩
    ·simp [swT, sw, V.ren, V.rens]
    ·simp at hX1
     have hmin1 : min 1 w = 1 := Nat.min_eq_left (by omega)
     simp [swH, sw, Ob.sw, V.ren, V.rens, hX1, hk, hmin1]
   ·simp [hlt'] at h
  ·rw [if_neg hi0]
   simp only [wrO, wrB, hk, hk0] at hB ⊢
   simp
   refine G1 (fs hlt hlt') ?_; try with_reducible exact tt
   refine AW.cond rfl (fun h => ?_) (fun h => ?_)
   ·refine G1 (fs e2 (fs e3 (fs e4' (fs e5 (fs e6 e7))))) ?_; try with_reducible exact tt
    refine CallS.g [0, 2] (hB) (R1 e1 ?_); try with_reducible exact tt
    refine ⟨i + 1, 2, 3, by simp, by omega, by omega, ?_, ?_⟩
    ·simp [swT, sw, V.ren, V.rens, e1]
    ·simp [swH, sw, Ob.sw, V.ren, V.rens, hX1, hk, hmin]
   ·simp [hlt'] at h

def rdO (ws : List Nat) (at_ : Nat) : Ob := ⟨79, [.d (BY ws), .d (.int .i64 at_)]⟩

theorem o_dg (n : Nat) (l : List D) (hl : l.length = n) (hn : n ≤ 4000000) : Eqn Try.prog o_7c [.d (.sl n l)] [] (.d (.sl n l)) [] := by
 refine Eqn.pure o_7e (o_3z _) ?_
 simp only [o_7d]
 rcases Nat.eq_zero_or_pos n with rfl | h0
 ·have : l = [] := List.eq_nil_of_length_eq_zero hl
  subst this
  refine AW.empty 0 rfl ?_ ?_
  ·simp
   refine G0 ?_; try with_reducible exact tt
   refine AW.cond rfl (fun h => ?_) (fun h => ?_)
   ·refine G0 ?_; try with_reducible exact tt
    exact Sub1.nil
   ·simp at h
  ·simp
   refine G0 ?_; try with_reducible exact tt
   refine AW.cond rfl (fun h => ?_) (fun h => ?_)
   ·simp at h
   ·refine G0 ?_; try with_reducible exact tt
    exact Sub1.sl0
 ·refine G1 h0 ?_; try with_reducible exact tt
  refine AW.cond rfl (fun h => ?_) (fun h => ?_)
  ·simp at h
  ·refine G0 ?_; try with_reducible exact tt
   have h1 : ¬ n = 0 := by omega
   simp [h1, hl]
   refine need.of (by omega) ?_
   refine AW.freeze 0 1 ⟨5, l.map .d⟩ l (by simp) rfl ?_
   simp
   refine G0 ?_; try with_reducible exact tt
   have : l.take n = l := List.take_of_length_le (by omega)
   simp [this]

theorem o_dh (ws : List Nat) (hn : ws.length ≤ 4000000) : Eqn Try.prog o_5l [.d (BY ws)] [] (.p 0 0) [rdO ws 0] := by
 refine Eqn.new1 o_5n ⟨rfl, fun _ => rfl⟩ ?_
 simp only [o_5m, BY, rdO]
 refine G0 ?_; try with_reducible exact tt
 refine CallS.pu (o_dg _ (ws.map fun x : Nat => .int .u8 x) (by simp) hn) (R0 ?_); try with_reducible exact tt

theorem o_di (ws : List Nat) (a : Nat) (hn : ws.length ≤ 4000000) (ha : a ≤ 8 * ws.length) : Eqn Try.prog o_6r [.p 0 0] [rdO ws a] (.d (.int .i64 (8 * ws.length - a : Nat))) [rdO ws a] := by
 refine Eqn.obj1 o_6t (o_3z _) ⟨rfl, fun _ => rfl⟩ ?_
 simp only [o_6s, BY, rdO]
 have e1 : IntKind.i64.wrap (8 * (ws.length : Int)) = 8 * (ws.length : Int) := w64 (by omega) (by omega)
 have e2 : IntKind.i64.wrap (8 * (ws.length : Int) - a) = ((8 * ws.length - a : Nat) : Int) := by rw [w64 (by omega) (by omega)]; omega
 refine G1 (fs e1 e2) ?_; try with_reducible exact tt

theorem o_dj (x : Nat) (hx : x < 256) : bits BinOp.and IntKind.u8 (x : Int) 1 = (x : Int) % 2 := by
 show IntKind.u8.wrap (((BitVec.ofInt 8 (x : Int)) &&& (BitVec.ofInt 8 (1 : Int))).toNat : Int) = _
 have h1 : (BitVec.ofInt 8 (1 : Int)).toNat = 1 := by decide
 rw [BitVec.toNat_and, h1, BitVec.ofInt_natCast, BitVec.toNat_ofNat, Nat.mod_eq_of_lt (by omega), Nat.and_one_is_mod, IntKind.wrap_u8]
 omega

def smallB (ws : List Nat) : Prop := ∀ x ∈ ws, x < 256
theorem o_dk (ws : List Nat) (a : Nat) (hs : smallB ws) (hn : ws.length ≤ 4000000) (ha : a < 8 * ws.length) : Eqn Try.prog o_9x [.p 0 0] [rdO ws a] (.d (.int .u64 (b2n ((bitsOf ws).getD a false)))) [rdO ws (a + 1)] := by
 refine Eqn.obj1 o_9z (o_3z _) ⟨rfl, fun _ => rfl⟩ ?_
 rw [o_cw ws a ha]
 have hq : a / 8 < ws.length := by omega
 have hx : ws.getD (a / 8) 0 < 256 := by
  rw [List.getD_eq_getElem?_getD, List.getElem?_eq_getElem hq]; exact hs _ (List.getElem_mem hq)
 have hg : ∀ z : D, (ws.map fun x : Nat => D.int .u8 x)[a / 8]?.getD z = .int .u8 (ws.getD (a / 8) 0 : Nat) := fun z => by simp [hq]
 have e1 : IntKind.i64.wrap ((a : Int) / 8) = ((a / 8 : Nat) : Int) := by rw [w64 (by omega) (by omega)]; rfl
 have e2 : (a : Int).tmod 8 = ((a % 8 : Nat) : Int) := by rw [Int.tmod_eq_emod_of_nonneg (by omega)]; rfl
 have e2' : (a : Int) % 8 = ((a % 8 : Nat) : Int) := rfl
 have e3 : IntKind.i64.wrap (7 - ((a % 8 : Nat) : Int)) = ((7 - a % 8 : Nat) : Int) := by rw [w64 (by omega) (by omega)]; omega
 have e4 : ((7 - a % 8 : Nat) : Int) ≤ 8 := by omega
 have e7 : IntKind.i64.wrap ((a : Int) + 1) = ((a + 1 : Nat) : Int) := by rw [w64 (by omega) (by omega)]; omega
 simp only [o_9y, BY, rdO]
 generalize a % 8 = r at *
 generalize 7 - r = S at *
 generalize hb : ws.getD (a / 8) 0 = x at *
 have e5 : (x : Int) / 2 ^ S = ((x / 2 ^ S : Nat) : Int) := by rw [Int.natCast_ediv, Int.natCast_pow]; rfl
 have hxS : x / 2 ^ S < 256 := Nat.lt_of_le_of_lt (Nat.div_le_self _ _) hx
 generalize x / 2 ^ S = X at *
 have e6 := o_dj X hxS
 have e8 : IntKind.u64.wrap ((X : Int) % 2) = (b2n (decide (X % 2 = 1)) : Nat) := by
  rcases Nat.mod_two_eq_zero_or_one X with h | h
  ·rw [show (X : Int) % 2 = 0 by omega]; simp [h, b2n]; exact wu64 (by omega) (by omega)
  ·rw [show (X : Int) % 2 = 1 by omega]; simp [h, b2n]; exact wu64 (by omega) (by omega)
 generalize b2n (decide (X % 2 = 1)) = B at *
 generalize a / 8 = q at *
 have hq' : q < (ws.map fun x : Nat => D.int .u8 x).length := by simpa using hq
 generalize (ws.map fun x : Nat => D.int .u8 x) = l at *
 generalize ws.length = n at *
 refine G1 (fs e1 (fs e2 (fs e2' (fs e3 (fs e4 (fs e5 (fs e6 (fs e7 (fs e8 hg))))))))) ?_; try with_reducible exact tt
end
end Go.Proofs.Ytlelpbaeplcfiaa.Am
namespace Go.Proofs.Ytlelpbaeplcfiaa.Am
section
open Go.RowKit
theorem o_dl (x y : Nat) (hx : x < 18446744073709551616) (hy : y < 18446744073709551616) : bits BinOp.or IntKind.u64 (x : Int) (y : Int) = ((x ||| y : Nat) : Int) := by
 show IntKind.u64.wrap (((BitVec.ofInt 64 (x : Int)) ||| (BitVec.ofInt 64 (y : Int))).toNat : Int) = _
 rw [BitVec.toNat_or, BitVec.ofInt_natCast, BitVec.ofInt_natCast, BitVec.toNat_ofNat, BitVec.toNat_ofNat, Nat.mod_eq_of_lt (by omega), Nat.mod_eq_of_lt (by omega)]
 have := Nat.or_lt_two_pow (n := 64) (x := x) (y := y) hx hy
 rw [IntKind.wrap_u64]
 omega
theorem o_dm (n b : Nat) (hb : b ≤ 1) : (n * 2) ||| b = n * 2 + b := by
 have := Nat.two_pow_add_eq_or_of_lt (i := 1) (b := b) (by omega) n
 rw [Nat.pow_one, Nat.mul_comm] at this
 exact this.symm

def numAt (ws : List Nat) (a w : Nat) : Nat := numB (((bitsOf ws).drop a).take w) 0
theorem o_dn (ws : List Nat) (a : Nat) : numAt ws a 0 = 0 := by simp [numAt, numB]
theorem o_do (ws : List Nat) (a i : Nat) (h : a + i < 8 * ws.length) : numAt ws a (i + 1) = 2 * numAt ws a i + b2n ((bitsOf ws).getD (a + i) false) := by
 unfold numAt
 rw [List.take_add_one, o_ce, List.getElem?_drop, List.getD_eq_getElem?_getD, List.getElem?_eq_getElem (by simpa using h)]
 rfl
theorem o_dp (ws : List Nat) (a w : Nat) : numAt ws a w < 2 ^ w := by
 unfold numAt
 refine Nat.lt_of_lt_of_le (o_cg _) (Nat.pow_le_pow_right (by omega) ?_)
 rw [List.length_take]; omega

theorem o_dq (ws : List Nat) (a w : Nat) (hs : smallB ws) (hw : w ≤ 64) (hn : ws.length ≤ 4000000) (h : a + w ≤ 8 * ws.length) : Eqn Try.prog o_83 [.p 0 0, .d (.int .i64 w)] [rdO ws a] (.tup [.d (.int .u64 (numAt ws a w)), .d (.int .i64 0)]) [rdO ws (a + w)] := by
 refine Eqn.obj1 o_85 Plain.ok ⟨rfl, fun _ => rfl⟩ ?_
 have hg := o_da w
 rw [show decide (0 ≤ (w : Int) ∧ (w : Int) ≤ 64) = true by simp; omega] at hg
 have hl := o_di ws a hn (by omega)
 have hnx := fun i (hi : i < w) => o_dk ws (a + i) hs hn (by omega)
 obtain ⟨F, hF⟩ : ∃ F, F = a + w := ⟨_, rfl⟩
 rw [← hF]
 simp only [o_84, rdO] at hl hnx ⊢
 have hL : ¬ 8 * ws.length - a < w := by omega
 have hB := fun i (hi : i < w) => o_do ws a i (by omega)
 have hlt := fun i => o_dp ws a i
 have hz := o_dn ws a
 have hbl : ∀ x, b2n ((bitsOf ws).getD x false) ≤ 1 := fun x => o_cd _
 generalize 8 * ws.length - a = L at *
 generalize BY ws = B at *
 generalize numAt ws a = N at *
 generalize bitsOf ws = bs at *
 have h' : ¬ (L : Int) < w := by omega
 refine G0 ?_; try with_reducible exact tt
 refine CallS.pu (hg) (R0 ?_); try with_reducible exact tt
 refine AW.cond rfl (fun h => ?_) (fun h => ?_)
 ·simp at h
 refine G0 ?_; try with_reducible exact tt
 refine CallS.o1 0 (hl) (R1 h' ?_); try with_reducible exact tt
 refine AW.cond rfl (fun h => ?_) (fun h => ?_)
 ·simp [h'] at h
 clear h
 refine G0 ?_; try with_reducible exact tt
 refine AW.loopT (α := Nat) 1 (fun i => [(6, .d (.int .u64 (N i : Nat))), (17, .d (.int .i64 (i : Int)))]) (fun i => [(0, ⟨79, [.d B, .d (.int .i64 (a + i : Nat))]⟩)]) (fun i => i ≤ w) (fun i => w - i) 0 ?_ ?_ (Nat.zero_le _) ?_ ?_ ?_
 ·simp
 ·simp
 ·simp [hz]
 ·simp
 rintro i hi
 obtain ⟨Q, hQ⟩ : ∃ Q, Q = a + i := ⟨_, rfl⟩
 rw [← hQ]
 simp
 by_cases hiw : i = w
 ·subst hiw
  obtain rfl : Q = F := by omega
  refine G0 ?_; try with_reducible exact tt
  refine AW.cond rfl (fun h => ?_) (fun h => ?_)
  ·simp at h
  refine G0 ?_; try with_reducible exact tt
 ·have hlt1 : i < w := by omega
  have hlt2 : (i : Int) < w := by omega
  have hb := hB i hlt1
  have hx := hnx i hlt1
  rw [← hQ] at hb hx
  have e1 : IntKind.i64.wrap ((i : Int) + 1) = ((i + 1 : Nat) : Int) := by rw [w64 (by omega) (by omega)]; omega
  have hp : (2 : Nat) ^ (i + 1) ≤ 2 ^ 64 := Nat.pow_le_pow_right (by omega) (by omega)
  have hN := hlt (i + 1)
  have hb1 := hbl Q
  generalize b2n (bs.getD Q false) = b at *
  have e2 : IntKind.u64.wrap ((N i : Int) * 2) = ((N i * 2 : Nat) : Int) := by rw [wu64 (by omega) (by omega)]; omega
  have e3 : bits BinOp.or IntKind.u64 ((N i * 2 : Nat) : Int) (b : Int) = (N (i + 1) : Nat) := by
   rw [o_dl _ _ (by omega) (by omega), o_dm _ _ hb1, hb]; omega
  have eQ : Q + 1 = a + (i + 1) := by omega
  rw [eQ] at hx
  generalize N i * 2 = N2 at *
  refine G1 (fs hlt1 hlt2) ?_; try with_reducible exact tt
  refine AW.cond rfl (fun h => ?_) (fun h => ?_)
  ·refine G1 e2 ?_; try with_reducible exact tt
   refine CallS.o1 0 (hx) (R1 (fs e1 (fs e2 e3)) ?_); try with_reducible exact tt
   exact ⟨i + 1, by omega, by omega, by simp [e1, e3]; try omega⟩
  ·simp [hlt2] at h
end
end Go.Proofs.Ytlelpbaeplcfiaa.Am
namespace Go.Proofs.Ytlelpbaeplcfiaa.Am
section
open Go.RowKit
def wellTB (a b y t : Nat) (f : Bool) : Bool := decide (y ≤ a) && (decide (t ≤ b) && (!f || t == b))
theorem o_dr {a b : Nat} (h : GoodT a b) (y t : Nat) (f : Bool) : Eqn Try.prog o_a6 [.d (tpD a b), .d (tsD y t f)] [] (.d (.bool (wellTB a b y t f))) [] := by
 refine Eqn.pure o_a8 Plain.ok ?_
 have hc := o_ca h
 have g3 : (0 : Int) ≤ y := by omega
 have g4 : (0 : Int) ≤ t := by omega
 simp only [o_a7, tpD, tsD, wellTB] at hc ⊢
 by_cases h1 : y ≤ a
 ·have h1' : (y : Int) ≤ a := by omega
  by_cases h2 : t ≤ b
  ·have h2' : (t : Int) ≤ b := by omega
   cases f with
   | true =>
    by_cases h3 : t = b
    ·subst h3
     refine G1 (fs g3 (fs g4 (fs h1 (fs h1' (fs h2 h2'))))) ?_; try with_reducible exact tt
     refine CallS.pu (hc) (R1 (fs g3 (fs g4 (fs h1 (fs h1' (fs h2 h2'))))) ?_); try with_reducible exact tt
    ·have h3' : ¬ (t : Int) = b := by omega
     refine G1 (fs g3 (fs g4 (fs h1 (fs h1' (fs h2 (fs h2' (fs h3 h3'))))))) ?_; try with_reducible exact tt
     refine CallS.pu (hc) (R1 (fs g3 (fs g4 (fs h1 (fs h1' (fs h2 (fs h2' (fs h3 h3'))))))) ?_); try with_reducible exact tt
     exact Sub1.bool (by rw [Bool.eq_iff_iff]; simp; omega)
   | false =>
    refine G1 (fs g3 (fs g4 (fs h1 (fs h1' (fs h2 h2'))))) ?_; try with_reducible exact tt
    refine CallS.pu (hc) (R1 (fs g3 (fs g4 (fs h1 (fs h1' (fs h2 h2'))))) ?_); try with_reducible exact tt
  ·have h2' : ¬ (t : Int) ≤ b := by omega
   refine G1 (fs g3 (fs g4 (fs h1 (fs h1' (fs h2 h2'))))) ?_; try with_reducible exact tt
   refine CallS.pu (hc) (R1 (fs g3 (fs g4 (fs h1 (fs h1' (fs h2 h2'))))) ?_); try with_reducible exact tt
 ·have h1' : ¬ (y : Int) ≤ a := by omega
  refine G1 (fs g3 (fs g4 (fs h1 h1'))) ?_; try with_reducible exact tt
  refine CallS.pu (hc) (R1 (fs g3 (fs g4 (fs h1 h1'))) ?_); try with_reducible exact tt

theorem o_ds (k a b : Int) : Eqn Try.prog o_9i [.d (parD k a b)] [] (.d (tpD a b)) [] := by
 refine Eqn.pure o_9k Plain.ok ?_
 simp only [o_9j, parD, tpD]
 refine G0 ?_; try with_reducible exact tt
theorem o_dt (k a b : Int) : Eqn Try.prog o_9o [.d (parD k a b)] [] (.d (parD k a b)) [] := by
 refine Eqn.pure o_9q Plain.ok ?_
 simp only [o_9p, parD]
 refine G0 ?_; try with_reducible exact tt
theorem o_du (y t : Int) (f : Bool) : Eqn Try.prog o_a9 [.d (.agg [.int .i64 y, .int .i64 t, .bool f])] [] (.d (.agg [.int .i64 y, .int .i64 t, .bool f])) [] := by
 refine Eqn.pure o_ab Plain.ok ?_
 simp only [o_aa]
 refine G0 ?_; try with_reducible exact tt
theorem o_dv {k a b : Nat} (h : GoodR k a b) : Eqn Try.prog o_7r [.d (parD k a b)] [] (.d (.int .i64 0)) [] := by
 refine Eqn.pure o_7t Plain.ok ?_
 rcases h with ⟨rfl, h⟩ | ⟨hk, h⟩
 ·have h1 := o_ds 4 a b
  have h2 := o_ca h
  simp only [o_7s, parD, tpD] at h1 h2 ⊢
  refine G0 ?_; try with_reducible exact tt
  refine AW.cond rfl (fun h => ?_) (fun h => ?_)
  ·refine G0 ?_; try with_reducible exact tt
   refine CallS.pu (h1) (R0 ?_); try with_reducible exact tt
   refine CallS.pu (h2) (R0 ?_); try with_reducible exact tt
  ·simp at h
 ·have h1 := o_dt k a b
  have h2 := o_cc h
  have hk' : ¬ (k : Int) = 4 := by omega
  simp only [o_7s, parD] at h1 h2 ⊢
  refine G1 (fs hk hk') ?_; try with_reducible exact tt
  refine AW.cond rfl (fun h => ?_) (fun h => ?_)
  ·simp [hk'] at h
  ·refine G0 ?_; try with_reducible exact tt
   refine CallS.pu (h1) (R0 ?_); try with_reducible exact tt
   refine CallS.pu (h2) (R0 ?_); try with_reducible exact tt

def wellRB (k a b y t : Nat) (f : Bool) : Bool := if k = 4 then wellTB a b y t f else (t == 0) && (decide (y ≤ 2 ^ b - 1) && (!f || y == 2 ^ b - 1))
theorem o_dw {k a b y t : Nat} {f : Bool} : wellRB k a b y t f = true ↔ WellR k a b y t f := by
 unfold wellRB WellR wellTB WellT
 by_cases hk : k = 4
 ·subst hk
  simp
  intro _ _
  cases f <;> simp
 ·simp [hk]
  intro _ _
  cases f <;> simp

theorem o_dx {k a b : Nat} (h : GoodR k a b) (y t : Nat) (f : Bool) : Eqn Try.prog o_90 [.d (parD k a b), .d (tsD y t f)] [] (.d (.bool (wellRB k a b y t f))) [] := by
 refine Eqn.pure o_92 Plain.ok ?_
 have hc := o_dv h
 rcases h with ⟨rfl, h⟩ | ⟨hk, h⟩
 ·have h1 := o_ds 4 a b
  have h2 := o_dr h y t f
  have h3 := o_du y t f
  simp only [o_91, parD, tpD, tsD, wellRB, if_true] at hc h1 h2 h3 ⊢
  generalize wellTB a b y t f = w at *
  refine G0 ?_; try with_reducible exact tt
  refine CallS.pu (hc) (R0 ?_); try with_reducible exact tt
  refine AW.cond rfl (fun h => ?_) (fun h => ?_)
  ·simp at h
  refine G0 ?_; try with_reducible exact tt
  refine AW.cond rfl (fun h => ?_) (fun h => ?_)
  ·refine G0 ?_; try with_reducible exact tt
   refine CallS.pu (h1) (R0 ?_); try with_reducible exact tt
   refine CallS.pu (h3) (R0 ?_); try with_reducible exact tt
   refine CallS.pu (h2) (R0 ?_); try with_reducible exact tt
  ·simp at h
 ·have h1 := o_dt k a b
  have h2 := o_c6 k a b h.2.2 (o_cc h)
  have hk' : ¬ (k : Int) = 4 := by omega
  have g : (0 : Int) ≤ y := by omega
  simp only [o_91, parD, tsD, wellRB, if_neg hk] at hc h1 h2 ⊢
  generalize 2 ^ b - 1 = S at *
  by_cases ht : t = 0
  ·subst ht
   by_cases hy : y ≤ S
   ·have hy' : (y : Int) ≤ S := by omega
    cases f with
    | true =>
     by_cases hs : y = S
     ·subst hs
      refine G1 (fs g (fs hk hk')) ?_; try with_reducible exact tt
      refine CallS.pu (hc) (R1 (fs g (fs hk hk')) ?_); try with_reducible exact tt
      refine AW.cond rfl (fun h => ?_) (fun h => ?_)
      ·simp at h
      refine G1 (fs g (fs hk hk')) ?_; try with_reducible exact tt
      refine AW.cond rfl (fun h => ?_) (fun h => ?_)
      ·simp [hk'] at h
      refine G1 g ?_; try with_reducible exact tt
      refine CallS.pu (h1) (R1 g ?_); try with_reducible exact tt
      refine CallS.pu (h2) (R1 g ?_); try with_reducible exact tt
     ·have hs' : ¬ (y : Int) = S := by omega
      refine G1 (fs g (fs hk (fs hk' (fs hy (fs hy' (fs hs hs')))))) ?_; try with_reducible exact tt
      refine CallS.pu (hc) (R1 (fs g (fs hk (fs hk' (fs hy (fs hy' (fs hs hs')))))) ?_); try with_reducible exact tt
      refine AW.cond rfl (fun h => ?_) (fun h => ?_)
      ·simp at h
      refine G1 (fs g (fs hk (fs hk' (fs hy (fs hy' (fs hs hs')))))) ?_; try with_reducible exact tt
      refine AW.cond rfl (fun h => ?_) (fun h => ?_)
      ·simp [hk'] at h
      refine G1 g ?_; try with_reducible exact tt
      refine CallS.pu (h1) (R1 g ?_); try with_reducible exact tt
      refine CallS.pu (h2) (R1 (fs g (fs hy (fs hy' (fs hs hs')))) ?_); try with_reducible exact tt
      exact Sub1.bool (by rw [Bool.eq_iff_iff]; simp; omega)
    | false =>
     refine G1 (fs g (fs hk (fs hk' (fs hy hy')))) ?_; try with_reducible exact tt
     refine CallS.pu (hc) (R1 (fs g (fs hk (fs hk' (fs hy hy')))) ?_); try with_reducible exact tt
     refine AW.cond rfl (fun h => ?_) (fun h => ?_)
     ·simp at h
     refine G1 (fs g (fs hk (fs hk' (fs hy hy')))) ?_; try with_reducible exact tt
     refine AW.cond rfl (fun h => ?_) (fun h => ?_)
     ·simp [hk'] at h
     refine G1 g ?_; try with_reducible exact tt
     refine CallS.pu (h1) (R1 g ?_); try with_reducible exact tt
     refine CallS.pu (h2) (R1 (fs g (fs hy hy')) ?_); try with_reducible exact tt
   ·have hy' : ¬ (y : Int) ≤ S := by omega
    refine G1 (fs g (fs hk (fs hk' (fs hy hy')))) ?_; try with_reducible exact tt
    refine CallS.pu (hc) (R1 (fs g (fs hk (fs hk' (fs hy hy')))) ?_); try with_reducible exact tt
    refine AW.cond rfl (fun h => ?_) (fun h => ?_)
    ·simp at h
    refine G1 (fs g (fs hk (fs hk' (fs hy hy')))) ?_; try with_reducible exact tt
    refine AW.cond rfl (fun h => ?_) (fun h => ?_)
    ·simp [hk'] at h
    refine G1 g ?_; try with_reducible exact tt
    refine CallS.pu (h1) (R1 g ?_); try with_reducible exact tt
    refine CallS.pu (h2) (R1 (fs g (fs hy hy')) ?_); try with_reducible exact tt
  ·have ht' : ¬ (t : Int) = 0 := by omega
   refine G1 (fs g (fs hk (fs hk' (fs ht ht')))) ?_; try with_reducible exact tt
   refine CallS.pu (hc) (R1 (fs g (fs hk (fs hk' (fs ht ht')))) ?_); try with_reducible exact tt
   refine AW.cond rfl (fun h => ?_) (fun h => ?_)
   ·simp at h
   refine G1 (fs g (fs hk (fs hk' (fs ht ht')))) ?_; try with_reducible exact tt
   refine AW.cond rfl (fun h => ?_) (fun h => ?_)
   ·simp [hk'] at h
   refine G1 g ?_; try with_reducible exact tt
   refine CallS.pu (h1) (R1 g ?_); try with_reducible exact tt
   refine CallS.pu (h2) (R1 (fs g (fs ht ht')) ?_); try with_reducible exact tt
   exact Sub1.bool (by simp [ht])

theorem o_dy {k a b y t : Nat} {f : Bool} (h : GoodR k a b) (hw : WellR k a b y t f) : Eqn Try.prog o_9u [.d (parD k a b), .d (.sl 1 [.int .i64 y, .int .i64 t, .bool f])] [] (.d (.int .i64 0)) [] := by
 refine Eqn.pure o_9w Plain.ok ?_
 have hc := o_dv h
 have hw1 := o_dx h y t f
 rw [o_dw.2 hw] at hw1
 simp only [o_9v, parD, tsD] at hc hw1 ⊢
 refine G0 ?_; try with_reducible exact tt
 refine CallS.pu (hc) (R0 ?_); try with_reducible exact tt
 refine AW.cond rfl (fun h => ?_) (fun h => ?_)
 ·simp at h
 refine G0 ?_; try with_reducible exact tt
 refine AW.loopT (α := Nat) 1 (fun i => [(15, .d (.int .i64 (i : Int)))]) (fun i => []) (fun i => i ≤ 1) (fun i => 1 - i) 0 ?_ ?_ (Nat.zero_le _) ?_ ?_ ?_
 ·simp
 ·simp
 ·simp
 ·simp
 rintro i hi
 simp
 have hi' : i = 0 ∨ i = 1 := by omega
 rcases hi' with rfl | rfl
 ·refine G0 ?_; try with_reducible exact tt
  refine AW.cond rfl (fun h => ?_) (fun h => ?_)
  ·refine G0 ?_; try with_reducible exact tt
   refine CallS.pu (hw1) (R0 ?_); try with_reducible exact tt
   refine AW.cond rfl (fun h => ?_) (fun h => ?_)
   ·simp at h
   have ew : IntKind.i64.wrap 1 = 1 := w64 (by omega) (by omega)
   refine G1 ew ?_; try with_reducible exact tt
   exact ⟨1, by omega, by omega, by simp⟩
  ·simp at h
 ·refine G0 ?_; try with_reducible exact tt
  refine AW.cond rfl (fun h => ?_) (fun h => ?_)
  ·simp at h
  refine AW.exit ?_
  (try (simp -implicitDefEqProofs; try simp (disch := omega) only [w64, wu64]))
  refine G0 ?_; try with_reducible exact tt
end
end Go.Proofs.Ytlelpbaeplcfiaa.Am
namespace Go.Proofs.Ytlelpbaeplcfiaa.Am
section
open Go.RowKit
def stR (R : TR) (y t : Nat) (f : Bool) : D := if R.e = 0 then tsD R.y R.t R.f else tsD y t f
end
end Go.Proofs.Ytlelpbaeplcfiaa.Am
namespace Go.Proofs.Ytlelpbaeplcfiaa.Am
section
open Go.RowKit
def kwR (k a b : Nat) : Nat := if k = 4 then bitsN a else b
def twR (k b : Nat) : Nat := if k = 4 then bitsN b else 0
theorem o_dz {k a b : Nat} (h : GoodR k a b) : 0 < kwR k a b ∧ kwR k a b ≤ 10 := by
 unfold kwR
 rcases h with ⟨rfl, h⟩ | ⟨hk, h⟩
 ·rw [if_pos rfl]
  refine ⟨?_, o_bs (by have := h.2.1; omega)⟩
  unfold bitsN; rw [if_neg (by have := h.1; omega)]; omega
 ·rw [if_neg hk]; exact ⟨h.2.1, h.2.2⟩
theorem o_e0 {k a b : Nat} (h : GoodR k a b) : twR k b ≤ 5 := by
 unfold twR
 rcases h with ⟨rfl, h⟩ | ⟨hk, h⟩
 ·rw [if_pos rfl]; exact o_bs (by have := h.2.2; omega)
 ·rw [if_neg hk]; omega
theorem o_e1 {k a b y t : Nat} {f : Bool} (hg : GoodR k a b) (h : WellR k a b y t f) : y < 2 ^ kwR k a b ∧ t < 2 ^ twR k b := by
 unfold kwR twR
 rcases h with ⟨rfl, h1, h2, -⟩ | ⟨hk, rfl, h1, -⟩
 ·rw [if_pos rfl, if_pos rfl]
  exact ⟨Nat.lt_of_le_of_lt h1 (o_br a), Nat.lt_of_le_of_lt h2 (o_br b)⟩
 ·rw [if_neg hk, if_neg hk]
  have := Nat.two_pow_pos b
  omega

theorem o_e2 (x : Nat) (hx : x < 18446744073709551616) : Eqn Try.prog o_a3 [.d (.int .u64 x)] [] (.d (.int .i64 (bitsN x))) [] := by
 refine Eqn.pure o_a5 Plain.ok ?_
 have hl := o_bv x hx
 simp only [o_a4]
 refine G0 ?_; try with_reducible exact tt
 refine AW.cond rfl (fun h => ?_) (fun h => ?_)
 ·simp at h
 ·refine G0 ?_; try with_reducible exact tt
  refine CallS.pu (hl) (R0 ?_); try with_reducible exact tt

theorem o_e3 {k a b : Nat} (h : GoodR k a b) : Eqn Try.prog o_8u [.d (parD k a b)] [] (.tup [.d (.int .i64 (kwR k a b)), .d (.int .i64 (twR k b))]) [] := by
 refine Eqn.pure o_8w Plain.ok ?_
 unfold kwR twR
 rcases h with ⟨rfl, h⟩ | ⟨hk, h⟩
 ·rw [if_pos rfl, if_pos rfl]
  have h1 := o_e2 a (by have := h.2.1; omega)
  have h2 := o_e2 b (by have := h.2.2; omega)
  have e1 : IntKind.u64.wrap (a : Int) = a := wu64 (by omega) (by have := h.2.1; omega)
  have e2 : IntKind.u64.wrap (b : Int) = b := wu64 (by omega) (by have := h.2.2; omega)
  simp only [o_8v, parD]
  refine G0 ?_; try with_reducible exact tt
  refine AW.cond rfl (fun h => ?_) (fun h => ?_)
  ·refine G1 (fs e1 e2) ?_; try with_reducible exact tt
   refine CallS.pu (h1) (R1 (fs e1 e2) ?_); try with_reducible exact tt
   refine CallS.pu (h2) (R0 ?_); try with_reducible exact tt
  ·simp at h
 ·rw [if_neg hk, if_neg hk]
  have hk' : ¬ (k : Int) = 4 := by omega
  simp only [o_8v, parD]
  refine G1 (fs hk hk') ?_; try with_reducible exact tt
  refine AW.cond rfl (fun h => ?_) (fun h => ?_)
  ·simp [hk'] at h
  ·refine G0 ?_; try with_reducible exact tt

theorem o_e4 {k a b : Nat} (h : GoodR k a b) : Eqn Try.prog o_7x [.d (parD k a b)] [] (.d (.int .i64 (kwR k a b + twR k b + 1 : Nat))) [] := by
 refine Eqn.pure o_7z Plain.ok ?_
 have h1 := o_dv h
 have h2 := o_e3 h
 have b1 := (o_dz h).2
 have b2 := o_e0 h
 simp only [o_7y, parD] at h1 h2 ⊢
 generalize kwR k a b = K at *
 generalize twR k b = T at *
 have e1 : IntKind.i64.wrap ((K : Int) + T) = (K : Int) + T := w64 (by omega) (by omega)
 have e2 : IntKind.i64.wrap ((K : Int) + T + 1) = (K : Int) + T + 1 := w64 (by omega) (by omega)
 refine G0 ?_; try with_reducible exact tt
 refine CallS.pu (h1) (R0 ?_); try with_reducible exact tt
 refine AW.cond rfl (fun h => ?_) (fun h => ?_)
 ·simp at h
 refine G0 ?_; try with_reducible exact tt
 refine CallS.pu (h2) (R1 (fs e1 e2) ?_); try with_reducible exact tt

def encR (k a b y t : Nat) (f : Bool) : List Bool := bitsW y (kwR k a b) ++ bitsW t (twR k b) ++ [f]
theorem o_e5 (k a b y t : Nat) (f : Bool) : (encR k a b y t f).length = kwR k a b + twR k b + 1 := by simp [encR]; omega

theorem o_e6 {k a b y t : Nat} {f : Bool} (h : GoodR k a b) (hw : WellR k a b y t f) : Eqn Try.prog o_80 [.d (parD k a b), .p 0 0, .d (tsD y t f)] [⟨36, [.d .nilsl, .d (.int .i64 0)]⟩] (.d (.int .i64 0)) [wrO 1 (encR k a b y t f), wrB (encR k a b y t f)] := by
 refine Eqn.gen [0, 6] o_82 (by simp) (by simp) (by rfl) (by decide) (by simp) (by simp [wrO, wrB]) ?_
 have hwr := o_dy h hw
 have h2 := o_e3 h
 have hkp := o_dz h
 have htl := o_e0 h
 have hfit := o_e1 h hw
 have h2k : 2 ^ kwR k a b ≤ 2 ^ 10 := Nat.pow_le_pow_right (by omega) hkp.2
 have h2t : 2 ^ twR k b ≤ 2 ^ 5 := Nat.pow_le_pow_right (by omega) htl
 have h3 := o_de y (kwR k a b) hkp.1 (by omega) hfit.1 (by omega)
 have hne : bitsW y (kwR k a b) ≠ [] := fun he => by have := o_ch y (kwR k a b); rw [he] at this; simp at this; omega
 have h4 := o_df (bitsW y (kwR k a b)) t (twR k b) hne (by rw [o_ch]; omega) (by omega) hfit.2 (by omega)
 have h5 := o_d7 (bitsW y (kwR k a b) ++ bitsW t (twR k b)) f (fun he => hne (List.append_eq_nil_iff.1 he).1) (by rw [List.length_append, o_ch, o_ch]; omega)
 have e1 : IntKind.u64.wrap (y : Int) = y := wu64 (by omega) (by omega)
 have e2 : IntKind.u64.wrap (t : Int) = t := wu64 (by omega) (by omega)
 simp only [o_81, parD, tsD, encR] at hwr h2 ⊢
 generalize bitsW y (kwR k a b) = X1 at *
 generalize X1 ++ bitsW t (twR k b) = X2 at *
 generalize hX3 : X2 ++ [f] = X3 at *
 generalize kwR k a b = K at *
 generalize twR k b = T at *
 simp only [wrO, wrB] at h3 h4 h5 ⊢
 refine G0 ?_; try with_reducible exact tt
 refine CallS.pf 3 3 ⟨43, _⟩ [.int .i64 y, .int .i64 t, .bool f] (hwr) (by first | rfl | (simp; done)) (R0 ?_); try with_reducible exact tt
 refine AW.cond rfl (fun h => ?_) (fun h => ?_)
 ·simp at h
 refine G0 ?_; try with_reducible exact tt
 refine CallS.pu (h2) (R1 (fs e1 e2) ?_); try with_reducible exact tt
 refine CallS.g [0] (h3) (R1 (fs e1 e2) ?_); try with_reducible exact tt
 refine CallS.g [0, 4] (h4) (R1 (fs e1 e2) ?_); try with_reducible exact tt
 refine CallS.g [0, 5] (h5) (R1 (fs e1 e2) ?_); try with_reducible exact tt

theorem o_e7 (ws : List Nat) (a : Nat) (hs : smallB ws) (hn : ws.length ≤ 4000000) (h : a < 8 * ws.length) : Eqn Try.prog o_8x [.p 0 0] [rdO ws a] (.tup [.d (.bool ((bitsOf ws).getD a false)), .d (.int .i64 0)]) [rdO ws (a + 1)] := by
 refine Eqn.obj1 o_8z Plain.ok ⟨rfl, fun _ => rfl⟩ ?_
 have h1 := o_dq ws a 1 hs (by omega) hn (by omega)
 have h2 : numAt ws a 1 = b2n ((bitsOf ws).getD a false) := by
  have := o_do ws a 0 (by omega)
  rw [o_dn] at this
  simpa using this
 rw [h2] at h1
 generalize (bitsOf ws).getD a false = b at *
 have hb : (((b2n b : Nat) : Int) == 1) = b := by cases b <;> rfl
 generalize b2n b = B at *
 simp only [o_8y, rdO] at h1 ⊢
 generalize a + 1 = a1 at *
 refine G0 ?_; try with_reducible exact tt
 simp at h1
 refine CallS.o1 0 (h1) (R1 hb ?_); try with_reducible exact tt

def readR (ws : List Nat) (k a b at_ : Nat) : (Nat × Nat × Bool) × Int × Nat :=
 if 8 * ws.length - at_ < kwR k a b + twR k b + 1 then ((0, 0, false), 5, at_)
 else if wellRB k a b (numAt ws at_ (kwR k a b)) (numAt ws (at_ + kwR k a b) (twR k b)) ((bitsOf ws).getD (at_ + kwR k a b + twR k b) false) then ((numAt ws at_ (kwR k a b), numAt ws (at_ + kwR k a b) (twR k b), (bitsOf ws).getD (at_ + kwR k a b + twR k b) false), 0, at_ + kwR k a b + twR k b + 1)
 else ((0, 0, false), 4, at_ + kwR k a b + twR k b + 1)

theorem o_e8 (ws : List Nat) {k a b : Nat} (at_ : Nat) (h : GoodR k a b) (hs : smallB ws) (hn : ws.length ≤ 400000) (hat : at_ ≤ 8 * ws.length) (R : (Nat × Nat × Bool) × Int × Nat) (hR : R = readR ws k a b at_) :
  Eqn Try.prog o_79 [.d (parD k a b), .p 0 0] [rdO ws at_] (.tup [.d (tsD R.1.1 R.1.2.1 R.1.2.2), .d (.int .i64 R.2.1)]) [rdO ws R.2.2] := by
 refine Eqn.obj1 o_7b Plain.ok ⟨rfl, fun _ => rfl⟩ ?_
 have hc := o_dv h
 have hb := o_e4 h
 have hl := o_di ws at_ (by omega) hat
 have h2 := o_e3 h
 have hkp := o_dz h
 have htl := o_e0 h
 unfold readR at hR
 by_cases hend : 8 * ws.length - at_ < kwR k a b + twR k b + 1
 ·rw [if_pos hend] at hR
  subst hR
  have hi : ((8 * ws.length - at_ : Nat) : Int) < (kwR k a b + twR k b + 1 : Nat) := by omega
  simp only [o_7a, parD, tsD, rdO] at hc hb hl ⊢
  generalize kwR k a b + twR k b + 1 = N at *
  generalize 8 * ws.length - at_ = L at *
  refine G0 ?_; try with_reducible exact tt
  refine CallS.pu (hc) (R0 ?_); try with_reducible exact tt
  refine AW.cond rfl (fun h => ?_) (fun h => ?_)
  ·simp at h
  refine G0 ?_; try with_reducible exact tt
  refine CallS.o1 0 (hl) (R0 ?_); try with_reducible exact tt
  refine CallS.pu (hb) (R1 (fs hi hend) ?_); try with_reducible exact tt
  refine AW.cond rfl (fun h => ?_) (fun h => ?_)
  ·refine G0 ?_; try with_reducible exact tt
  ·simp [hend] at h
 ·rw [if_neg hend] at hR
  have n1 := o_dq ws at_ (kwR k a b) hs (by omega) (by omega) (by omega)
  have n2 := o_dq ws (at_ + kwR k a b) (twR k b) hs (by omega) (by omega) (by omega)
  have n3 := o_e7 ws (at_ + kwR k a b + twR k b) hs (by omega) (by omega)
  have lt1 := o_dp ws at_ (kwR k a b)
  have lt2 := o_dp ws (at_ + kwR k a b) (twR k b)
  have h2k : 2 ^ kwR k a b ≤ 2 ^ 10 := Nat.pow_le_pow_right (by omega) hkp.2
  have h2t : 2 ^ twR k b ≤ 2 ^ 5 := Nat.pow_le_pow_right (by omega) htl
  have hi : ¬ ((8 * ws.length - at_ : Nat) : Int) < (kwR k a b + twR k b + 1 : Nat) := by omega
  have hwl := o_dx h (numAt ws at_ (kwR k a b)) (numAt ws (at_ + kwR k a b) (twR k b)) ((bitsOf ws).getD (at_ + kwR k a b + twR k b) false)
  generalize numAt ws at_ (kwR k a b) = Y at *
  generalize numAt ws (at_ + kwR k a b) (twR k b) = T at *
  generalize (bitsOf ws).getD (at_ + kwR k a b + twR k b) false = F at *
  generalize hW : wellRB k a b Y T F = W at *
  have e1 : IntKind.i64.wrap (Y : Int) = Y := w64 (by omega) (by omega)
  have e2 : IntKind.i64.wrap (T : Int) = T := w64 (by omega) (by omega)
  simp only [o_7a, parD, tsD, rdO] at hc hb hl h2 n1 n2 n3 hwl ⊢
  generalize at_ + kwR k a b + twR k b + 1 = a3 at *
  generalize at_ + kwR k a b + twR k b = a2 at *
  generalize at_ + kwR k a b = a1 at *
  generalize kwR k a b + twR k b + 1 = N at *
  generalize kwR k a b = K at *
  generalize twR k b = TT at *
  generalize 8 * ws.length - at_ = L at *
  refine G0 ?_; try with_reducible exact tt
  refine CallS.pu (hc) (R0 ?_); try with_reducible exact tt
  refine AW.cond rfl (fun h => ?_) (fun h => ?_)
  ·simp at h
  refine G0 ?_; try with_reducible exact tt
  refine CallS.o1 0 (hl) (R0 ?_); try with_reducible exact tt
  refine CallS.pu (hb) (R1 (fs hi hend) ?_); try with_reducible exact tt
  refine AW.cond rfl (fun h => ?_) (fun h => ?_)
  ·simp [hend] at h
  refine G0 ?_; try with_reducible exact tt
  refine CallS.pu (h2) (R0 ?_); try with_reducible exact tt
  refine CallS.o1 0 (n1) (R0 ?_); try with_reducible exact tt
  refine CallS.o1 0 (n2) (R0 ?_); try with_reducible exact tt
  refine CallS.o1 0 (n3) (R1 (fs e1 e2) ?_); try with_reducible exact tt
  refine CallS.pu (hwl) (R0 ?_); try with_reducible exact tt
  cases W with
  | true =>
   rw [if_pos rfl] at hR
   subst hR
   refine AW.cond rfl (fun h => ?_) (fun h => ?_)
   ·simp at h
   ·refine G0 ?_; try with_reducible exact tt
  | false =>
   rw [if_neg (by simp)] at hR
   subst hR
   refine AW.cond rfl (fun h => ?_) (fun h => ?_)
   ·refine G0 ?_; try with_reducible exact tt
   ·simp at h
end
end Go.Proofs.Ytlelpbaeplcfiaa.Am
namespace Go.Proofs.Ytlelpbaeplcfiaa.Am
section
def ofB (f : Nat → Bool) : Nat → Nat
 | 0 => 0
 | n + 1 => ofB f n + (if f n then 2 ^ n else 0)
theorem o_e9 (f : Nat → Bool) : ∀ n, ofB f n < 2 ^ n
 | 0 => by simp [ofB]
 | n + 1 => by
  have := o_e9 f n
  rw [ofB, Nat.pow_succ]
  split <;> omega
theorem o_ea (f : Nat → Bool) : ∀ n i, i < n → (ofB f n).testBit i = f i
 | 0, i, h => by omega
 | n + 1, i, h => by
  have hl := o_e9 f n
  rw [ofB]
  by_cases hi : i = n
  ·subst hi
   split
   ·rename_i hf
    rw [Nat.add_comm, Nat.testBit_two_pow_add_eq, Nat.testBit_lt_two_pow hl, hf]; rfl
   ·rename_i hf
    rw [Nat.add_zero, Nat.testBit_lt_two_pow hl]; simpa using hf
  ·split
   ·rw [Nat.add_comm, Nat.testBit_two_pow_add_gt (by omega), o_ea f n i (by omega)]
   ·rw [Nat.add_zero, o_ea f n i (by omega)]
theorem o_eb {f g : Nat → Bool} : ∀ n, (∀ i, i < n → f i = g i) → ofB f n = ofB g n
 | 0, _ => rfl
 | n + 1, h => by rw [ofB, ofB, o_eb n (fun i hi => h i (by omega)), h n (by omega)]
def bitX (w : Nat) (xs : List Nat) (k : Nat) : Bool := (xs.getD (k / w) 0).testBit (k % w)
def nwP (n w : Nat) : Nat := (n * w + 63) / 64
def wordsP (w : Nat) (xs : List Nat) : List Nat := (List.range (nwP xs.length w)).map fun j => ofB (fun b => bitX w xs (64 * j + b)) 64
@[simp] theorem o_ec (w : Nat) (xs : List Nat) : (wordsP w xs).length = nwP xs.length w := by simp [wordsP]
theorem o_ed {w : Nat} {xs : List Nat} {j : Nat} (h : j < nwP xs.length w) : (wordsP w xs).getD j 0 = ofB (fun b => bitX w xs (64 * j + b)) 64 := by
 unfold wordsP; rw [List.getD_eq_getElem?_getD, List.getElem?_map, List.getElem?_range h]; rfl
theorem o_ee {w : Nat} {xs : List Nat} (j : Nat) : (wordsP w xs).getD j 0 < 2 ^ 64 := by
 by_cases h : j < nwP xs.length w
 ·rw [o_ed h]; exact o_e9 _ _
 ·rw [List.getD_eq_getElem?_getD, List.getElem?_eq_none (by simp; omega)]; simp
theorem o_ef {w : Nat} {xs : List Nat} {j b : Nat} (h : j < nwP xs.length w) (hb : b < 64) : ((wordsP w xs).getD j 0).testBit b = bitX w xs (64 * j + b) := by rw [o_ed h, o_ea _ _ _ hb]
theorem o_eg {w : Nat} {xs : List Nat} {i b : Nat} (hb : b < w) : bitX w xs (i * w + b) = (xs.getD i 0).testBit b := by
 unfold bitX
 rw [Nat.mul_comm, Nat.mul_add_div (by omega), Nat.div_eq_of_lt hb, Nat.add_zero, Nat.mul_add_mod, Nat.mod_eq_of_lt hb]
theorem o_eh {w : Nat} {xs : List Nat} {i v k : Nat} (hw : 0 < w) (hi : i < xs.length) : bitX w (xs.set i v) k = if i * w ≤ k ∧ k < i * w + w then v.testBit (k - i * w) else bitX w xs k := by
 unfold bitX
 have e := Nat.div_add_mod k w
 have hm := Nat.mod_lt k hw
 rw [List.getD_eq_getElem?_getD, List.getD_eq_getElem?_getD, List.getElem?_set]
 by_cases h : i = k / w
 ·subst h
  have e2 : k / w * w = w * (k / w) := Nat.mul_comm _ _
  rw [if_pos rfl, if_pos hi, if_pos (by omega), show k - k / w * w = k % w by omega]
  rfl
 ·rw [if_neg h, if_neg]
  rintro ⟨h1, h2⟩
  apply h
  have h3 : i ≤ k / w := (Nat.le_div_iff_mul_le hw).2 h1
  have h4 : k / w < i + 1 := (Nat.div_lt_iff_lt_mul hw).2 (by rw [Nat.add_mul]; omega)
  omega

def smallP (w : Nat) (xs : List Nat) : Prop := ∀ x ∈ xs, x < 2 ^ w
theorem o_ei {w : Nat} {xs : List Nat} (h : smallP w xs) (i : Nat) : xs.getD i 0 < 2 ^ w := by
 rw [List.getD_eq_getElem?_getD]
 cases hx : xs[i]? with
 | none => simp [Nat.two_pow_pos]
 | some x => exact h x (List.mem_of_getElem? hx)

theorem o_ej (x r b : Nat) : (x / 2 ^ r).testBit b = x.testBit (r + b) := by rw [Nat.testBit_div_two_pow, Nat.add_comm]
theorem o_ek (x s b : Nat) : (x * 2 ^ s % 2 ^ 64).testBit b = (decide (b < 64) && (decide (s ≤ b) && x.testBit (b - s))) := by rw [Nat.testBit_mod_two_pow, Nat.testBit_mul_two_pow]
theorem o_el (w b : Nat) : (2 ^ w - 1).testBit b = decide (b < w) := Nat.testBit_two_pow_sub_one w b

theorem pget1 {w : Nat} {xs : List Nat} {i : Nat} (hs : smallP w xs) (hw : w ≤ 32) (hi : i < xs.length) (hr : i * w % 64 + w ≤ 64) : (wordsP w xs).getD (i * w / 64) 0 / 2 ^ (i * w % 64) &&& (2 ^ w - 1) = xs.getD i 0 := by
 have e := Nat.div_add_mod (i * w) 64
 by_cases hw0 : w = 0
 ·subst hw0
  have := o_ei hs i
  simp at this ⊢; omega
 have hle : i * w + w ≤ xs.length * w := by rw [← Nat.succ_mul]; exact Nat.mul_le_mul_right w hi
 apply Nat.eq_of_testBit_eq
 intro b
 rw [Nat.testBit_and, o_el, o_ej]
 by_cases hb : b < w
 ·rw [o_ef (by unfold nwP; omega) (by omega), show 64 * (i * w / 64) + (i * w % 64 + b) = i * w + b by omega, o_eg hb]
  simp [hb]
 ·have : (xs.getD i 0).testBit b = false := Nat.testBit_lt_two_pow (Nat.lt_of_lt_of_le (o_ei hs i) (Nat.pow_le_pow_right (by omega) (by omega)))
  rw [this]; simp [hb]
theorem pget2 {w : Nat} {xs : List Nat} {i : Nat} (hs : smallP w xs) (hw : w ≤ 32) (hi : i < xs.length) (hr : 64 < i * w % 64 + w) : ((wordsP w xs).getD (i * w / 64) 0 / 2 ^ (i * w % 64) ||| (wordsP w xs).getD (i * w / 64 + 1) 0 * 2 ^ (64 - i * w % 64) % 2 ^ 64) &&& (2 ^ w - 1) = xs.getD i 0 := by
 have e := Nat.div_add_mod (i * w) 64
 have hle : i * w + w ≤ xs.length * w := by rw [← Nat.succ_mul]; exact Nat.mul_le_mul_right w hi
 apply Nat.eq_of_testBit_eq
 intro b
 rw [Nat.testBit_and, o_el, Nat.testBit_or, o_ej, o_ek]
 by_cases hb : b < w
 ·by_cases h64 : i * w % 64 + b < 64
  ·rw [o_ef (by unfold nwP; omega) h64, show 64 * (i * w / 64) + (i * w % 64 + b) = i * w + b by omega, o_eg hb]
   have : ¬ 64 - i * w % 64 ≤ b := by omega
   simp [hb, this]
  ·have h1 : ((wordsP w xs).getD (i * w / 64) 0).testBit (i * w % 64 + b) = false := Nat.testBit_lt_two_pow (Nat.lt_of_lt_of_le (o_ee _) (Nat.pow_le_pow_right (by omega) (by omega)))
   rw [h1, o_ef (j := i * w / 64 + 1) (by unfold nwP; omega) (by omega), show 64 * (i * w / 64 + 1) + (b - (64 - i * w % 64)) = i * w + b by omega, o_eg hb]
   have h2 : 64 - i * w % 64 ≤ b := by omega
   have h3 : b < 64 := by omega
   simp [hb, h2, h3]
 ·have : (xs.getD i 0).testBit b = false := Nat.testBit_lt_two_pow (Nat.lt_of_lt_of_le (o_ei hs i) (Nat.pow_le_pow_right (by omega) (by omega)))
  rw [this]; simp [hb]

def andN (x y : Nat) : Nat := x &&& (2 ^ 64 - 1 - y)
theorem o_em {x y : Nat} (hx : x < 2 ^ 64) (hy : y < 2 ^ 64) (b : Nat) : (andN x y).testBit b = (x.testBit b && !y.testBit b) := by
 unfold andN
 rw [Nat.testBit_and, Nat.sub_sub, Nat.add_comm 1 y, Nat.testBit_two_pow_sub_succ hy]
 by_cases hb : b < 64
 ·simp [hb]
 ·have : x.testBit b = false := Nat.testBit_lt_two_pow (Nat.lt_of_lt_of_le hx (Nat.pow_le_pow_right (by omega) (by omega)))
  simp [this]

theorem o_en {x : Nat} {f : Nat → Bool} (hx : x < 2 ^ 64) (h : ∀ b, b < 64 → x.testBit b = f b) : x = ofB f 64 := by
 apply Nat.eq_of_testBit_eq
 intro b
 by_cases hb : b < 64
 ·rw [h b hb, o_ea _ _ _ hb]
 ·have h2 : 2 ^ 64 ≤ 2 ^ b := Nat.pow_le_pow_right (by omega) (by omega)
  rw [Nat.testBit_lt_two_pow (Nat.lt_of_lt_of_le hx h2), Nat.testBit_lt_two_pow (Nat.lt_of_lt_of_le (o_e9 f 64) h2)]

def setW1 (w : Nat) (x v r : Nat) : Nat := andN x ((2 ^ w - 1) * 2 ^ r % 2 ^ 64) ||| v * 2 ^ r % 2 ^ 64
def setW2 (w : Nat) (x v s : Nat) : Nat := andN x ((2 ^ w - 1) / 2 ^ s) ||| v / 2 ^ s
theorem o_eo {x y : Nat} (hx : x < 2 ^ 64) : andN x y < 2 ^ 64 := Nat.lt_of_le_of_lt Nat.and_le_left hx
theorem o_ep {w : Nat} {xs : List Nat} {i v : Nat} (hw : w ≤ 32) (hw0 : 0 < w) (hi : i < xs.length) (hv : v < 2 ^ w) : setW1 w ((wordsP w xs).getD (i * w / 64) 0) v (i * w % 64) = (wordsP w (xs.set i v)).getD (i * w / 64) 0 := by
 have e := Nat.div_add_mod (i * w) 64
 have hle : i * w + w ≤ xs.length * w := by rw [← Nat.succ_mul]; exact Nat.mul_le_mul_right w hi
 have hm : i * w % 64 < 64 := Nat.mod_lt _ (by omega)
 rw [o_ed (xs := xs.set i v) (by simp only [List.length_set]; unfold nwP; omega)]
 apply o_en
 ·exact Nat.or_lt_two_pow (o_eo (o_ee _)) (Nat.mod_lt _ (by omega))
 ·intro b hb
  unfold setW1
  rw [Nat.testBit_or, o_em (o_ee _) (Nat.mod_lt _ (by omega)), o_ek, o_ek, o_el, o_ef (by unfold nwP; omega) hb, o_eh hw0 hi]
  by_cases h1 : i * w % 64 ≤ b
  ·by_cases h2 : b < i * w % 64 + w
   ·rw [if_pos (by omega), show 64 * (i * w / 64) + b - i * w = b - i * w % 64 by omega]
    have h3 : b - i * w % 64 < w := by omega
    simp [hb, h1, h3]
   ·rw [if_neg (by omega)]
    have h3 : ¬ b - i * w % 64 < w := by omega
    have h4 : v.testBit (b - i * w % 64) = false := Nat.testBit_lt_two_pow (Nat.lt_of_lt_of_le hv (Nat.pow_le_pow_right (by omega) (by omega)))
    simp [hb, h1, h3, h4]
  ·rw [if_neg (by omega)]
   simp [hb, h1]
theorem o_eq {w : Nat} {xs : List Nat} {i v : Nat} (hw : w ≤ 32) (hi : i < xs.length) (hv : v < 2 ^ w) (hr : 64 < i * w % 64 + w) : setW2 w ((wordsP w xs).getD (i * w / 64 + 1) 0) v (64 - i * w % 64) = (wordsP w (xs.set i v)).getD (i * w / 64 + 1) 0 := by
 have e := Nat.div_add_mod (i * w) 64
 have hle : i * w + w ≤ xs.length * w := by rw [← Nat.succ_mul]; exact Nat.mul_le_mul_right w hi
 have hm : i * w % 64 < 64 := Nat.mod_lt _ (by omega)
 have h32 : 2 ^ w ≤ 2 ^ 32 := Nat.pow_le_pow_right (by omega) hw
 have hv64 : v / 2 ^ (64 - i * w % 64) < 2 ^ 64 := Nat.lt_of_le_of_lt (Nat.div_le_self _ _) (by omega)
 have hm64 : (2 ^ w - 1) / 2 ^ (64 - i * w % 64) < 2 ^ 64 := Nat.lt_of_le_of_lt (Nat.div_le_self _ _) (by omega)
 rw [o_ed (xs := xs.set i v) (by simp only [List.length_set]; unfold nwP; omega)]
 apply o_en
 ·exact Nat.or_lt_two_pow (o_eo (o_ee _)) hv64
 ·intro b hb
  unfold setW2
  rw [Nat.testBit_or, o_em (o_ee _) hm64, o_ej, o_ej, o_el, o_ef (by unfold nwP; omega) hb, o_eh (by omega) hi]
  by_cases h2 : 64 - i * w % 64 + b < w
  ·rw [if_pos (by omega), show 64 * (i * w / 64 + 1) + b - i * w = 64 - i * w % 64 + b by omega]
   simp [h2]
  ·rw [if_neg (by omega)]
   have h4 : v.testBit (64 - i * w % 64 + b) = false := Nat.testBit_lt_two_pow (Nat.lt_of_lt_of_le hv (Nat.pow_le_pow_right (by omega) (by omega)))
   simp [h2, h4]
theorem o_er {w : Nat} {xs : List Nat} {i v j : Nat} (hw0 : 0 < w) (hi : i < xs.length) (h1 : j ≠ i * w / 64) (h2 : i * w % 64 + w ≤ 64 ∨ j ≠ i * w / 64 + 1) (hw : w ≤ 32) : (wordsP w (xs.set i v))[j]? = (wordsP w xs)[j]? := by
 have e := Nat.div_add_mod (i * w) 64
 have hm : i * w % 64 < 64 := Nat.mod_lt _ (by omega)
 unfold wordsP
 simp only [List.length_set, List.getElem?_map]
 cases hj : (List.range (nwP xs.length w))[j]? with
 | none => rfl
 | some j' =>
  have : j' = j := by
   have := List.getElem?_eq_some_iff.1 hj
   obtain ⟨h, rfl⟩ := this
   simp
  subst this
  simp only [Option.map_some, Option.some.injEq]
  apply o_eb
  intro b hb
  rw [o_eh hw0 hi, if_neg]
  omega
theorem pset1 {w : Nat} {xs : List Nat} {i v : Nat} (hw : w ≤ 32) (hw0 : 0 < w) (hi : i < xs.length) (hv : v < 2 ^ w) (hr : i * w % 64 + w ≤ 64) : (wordsP w xs).set (i * w / 64) (setW1 w ((wordsP w xs).getD (i * w / 64) 0) v (i * w % 64)) = wordsP w (xs.set i v) := by
 have e := Nat.div_add_mod (i * w) 64
 have hle : i * w + w ≤ xs.length * w := by rw [← Nat.succ_mul]; exact Nat.mul_le_mul_right w hi
 have hq : i * w / 64 < nwP xs.length w := by unfold nwP; omega
 rw [o_ep hw hw0 hi hv]
 apply List.ext_getElem?
 intro j
 rw [List.getElem?_set]
 by_cases h : i * w / 64 = j
 ·subst h
  rw [if_pos rfl, if_pos (by simpa using hq), List.getD_eq_getElem?_getD, List.getElem?_eq_getElem (by simpa using hq)]; rfl
 ·rw [if_neg h, o_er hw0 hi (fun h' => h h'.symm) (.inl hr) hw]
theorem pset2 {w : Nat} {xs : List Nat} {i v : Nat} (hw : w ≤ 32) (hi : i < xs.length) (hv : v < 2 ^ w) (hr : 64 < i * w % 64 + w) :
  ((wordsP w xs).set (i * w / 64) (setW1 w ((wordsP w xs).getD (i * w / 64) 0) v (i * w % 64))).set (i * w / 64 + 1) (setW2 w ((wordsP w xs).getD (i * w / 64 + 1) 0) v (64 - i * w % 64)) = wordsP w (xs.set i v) := by
 have e := Nat.div_add_mod (i * w) 64
 have hle : i * w + w ≤ xs.length * w := by rw [← Nat.succ_mul]; exact Nat.mul_le_mul_right w hi
 have hq : i * w / 64 + 1 < nwP xs.length w := by unfold nwP; omega
 rw [o_ep hw (by omega) hi hv, o_eq hw hi hv hr]
 apply List.ext_getElem?
 intro j
 rw [List.getElem?_set, List.getElem?_set]
 by_cases h2 : i * w / 64 + 1 = j
 ·subst h2
  rw [if_pos rfl, if_pos (by simpa using hq), List.getD_eq_getElem?_getD, List.getElem?_eq_getElem (by simpa using hq)]; rfl
 ·rw [if_neg h2]
  by_cases h : i * w / 64 = j
  ·subst h
   rw [if_pos rfl, if_pos (by simp; omega), List.getD_eq_getElem?_getD, List.getElem?_eq_getElem (by simp; omega)]; rfl
  ·rw [if_neg h, o_er (by omega) hi (fun h' => h h'.symm) (.inr fun h' => h2 h'.symm) hw]
theorem o_es (n w : Nat) : wordsP w (List.replicate n 0) = List.replicate (nwP n w) 0 := by
 apply List.ext_getElem?
 intro j
 unfold wordsP
 simp only [List.getElem?_map, List.length_replicate, List.getElem?_replicate]
 by_cases h : j < nwP n w
 ·rw [List.getElem?_range h, if_pos h]
  simp only [Option.map_some, Option.some.injEq]
  have h0 : ∀ k, bitX w (List.replicate n 0) k = false := by
   intro k
   unfold bitX
   have : (List.replicate n 0).getD (k / w) 0 = 0 := by
    rw [List.getD_eq_getElem?_getD, List.getElem?_replicate]; split <;> rfl
   rw [this]; simp
  simp only [h0]
  decide
 ·rw [List.getElem?_eq_none (by simp; omega), if_neg h]; rfl
end
end Go.Proofs.Ytlelpbaeplcfiaa.Am
