/- Parts of the proof: CodeD, Nat1, Nat2, Nat3, Nat4, Nat5, Nat6, Rat1, Text1, Tape1, Float1, Flip1, Flip2, Morris1, Chain1, YuM, DivM, Nat7, Yu1, YuX, YuW. -/
import Derived.Test.YtlelpbaeplcfiaaDoorPb
set_option linter.unusedVariables false
set_option linter.unusedSimpArgs false
set_option maxRecDepth 100000
namespace Go.Proofs.YtlelpbaeplcfiaaDoor.Am
section
open Go.Proofs.YtlelpbaeplcfiaaDoor.Am
theorem mix : Tryd.prog.follows .mixedOrders = true := by kernel_rfl
@[simp] def om_ (d s : Nat) (l : List Nat) : O := ⟨some d, .mv (.t s), none, l⟩
@[simp] def oo_ (d : Nat) (a : A) (l : List Nat) : O := ⟨some d, a, none, l⟩
@[simp] def og_ (d : Nat) (a : A) (s : Nat) (b : Bool) (l : List Nat) : O := ⟨some d, a, some (s, b), l⟩
@[simp] def on_ (a : A) (l : List Nat) : O := ⟨none, a, none, l⟩

abbrev t_nat_Nat : Nat := 25
abbrev o_6u : FuncId := 5
def o_6v : C := (.seq (.reg false [oo_ 4 (.mv (.d (.bool false))) []]) (.seq (.seq (.reg false [oo_ 18 (.call 6 []) [],oo_ 19 (.un .not (.t 18)) [0]]) (.cond (.t 19) (.seq (.reg false [oo_ 4 (.mv (.d (.bool false))) []]) .ret) .skip))
 (.seq (.reg false [om_ 21 0 [],om_ 22 1 [],oo_ 23 (.call 7 [(.t 21),(.t 22)]) [0,1],om_ 20 23 [2],oo_ 24 (.ext (.t 20) 0) [3],oo_ 25 (.ext (.t 20) 1) [3],oo_ 5 (.new 27 [(.int .i64 0),(.int .i64 0),.nilsl,.nilsl])
 [],on_ (.store 4 (.t 5) (.t 24)) [6,4,2,0,1,2,3,4,6],om_ 6 25 [5,7,0,1,2,3,4,5,6,7]]) (.seq (.reg false [om_ 27 0 [],om_ 28 1 [],oo_ 29 (.call 25 [(.t 27),(.t 28)]) [0,1],om_ 26 29 [2],oo_ 30 (.ext (.t 26) 0) [3],oo_ 31
 (.ext (.t 26) 1) [3],oo_ 7 (.new 42 [.nilsl,(.bool false),.nilsl]) [],on_ (.store 3 (.t 7) (.t 30)) [6,4,2,0,1,2,3,4,6],om_ 8 31 [5,7,0,1,2,3,4,5,6,7]]) (.seq (.seq (.reg false [om_ 32 0 [],oo_ 33 (.call 26 [(.t 32)])
 [0],om_ 34 0 [],oo_ 35 (.call 27 [(.t 34),(.d (.int .i64 0))]) [2,1],oo_ 36 (.bin .eql (.t 35) (.d (.int .i64 0))) [3],oo_ 37 (.beq true (.t 33) (.t 36)) [1,4]]) (.cond (.t 37) (.seq (.reg false [oo_ 4 (.mv (.d (.bool
 false))) []]) .ret) .skip)) (.seq (.seq (.reg false [om_ 38 0 [],om_ 39 1 [],oo_ 40 (.call 27 [(.t 38),(.t 39)]) [0,1],om_ 9 40 [2,2,0,1,2]]) (.seq (.reg false [om_ 41 9 [],oo_ 42 (.bin .neq (.t 41) (.d (.int .i64 0)))
 [0]]) (.cond (.t 42) (.seq (.reg false [om_ 43 6 [],om_ 44 9 [],oo_ 45 (.bin .eql (.t 43) (.t 44)) [0,1],om_ 46 45 [2],og_ 47 (.mv (.t 8)) 46 true [3],og_ 48 (.mv (.t 9)) 46 true [3],og_ 49 (.bin .eql (.t 47) (.t 48))
 46 true [4,5,3],oo_ 50 (.pick (.t 46) (.t 49) (.d (.bool false))) [3,6],om_ 51 50 [7,3],og_ 52 (.fa 0 (.t 5)) 51 true [8],og_ 53 (.load false 1 (.t 52)) 51 true [9,8],og_ 54 (.bin .eql (.t 53) (.d (.int .i64 0))) 51
 true [10,8],oo_ 55 (.pick (.t 51) (.t 54) (.d (.bool false))) [8,11],om_ 56 55 [12,8],og_ 57 (.fa 3 (.t 5)) 56 true [13],og_ 58 (.load true 1 (.t 57)) 56 true [14,13],og_ 59 (.call 19 [(.t 58)]) 56 true [15,13,13],oo_
 60 (.pick (.t 56) (.t 59) (.d (.bool false))) [13,16],om_ 61 60 [17,16],og_ 62 (.load true 3 (.t 7)) 61 true [18],og_ 63 (.call 18 [(.t 62)]) 61 true [19,18,18],⟨some 64,.bin .eql (.t 63) (.d (.str ⟨#[48]⟩)),some
 (61,true),[20,18]⟩,oo_ 65 (.pick (.t 61) (.t 64) (.d (.bool false))) [18,21],om_ 4 65 [22,20,0,1,2,3,4,5,6,7,8,9,10,11,12,13,14,15,16,17,18,19,20,21,22]]) .ret) .skip))) (.seq (.seq (.reg false [om_ 66 6 [],oo_ 67 (.bin
 .neq (.t 66) (.d (.int .i64 0))) [0],om_ 68 67 [1],og_ 69 (.mv (.t 8)) 68 false [2],og_ 70 (.bin .neq (.t 69) (.d (.int .i64 0))) 68 false [3,2],oo_ 71 (.pick (.t 68) (.d (.bool true)) (.t 70)) [2,4]]) (.cond (.t 71)
 (.seq (.reg false [oo_ 4 (.mv (.d (.bool false))) []]) .ret) .skip)) (.seq (.reg false [oo_ 73 (.fa 1 (.t 5)) [],oo_ 74 (.load false 1 (.t 73)) [0],oo_ 75 (.call 20 [(.t 74)]) [1],om_ 72 75 [2],oo_ 76 (.ext (.t 72) 0)
 [3],oo_ 77 (.ext (.t 72) 1) [3],oo_ 10 (.new 42 [.nilsl,(.bool false),.nilsl]) [],on_ (.store 3 (.t 10) (.t 76)) [6,4,2,0,1,2,3,4,6],om_ 11 77 [5,7,0,1,2,3,4,5,6,7]]) (.seq (.seq (.reg false [oo_ 78 (.load true 3 (.t
 7)) [],oo_ 79 (.load true 3 (.t 10)) [],oo_ 80 (.call 22 [(.t 78),(.t 79)]) [0,1],oo_ 81 (.bin .neq (.t 80) (.d (.int .i64 0))) [2]]) (.cond (.t 81) (.seq (.reg false [oo_ 4 (.mv (.d (.bool false))) []]) .ret) .skip))
 (.seq (.seq (.reg false [om_ 82 1 [],oo_ 83 (.bin .gtr (.t 82) (.d (.int .i64 90))) [0]]) (.cond (.t 83) (.seq (.reg false [om_ 85 0 [],om_ 86 1 [],oo_ 87 (.bin .sub (.t 86) (.d (.int .i64 1))) [1],oo_ 88 (.call 7 [(.t
 85),(.t 87)]) [0,2],om_ 84 88 [3],oo_ 89 (.ext (.t 84) 0) [4],oo_ 90 (.ext (.t 84) 1) [4],oo_ 12 (.new 27 [(.int .i64 0),(.int .i64 0),.nilsl,.nilsl]) [],on_ (.store 4 (.t 12) (.t 89)) [7,5,3,0,1,2,3,4,5,7],om_ 13 90
 [6,8,0,1,2,3,4,5,6,7,8]]) (.seq (.reg true [oo_ 92 (.bsl 34 1 1 [(.int .u64 0)] [(0,1,(.d (.int .u64 1)))]) [],oo_ 93 (.call 10 [(.t 92)]) [0],oo_ 94 (.fa 1 (.t 12)) [],oo_ 95 (.load false 1 (.t 94)) [2],oo_ 96 (.call
 11 [(.t 93),(.t 95)]) [1,3,1],om_ 91 96 [4],oo_ 97 (.ext (.t 91) 0) [5],oo_ 98 (.ext (.t 91) 1) [5],oo_ 14 (.new 25 [.nilsl]) [],on_ (.store 1 (.t 14) (.t 97)) [8,6,4,0,1,2,3,4,5,6,8],om_ 15 98
 [7,9,0,1,2,3,4,5,6,7,8,9]]) (.seq (.reg false [oo_ 99 (.fa 0 (.t 5)) [],oo_ 100 (.load false 1 (.t 99)) [0],oo_ 101 (.fa 0 (.t 12)) [],oo_ 102 (.load false 1 (.t 101)) [2],oo_ 103 (.bin .sub (.t 100) (.t 102)) [1,3],om_
 16 103 [4,0,1,2,3,4]]) (.seq (.reg true [om_ 104 13 [],oo_ 105 (.bin .eql (.t 104) (.d (.int .i64 0))) [0],om_ 106 105 [1],og_ 107 (.fa 2 (.t 12)) 106 true [2],og_ 108 (.load true 1 (.t 107)) 106 true [3,2],og_ 109
 (.load true 1 (.t 14)) 106 true [2],og_ 110 (.call 12 [(.t 108),(.t 109)]) 106 true [4,5,2,2],og_ 111 (.fa 2 (.t 5)) 106 true [2],og_ 112 (.load true 1 (.t 111)) 106 true [7,2],og_ 113 (.call 8 [(.t 110),(.t 112)]) 106
 true [6,8,6,2],og_ 114 (.bin .eql (.t 113) (.d (.int .i64 0))) 106 true [9,2],oo_ 115 (.pick (.t 106) (.t 114) (.d (.bool false))) [2,10],om_ 116 115 [11,9],og_ 117 (.mv (.t 16)) 116 true [12],og_ 118 (.bin .geq (.t
 117) (.d (.int .i64 0))) 116 true [13,12],oo_ 119 (.pick (.t 116) (.t 118) (.d (.bool false))) [12,14],om_ 120 119 [15,12],og_ 121 (.mv (.t 16)) 120 true [16],og_ 122 (.bin .leq (.t 121) (.d (.int .i64 1))) 120 true
 [17,16],oo_ 123 (.pick (.t 120) (.t 122) (.d (.bool false))) [16,18],om_ 124 123 [19,16],og_ 125 (.mv (.t 16)) 124 true [20],og_ 126 (.bin .eql (.t 125) (.d (.int .i64 1))) 124 true [21,20],og_ 127 (.fa 2 (.t 5)) 124
 true [20],og_ 128 (.load true 1 (.t 127)) 124 true [23,20],og_ 129 (.fa 3 (.t 12)) 124 true [20],og_ 130 (.load true 1 (.t 129)) 124 true [25,20],og_ 131 (.call 8 [(.t 128),(.t 130)]) 124 true [24,26,20,20],og_ 132
 (.bin .geq (.t 131) (.d (.int .i64 0))) 124 true [27,20],og_ 133 (.beq false (.t 126) (.t 132)) 124 true [22,28,20],oo_ 134 (.pick (.t 124) (.t 133) (.d (.bool false))) [20,29],om_ 135 134 [30,27],og_ 136 (.fa 1 (.t 5))
 135 true [31],og_ 137 (.load false 1 (.t 136)) 135 true [32,31],og_ 138 (.fa 1 (.t 12)) 135 true [31],og_ 139 (.load false 1 (.t 138)) 135 true [34,31],og_ 140 (.bin .geq (.t 137) (.t 139)) 135 true [33,35,31],oo_ 141
 (.pick (.t 135) (.t 140) (.d (.bool false))) [31,36],om_ 4 141 [37,31,0,1,2,3,4,5,6,7,8,9,10,11,12,13,14,15,16,17,18,19,20,21,22,23,24,25,26,27,28,29,30,31,32,33,34,35,36,37]]) .ret)))) .skip)) (.seq (.reg false [om_
 142 0 [],om_ 143 1 [],oo_ 144 (.call 28 [(.t 142),(.t 143)]) [0,1],oo_ 17 (.new 55 [(.int .i64 0),(.int .i64 0),.nilsl,.nilsl]) [],on_ (.store 4 (.t 17) (.t 144)) [3,2,2,0,1,2,3]]) (.seq (.reg false [oo_ 145 (.fa 0 (.t
 5)) [],oo_ 146 (.load false 1 (.t 145)) [0],oo_ 147 (.fa 0 (.t 17)) [],oo_ 148 (.load false 1 (.t 147)) [2],oo_ 149 (.bin .eql (.t 146) (.t 148)) [1,3],om_ 150 149 [4],og_ 151 (.fa 1 (.t 5)) 150 true [5],og_ 152 (.load
 false 1 (.t 151)) 150 true [6,5],og_ 153 (.fa 1 (.t 17)) 150 true [5],og_ 154 (.load false 1 (.t 153)) 150 true [8,5],og_ 155 (.bin .eql (.t 152) (.t 154)) 150 true [7,9,5],oo_ 156 (.pick (.t 150) (.t 155) (.d (.bool
 false))) [5,10],om_ 157 156 [11,5],og_ 158 (.fa 2 (.t 5)) 157 true [12],og_ 159 (.load true 1 (.t 158)) 157 true [13,12],og_ 160 (.fa 2 (.t 17)) 157 true [12],og_ 161 (.load false 1 (.t 160)) 157 true [15,12],og_ 162
 (.call 23 [(.t 159),(.t 161)]) 157 true [14,16,12,12],oo_ 163 (.pick (.t 157) (.t 162) (.d (.bool false))) [12,17],om_ 164 163 [18,17],og_ 165 (.fa 3 (.t 5)) 164 true [19],og_ 166 (.load true 1 (.t 165)) 164 true
 [20,19],og_ 167 (.fa 3 (.t 17)) 164 true [19],og_ 168 (.load false 1 (.t 167)) 164 true [22,19],og_ 169 (.call 23 [(.t 166),(.t 168)]) 164 true [21,23,19,19],oo_ 170 (.pick (.t 164) (.t 169) (.d (.bool false)))
 [19,24],om_ 4 170 [25,24,0,1,2,3,4,5,6,7,8,9,10,11,12,13,14,15,16,17,18,19,20,21,22,23,24,25]]) .ret))))))))))))
theorem o_6w : fnOf Tryd.prog o_6u = some (o_6v, [.t 4], 171, false) := by kernel_rfl

abbrev o_6x : FuncId := 6
def o_6y : C := (.seq (.reg false [oo_ 0 (.mv (.d (.bool false))) []]) (.seq (.reg false [oo_ 4 (.call 7 [(.d (.int .i64 1)),(.d (.int .i64 9))]) [],om_ 3 4 [0],oo_ 5 (.ext (.t 3) 0) [1],oo_ 6 (.ext (.t 3) 1) [1],oo_ 1 (.new 27 [(.int
 .i64 0),(.int .i64 0),.nilsl,.nilsl]) [],on_ (.store 4 (.t 1) (.t 5)) [4,2,0,0,1,2,4],om_ 2 6 [3,5,0,1,2,3,4,5]]) (.seq (.reg false [om_ 7 2 [],oo_ 8 (.bin .eql (.t 7) (.d (.int .i64 0))) [0],om_ 9 8 [1],og_ 10 (.call
 26 [(.d (.int .i64 5))]) 9 true [2,2],oo_ 11 (.pick (.t 9) (.t 10) (.d (.bool false))) [2,3],om_ 12 11 [4,3],og_ 13 (.fa 0 (.t 1)) 12 true [5],og_ 14 (.load false 1 (.t 13)) 12 true [6,5],og_ 15 (.bin .eql (.t 14) (.d
 (.int .i64 3))) 12 true [7,5],oo_ 16 (.pick (.t 12) (.t 15) (.d (.bool false))) [5,8],om_ 17 16 [9,5],og_ 18 (.fa 1 (.t 1)) 17 true [10],og_ 19 (.load false 1 (.t 18)) 17 true [11,10],og_ 20 (.bin .eql (.t 19) (.d (.int
 .i64 1))) 17 true [12,10],oo_ 21 (.pick (.t 17) (.t 20) (.d (.bool false))) [10,13],om_ 22 21 [14,10],og_ 23 (.fa 2 (.t 1)) 22 true [15],og_ 24 (.load true 1 (.t 23)) 22 true [16,15],og_ 25 (.call 9 [(.t 24)]) 22 true
 [17,15,15],⟨some 26,.bin .eql (.t 25) (.d (.str ⟨#[49,50]⟩)),some (22,true),[18,15]⟩,oo_ 27 (.pick (.t 22) (.t 26) (.d (.bool false))) [15,19],om_ 28 27 [20,18],og_ 29 (.fa 3 (.t 1)) 28 true [21],og_ 30 (.load true 1
 (.t 29)) 28 true [22,21],og_ 31 (.call 9 [(.t 30)]) 28 true [23,21,21],⟨some 32,.bin .eql (.t 31) (.d (.str ⟨#[49,52]⟩)),some (28,true),[24,21]⟩,oo_ 33 (.pick (.t 28) (.t 32) (.d (.bool false))) [21,25],om_ 0 33
 [26,24,0,1,2,3,4,5,6,7,8,9,10,11,12,13,14,15,16,17,18,19,20,21,22,23,24,25,26]]) .ret)))
theorem o_6z : fnOf Tryd.prog o_6x = some (o_6y, [.t 0], 34, false) := by kernel_rfl

abbrev o_70 : FuncId := 7
def o_71 : C := (.seq (.reg false [oo_ 3 (.box 3 (.t 1)) [],oo_ 4 (.new 27 [(.int .i64 0),(.int .i64 0),.nilsl,.nilsl]) [],oo_ 5 (.mv (.d (.int .i64 0))) []]) (.seq (.block 0 (.seq (.reg false [om_ 10 0 [],oo_ 11 (.call 26 [(.t 10)])
 [0],oo_ 12 (.un .not (.t 11)) [1],om_ 9 12 [2,1]]) (.cond (.t 9) (.seq (.reg false [oo_ 13 (.build [(.int .i64 0),(.int .i64 0),.nilsl,.nilsl] []) [],on_ (.store 4 (.t 4) (.t 13)) [0,0],oo_ 5 (.mv (.d (.int .i64 10)))
 [1,0,1]]) .ret) (.seq (.reg false [oo_ 15 (.load false 1 (.t 3)) [],oo_ 16 (.bin .lss (.t 15) (.d (.int .i64 0))) [0],om_ 17 16 [1],og_ 18 (.load false 1 (.t 3)) 17 false [2],og_ 19 (.bin .gtr (.t 18) (.d (.int .i64
 1023))) 17 false [3,2],oo_ 20 (.pick (.t 17) (.d (.bool true)) (.t 19)) [2,4],om_ 14 20 [5,2]]) (.cond (.t 14) (.seq (.reg false [oo_ 21 (.build [(.int .i64 0),(.int .i64 0),.nilsl,.nilsl] []) [],on_ (.store 4 (.t 4)
 (.t 21)) [0,0],oo_ 5 (.mv (.d (.int .i64 2))) [1,0,1]]) .ret) .skip))))) (.seq (.reg false [oo_ 6 (.new 27 [(.int .i64 0),(.int .i64 0),.nilsl,.nilsl]) []]) (.seq (.seq (.reg false [om_ 22 0 [],oo_ 23 (.call 29 [(.t
 22)]) [0]]) (.block 1 .bad)) (.seq (.reg false [oo_ 30 (.load true 4 (.t 6)) [],on_ (.store 4 (.t 4) (.t 30)) [0,0],oo_ 5 (.mv (.d (.int .i64 0))) [1,0,1]]) .ret)))))
theorem o_72 : fnOf Tryd.prog o_70 = some (o_71, [.cell 4 true 4, .t 5], 31, false) := by kernel_rfl

abbrev o_73 : FuncId := 8
def o_74 : C := (.seq (.reg false [oo_ 2 (.box 25 (.t 0)) [],oo_ 3 (.box 25 (.t 1)) [],oo_ 4 (.mv (.d (.int .i64 0))) []]) (.seq (.seq (.reg false [oo_ 9 (.fa 0 (.t 2)) [],oo_ 10 (.load false 1 (.t 9)) [0],oo_ 11 (.len (.t 10)) [1],oo_
 12 (.fa 0 (.t 3)) [],oo_ 13 (.load false 1 (.t 12)) [3],oo_ 14 (.len (.t 13)) [4],oo_ 15 (.bin .sub (.t 11) (.t 14)) [2,5],om_ 5 15 [6,0,1,2,3,4,5,6]]) (.seq (.reg false [om_ 16 5 [],oo_ 17 (.bin .neq (.t 16) (.d (.int
 .i64 0))) [0]]) (.cond (.t 17) (.seq (.reg false [om_ 18 5 [],oo_ 19 (.mm false [(.t 18),(.d (.int .i64 1))]) [0],oo_ 20 (.mm true [(.d (.int .i64 (-1))),(.t 19)]) [1],om_ 4 20 [2,0,1,2]]) .ret) .skip))) (.seq (.seq
 (.reg false [oo_ 21 (.fa 0 (.t 2)) [],oo_ 22 (.load false 1 (.t 21)) [0],oo_ 23 (.len (.t 22)) [1],oo_ 24 (.bin .sub (.t 23) (.d (.int .i64 1))) [2],om_ 6 24 [3,0,1,2,3]]) (.block 0 (.loop (.seq (.seq (.reg false [om_
 25 6 [],oo_ 26 (.bin .geq (.t 25) (.d (.int .i64 0))) [0]]) (.cond (.t 26) .skip (.exit 0))) (.seq (.block 1 (.seq (.reg true [oo_ 29 (.fa 0 (.t 2)) [],oo_ 30 (.load false 1 (.t 29)) [0],om_ 31 6 [],oo_ 32 (.ix 1 (.t
 30) (.t 31)) [1,2],oo_ 33 (.load false 1 (.t 32)) [3],oo_ 34 (.fa 0 (.t 3)) [],oo_ 35 (.load false 1 (.t 34)) [5],om_ 36 6 [],oo_ 37 (.ix 1 (.t 35) (.t 36)) [6,7],oo_ 38 (.load false 1 (.t 37)) [8],om_ 7 33
 [4,0,1,2,3,4],om_ 8 38 [9,10,0,1,2,3,4,5,6,7,8,9,10]]) (.block 2 (.seq (.reg false [om_ 40 7 [],om_ 41 8 [],oo_ 42 (.bin .lss (.t 40) (.t 41)) [0,1],om_ 39 42 [2]]) (.cond (.t 39) (.seq (.reg false [oo_ 4 (.mv (.d (.int
 .i64 (-1)))) []]) .ret) (.seq (.reg false [om_ 44 7 [],om_ 45 8 [],oo_ 46 (.bin .gtr (.t 44) (.t 45)) [0,1],om_ 43 46 [2]]) (.cond (.t 43) (.seq (.reg false [oo_ 4 (.mv (.d (.int .i64 1))) []]) .ret) .skip))))))) (.reg
 false [om_ 27 6 [],oo_ 28 (.bin .sub (.t 27) (.d (.int .i64 1))) [0],om_ 6 28 [1,0,1]])))))) (.seq (.reg false [oo_ 4 (.mv (.d (.int .i64 0))) []]) .ret))))
theorem o_75 : fnOf Tryd.prog o_73 = some (o_74, [.t 4], 47, false) := by kernel_rfl

abbrev o_76 : FuncId := 9
def o_77 : C := (.seq (.reg false [oo_ 1 (.box 25 (.t 0)) [],⟨some 2,.mv (.d (.str ⟨#[]⟩)),none,[]⟩]) (.seq (.seq (.reg false [oo_ 8 (.load true 1 (.t 1)) [],oo_ 9 (.call 19 [(.t 8)]) [0]]) (.cond (.t 9) (.seq (.reg false [⟨some 2,.mv
 (.d (.str ⟨#[48]⟩)),none,[]⟩]) .ret) .skip)) (.seq (.reg false [⟨some 3,.mv (.d (.str ⟨#[]⟩)),none,[]⟩]) (.seq (.seq (.reg false [oo_ 10 (.fa 0 (.t 1)) [],oo_ 11 (.load false 1 (.t 10)) [0],om_ 4 11 [1,0,1]]) (.block 0
 (.loop (.seq (.seq (.reg false [om_ 12 4 [],oo_ 13 (.len (.t 12)) [0],oo_ 14 (.bin .gtr (.t 13) (.d (.int .i64 0))) [1]]) (.cond (.t 14) .skip (.exit 0))) (.block 1 (.seq (.reg false [om_ 16 4 [],oo_ 17 (.call 30 [(.t
 16),(.d (.int .u64 1000000000000000000))]) [0],om_ 15 17 [1],oo_ 18 (.ext (.t 15) 0) [2],oo_ 19 (.ext (.t 15) 1) [2],om_ 5 18 [3,1,0,1,2,3],om_ 6 19 [4,5,0,1,2,3,4,5]]) (.seq (.reg false [om_ 20 5 [],oo_ 21 (.call 31
 [(.t 20)]) [0],oo_ 22 (.fld false 0 1 (.t 21)) [1],om_ 4 22 [2,1,0,1,2]]) (.seq (.reg false [om_ 23 6 [],oo_ 24 (.call 32 [(.t 23),(.d (.int .i64 10))]) [0],om_ 7 24 [1,1,0,1]]) (.seq (.seq (.reg false [om_ 25 4 [],oo_
 26 (.len (.t 25)) [0],oo_ 27 (.bin .gtr (.t 26) (.d (.int .i64 0))) [1]]) (.cond (.t 27) (.reg false [om_ 28 7 [],oo_ 29 (.lens (.t 28)) [0],oo_ 30 (.bin .sub (.d (.int .i64 18)) (.t 29)) [1],⟨some 31,.call 33 [(.d
 (.str ⟨#[48]⟩)),(.t 30)],none,[2]⟩,om_ 32 7 [],oo_ 33 (.bin .add (.t 31) (.t 32)) [3,4],om_ 7 33 [5,3,0,1,2,3,4,5]]) .skip)) (.reg false [om_ 34 7 [],om_ 35 3 [],oo_ 36 (.bin .add (.t 34) (.t 35)) [0,1],om_ 3 36
 [2,0,1,2]])))))))))) (.seq (.reg false [om_ 37 3 [],om_ 2 37 [0,0]]) .ret)))))
theorem o_78 : fnOf Tryd.prog o_76 = some (o_77, [.t 2], 38, false) := by kernel_rfl

abbrev o_79 : FuncId := 10
def o_7a : C := (.seq (.reg false [oo_ 2 (.new 25 [.nilsl]) []]) (.seq (.reg false [om_ 3 0 [],oo_ 4 (.call 34 [(.t 3)]) [0],oo_ 5 (.call 31 [(.t 4)]) [1,1],on_ (.store 1 (.t 2) (.t 5)) [2,2,0,1,2]]) .ret))
theorem o_7b : fnOf Tryd.prog o_79 = some (o_7a, [.cell 2 true 1], 6, false) := by kernel_rfl

abbrev o_7c : FuncId := 11
def o_7d : C := (.seq (.reg false [oo_ 2 (.box 25 (.t 0)) [],oo_ 4 (.new 25 [.nilsl]) [],oo_ 5 (.mv (.d (.int .i64 0))) []]) (.seq (.seq (.reg false [om_ 6 1 [],oo_ 7 (.bin .lss (.t 6) (.d (.int .i64 0))) [0],om_ 8 7 [1],og_ 9 (.mv (.t
 1)) 8 false [2],og_ 10 (.bin .gtr (.t 9) (.d (.int .i64 8192))) 8 false [3,2],oo_ 11 (.pick (.t 8) (.d (.bool true)) (.t 10)) [2,4]]) (.cond (.t 11) (.seq (.reg false [oo_ 12 (.build [.nilsl] []) [],on_ (.store 1 (.t 4)
 (.t 12)) [0,0],oo_ 5 (.mv (.d (.int .i64 2))) [1,0,1]]) .ret) .skip)) (.seq (.reg true [om_ 13 1 [],oo_ 14 (.bin .quo (.t 13) (.d (.int .i64 64))) [0],oo_ 15 (.mksl 34 1 8 [(.int .u64 0)] (.t 14) (.t 14)) [1,1],oo_ 16
 (.fa 0 (.t 2)) [],oo_ 17 (.load false 1 (.t 16)) [3],om_ 18 1 [],oo_ 19 (.bin .rem (.t 18) (.d (.int .i64 64))) [5],oo_ 20 (.call 35 [(.t 17),(.t 19)]) [4,6],oo_ 21 (.app 34 1 8 (.t 15) (.t 20)) [2,7,7],oo_ 22 (.call 31
 [(.t 21)]) [8,8],on_ (.store 1 (.t 4) (.t 22)) [9,9,0,1,2,3,4,5,6,7,8,9],oo_ 5 (.mv (.d (.int .i64 0))) [10,0,1,2,3,4,5,6,7,8,9,10]]) .ret)))
theorem o_7e : fnOf Tryd.prog o_7c = some (o_7d, [.cell 4 true 1, .t 5], 23, false) := by kernel_rfl

abbrev o_7f : FuncId := 12
def o_7g : C := (.seq (.reg false [oo_ 2 (.box 25 (.t 0)) [],oo_ 3 (.box 25 (.t 1)) [],oo_ 4 (.new 25 [.nilsl]) []]) (.seq (.seq (.reg false [oo_ 10 (.fa 0 (.t 2)) [],oo_ 11 (.load false 1 (.t 10)) [0],oo_ 12 (.len (.t 11)) [1],oo_ 13
 (.fa 0 (.t 3)) [],oo_ 14 (.load false 1 (.t 13)) [3],oo_ 15 (.len (.t 14)) [4],oo_ 16 (.bin .lss (.t 12) (.t 15)) [2,5]]) (.cond (.t 16) (.reg false [oo_ 17 (.load true 1 (.t 3)) [],oo_ 18 (.load true 1 (.t 2)) [],on_
 (.store 1 (.t 2) (.t 17)) [0,0,1],on_ (.store 1 (.t 3) (.t 18)) [1,2,0,1,2]]) .skip)) (.seq (.reg false [oo_ 19 (.fa 0 (.t 2)) [],oo_ 20 (.load false 1 (.t 19)) [0],oo_ 21 (.len (.t 20)) [1],oo_ 22 (.bin .add (.t 21)
 (.d (.int .i64 1))) [2],oo_ 23 (.mksl 34 1 8 [(.int .u64 0)] (.t 22) (.t 22)) [3,3],om_ 5 23 [4,0,1,2,3,4]]) (.seq (.reg false [oo_ 6 (.mv (.d (.int .u64 0))) []]) (.seq (.seq (.reg false [oo_ 24 (.fa 0 (.t 2)) [],oo_
 25 (.load false 1 (.t 24)) [0],oo_ 26 (.len (.t 25)) [1],oo_ 27 (.mv (.d (.int .i64 0))) []]) (.block 0 (.loop (.seq (.reg false [oo_ 28 (.bin .lss (.t 27) (.t 26)) []]) (.seq (.cond (.t 28) .skip (.exit 0)) (.seq
 (.block 1 (.seq (.reg false [om_ 29 27 [],oo_ 30 (.ix 1 (.t 25) (.t 27)) [],oo_ 31 (.load false 1 (.t 30)) [1],om_ 7 29 [0,0,1,2],om_ 8 31 [2,3,0,1,2,3]]) (.seq (.reg false [oo_ 9 (.mv (.d (.int .u64 0))) []]) (.seq
 (.seq (.reg false [om_ 32 7 [],oo_ 33 (.fa 0 (.t 3)) [],oo_ 34 (.load false 1 (.t 33)) [1],oo_ 35 (.len (.t 34)) [2],oo_ 36 (.bin .lss (.t 32) (.t 35)) [0,3]]) (.cond (.t 36) (.reg false [oo_ 37 (.fa 0 (.t 3)) [],oo_ 38
 (.load false 1 (.t 37)) [0],om_ 39 7 [],oo_ 40 (.ix 1 (.t 38) (.t 39)) [1,2],oo_ 41 (.load false 1 (.t 40)) [3],om_ 9 41 [4,0,1,2,3,4]]) .skip)) (.reg false [om_ 43 5 [],om_ 44 7 [],om_ 45 8 [],om_ 46 9 [],om_ 47 6
 [],oo_ 48 (.call 36 [(.t 45),(.t 46),(.t 47)]) [2,3,4],om_ 42 48 [5],oo_ 49 (.ext (.t 42) 0) [6],oo_ 50 (.ext (.t 42) 1) [6],oo_ 51 (.ix 1 (.t 43) (.t 44)) [0,1,0,1,2,3,4,5,6,7],on_ (.store 1 (.t 51) (.t 49))
 [9,7,5,0,1,2,3,4,5,6,7],om_ 6 50 [8,10,0,1,2,3,4,5,6,7,8,9,10]]))))) (.reg false [oo_ 52 (.bin .add (.t 27) (.d (.int .i64 1))) [],om_ 27 52 [0]]))))))) (.seq (.reg false [om_ 53 5 [],oo_ 54 (.fa 0 (.t 2)) [],oo_ 55
 (.load false 1 (.t 54)) [1],oo_ 56 (.len (.t 55)) [2],om_ 57 6 [],oo_ 58 (.ix 1 (.t 53) (.t 56)) [0,3,0,1,2,3,4],on_ (.store 1 (.t 58) (.t 57)) [5,4,0,1,2,3,4]]) (.seq (.reg false [om_ 59 5 [],oo_ 60 (.call 31 [(.t
 59)]) [0],on_ (.store 1 (.t 4) (.t 60)) [1,1,0,1]]) .ret)))))))
theorem o_7h : fnOf Tryd.prog o_7f = some (o_7g, [.cell 4 true 1], 61, false) := by kernel_rfl

abbrev o_7i : FuncId := 18
def o_7j : C := (.seq (.reg false [oo_ 1 (.box 42 (.t 0)) [],⟨some 2,.mv (.d (.str ⟨#[]⟩)),none,[]⟩]) (.seq (.seq (.reg false [oo_ 3 (.load true 3 (.t 1)) [],oo_ 4 (.call 40 [(.t 3)]) [0]]) (.cond (.t 4) (.seq (.reg false [oo_ 5 (.fa 0
 (.t 1)) [],oo_ 6 (.load true 2 (.t 5)) [0],oo_ 7 (.call 41 [(.t 6)]) [1],om_ 2 7 [2,2,0,1,2]]) .ret) .skip)) (.seq (.reg true [oo_ 8 (.fa 0 (.t 1)) [],oo_ 9 (.load true 2 (.t 8)) [0],oo_ 10 (.call 41 [(.t 9)]) [1],⟨some
 11,.bin .add (.t 10) (.d (.str ⟨#[47]⟩)),none,[2]⟩,oo_ 12 (.load true 3 (.t 1)) [],oo_ 13 (.call 42 [(.t 12)]) [4,2],oo_ 14 (.call 9 [(.t 13)]) [5,5],oo_ 15 (.bin .add (.t 11) (.t 14)) [3,6],om_ 2 15
 [7,6,0,1,2,3,4,5,6,7]]) .ret)))
theorem o_7k : fnOf Tryd.prog o_7i = some (o_7j, [.t 2], 16, false) := by kernel_rfl

abbrev o_7l : FuncId := 19
def o_7m : C := (.seq (.reg false [oo_ 1 (.box 25 (.t 0)) [],oo_ 2 (.mv (.d (.bool false))) []]) (.seq (.reg false [oo_ 3 (.fa 0 (.t 1)) [],oo_ 4 (.load false 1 (.t 3)) [0],oo_ 5 (.len (.t 4)) [1],oo_ 6 (.bin .eql (.t 5) (.d (.int .i64
 0))) [2],om_ 2 6 [3,0,1,2,3]]) .ret))
theorem o_7n : fnOf Tryd.prog o_7l = some (o_7m, [.t 2], 7, false) := by kernel_rfl

abbrev o_7o : FuncId := 20
def o_7p : C := (.seq (.reg false [oo_ 2 (.new 42 [.nilsl,(.bool false),.nilsl]) [],oo_ 3 (.mv (.d (.int .i64 0))) []]) (.seq (.reg false [oo_ 7 (.bsl 34 1 1 [(.int .u64 0)] [(0,1,(.d (.int .u64 1)))]) [],oo_ 8 (.call 10 [(.t 7)])
 [0],om_ 9 0 [],oo_ 10 (.call 11 [(.t 8),(.t 9)]) [1,2,1],om_ 6 10 [3],oo_ 11 (.ext (.t 6) 0) [4],oo_ 12 (.ext (.t 6) 1) [4],oo_ 4 (.new 25 [.nilsl]) [],on_ (.store 1 (.t 4) (.t 11)) [7,5,3,0,1,2,3,4,5,7],om_ 5 12
 [6,8,0,1,2,3,4,5,6,7,8]]) (.seq (.seq (.reg false [om_ 13 5 [],oo_ 14 (.bin .neq (.t 13) (.d (.int .i64 0))) [0]]) (.cond (.t 14) (.seq (.reg false [oo_ 15 (.build [.nilsl,(.bool false),.nilsl] []) [],om_ 16 5 [],on_
 (.store 3 (.t 2) (.t 15)) [0,0],om_ 3 16 [1,2,0,1,2]]) .ret) .skip)) (.seq (.reg true [oo_ 17 (.call 44 [(.d (.int .i64 1))]) [],oo_ 18 (.load true 1 (.t 4)) [],oo_ 19 (.call 43 [(.t 17),(.t 18)]) [0,1,0],on_ (.store 3
 (.t 2) (.t 19)) [2,2,0,1,2],oo_ 3 (.mv (.d (.int .i64 0))) [3,0,1,2,3]]) .ret))))
theorem o_7q : fnOf Tryd.prog o_7o = some (o_7p, [.cell 2 true 3, .t 3], 20, false) := by kernel_rfl

abbrev o_7r : FuncId := 22
def o_7s : C := (.seq (.reg false [oo_ 2 (.box 42 (.t 0)) [],oo_ 3 (.box 42 (.t 1)) [],oo_ 4 (.mv (.d (.int .i64 0))) []]) (.seq (.reg true [oo_ 5 (.fa 0 (.t 2)) [],oo_ 6 (.load true 2 (.t 5)) [0],oo_ 7 (.load true 3 (.t 3)) [],oo_ 8
 (.call 48 [(.t 7)]) [2],oo_ 9 (.call 47 [(.t 6),(.t 8)]) [1,3,3],oo_ 10 (.fa 0 (.t 3)) [],oo_ 11 (.load true 2 (.t 10)) [5],oo_ 12 (.load true 3 (.t 2)) [],oo_ 13 (.call 48 [(.t 12)]) [7,4],oo_ 14 (.call 47 [(.t 11),(.t
 13)]) [6,8,8],oo_ 15 (.call 46 [(.t 9),(.t 14)]) [4,9,9],om_ 4 15 [10,10,0,1,2,3,4,5,6,7,8,9,10]]) .ret))
theorem o_7t : fnOf Tryd.prog o_7r = some (o_7s, [.t 4], 16, false) := by kernel_rfl

abbrev o_7u : FuncId := 23
def o_7v : C := (.seq (.reg false [oo_ 2 (.box 25 (.t 0)) [],oo_ 4 (.mv (.d (.bool false))) []]) (.seq (.reg false [oo_ 5 (.load true 1 (.t 2)) [],oo_ 6 (.call 9 [(.t 5)]) [0],om_ 7 1 [],oo_ 8 (.call 49 [(.t 7)]) [2,1],oo_ 9 (.bin .eql
 (.t 6) (.t 8)) [1,3],om_ 4 9 [4,3,0,1,2,3,4]]) .ret))
theorem o_7w : fnOf Tryd.prog o_7u = some (o_7v, [.t 4], 10, false) := by kernel_rfl

abbrev o_7x : FuncId := 25
def o_7y : C := (.seq (.reg false [oo_ 4 (.new 42 [.nilsl,(.bool false),.nilsl]) [],oo_ 5 (.mv (.d (.int .i64 0))) []]) (.seq (.reg false [om_ 9 0 [],om_ 10 1 [],oo_ 11 (.call 7 [(.t 9),(.t 10)]) [0,1],om_ 8 11 [2],oo_ 12 (.ext (.t 8)
 0) [3],oo_ 13 (.ext (.t 8) 1) [3],oo_ 6 (.new 27 [(.int .i64 0),(.int .i64 0),.nilsl,.nilsl]) [],on_ (.store 4 (.t 6) (.t 12)) [6,4,2,0,1,2,3,4,6],om_ 7 13 [5,7,0,1,2,3,4,5,6,7]]) (.seq (.seq (.reg false [om_ 14 7
 [],oo_ 15 (.bin .neq (.t 14) (.d (.int .i64 0))) [0]]) (.cond (.t 15) (.seq (.reg false [oo_ 16 (.build [.nilsl,(.bool false),.nilsl] []) [],om_ 17 7 [],on_ (.store 3 (.t 4) (.t 16)) [0,0],om_ 5 17 [1,2,0,1,2]]) .ret)
 .skip)) (.seq (.reg false [oo_ 18 (.fa 1 (.t 6)) [],oo_ 19 (.load false 1 (.t 18)) [0],oo_ 20 (.call 20 [(.t 19)]) [1],oo_ 21 (.ext (.t 20) 0) [2],oo_ 22 (.ext (.t 20) 1) [2],on_ (.store 3 (.t 4) (.t 21))
 [3,2,0,1,2,3,4],om_ 5 22 [4,5,0,1,2,3,4,5]]) .ret))))
theorem o_7z : fnOf Tryd.prog o_7x = some (o_7y, [.cell 4 true 3, .t 5], 23, false) := by kernel_rfl

abbrev o_80 : FuncId := 26
def o_81 : C := (.seq (.reg false [oo_ 2 (.mv (.d (.bool false))) []]) (.seq (.reg false [om_ 3 0 [],oo_ 4 (.bin .geq (.t 3) (.d (.int .i64 1))) [0],om_ 5 4 [1],og_ 6 (.mv (.t 0)) 5 true [2],og_ 7 (.bin .leq (.t 6) (.d (.int .i64 5)))
 5 true [3,2],oo_ 8 (.pick (.t 5) (.t 7) (.d (.bool false))) [2,4],om_ 2 8 [5,2,0,1,2,3,4,5]]) .ret))
theorem o_82 : fnOf Tryd.prog o_80 = some (o_81, [.t 2], 9, false) := by kernel_rfl

abbrev o_83 : FuncId := 27
def o_84 : C := (.seq (.reg false [oo_ 4 (.mv (.d (.int .i64 0))) []]) (.seq (.seq (.reg false [om_ 5 0 [],oo_ 6 (.bin .lss (.t 5) (.d (.int .i64 1))) [0],om_ 7 6 [1],og_ 8 (.mv (.t 0)) 7 false [2],og_ 9 (.bin .gtr (.t 8) (.d (.int
 .i64 5))) 7 false [3,2],oo_ 10 (.pick (.t 7) (.d (.bool true)) (.t 9)) [2,4]]) (.cond (.t 10) (.seq (.reg false [oo_ 4 (.mv (.d (.int .i64 10))) []]) .ret) .skip)) (.seq (.seq (.reg false [om_ 11 1 [],oo_ 12 (.bin .lss
 (.t 11) (.d (.int .i64 0))) [0],om_ 13 12 [1],og_ 14 (.mv (.t 1)) 13 false [2],og_ 15 (.bin .gtr (.t 14) (.d (.int .i64 1023))) 13 false [3,2],oo_ 16 (.pick (.t 13) (.d (.bool true)) (.t 15)) [2,4]]) (.cond (.t 16)
 (.seq (.reg false [oo_ 4 (.mv (.d (.int .i64 2))) []]) .ret) .skip)) (.seq (.reg false [oo_ 4 (.mv (.d (.int .i64 0))) []]) .ret))))
theorem o_85 : fnOf Tryd.prog o_83 = some (o_84, [.t 4], 17, false) := by kernel_rfl

abbrev o_86 : FuncId := 28
def o_87 : C := (.seq (.reg false [oo_ 4 (.new 55 [(.int .i64 0),(.int .i64 0),.nilsl,.nilsl]) []]) (.seq (.reg false [oo_ 7 (.call 50 [(.d (.int .i64 4))]) [],om_ 8 0 [],oo_ 9 (.call 52 [(.t 7),(.t 8)]) [0,1,0],oo_ 10 (.build [(.int
 .i64 0),(.int .i64 0),.nilsl,.nilsl] [(3,1,(.t 9))]) [2],oo_ 5 (.new 55 [(.int .i64 0),(.int .i64 0),.nilsl,.nilsl]) [],on_ (.store 4 (.t 5) (.t 10)) [4,3,2,0,1,2,3,4]]) (.seq (.seq (.reg false [oo_ 6 (.mv (.d (.int
 .i64 0))) []]) (.block 0 (.loop (.seq (.seq (.reg false [om_ 11 6 [],om_ 12 1 [],oo_ 13 (.bin .lss (.t 11) (.t 12)) [0,1]]) (.cond (.t 13) .skip (.exit 0))) (.seq (.block 1 (.seq (.reg true [oo_ 16 (.fa 2 (.t 5)) [],oo_
 17 (.load false 1 (.t 16)) [0],oo_ 18 (.call 50 [(.d (.int .i64 2))]) [],oo_ 19 (.fa 1 (.t 5)) [],oo_ 20 (.load false 1 (.t 19)) [3],oo_ 21 (.call 52 [(.t 18),(.t 20)]) [2,4,2],oo_ 22 (.call 51 [(.t 17),(.t 21)])
 [1,5,5],oo_ 23 (.fa 2 (.t 5)) [0,1,2,3,4,5,6],on_ (.store 1 (.t 23) (.t 22)) [7,6,6,0,1,2,3,4,5,6]]) (.seq (.reg false [oo_ 24 (.fa 2 (.t 5)) [],oo_ 25 (.load false 1 (.t 24)) [0],oo_ 26 (.fa 3 (.t 5)) [],oo_ 27 (.load
 false 1 (.t 26)) [2],oo_ 28 (.call 53 [(.t 25),(.t 27)]) [1,3],oo_ 29 (.bin .geq (.t 28) (.d (.int .i64 0))) [4]]) (.cond (.t 29) (.seq (.reg false [oo_ 30 (.fa 0 (.t 5)) [],oo_ 31 (.load false 1 (.t 30)) [0],oo_ 32
 (.bin .add (.t 31) (.d (.int .i64 1))) [1],oo_ 33 (.fa 0 (.t 5)) [0,1,2],on_ (.store 1 (.t 33) (.t 32)) [3,2,0,1,2]]) (.seq (.reg false [om_ 34 0 [],oo_ 35 (.fa 3 (.t 5)) [],oo_ 36 (.load false 1 (.t 35)) [1],oo_ 37
 (.call 54 [(.t 34),(.t 36)]) [0,2],oo_ 38 (.fa 3 (.t 5)) [0,1,2,3],on_ (.store 1 (.t 38) (.t 37)) [4,3,3,0,1,2,3]]) (.seq (.reg false [oo_ 39 (.fa 3 (.t 5)) [],oo_ 40 (.load false 1 (.t 39)) [0],oo_ 41 (.call 55 [(.t
 40)]) [1],oo_ 42 (.bin .sub (.t 41) (.d (.int .i64 1))) [2],om_ 43 0 [],oo_ 44 (.bin .mul (.d (.int .i64 2)) (.t 43)) [4],oo_ 45 (.bin .sub (.t 42) (.t 44)) [3,5],oo_ 46 (.fa 1 (.t 5)) [0,1,2,3,4,5,6],on_ (.store 1 (.t
 46) (.t 45)) [7,6,2,0,1,2,3,4,5,6]]) (.seq (.reg false [oo_ 47 (.fa 1 (.t 5)) [],oo_ 48 (.load false 1 (.t 47)) [0],oo_ 49 (.bin .lss (.t 48) (.d (.int .i64 0))) [1]]) (.cond (.t 49) (.reg false [oo_ 50 (.fa 1 (.t 5))
 [],on_ (.store 1 (.t 50) (.d (.int .i64 0))) [0]]) .skip))))) .skip)))) (.reg false [om_ 14 6 [],oo_ 15 (.bin .add (.t 14) (.d (.int .i64 1))) [0],om_ 6 15 [1,0,1]])))))) (.seq (.reg false [oo_ 51 (.load true 4 (.t 5))
 [],on_ (.store 4 (.t 4) (.t 51)) [0,0]]) .ret))))
theorem o_88 : fnOf Tryd.prog o_86 = some (o_87, [.cell 4 true 4], 52, false) := by kernel_rfl

abbrev n_yu_walk : FuncId := 29
def c_yu_walk : C := (.seq (.reg false [oo_ 1 (.box 3 (.t 0)) [],oo_ 2 (.mv (.d .nilfn)) []]) (.seq (.reg false [oo_ 3 (.mkf (.func 56) [(.t 1)]) [],om_ 2 3 [0,0]]) .ret))
theorem r_yu_walk : fnOf Tryd.prog n_yu_walk = some (c_yu_walk, [.t 2], 4, false) := by kernel_rfl

abbrev o_89 : FuncId := 30
def o_8a : C := (.seq (.reg false [oo_ 4 (.mv (.d .nilsl)) [],oo_ 5 (.mv (.d (.int .u64 0))) [0]]) (.seq (.reg false [om_ 9 0 [],oo_ 10 (.len (.t 9)) [0],oo_ 11 (.mksl 34 1 8 [(.int .u64 0)] (.t 10) (.t 10)) [1,1],om_ 6 11 [2,0,1,2]])
 (.seq (.reg false [oo_ 7 (.mv (.d (.int .u64 0))) []]) (.seq (.seq (.reg false [om_ 12 0 [],oo_ 13 (.len (.t 12)) [0],oo_ 14 (.bin .sub (.t 13) (.d (.int .i64 1))) [1],om_ 8 14 [2,0,1,2]]) (.block 0 (.loop (.seq (.seq
 (.reg false [om_ 15 8 [],oo_ 16 (.bin .geq (.t 15) (.d (.int .i64 0))) [0]]) (.cond (.t 16) .skip (.exit 0))) (.seq (.block 1 (.reg false [om_ 20 6 [],om_ 21 8 [],om_ 22 7 [],om_ 23 0 [],om_ 24 8 [],oo_ 25 (.ix 1 (.t
 23) (.t 24)) [3,4],oo_ 26 (.load false 1 (.t 25)) [5],om_ 27 1 [],oo_ 28 (.call 58 [(.t 22),(.t 26),(.t 27)]) [2,6,7],om_ 19 28 [8],oo_ 29 (.ext (.t 19) 0) [9],oo_ 30 (.ext (.t 19) 1) [9],oo_ 31 (.ix 1 (.t 20) (.t 21))
 [0,1,0,1,2,3,4,5,6,7,8,9,10],on_ (.store 1 (.t 31) (.t 29)) [12,10,8,0,1,2,3,4,5,6,7,8,9,10],om_ 7 30 [11,13,0,1,2,3,4,5,6,7,8,9,10,11,12,13]])) (.reg false [om_ 17 8 [],oo_ 18 (.bin .sub (.t 17) (.d (.int .i64 1)))
 [0],om_ 8 18 [1,0,1]])))))) (.seq (.reg false [om_ 32 6 [],om_ 33 7 [],om_ 4 32 [0,0],om_ 5 33 [1,2,0,1,2]]) .ret)))))
theorem o_8b : fnOf Tryd.prog o_89 = some (o_8a, [.t 4, .t 5], 34, false) := by kernel_rfl

abbrev o_8c : FuncId := 31
def o_8d : C := (.seq (.reg false [oo_ 2 (.new 25 [.nilsl]) []]) (.seq (.reg false [om_ 4 0 [],oo_ 5 (.len (.t 4)) [0],om_ 3 5 [1,0,1]]) (.seq (.block 0 (.loop (.seq (.seq (.reg false [om_ 6 3 [],oo_ 7 (.bin .gtr (.t 6) (.d (.int .i64
 0))) [0],om_ 8 7 [1],og_ 9 (.mv (.t 0)) 8 true [2],og_ 10 (.mv (.t 3)) 8 true [2],og_ 11 (.bin .sub (.t 10) (.d (.int .i64 1))) 8 true [4,2],og_ 12 (.ix 1 (.t 9) (.t 11)) 8 true [3,5,2],og_ 13 (.load false 1 (.t 12)) 8
 true [6,2],og_ 14 (.bin .eql (.t 13) (.d (.int .u64 0))) 8 true [7,2],oo_ 15 (.pick (.t 8) (.t 14) (.d (.bool false))) [2,8]]) (.cond (.t 15) .skip (.exit 0))) (.block 1 (.reg false [om_ 16 3 [],oo_ 17 (.bin .sub (.t
 16) (.d (.int .i64 1))) [0],om_ 3 17 [1,0,1]]))))) (.seq (.reg false [om_ 18 0 [],om_ 19 3 [],oo_ 20 (.slice 1 (.t 18) none (some (.t 19)) none) [0,1],oo_ 21 (.build [.nilsl] [(0,1,(.t 20))]) [2],on_ (.store 1 (.t 2)
 (.t 21)) [3,0,1,2,3]]) .ret))))
theorem o_8e : fnOf Tryd.prog o_8c = some (o_8d, [.cell 2 true 1], 22, false) := by kernel_rfl

abbrev o_8f : FuncId := 32
def o_8g : C := (.seq (.reg false [⟨some 4,.mv (.d (.str ⟨#[]⟩)),none,[]⟩]) (.seq (.reg false [om_ 5 0 [],om_ 6 1 [],oo_ 7 (.call 59 [(.t 5),(.t 6)]) [0,1],om_ 4 7 [2,2,0,1,2]]) .ret))
theorem o_8h : fnOf Tryd.prog o_8f = some (o_8g, [.t 4], 8, false) := by kernel_rfl

abbrev o_8i : FuncId := 33
def o_8j : C := (.seq (.reg false [⟨some 4,.mv (.d (.str ⟨#[]⟩)),none,[]⟩]) (.seq (.seq (.reg false [om_ 11 1 []]) (.block 0 (.seq (.reg false [oo_ 13 (.bin .eql (.t 11) (.d (.int .i64 0))) [],om_ 12 13 [0]]) (.cond (.t 12) (.seq (.reg
 false [⟨some 4,.mv (.d (.str ⟨#[]⟩)),none,[]⟩]) .ret) (.seq (.reg false [oo_ 15 (.bin .eql (.t 11) (.d (.int .i64 1))) [],om_ 14 15 [0]]) (.cond (.t 14) (.seq (.reg false [om_ 16 0 [],om_ 4 16 [0,0]]) .ret) .skip))))))
 (.seq (.seq (.reg false [om_ 17 1 [],oo_ 18 (.bin .lss (.t 17) (.d (.int .i64 0))) [0]]) (.cond (.t 18) (.reg false [⟨some 19,.ifc 9 (.d (.str
 ⟨#[115,116,114,105,110,103,115,58,32,110,101,103,97,116,105,118,101,32,82,101,112,101,97,116,32,99,111,117,110,116]⟩)),none,[]⟩,on_ (.bad) [0]]) .skip)) (.seq (.reg false [om_ 21 0 [],oo_ 22 (.lens (.t 21)) [0],oo_ 23
 (.conv .u64 (.t 22)) [1],om_ 24 1 [],oo_ 25 (.conv .u64 (.t 24)) [3],oo_ 26 (.call 60 [(.t 23),(.t 25)]) [2,4],om_ 20 26 [5],oo_ 27 (.ext (.t 20) 0) [6],oo_ 28 (.ext (.t 20) 1) [6],om_ 5 27 [7,5,0,1,2,3,4,5,6,7],om_ 6
 28 [8,9,0,1,2,3,4,5,6,7,8,9]]) (.seq (.seq (.reg false [om_ 29 5 [],oo_ 30 (.bin .gtr (.t 29) (.d (.int .u64 0))) [0],om_ 31 30 [1],og_ 32 (.mv (.t 6)) 31 false [2],og_ 33 (.bin .gtr (.t 32) (.d (.int .u64
 9223372036854775807))) 31 false [3,2],oo_ 34 (.pick (.t 31) (.d (.bool true)) (.t 33)) [2,4]]) (.cond (.t 34) (.reg false [⟨some 35,.ifc 9 (.d (.str
 ⟨#[115,116,114,105,110,103,115,58,32,82,101,112,101,97,116,32,111,117,116,112,117,116,32,108,101,110,103,116,104,32,111,118,101,114,102,108,111,119]⟩)),none,[]⟩,on_ (.bad) [0]]) .skip)) (.seq (.reg false [om_ 36 6
 [],oo_ 37 (.conv .i64 (.t 36)) [0],om_ 7 37 [1,0,1]]) (.seq (.seq (.reg false [om_ 38 0 [],oo_ 39 (.lens (.t 38)) [0],oo_ 40 (.bin .eql (.t 39) (.d (.int .i64 0))) [1]]) (.cond (.t 40) (.seq (.reg false [⟨some 4,.mv (.d
 (.str ⟨#[]⟩)),none,[]⟩]) .ret) .skip)) (.seq (.seq (.reg false [om_ 41 0 [],oo_ 42 (.gstr (.t 41) (.d (.int .i64 0))) [0]]) (.block 1 (.seq (.seq (.reg false [oo_ 44 (.bin .eql (.t 42) (.d (.int .u8 32))) [],om_ 43 44
 [0]]) (.cond (.t 43) .skip (.seq (.reg false [oo_ 45 (.bin .eql (.t 42) (.d (.int .u8 45))) [],om_ 43 45 [0]]) (.cond (.t 43) .skip (.seq (.reg false [oo_ 46 (.bin .eql (.t 42) (.d (.int .u8 48))) [],om_ 43 46 [0]])
 (.cond (.t 43) .skip (.seq (.reg false [oo_ 47 (.bin .eql (.t 42) (.d (.int .u8 61))) [],om_ 43 47 [0]]) (.cond (.t 43) .skip (.reg false [oo_ 48 (.bin .eql (.t 42) (.d (.int .u8 9))) [],om_ 43 48 [0]]))))))))) (.cond
 (.t 43) (.block 2 (.seq (.reg false [om_ 50 7 [],oo_ 51 (.bin .leq (.t 50) (.d (.int .i64 128))) [0],om_ 52 51 [1],og_ 53 (.mv (.t 0)) 52 true [2],⟨some 54,.call 61 [(.d (.str
 ⟨#[32,32,32,32,32,32,32,32,32,32,32,32,32,32,32,32,32,32,32,32,32,32,32,32,32,32,32,32,32,32,32,32,32,32,32,32,32,32,32,32,32,32,32,32,32,32,32,32,32,32,32,32,32,32,32,32,32,32,32,32,32,32,32,32,32,32,32,32,32,32,32,32,32,32,32,32,32,32,32,32,32,32,32,32,32,32,32,32,32,32,32,32,32,32,32,32,32,32,32,32,32,32,32,32,32,32,32,32,32,32,32,32,32,32,32,32,32,32,32,32,32,32,32,32,32,32,32,32]⟩)),(.t 53)],some (52,true),[3,2,2]⟩,oo_ 55 (.pick (.t 52) (.t 54) (.d (.bool false))) [2,4],om_ 49 55 [5,4]]) (.cond (.t 49) (.seq (.reg false [om_ 56 7 [],⟨some 57,.sstr (.d (.str ⟨#[32,32,32,32,32,32,32,32,32,32,32,32,32,32,32,32,32,32,32,32,32,32,32,32,32,32,32,32,32,32,32,32,32,32,32,32,32,32,32,32,32,32,32,32,32,32,32,32,32,32,32,32,32,32,32,32,32,32,32,32,32,32,32,32,32,32,32,32,32,32,32,32,32,32,32,32,32,32,32,32,32,32,32,32,32,32,32,32,32,32,32,32,32,32,32,32,32,32,32,32,32,32,32,32,32,32,32,32,32,32,32,32,32,32,32,32,32,32,32,32,32,32,32,32,32,32,32,32]⟩)) none (some (.t 56)),none,[0]⟩,om_ 4 57 [1,0,1]]) .ret) (.seq (.reg false [om_ 59 7 [],oo_ 60 (.bin .leq (.t 59) (.d (.int .i64 128))) [0],om_ 61 60 [1],og_ 62 (.mv (.t 0)) 61 true [2],⟨some 63,.call 61 [(.d (.str ⟨#[45,45,45,45,45,45,45,45,45,45,45,45,45,45,45,45,45,45,45,45,45,45,45,45,45,45,45,45,45,45,45,45,45,45,45,45,45,45,45,45,45,45,45,45,45,45,45,45,45,45,45,45,45,45,45,45,45,45,45,45,45,45,45,45,45,45,45,45,45,45,45,45,45,45,45,45,45,45,45,45,45,45,45,45,45,45,45,45,45,45,45,45,45,45,45,45,45,45,45,45,45,45,45,45,45,45,45,45,45,45,45,45,45,45,45,45,45,45,45,45,45,45,45,45,45,45,45,45]⟩)),(.t 62)],some (61,true),[3,2,2]⟩,oo_ 64 (.pick (.t 61) (.t 63) (.d (.bool false))) [2,4],om_ 58 64 [5,4]]) (.cond (.t 58) (.seq (.reg false [om_ 65 7 [],⟨some 66,.sstr (.d (.str ⟨#[45,45,45,45,45,45,45,45,45,45,45,45,45,45,45,45,45,45,45,45,45,45,45,45,45,45,45,45,45,45,45,45,45,45,45,45,45,45,45,45,45,45,45,45,45,45,45,45,45,45,45,45,45,45,45,45,45,45,45,45,45,45,45,45,45,45,45,45,45,45,45,45,45,45,45,45,45,45,45,45,45,45,45,45,45,45,45,45,45,45,45,45,45,45,45,45,45,45,45,45,45,45,45,45,45,45,45,45,45,45,45,45,45,45,45,45,45,45,45,45,45,45,45,45,45,45,45,45]⟩)) none (some (.t 65)),none,[0]⟩,om_ 4 66 [1,0,1]]) .ret) (.seq (.reg false [om_ 68 7 [],oo_ 69 (.bin .leq (.t 68) (.d (.int .i64 64))) [0],om_ 70 69 [1],og_ 71 (.mv (.t 0)) 70 true [2],⟨some 72,.call 61 [(.d (.str ⟨#[48,48,48,48,48,48,48,48,48,48,48,48,48,48,48,48,48,48,48,48,48,48,48,48,48,48,48,48,48,48,48,48,48,48,48,48,48,48,48,48,48,48,48,48,48,48,48,48,48,48,48,48,48,48,48,48,48,48,48,48,48,48,48,48]⟩)),(.t 71)],some (70,true),[3,2,2]⟩,oo_ 73 (.pick (.t 70) (.t 72) (.d (.bool false))) [2,4],om_ 67 73 [5,4]]) (.cond (.t 67) (.seq (.reg false [om_ 74 7 [],⟨some 75,.sstr (.d (.str ⟨#[48,48,48,48,48,48,48,48,48,48,48,48,48,48,48,48,48,48,48,48,48,48,48,48,48,48,48,48,48,48,48,48,48,48,48,48,48,48,48,48,48,48,48,48,48,48,48,48,48,48,48,48,48,48,48,48,48,48,48,48,48,48,48,48]⟩)) none (some (.t 74)),none,[0]⟩,om_ 4 75 [1,0,1]]) .ret) (.seq (.reg false [om_ 77 7 [],oo_ 78 (.bin .leq (.t 77) (.d (.int .i64 128))) [0],om_ 79 78 [1],og_ 80 (.mv (.t 0)) 79 true [2],⟨some 81,.call 61 [(.d (.str ⟨#[61,61,61,61,61,61,61,61,61,61,61,61,61,61,61,61,61,61,61,61,61,61,61,61,61,61,61,61,61,61,61,61,61,61,61,61,61,61,61,61,61,61,61,61,61,61,61,61,61,61,61,61,61,61,61,61,61,61,61,61,61,61,61,61,61,61,61,61,61,61,61,61,61,61,61,61,61,61,61,61,61,61,61,61,61,61,61,61,61,61,61,61,61,61,61,61,61,61,61,61,61,61,61,61,61,61,61,61,61,61,61,61,61,61,61,61,61,61,61,61,61,61,61,61,61,61,61,61]⟩)),(.t 80)],some (79,true),[3,2,2]⟩,oo_ 82 (.pick (.t 79) (.t 81) (.d (.bool false))) [2,4],om_ 76 82 [5,4]]) (.cond (.t 76) (.seq (.reg false [om_ 83 7 [],⟨some 84,.sstr (.d (.str ⟨#[61,61,61,61,61,61,61,61,61,61,61,61,61,61,61,61,61,61,61,61,61,61,61,61,61,61,61,61,61,61,61,61,61,61,61,61,61,61,61,61,61,61,61,61,61,61,61,61,61,61,61,61,61,61,61,61,61,61,61,61,61,61,61,61,61,61,61,61,61,61,61,61,61,61,61,61,61,61,61,61,61,61,61,61,61,61,61,61,61,61,61,61,61,61,61,61,61,61,61,61,61,61,61,61,61,61,61,61,61,61,61,61,61,61,61,61,61,61,61,61,61,61,61,61,61,61,61,61]⟩)) none (some (.t 83)),none,[0]⟩,om_ 4 84 [1,0,1]]) .ret) (.seq (.reg false [om_ 86 7 [],oo_ 87 (.bin .leq (.t 86) (.d (.int .i64 64))) [0],om_ 88 87 [1],og_ 89 (.mv (.t 0)) 88 true [2],⟨some 90,.call 61 [(.d (.str ⟨#[9,9,9,9,9,9,9,9,9,9,9,9,9,9,9,9,9,9,9,9,9,9,9,9,9,9,9,9,9,9,9,9,9,9,9,9,9,9,9,9,9,9,9,9,9,9,9,9,9,9,9,9,9,9,9,9,9,9,9,9,9,9,9,9]⟩)),(.t 89)],some (88,true),[3,2,2]⟩,oo_ 91 (.pick (.t 88) (.t 90) (.d (.bool false))) [2,4],om_ 85 91 [5,4]]) (.cond (.t 85) (.seq (.reg false [om_ 92 7 [],⟨some 93,.sstr (.d (.str ⟨#[9,9,9,9,9,9,9,9,9,9,9,9,9,9,9,9,9,9,9,9,9,9,9,9,9,9,9,9,9,9,9,9,9,9,9,9,9,9,9,9,9,9,9,9,9,9,9,9,9,9,9,9,9,9,9,9,9,9,9,9,9,9,9,9]⟩)) none (some (.t 92)),none,[0]⟩,om_ 4 93 [1,0,1]]) .ret) .skip))))))))))) .skip)))) (.seq (.reg false [om_ 94 7 [],om_ 8 94 [0,0]]) (.seq (.seq (.reg false [om_ 95 7 [],oo_ 96 (.bin .gtr (.t 95) (.d (.int .i64 8192))) [0]]) (.cond (.t 96) (.seq (.reg false [om_ 97 0 [],oo_ 98 (.lens (.t 97)) [0],oo_ 99 (.bin .quo (.d (.int .i64 8192)) (.t 98)) [1],om_ 100 0 [],oo_ 101 (.lens (.t 100)) [3],oo_ 102 (.bin .mul (.t 99) (.t 101)) [2,4],om_ 8 102 [5,0,1,2,3,4,5]]) (.seq (.reg false [om_ 103 8 [],oo_ 104 (.bin .eql (.t 103) (.d (.int .i64 0))) [0]]) (.cond (.t 104) (.reg false [om_ 105 0 [],oo_ 106 (.lens (.t 105)) [0],om_ 8 106 [1,0,1]]) .skip))) .skip)) (.seq (.reg false [oo_ 9 (.new 95 [.nilp,.nilsl]) []]) (.seq (.reg false [om_ 107 7 [],oo_ 108 (.call 62 [(.t 9),(.t 107)]) [0]]) (.seq (.reg false [om_ 109 0 [],oo_ 110 (.call 63 [(.t 9),(.t 109)]) [0]]) (.seq (.block 3 (.loop (.seq (.seq (.reg false [oo_ 111 (.call 64 [(.t 9)]) [],om_ 112 7 [],oo_ 113 (.bin .lss (.t 111) (.t 112)) [0,1]]) (.cond (.t 113) .skip (.exit 3))) (.block 4 (.seq (.reg false [om_ 114 7 [],oo_ 115 (.call 64 [(.t 9)]) [],oo_ 116 (.bin .sub (.t 114) (.t 115)) [0,1],oo_ 117 (.call 64 [(.t 9)]) [1],om_ 118 8 [],oo_ 119 (.mm false [(.t 116),(.t 117),(.t 118)]) [2,3,4],om_ 10 119 [5,3,0,1,2,3,4,5]]) (.reg false [oo_ 120 (.call 65 [(.t 9)]) [],om_ 121 10 [],oo_ 122 (.sstr (.t 120) none (some (.t 121))) [0,1],oo_ 123 (.call 63 [(.t 9),(.t 122)]) [2,0]])))))) (.seq (.reg false [oo_ 124 (.call 65 [(.t 9)]) [],om_ 4 124 [0,0,0]]) .ret)))))))))))))))
theorem o_8k : fnOf Tryd.prog o_8i = some (o_8j, [.t 4], 125, false) := by kernel_rfl

abbrev o_8l : FuncId := 34
def o_8m : C := (.seq (.reg false [oo_ 2 (.mv (.d .nilsl)) []]) (.seq (.seq (.reg false [om_ 3 0 [],oo_ 4 (.snl false (.t 3)) [0]]) (.cond (.t 4) (.seq (.reg false [oo_ 2 (.mv (.d .nilsl)) []]) .ret) .skip)) (.seq (.reg false [oo_ 5
 (.bsl0) [],om_ 6 0 [],oo_ 7 (.app 34 1 8 (.t 5) (.t 6)) [0,1],om_ 2 7 [2,2,0,1,2]]) .ret)))
theorem o_8n : fnOf Tryd.prog o_8l = some (o_8m, [.t 2], 8, false) := by kernel_rfl

abbrev o_8o : FuncId := 35
def o_8p : C := (.seq (.reg false [oo_ 4 (.mv (.d .nilsl)) []]) (.seq (.reg false [om_ 8 0 [],oo_ 9 (.len (.t 8)) [0],oo_ 10 (.bin .add (.t 9) (.d (.int .i64 1))) [1],oo_ 11 (.mksl 34 1 8 [(.int .u64 0)] (.t 10) (.t 10)) [2,2],om_ 5 11
 [3,0,1,2,3]]) (.seq (.seq (.reg false [om_ 12 0 [],oo_ 13 (.len (.t 12)) [0],oo_ 14 (.mv (.d (.int .i64 0))) []]) (.block 0 (.loop (.seq (.reg false [oo_ 15 (.bin .lss (.t 14) (.t 13)) []]) (.seq (.cond (.t 15) .skip
 (.exit 0)) (.seq (.block 1 (.seq (.reg false [om_ 16 14 [],oo_ 17 (.ix 1 (.t 12) (.t 14)) [],oo_ 18 (.load false 1 (.t 17)) [1],om_ 6 16 [0,0,1,2],om_ 7 18 [2,3,0,1,2,3]]) (.seq (.reg true [om_ 19 5 [],om_ 20 6 [],oo_
 21 (.ix 1 (.t 19) (.t 20)) [0,1],oo_ 22 (.load false 1 (.t 21)) [2],om_ 23 7 [],om_ 24 1 [],oo_ 25 (.bin .shl (.t 23) (.t 24)) [4,5],oo_ 26 (.bin .or (.t 22) (.t 25)) [3,6],oo_ 27 (.ix 1 (.t 19) (.t 20))
 [0,1,0,1,2,3,4,5,6,7],on_ (.store 1 (.t 27) (.t 26)) [8,7,0,1,2,3,4,5,6,7]]) (.reg false [om_ 28 5 [],om_ 29 6 [],oo_ 30 (.bin .add (.t 29) (.d (.int .i64 1))) [1],om_ 31 7 [],om_ 32 1 [],oo_ 33 (.bin .sub (.d (.int
 .i64 64)) (.t 32)) [4],oo_ 34 (.bin .shr (.t 31) (.t 33)) [3,5],oo_ 35 (.ix 1 (.t 28) (.t 30)) [0,2,0,1,2,3,4,5,6],on_ (.store 1 (.t 35) (.t 34)) [7,6,0,1,2,3,4,5,6]])))) (.reg false [oo_ 36 (.bin .add (.t 14) (.d (.int
 .i64 1))) [],om_ 14 36 [0]]))))))) (.seq (.reg false [om_ 37 5 [],om_ 4 37 [0,0]]) .ret))))
theorem o_8q : fnOf Tryd.prog o_8o = some (o_8p, [.t 4], 38, false) := by kernel_rfl

abbrev o_8r : FuncId := 39
def o_8s : C := (.seq (.reg false [oo_ 2 (.box 25 (.t 0)) [],oo_ 3 (.box 25 (.t 1)) [],oo_ 4 (.new 25 [.nilsl]) [],oo_ 5 (.mv (.d (.int .i64 0))) []]) (.seq (.seq (.reg false [oo_ 11 (.load true 1 (.t 2)) [],oo_ 12 (.load true 1 (.t
 3)) [],oo_ 13 (.call 8 [(.t 11),(.t 12)]) [0,1],oo_ 14 (.bin .lss (.t 13) (.d (.int .i64 0))) [2]]) (.cond (.t 14) (.seq (.reg false [oo_ 15 (.build [.nilsl] []) [],on_ (.store 1 (.t 4) (.t 15)) [0,0],oo_ 5 (.mv (.d
 (.int .i64 2))) [1,0,1]]) .ret) .skip)) (.seq (.reg false [oo_ 16 (.fa 0 (.t 2)) [],oo_ 17 (.load false 1 (.t 16)) [0],oo_ 18 (.len (.t 17)) [1],oo_ 19 (.mksl 34 1 8 [(.int .u64 0)] (.t 18) (.t 18)) [2,2],om_ 6 19
 [3,0,1,2,3]]) (.seq (.reg false [oo_ 7 (.mv (.d (.int .u64 0))) []]) (.seq (.seq (.reg false [oo_ 20 (.fa 0 (.t 2)) [],oo_ 21 (.load false 1 (.t 20)) [0],oo_ 22 (.len (.t 21)) [1],oo_ 23 (.mv (.d (.int .i64 0))) []])
 (.block 0 (.loop (.seq (.reg false [oo_ 24 (.bin .lss (.t 23) (.t 22)) []]) (.seq (.cond (.t 24) .skip (.exit 0)) (.seq (.block 1 (.seq (.reg false [om_ 25 23 [],oo_ 26 (.ix 1 (.t 21) (.t 23)) [],oo_ 27 (.load false 1
 (.t 26)) [1],om_ 8 25 [0,0,1,2],om_ 9 27 [2,3,0,1,2,3]]) (.seq (.reg false [oo_ 10 (.mv (.d (.int .u64 0))) []]) (.seq (.seq (.reg false [om_ 28 8 [],oo_ 29 (.fa 0 (.t 3)) [],oo_ 30 (.load false 1 (.t 29)) [1],oo_ 31
 (.len (.t 30)) [2],oo_ 32 (.bin .lss (.t 28) (.t 31)) [0,3]]) (.cond (.t 32) (.reg false [oo_ 33 (.fa 0 (.t 3)) [],oo_ 34 (.load false 1 (.t 33)) [0],om_ 35 8 [],oo_ 36 (.ix 1 (.t 34) (.t 35)) [1,2],oo_ 37 (.load false
 1 (.t 36)) [3],om_ 10 37 [4,0,1,2,3,4]]) .skip)) (.reg false [om_ 39 6 [],om_ 40 8 [],om_ 41 9 [],om_ 42 10 [],om_ 43 7 [],oo_ 44 (.call 66 [(.t 41),(.t 42),(.t 43)]) [2,3,4],om_ 38 44 [5],oo_ 45 (.ext (.t 38) 0)
 [6],oo_ 46 (.ext (.t 38) 1) [6],oo_ 47 (.ix 1 (.t 39) (.t 40)) [0,1,0,1,2,3,4,5,6,7],on_ (.store 1 (.t 47) (.t 45)) [9,7,5,0,1,2,3,4,5,6,7],om_ 7 46 [8,10,0,1,2,3,4,5,6,7,8,9,10]]))))) (.reg false [oo_ 48 (.bin .add (.t
 23) (.d (.int .i64 1))) [],om_ 23 48 [0]]))))))) (.seq (.reg false [om_ 49 6 [],oo_ 50 (.call 31 [(.t 49)]) [0],on_ (.store 1 (.t 4) (.t 50)) [1,1,0,1],oo_ 5 (.mv (.d (.int .i64 0))) [2,0,1,2]]) .ret))))))
theorem o_8t : fnOf Tryd.prog o_8r = some (o_8s, [.cell 4 true 1, .t 5], 51, false) := by kernel_rfl

abbrev o_8u : FuncId := 40
def o_8v : C := (.seq (.reg false [oo_ 1 (.box 42 (.t 0)) [],oo_ 2 (.mv (.d (.bool false))) []]) (.seq (.reg false [oo_ 3 (.fa 2 (.t 1)) [],oo_ 4 (.load true 1 (.t 3)) [0],oo_ 5 (.call 19 [(.t 4)]) [1],om_ 2 5 [2,2,0,1,2]]) .ret))
theorem o_8w : fnOf Tryd.prog o_8u = some (o_8v, [.t 2], 6, false) := by kernel_rfl

abbrev o_8x : FuncId := 41
def o_8y : C := (.seq (.reg false [oo_ 1 (.box 40 (.t 0)) [],⟨some 2,.mv (.d (.str ⟨#[]⟩)),none,[]⟩]) (.seq (.seq (.reg false [oo_ 3 (.fa 1 (.t 1)) [],oo_ 4 (.load false 1 (.t 3)) [0]]) (.cond (.t 4) (.seq (.reg false [oo_ 5 (.fa 0 (.t
 1)) [],oo_ 6 (.load true 1 (.t 5)) [0],oo_ 7 (.call 9 [(.t 6)]) [1],⟨some 8,.bin .add (.d (.str ⟨#[45]⟩)) (.t 7),none,[2]⟩,om_ 2 8 [3,2,0,1,2,3]]) .ret) .skip)) (.seq (.reg false [oo_ 9 (.fa 0 (.t 1)) [],oo_ 10 (.load
 true 1 (.t 9)) [0],oo_ 11 (.call 9 [(.t 10)]) [1],om_ 2 11 [2,2,0,1,2]]) .ret)))
theorem o_8z : fnOf Tryd.prog o_8x = some (o_8y, [.t 2], 12, false) := by kernel_rfl

abbrev o_90 : FuncId := 42
def o_91 : C := (.seq (.reg false [oo_ 1 (.box 42 (.t 0)) [],oo_ 2 (.new 25 [.nilsl]) []]) (.seq (.reg true [oo_ 3 (.fa 2 (.t 1)) [],oo_ 4 (.load true 1 (.t 3)) [0],oo_ 5 (.bsl 34 1 1 [(.int .u64 0)] [(0,1,(.d (.int .u64 1)))]) [],oo_
 6 (.call 10 [(.t 5)]) [2],oo_ 7 (.call 12 [(.t 4),(.t 6)]) [1,3,3],on_ (.store 1 (.t 2) (.t 7)) [4,4,0,1,2,3,4]]) .ret))
theorem o_92 : fnOf Tryd.prog o_90 = some (o_91, [.cell 2 true 1], 8, false) := by kernel_rfl

abbrev o_93 : FuncId := 43
def o_94 : C := (.seq (.reg false [oo_ 2 (.box 40 (.t 0)) [],oo_ 3 (.box 25 (.t 1)) [],oo_ 4 (.new 42 [.nilsl,(.bool false),.nilsl]) []]) (.seq (.reg true [oo_ 14 (.load true 2 (.t 2)) [],oo_ 15 (.call 68 [(.t 14)]) [0],oo_ 16 (.load
 true 1 (.t 3)) [],oo_ 17 (.call 67 [(.t 15),(.t 16)]) [1,2,1],oo_ 5 (.new 25 [.nilsl]) [],on_ (.store 1 (.t 5) (.t 17)) [4,3,3,0,1,2,3,4]]) (.seq (.reg true [oo_ 19 (.load true 2 (.t 2)) [],oo_ 20 (.call 68 [(.t 19)])
 [0],oo_ 21 (.load true 1 (.t 5)) [],oo_ 22 (.call 69 [(.t 20),(.t 21)]) [1,2,1],om_ 18 22 [3],oo_ 23 (.ext (.t 18) 0) [4],oo_ 24 (.ext (.t 18) 1) [4],oo_ 25 (.ext (.t 18) 2) [4],oo_ 6 (.new 25 [.nilsl]) [],oo_ 7 (.new
 25 [.nilsl]) [],on_ (.store 1 (.t 6) (.t 23)) [8,5,3,0,1,2,3,4,5,8,9],on_ (.store 1 (.t 7) (.t 24)) [9,6,10,0,1,2,3,4,5,6,8,9,10],om_ 8 25 [7,11,0,1,2,3,4,5,6,7,8,9,10,11]]) (.seq (.reg false [oo_ 27 (.load true 1 (.t
 3)) [],oo_ 28 (.load true 1 (.t 5)) [],oo_ 29 (.call 69 [(.t 27),(.t 28)]) [0,1],om_ 26 29 [2],oo_ 30 (.ext (.t 26) 0) [3],oo_ 31 (.ext (.t 26) 1) [3],oo_ 32 (.ext (.t 26) 2) [3],oo_ 9 (.new 25 [.nilsl]) [],oo_ 10 (.new
 25 [.nilsl]) [],on_ (.store 1 (.t 9) (.t 30)) [7,4,2,0,1,2,3,4,7,8],on_ (.store 1 (.t 10) (.t 31)) [8,5,9,0,1,2,3,4,5,7,8,9],om_ 11 32 [6,10,0,1,2,3,4,5,6,7,8,9,10]]) (.seq (.reg true [oo_ 34 (.load true 1 (.t 9))
 [],oo_ 35 (.bsl 34 1 1 [(.int .u64 0)] [(0,1,(.d (.int .u64 1)))]) [],oo_ 36 (.call 10 [(.t 35)]) [1],oo_ 37 (.call 39 [(.t 34),(.t 36)]) [0,2,2],om_ 33 37 [3],oo_ 38 (.ext (.t 33) 0) [4],oo_ 39 (.ext (.t 33) 1) [4],oo_
 12 (.new 25 [.nilsl]) [],on_ (.store 1 (.t 12) (.t 38)) [7,5,3,0,1,2,3,4,5,7],om_ 13 39 [6,8,0,1,2,3,4,5,6,7,8]]) (.seq (.reg true [oo_ 40 (.load true 2 (.t 2)) [],oo_ 41 (.call 71 [(.t 40)]) [0],oo_ 42 (.load true 1
 (.t 6)) [],oo_ 43 (.call 70 [(.t 41),(.t 42)]) [1,2,1],oo_ 44 (.load true 1 (.t 12)) [],oo_ 45 (.build [.nilsl,(.bool false),.nilsl] [(0,2,(.t 43)),(2,1,(.t 44))]) [3,4],on_ (.store 3 (.t 4) (.t 45)) [5,3,0,1,2,3,4,5]])
 .ret))))))
theorem o_95 : fnOf Tryd.prog o_93 = some (o_94, [.cell 4 true 3], 46, false) := by kernel_rfl

abbrev o_96 : FuncId := 44
def o_97 : C := (.seq (.reg false [oo_ 2 (.new 40 [.nilsl,(.bool false)]) []]) (.seq (.seq (.reg false [om_ 3 0 [],oo_ 4 (.bin .lss (.t 3) (.d (.int .i64 0))) [0]]) (.cond (.t 4) (.seq (.reg false [om_ 5 0 [],oo_ 6 (.conv .u64 (.t 5))
 [0],oo_ 7 (.un .neg (.t 6)) [1],oo_ 8 (.bsl 34 1 1 [(.int .u64 0)] [(0,1,(.t 7))]) [2],oo_ 9 (.call 10 [(.t 8)]) [3],oo_ 10 (.call 70 [(.d (.bool true)),(.t 9)]) [4,4],on_ (.store 2 (.t 2) (.t 10)) [5,5,0,1,2,3,4,5]])
 .ret) .skip)) (.seq (.reg false [om_ 11 0 [],oo_ 12 (.conv .u64 (.t 11)) [0],oo_ 13 (.bsl 34 1 1 [(.int .u64 0)] [(0,1,(.t 12))]) [1],oo_ 14 (.call 10 [(.t 13)]) [2],oo_ 15 (.call 70 [(.d (.bool false)),(.t 14)])
 [3,3],on_ (.store 2 (.t 2) (.t 15)) [4,4,0,1,2,3,4]]) .ret)))
theorem o_98 : fnOf Tryd.prog o_96 = some (o_97, [.cell 2 true 2], 16, false) := by kernel_rfl

abbrev o_99 : FuncId := 46
def o_9a : C := (.seq (.reg false [oo_ 2 (.box 40 (.t 0)) [],oo_ 3 (.box 40 (.t 1)) [],oo_ 4 (.mv (.d (.int .i64 0))) []]) (.seq (.block 0 (.seq (.reg false [oo_ 6 (.fa 1 (.t 2)) [],oo_ 7 (.load false 1 (.t 6)) [0],om_ 8 7 [1],og_ 9
 (.fa 1 (.t 3)) 8 true [2],og_ 10 (.load false 1 (.t 9)) 8 true [3,2],oo_ 11 (.pick (.t 8) (.t 10) (.d (.bool false))) [2,4],om_ 5 11 [5,2]]) (.cond (.t 5) (.seq (.reg false [oo_ 12 (.fa 0 (.t 3)) [],oo_ 13 (.load true 1
 (.t 12)) [0],oo_ 14 (.fa 0 (.t 2)) [],oo_ 15 (.load true 1 (.t 14)) [2],oo_ 16 (.call 8 [(.t 13),(.t 15)]) [1,3],om_ 4 16 [4,4,0,1,2,3,4]]) .ret) (.seq (.reg false [oo_ 18 (.fa 1 (.t 2)) [],oo_ 19 (.load false 1 (.t
 18)) [0],om_ 17 19 [1]]) (.cond (.t 17) (.seq (.reg false [oo_ 4 (.mv (.d (.int .i64 (-1)))) []]) .ret) (.seq (.reg false [oo_ 21 (.fa 1 (.t 3)) [],oo_ 22 (.load false 1 (.t 21)) [0],om_ 20 22 [1]]) (.cond (.t 20) (.seq
 (.reg false [oo_ 4 (.mv (.d (.int .i64 1))) []]) .ret) .skip))))))) (.seq (.reg false [oo_ 23 (.fa 0 (.t 2)) [],oo_ 24 (.load true 1 (.t 23)) [0],oo_ 25 (.fa 0 (.t 3)) [],oo_ 26 (.load true 1 (.t 25)) [2],oo_ 27 (.call
 8 [(.t 24),(.t 26)]) [1,3],om_ 4 27 [4,4,0,1,2,3,4]]) .ret)))
theorem o_9b : fnOf Tryd.prog o_99 = some (o_9a, [.t 4], 28, false) := by kernel_rfl

abbrev o_9c : FuncId := 47
def o_9d : C := (.seq (.reg false [oo_ 2 (.box 40 (.t 0)) [],oo_ 3 (.box 40 (.t 1)) [],oo_ 4 (.new 40 [.nilsl,(.bool false)]) []]) (.seq (.reg true [oo_ 5 (.fa 1 (.t 2)) [],oo_ 6 (.load false 1 (.t 5)) [0],oo_ 7 (.fa 1 (.t 3)) [],oo_ 8
 (.load false 1 (.t 7)) [2],oo_ 9 (.beq true (.t 6) (.t 8)) [1,3],oo_ 10 (.fa 0 (.t 2)) [],oo_ 11 (.load true 1 (.t 10)) [5],oo_ 12 (.fa 0 (.t 3)) [],oo_ 13 (.load true 1 (.t 12)) [7],oo_ 14 (.call 72 [(.t 11),(.t 13)])
 [6,8],oo_ 15 (.call 70 [(.t 9),(.t 14)]) [4,9,9],on_ (.store 2 (.t 4) (.t 15)) [10,10,0,1,2,3,4,5,6,7,8,9,10]]) .ret))
theorem o_9e : fnOf Tryd.prog o_9c = some (o_9d, [.cell 4 true 2], 16, false) := by kernel_rfl

abbrev o_9f : FuncId := 48
def o_9g : C := (.seq (.reg false [oo_ 1 (.box 42 (.t 0)) [],oo_ 2 (.new 40 [.nilsl,(.bool false)]) []]) (.seq (.reg false [oo_ 3 (.load true 3 (.t 1)) [],oo_ 4 (.call 42 [(.t 3)]) [0],oo_ 5 (.call 70 [(.d (.bool false)),(.t 4)])
 [1,1],on_ (.store 2 (.t 2) (.t 5)) [2,2,0,1,2]]) .ret))
theorem o_9h : fnOf Tryd.prog o_9f = some (o_9g, [.cell 2 true 2], 6, false) := by kernel_rfl

abbrev o_9i : FuncId := 49
def o_9j : C := (.seq (.reg false [⟨some 2,.mv (.d (.str ⟨#[]⟩)),none,[]⟩]) (.seq (.seq (.reg false [om_ 7 0 [],oo_ 8 (.len (.t 7)) [0],oo_ 9 (.bin .eql (.t 8) (.d (.int .i64 0))) [1]]) (.cond (.t 9) (.seq (.reg false [⟨some 2,.mv (.d
 (.str ⟨#[48]⟩)),none,[]⟩]) .ret) .skip)) (.seq (.reg false [⟨some 3,.mv (.d (.str ⟨#[]⟩)),none,[]⟩]) (.seq (.seq (.reg false [oo_ 4 (.mv (.d (.int .i64 0))) []]) (.block 0 (.loop (.seq (.seq (.reg false [om_ 10 4 [],om_
 11 0 [],oo_ 12 (.len (.t 11)) [1],oo_ 13 (.bin .lss (.t 10) (.t 12)) [0,2]]) (.cond (.t 13) .skip (.exit 0))) (.seq (.block 1 (.seq (.reg false [om_ 16 0 [],om_ 17 4 [],oo_ 18 (.ix 1 (.t 16) (.t 17)) [0,1],oo_ 19 (.load
 false 1 (.t 18)) [2],om_ 5 19 [3,0,1,2,3]]) (.seq (.reg false [oo_ 6 (.mv (.d (.int .i64 0))) []]) (.block 2 (.loop (.seq (.seq (.reg false [om_ 20 6 [],oo_ 21 (.bin .lss (.t 20) (.d (.int .i64 4))) [0],om_ 22 21
 [1],og_ 23 (.mv (.t 4)) 22 true [2],og_ 24 (.mv (.t 0)) 22 true [2],og_ 25 (.len (.t 24)) 22 true [4,2],og_ 26 (.bin .sub (.t 25) (.d (.int .i64 1))) 22 true [5,2],og_ 27 (.bin .lss (.t 23) (.t 26)) 22 true [3,6,2],og_
 28 (.mv (.t 27)) 22 true [7,2,2],og_ 29 (.mv (.t 5)) 28 false [8],og_ 30 (.bin .gtr (.t 29) (.d (.int .i64 0))) 28 false [9,8],og_ 31 (.pick (.t 28) (.d (.bool true)) (.t 30)) 22 true [8,10,2],oo_ 32 (.pick (.t 22) (.t
 31) (.d (.bool false))) [2,11]]) (.cond (.t 32) .skip (.exit 2))) (.seq (.block 3 (.seq (.reg false [om_ 35 5 [],oo_ 36 (.bin .rem (.t 35) (.d (.int .i64 10))) [0],oo_ 37 (.bin .add (.d (.int .i64 48)) (.t 36)) [1],oo_
 38 (.conv .u8 (.t 37)) [2],oo_ 39 (.bsl 5 1 1 [(.int .u8 0)] [(0,1,(.t 38))]) [3],oo_ 40 (.bstr (.t 39)) [4],om_ 41 3 [],oo_ 42 (.bin .add (.t 40) (.t 41)) [5,6],om_ 3 42 [7,0,1,2,3,4,5,6,7]]) (.reg false [om_ 43 5
 [],oo_ 44 (.bin .quo (.t 43) (.d (.int .i64 10))) [0],om_ 5 44 [1,0,1]]))) (.reg false [om_ 33 6 [],oo_ 34 (.bin .add (.t 33) (.d (.int .i64 1))) [0],om_ 6 34 [1,0,1]])))))))) (.reg false [om_ 14 4 [],oo_ 15 (.bin .add
 (.t 14) (.d (.int .i64 1))) [0],om_ 4 15 [1,0,1]])))))) (.seq (.reg false [om_ 45 3 [],om_ 2 45 [0,0]]) .ret)))))
theorem o_9k : fnOf Tryd.prog o_9i = some (o_9j, [.t 2], 46, false) := by kernel_rfl

abbrev o_9l : FuncId := 50
def o_9m : C := (.seq (.reg false [oo_ 2 (.mv (.d .nilsl)) []]) (.seq (.reg false [oo_ 3 (.mv (.d .nilsl)) []]) (.seq (.block 0 (.loop (.seq (.seq (.reg false [om_ 4 0 [],oo_ 5 (.bin .gtr (.t 4) (.d (.int .i64 0))) [0]]) (.cond (.t 5)
 .skip (.exit 0))) (.block 1 (.seq (.reg false [om_ 6 3 [],om_ 7 0 [],oo_ 8 (.bin .rem (.t 7) (.d (.int .i64 10000))) [1],oo_ 9 (.bsl 3 1 1 [(.int .i64 0)] [(0,1,(.t 8))]) [2],oo_ 10 (.app 3 1 8 (.t 6) (.t 9)) [0,3],om_
 3 10 [4,4,0,1,2,3,4]]) (.reg false [om_ 11 0 [],oo_ 12 (.bin .quo (.t 11) (.d (.int .i64 10000))) [0],om_ 0 12 [1,0,1]])))))) (.seq (.reg false [om_ 13 3 [],om_ 2 13 [0,0]]) .ret))))
theorem o_9n : fnOf Tryd.prog o_9l = some (o_9m, [.t 2], 14, false) := by kernel_rfl

abbrev o_9o : FuncId := 51
def o_9p : C := (.seq (.reg false [oo_ 4 (.mv (.d .nilsl)) []]) (.seq (.reg false [oo_ 5 (.mv (.d .nilsl)) []]) (.seq (.reg false [oo_ 6 (.mv (.d (.int .i64 0))) []]) (.seq (.seq (.reg false [oo_ 7 (.mv (.d (.int .i64 0))) []]) (.block
 0 (.loop (.seq (.seq (.reg false [om_ 8 7 [],om_ 9 0 [],oo_ 10 (.len (.t 9)) [1],oo_ 11 (.bin .lss (.t 8) (.t 10)) [0,2],om_ 12 11 [3],og_ 13 (.mv (.t 7)) 12 false [4],og_ 14 (.mv (.t 1)) 12 false [4],og_ 15 (.len (.t
 14)) 12 false [6,4],og_ 16 (.bin .lss (.t 13) (.t 15)) 12 false [5,7,4],oo_ 17 (.pick (.t 12) (.d (.bool true)) (.t 16)) [4,8],om_ 18 17 [9,4],og_ 19 (.mv (.t 6)) 18 false [10],og_ 20 (.bin .gtr (.t 19) (.d (.int .i64
 0))) 18 false [11,10],oo_ 21 (.pick (.t 18) (.d (.bool true)) (.t 20)) [10,12]]) (.cond (.t 21) .skip (.exit 0))) (.seq (.block 1 (.seq (.seq (.reg false [om_ 24 7 [],om_ 25 0 [],oo_ 26 (.len (.t 25)) [1],oo_ 27 (.bin
 .lss (.t 24) (.t 26)) [0,2]]) (.cond (.t 27) (.reg false [om_ 28 6 [],om_ 29 0 [],om_ 30 7 [],oo_ 31 (.ix 1 (.t 29) (.t 30)) [1,2],oo_ 32 (.load false 1 (.t 31)) [3],oo_ 33 (.bin .add (.t 28) (.t 32)) [0,4],om_ 6 33
 [5,0,1,2,3,4,5]]) .skip)) (.seq (.seq (.reg false [om_ 34 7 [],om_ 35 1 [],oo_ 36 (.len (.t 35)) [1],oo_ 37 (.bin .lss (.t 34) (.t 36)) [0,2]]) (.cond (.t 37) (.reg false [om_ 38 6 [],om_ 39 1 [],om_ 40 7 [],oo_ 41 (.ix
 1 (.t 39) (.t 40)) [1,2],oo_ 42 (.load false 1 (.t 41)) [3],oo_ 43 (.bin .add (.t 38) (.t 42)) [0,4],om_ 6 43 [5,0,1,2,3,4,5]]) .skip)) (.seq (.reg false [om_ 44 5 [],om_ 45 6 [],oo_ 46 (.bin .rem (.t 45) (.d (.int .i64
 10000))) [1],oo_ 47 (.bsl 3 1 1 [(.int .i64 0)] [(0,1,(.t 46))]) [2],oo_ 48 (.app 3 1 8 (.t 44) (.t 47)) [0,3],om_ 5 48 [4,4,0,1,2,3,4]]) (.reg false [om_ 49 6 [],oo_ 50 (.bin .quo (.t 49) (.d (.int .i64 10000)))
 [0],om_ 6 50 [1,0,1]]))))) (.reg false [om_ 22 7 [],oo_ 23 (.bin .add (.t 22) (.d (.int .i64 1))) [0],om_ 7 23 [1,0,1]])))))) (.seq (.reg false [om_ 51 5 [],oo_ 52 (.call 73 [(.t 51)]) [0],om_ 4 52 [1,1,0,1]]) .ret)))))
theorem o_9q : fnOf Tryd.prog o_9o = some (o_9p, [.t 4], 53, false) := by kernel_rfl

abbrev o_9r : FuncId := 52
def o_9s : C := (.seq (.reg false [oo_ 4 (.mv (.d .nilsl)) []]) (.seq (.reg false [oo_ 7 (.call 50 [(.d (.int .i64 1))]) [],om_ 5 7 [0,0,0]]) (.seq (.seq (.reg false [oo_ 6 (.mv (.d (.int .i64 0))) []]) (.block 0 (.loop (.seq (.seq
 (.reg false [om_ 8 6 [],om_ 9 1 [],oo_ 10 (.bin .lss (.t 8) (.t 9)) [0,1]]) (.cond (.t 10) .skip (.exit 0))) (.seq (.block 1 (.reg false [om_ 13 5 [],om_ 14 0 [],oo_ 15 (.call 74 [(.t 13),(.t 14)]) [0,1],om_ 5 15
 [2,2,0,1,2]])) (.reg false [om_ 11 6 [],oo_ 12 (.bin .add (.t 11) (.d (.int .i64 1))) [0],om_ 6 12 [1,0,1]])))))) (.seq (.reg false [om_ 16 5 [],om_ 4 16 [0,0]]) .ret))))
theorem o_9t : fnOf Tryd.prog o_9r = some (o_9s, [.t 4], 17, false) := by kernel_rfl

abbrev o_9u : FuncId := 53
def o_9v : C := (.seq (.reg false [oo_ 4 (.mv (.d (.int .i64 0))) []]) (.seq (.seq (.reg false [om_ 6 0 [],oo_ 7 (.len (.t 6)) [0],om_ 8 1 [],oo_ 9 (.len (.t 8)) [2],oo_ 10 (.bin .neq (.t 7) (.t 9)) [1,3]]) (.cond (.t 10) (.seq (.seq
 (.reg false [om_ 11 0 [],oo_ 12 (.len (.t 11)) [0],om_ 13 1 [],oo_ 14 (.len (.t 13)) [2],oo_ 15 (.bin .lss (.t 12) (.t 14)) [1,3]]) (.cond (.t 15) (.seq (.reg false [oo_ 4 (.mv (.d (.int .i64 (-1)))) []]) .ret) .skip))
 (.seq (.reg false [oo_ 4 (.mv (.d (.int .i64 1))) []]) .ret)) .skip)) (.seq (.seq (.reg false [om_ 16 0 [],oo_ 17 (.len (.t 16)) [0],oo_ 18 (.bin .sub (.t 17) (.d (.int .i64 1))) [1],om_ 5 18 [2,0,1,2]]) (.block 0
 (.loop (.seq (.seq (.reg false [om_ 19 5 [],oo_ 20 (.bin .geq (.t 19) (.d (.int .i64 0))) [0]]) (.cond (.t 20) .skip (.exit 0))) (.seq (.block 1 (.seq (.seq (.reg true [om_ 23 0 [],om_ 24 5 [],oo_ 25 (.ix 1 (.t 23) (.t
 24)) [0,1],oo_ 26 (.load false 1 (.t 25)) [2],om_ 27 1 [],om_ 28 5 [],oo_ 29 (.ix 1 (.t 27) (.t 28)) [4,5],oo_ 30 (.load false 1 (.t 29)) [6],oo_ 31 (.bin .lss (.t 26) (.t 30)) [3,7]]) (.cond (.t 31) (.seq (.reg false
 [oo_ 4 (.mv (.d (.int .i64 (-1)))) []]) .ret) .skip)) (.seq (.reg true [om_ 32 0 [],om_ 33 5 [],oo_ 34 (.ix 1 (.t 32) (.t 33)) [0,1],oo_ 35 (.load false 1 (.t 34)) [2],om_ 36 1 [],om_ 37 5 [],oo_ 38 (.ix 1 (.t 36) (.t
 37)) [4,5],oo_ 39 (.load false 1 (.t 38)) [6],oo_ 40 (.bin .gtr (.t 35) (.t 39)) [3,7]]) (.cond (.t 40) (.seq (.reg false [oo_ 4 (.mv (.d (.int .i64 1))) []]) .ret) .skip)))) (.reg false [om_ 21 5 [],oo_ 22 (.bin .sub
 (.t 21) (.d (.int .i64 1))) [0],om_ 5 22 [1,0,1]])))))) (.seq (.reg false [oo_ 4 (.mv (.d (.int .i64 0))) []]) .ret))))
theorem o_9w : fnOf Tryd.prog o_9u = some (o_9v, [.t 4], 41, false) := by kernel_rfl

abbrev o_9x : FuncId := 54
def o_9y : C := (.seq (.reg false [oo_ 4 (.mv (.d .nilsl)) []]) (.seq (.reg false [om_ 8 1 [],oo_ 9 (.call 50 [(.d (.int .i64 2))]) [],om_ 10 0 [],oo_ 11 (.call 52 [(.t 9),(.t 10)]) [1,2,1],oo_ 12 (.call 75 [(.t 8),(.t 11)])
 [0,3,3],om_ 7 12 [4],oo_ 13 (.ext (.t 7) 0) [5],oo_ 14 (.ext (.t 7) 1) [5],om_ 5 13 [6,4,0,1,2,3,4,5,6],om_ 6 14 [7,8,0,1,2,3,4,5,6,7,8]]) (.seq (.seq (.reg false [om_ 15 6 [],oo_ 16 (.len (.t 15)) [0],oo_ 17 (.bin .gtr
 (.t 16) (.d (.int .i64 0))) [1]]) (.cond (.t 17) (.reg false [om_ 18 5 [],oo_ 19 (.call 50 [(.d (.int .i64 1))]) [],oo_ 20 (.call 51 [(.t 18),(.t 19)]) [0,1,1],om_ 5 20 [2,2,0,1,2]]) .skip)) (.seq (.reg false [om_ 21 1
 [],om_ 22 5 [],oo_ 23 (.call 51 [(.t 21),(.t 22)]) [0,1],om_ 4 23 [2,2,0,1,2]]) .ret))))
theorem o_9z : fnOf Tryd.prog o_9x = some (o_9y, [.t 4], 24, false) := by kernel_rfl

abbrev o_a0 : FuncId := 55
def o_a1 : C := (.seq (.reg false [oo_ 2 (.mv (.d (.int .i64 0))) []]) (.seq (.reg false [oo_ 3 (.mv (.d (.int .i64 0))) []]) (.seq (.seq (.reg false [oo_ 5 (.call 50 [(.d (.int .i64 1))]) [],om_ 4 5 [0,0,0]]) (.block 0 (.loop (.seq
 (.seq (.reg false [om_ 6 4 [],om_ 7 0 [],oo_ 8 (.call 53 [(.t 6),(.t 7)]) [0,1],oo_ 9 (.bin .leq (.t 8) (.d (.int .i64 0))) [2]]) (.cond (.t 9) .skip (.exit 0))) (.seq (.block 1 (.reg false [om_ 13 3 [],oo_ 14 (.bin
 .add (.t 13) (.d (.int .i64 1))) [0],om_ 3 14 [1,0,1]])) (.reg false [om_ 10 4 [],om_ 11 4 [],oo_ 12 (.call 51 [(.t 10),(.t 11)]) [0,1],om_ 4 12 [2,2,0,1,2]])))))) (.seq (.reg false [om_ 15 3 [],om_ 2 15 [0,0]]) .ret))))
theorem o_a2 : fnOf Tryd.prog o_a0 = some (o_a1, [.t 2], 16, false) := by kernel_rfl

abbrev o_a3 : FuncId := 56
def o_a4 : C := (.seq (.reg false [oo_ 5 (.load false 1 (.t 1)) [],oo_ 6 (.bin .mul (.d (.int .i64 2)) (.t 5)) [0],oo_ 7 (.bin .shl (.d (.int .u64 1)) (.t 6)) [1],oo_ 8 (.bsl 34 1 1 [(.int .u64 0)] [(0,1,(.t 7))]) [2],oo_ 9 (.call 10
 [(.t 8)]) [3],oo_ 10 (.build [(.int .i64 0),(.int .i64 0),.nilsl,.nilsl] [(3,1,(.t 9))]) [4],oo_ 3 (.new 27 [(.int .i64 0),(.int .i64 0),.nilsl,.nilsl]) [],on_ (.store 4 (.t 3) (.t 10)) [6,5,4,0,1,2,3,4,5,6]]) (.seq
 (.reg false [oo_ 4 (.mv (.d (.int .i64 0))) []]) (.block 0 (.loop (.seq (.seq (.reg false [om_ 11 4 [],oo_ 12 (.bin .leq (.t 11) (.d (.int .i64 1023))) [0]]) (.cond (.t 12) .skip (.exit 0))) (.seq (.block 1 (.seq (.seq
 (.reg false [om_ 15 0 [],om_ 16 4 [],oo_ 17 (.load true 4 (.t 3)) [],oo_ 18 (.callv (.t 15) [(.t 16),(.t 17)]) [0,1,2],oo_ 19 (.un .not (.t 18)) [3]]) (.cond (.t 19) .ret .skip)) (.reg false [oo_ 20 (.load true 4 (.t
 3)) [],oo_ 21 (.load false 1 (.t 1)) [],oo_ 22 (.call 57 [(.t 20),(.t 21)]) [0,1],on_ (.store 4 (.t 3) (.t 22)) [2,2,0,1,2]]))) (.reg false [om_ 13 4 [],oo_ 14 (.bin .add (.t 13) (.d (.int .i64 1))) [0],om_ 4 14
 [1,0,1]])))))))
abbrev o_a5 : FuncId := 57
def o_a6 : C := (.seq (.reg false [oo_ 2 (.box 27 (.t 0)) [],oo_ 4 (.new 27 [(.int .i64 0),(.int .i64 0),.nilsl,.nilsl]) []]) (.seq (.reg true [oo_ 8 (.bsl 34 1 1 [(.int .u64 0)] [(0,1,(.d (.int .u64 1)))]) [],oo_ 9 (.call 10 [(.t 8)])
 [0],oo_ 10 (.fa 1 (.t 2)) [],oo_ 11 (.load false 1 (.t 10)) [2],oo_ 12 (.call 11 [(.t 9),(.t 11)]) [1,3,1],om_ 7 12 [4],oo_ 13 (.ext (.t 7) 0) [5],oo_ 14 (.ext (.t 7) 1) [5],oo_ 5 (.new 25 [.nilsl]) [],on_ (.store 1 (.t
 5) (.t 13)) [8,6,4,0,1,2,3,4,5,6,8],om_ 6 14 [7,9,0,1,2,3,4,5,6,7,8,9]]) (.seq (.reg false [oo_ 15 (.fa 2 (.t 2)) [],oo_ 16 (.load true 1 (.t 15)) [0],oo_ 17 (.load true 1 (.t 5)) [],oo_ 18 (.call 12 [(.t 16),(.t 17)])
 [1,2],oo_ 19 (.fa 2 (.t 2)) [0,1,2,3],on_ (.store 1 (.t 19) (.t 18)) [4,3,3,0,1,2,3]]) (.seq (.seq (.reg false [oo_ 20 (.fa 2 (.t 2)) [],oo_ 21 (.load true 1 (.t 20)) [0],oo_ 22 (.fa 3 (.t 2)) [],oo_ 23 (.load true 1
 (.t 22)) [2],oo_ 24 (.call 8 [(.t 21),(.t 23)]) [1,3],oo_ 25 (.bin .geq (.t 24) (.d (.int .i64 0))) [4]]) (.cond (.t 25) (.seq (.reg false [oo_ 26 (.fa 0 (.t 2)) [],oo_ 27 (.load false 1 (.t 26)) [0],oo_ 28 (.bin .add
 (.t 27) (.d (.int .i64 1))) [1],oo_ 29 (.fa 0 (.t 2)) [0,1,2],on_ (.store 1 (.t 29) (.t 28)) [3,2,0,1,2]]) (.seq (.reg false [om_ 30 1 [],oo_ 31 (.fa 3 (.t 2)) [],oo_ 32 (.load true 1 (.t 31)) [1],oo_ 33 (.call 76 [(.t
 30),(.t 32)]) [0,2],oo_ 34 (.fa 3 (.t 2)) [0,1,2,3],on_ (.store 1 (.t 34) (.t 33)) [4,3,3,0,1,2,3]]) (.reg false [om_ 35 1 [],oo_ 36 (.fa 3 (.t 2)) [],oo_ 37 (.load true 1 (.t 36)) [1],oo_ 38 (.call 77 [(.t 35),(.t
 37)]) [0,2],oo_ 39 (.fa 1 (.t 2)) [0,1,2,3],on_ (.store 1 (.t 39) (.t 38)) [4,3,3,0,1,2,3]]))) .skip)) (.seq (.reg false [oo_ 40 (.load true 4 (.t 2)) [],on_ (.store 4 (.t 4) (.t 40)) [0,0]]) .ret)))))
theorem o_a7 : fnOf Tryd.prog o_a5 = some (o_a6, [.cell 4 true 4], 41, false) := by kernel_rfl

abbrev o_a8 : FuncId := 58
def o_a9 : C := (.seq (.reg false [oo_ 6 (.mv (.d (.int .u64 0))) [],oo_ 7 (.mv (.d (.int .u64 0))) [0]]) (.seq (.seq (.reg false [om_ 19 2 [],oo_ 20 (.bin .eql (.t 19) (.d (.int .u64 0))) [0]]) (.cond (.t 20) (.reg false [oo_ 21
 (.load false 1 .bad) [],on_ (.bad) [0]]) .skip)) (.seq (.seq (.reg false [om_ 22 2 [],om_ 23 0 [],oo_ 24 (.bin .leq (.t 22) (.t 23)) [0,1]]) (.cond (.t 24) (.reg false [oo_ 25 (.load false 1 .bad) [],on_ (.bad) [0]])
 .skip)) (.seq (.seq (.reg false [om_ 26 0 [],oo_ 27 (.bin .eql (.t 26) (.d (.int .u64 0))) [0]]) (.cond (.t 27) (.seq (.reg true [om_ 28 1 [],om_ 29 2 [],oo_ 30 (.bin .quo (.t 28) (.t 29)) [0,1],om_ 31 1 [],om_ 32 2
 [],oo_ 33 (.bin .rem (.t 31) (.t 32)) [3,4],om_ 6 30 [2,0,1,2],om_ 7 33 [5,6,0,1,2,3,4,5,6]]) .ret) .skip)) (.seq (.reg false [om_ 34 2 [],oo_ 35 (.call 78 [(.t 34)]) [0],oo_ 36 (.conv .u64 (.t 35)) [1],om_ 8 36
 [2,1,0,1,2]]) (.seq (.reg false [om_ 37 2 [],om_ 38 8 [],oo_ 39 (.bin .shl (.t 37) (.t 38)) [0,1],om_ 2 39 [2,0,1,2]]) (.seq (.reg false [om_ 40 2 [],oo_ 41 (.bin .shr (.t 40) (.d (.int .u64 32))) [0],om_ 9 41 [1,0,1]])
 (.seq (.reg false [om_ 42 2 [],oo_ 43 (.bin .and (.t 42) (.d (.int .u64 4294967295))) [0],om_ 10 43 [1,0,1]]) (.seq (.reg false [om_ 44 0 [],om_ 45 8 [],oo_ 46 (.bin .shl (.t 44) (.t 45)) [0,1],om_ 47 1 [],om_ 48 8
 [],oo_ 49 (.bin .sub (.d (.int .u64 64)) (.t 48)) [4],oo_ 50 (.bin .shr (.t 47) (.t 49)) [3,5],oo_ 51 (.bin .or (.t 46) (.t 50)) [2,6],om_ 11 51 [7,0,1,2,3,4,5,6,7]]) (.seq (.reg false [om_ 52 1 [],om_ 53 8 [],oo_ 54
 (.bin .shl (.t 52) (.t 53)) [0,1],om_ 12 54 [2,0,1,2]]) (.seq (.reg false [om_ 55 12 [],oo_ 56 (.bin .shr (.t 55) (.d (.int .u64 32))) [0],om_ 13 56 [1,0,1]]) (.seq (.reg false [om_ 57 12 [],oo_ 58 (.bin .and (.t 57)
 (.d (.int .u64 4294967295))) [0],om_ 14 58 [1,0,1]]) (.seq (.reg false [om_ 59 11 [],om_ 60 9 [],oo_ 61 (.bin .quo (.t 59) (.t 60)) [0,1],om_ 15 61 [2,0,1,2]]) (.seq (.reg false [om_ 62 11 [],om_ 63 15 [],om_ 64 9
 [],oo_ 65 (.bin .mul (.t 63) (.t 64)) [1,2],oo_ 66 (.bin .sub (.t 62) (.t 65)) [0,3],om_ 16 66 [4,0,1,2,3,4]]) (.seq (.block 0 (.loop (.seq (.seq (.reg false [om_ 67 15 [],oo_ 68 (.bin .geq (.t 67) (.d (.int .u64
 4294967296))) [0],om_ 69 68 [1],og_ 70 (.mv (.t 15)) 69 false [2],og_ 71 (.mv (.t 10)) 69 false [2],og_ 72 (.bin .mul (.t 70) (.t 71)) 69 false [3,4,2],og_ 73 (.mv (.t 16)) 69 false [2],og_ 74 (.bin .mul (.d (.int .u64
 4294967296)) (.t 73)) 69 false [6,2],og_ 75 (.mv (.t 13)) 69 false [2],og_ 76 (.bin .add (.t 74) (.t 75)) 69 false [7,8,2],og_ 77 (.bin .gtr (.t 72) (.t 76)) 69 false [5,9,2],oo_ 78 (.pick (.t 69) (.d (.bool true)) (.t
 77)) [2,10]]) (.cond (.t 78) .skip (.exit 0))) (.block 1 (.seq (.reg false [om_ 79 15 [],oo_ 80 (.bin .sub (.t 79) (.d (.int .u64 1))) [0],om_ 15 80 [1,0,1]]) (.seq (.reg false [om_ 81 16 [],om_ 82 9 [],oo_ 83 (.bin
 .add (.t 81) (.t 82)) [0,1],om_ 16 83 [2,0,1,2]]) (.seq (.reg false [om_ 84 16 [],oo_ 85 (.bin .geq (.t 84) (.d (.int .u64 4294967296))) [0]]) (.cond (.t 85) (.exit 0) .skip)))))))) (.seq (.reg false [om_ 86 11 [],oo_
 87 (.bin .mul (.t 86) (.d (.int .u64 4294967296))) [0],om_ 88 13 [],oo_ 89 (.bin .add (.t 87) (.t 88)) [1,2],om_ 90 15 [],om_ 91 2 [],oo_ 92 (.bin .mul (.t 90) (.t 91)) [4,5],oo_ 93 (.bin .sub (.t 89) (.t 92)) [3,6],om_
 17 93 [7,0,1,2,3,4,5,6,7]]) (.seq (.reg false [om_ 94 17 [],om_ 95 9 [],oo_ 96 (.bin .quo (.t 94) (.t 95)) [0,1],om_ 18 96 [2,0,1,2]]) (.seq (.reg false [om_ 97 17 [],om_ 98 18 [],om_ 99 9 [],oo_ 100 (.bin .mul (.t 98)
 (.t 99)) [1,2],oo_ 101 (.bin .sub (.t 97) (.t 100)) [0,3],om_ 16 101 [4,0,1,2,3,4]]) (.seq (.block 2 (.loop (.seq (.seq (.reg false [om_ 102 18 [],oo_ 103 (.bin .geq (.t 102) (.d (.int .u64 4294967296))) [0],om_ 104 103
 [1],og_ 105 (.mv (.t 18)) 104 false [2],og_ 106 (.mv (.t 10)) 104 false [2],og_ 107 (.bin .mul (.t 105) (.t 106)) 104 false [3,4,2],og_ 108 (.mv (.t 16)) 104 false [2],og_ 109 (.bin .mul (.d (.int .u64 4294967296)) (.t
 108)) 104 false [6,2],og_ 110 (.mv (.t 14)) 104 false [2],og_ 111 (.bin .add (.t 109) (.t 110)) 104 false [7,8,2],og_ 112 (.bin .gtr (.t 107) (.t 111)) 104 false [5,9,2],oo_ 113 (.pick (.t 104) (.d (.bool true)) (.t
 112)) [2,10]]) (.cond (.t 113) .skip (.exit 2))) (.block 3 (.seq (.reg false [om_ 114 18 [],oo_ 115 (.bin .sub (.t 114) (.d (.int .u64 1))) [0],om_ 18 115 [1,0,1]]) (.seq (.reg false [om_ 116 16 [],om_ 117 9 [],oo_ 118
 (.bin .add (.t 116) (.t 117)) [0,1],om_ 16 118 [2,0,1,2]]) (.seq (.reg false [om_ 119 16 [],oo_ 120 (.bin .geq (.t 119) (.d (.int .u64 4294967296))) [0]]) (.cond (.t 120) (.exit 2) .skip)))))))) (.seq (.reg false [om_
 121 15 [],oo_ 122 (.bin .mul (.t 121) (.d (.int .u64 4294967296))) [0],om_ 123 18 [],oo_ 124 (.bin .add (.t 122) (.t 123)) [1,2],om_ 125 17 [],oo_ 126 (.bin .mul (.t 125) (.d (.int .u64 4294967296))) [4],om_ 127 14
 [],oo_ 128 (.bin .add (.t 126) (.t 127)) [5,6],om_ 129 18 [],om_ 130 2 [],oo_ 131 (.bin .mul (.t 129) (.t 130)) [8,9],oo_ 132 (.bin .sub (.t 128) (.t 131)) [7,10],om_ 133 8 [],oo_ 134 (.bin .shr (.t 132) (.t 133))
 [11,12],om_ 6 124 [3,0,1,2,3],om_ 7 134 [13,14,0,1,2,3,4,5,6,7,8,9,10,11,12,13,14]]) .ret))))))))))))))))))))
theorem o_aa : fnOf Tryd.prog o_a8 = some (o_a9, [.t 6, .t 7], 135, false) := by kernel_rfl

abbrev o_ab : FuncId := 59
def o_ac : C := (.seq (.reg false [⟨some 4,.mv (.d (.str ⟨#[]⟩)),none,[]⟩]) (.seq (.seq (.reg false [om_ 9 1 [],oo_ 10 (.bin .eql (.t 9) (.d (.int .i64 10))) [0]]) (.cond (.t 10) (.seq (.seq (.reg false [om_ 11 0 [],oo_ 12 (.bin .lss
 (.t 11) (.d (.int .u64 100))) [0]]) (.cond (.t 12) (.seq (.reg false [om_ 13 0 [],oo_ 14 (.conv .i64 (.t 13)) [0],oo_ 15 (.call 79 [(.t 14)]) [1],om_ 4 15 [2,2,0,1,2]]) .ret) .skip)) (.seq (.reg false [oo_ 5 (.new 112
 [(.int .u8 0),(.int .u8 0),(.int .u8 0),(.int .u8 0),(.int .u8 0),(.int .u8 0),(.int .u8 0),(.int .u8 0),(.int .u8 0),(.int .u8 0),(.int .u8 0),(.int .u8 0),(.int .u8 0),(.int .u8 0),(.int .u8 0),(.int .u8 0),(.int .u8
 0),(.int .u8 0),(.int .u8 0),(.int .u8 0),(.int .u8 0),(.int .u8 0),(.int .u8 0),(.int .u8 0)]) []]) (.seq (.reg false [om_ 16 0 [],oo_ 17 (.call 80 [(.t 16)]) [0],om_ 6 17 [1,1,0,1]]) (.seq (.reg false [om_ 18 6 [],oo_
 19 (.sla 24 1 (.t 5) none (some (.t 18))) [0],om_ 20 0 [],oo_ 21 (.call 81 [(.t 19),(.t 20)]) [1,2]]) (.seq (.reg false [om_ 22 6 [],oo_ 23 (.sla 24 1 (.t 5) none (some (.t 22))) [0],oo_ 24 (.bstr (.t 23)) [1],om_ 4 24
 [2,0,1,2]]) .ret))))) .skip)) (.seq (.reg false [om_ 26 0 [],om_ 27 1 [],oo_ 28 (.call 82 [(.d .nilsl),(.t 26),(.t 27),(.d (.bool false)),(.d (.bool false))]) [0,1],om_ 25 28 [2],oo_ 29 (.ext (.t 25) 0) [3],oo_ 30 (.ext
 (.t 25) 1) [3],om_ 7 29 [4,2,0,1,2,3,4],om_ 8 30 [5,6,0,1,2,3,4,5,6]]) (.seq (.reg false [om_ 31 8 [],om_ 4 31 [0,0]]) .ret))))
theorem o_ad : fnOf Tryd.prog o_ab = some (o_ac, [.t 4], 32, false) := by kernel_rfl

abbrev o_ae : FuncId := 60
def o_af : C := (.seq (.reg false [oo_ 4 (.mv (.d (.int .u64 0))) [],oo_ 5 (.mv (.d (.int .u64 0))) [0]]) (.seq (.cond (.d (.bool false)) (.seq (.reg false [om_ 11 0 [],oo_ 12 (.conv .u32 (.t 11)) [0],om_ 13 1 [],oo_ 14 (.conv .u32 (.t
 13)) [2],oo_ 15 (.call 83 [(.t 12),(.t 14)]) [1,3],om_ 10 15 [4],oo_ 16 (.ext (.t 10) 0) [5],oo_ 17 (.ext (.t 10) 1) [5],om_ 6 16 [6,4,0,1,2,3,4,5,6],om_ 7 17 [7,8,0,1,2,3,4,5,6,7,8]]) (.seq (.reg false [om_ 18 6 [],oo_
 19 (.conv .u64 (.t 18)) [0],om_ 20 7 [],oo_ 21 (.conv .u64 (.t 20)) [2],om_ 4 19 [1,0,1],om_ 5 21 [3,4,0,1,2,3,4]]) .ret)) .skip) (.seq (.reg false [om_ 23 0 [],om_ 24 1 [],oo_ 25 (.call 84 [(.t 23),(.t 24)]) [0,1],om_
 22 25 [2],oo_ 26 (.ext (.t 22) 0) [3],oo_ 27 (.ext (.t 22) 1) [3],om_ 8 26 [4,2,0,1,2,3,4],om_ 9 27 [5,6,0,1,2,3,4,5,6]]) (.seq (.reg false [om_ 28 8 [],om_ 29 9 [],om_ 4 28 [0,0],om_ 5 29 [1,2,0,1,2]]) .ret))))
theorem o_ag : fnOf Tryd.prog o_ae = some (o_af, [.t 4, .t 5], 30, false) := by kernel_rfl

abbrev o_ah : FuncId := 61
def o_ai : C := (.seq (.reg false [oo_ 4 (.mv (.d (.bool false))) []]) (.seq (.reg false [om_ 5 0 [],om_ 6 1 [],oo_ 7 (.call 85 [(.t 5),(.t 6)]) [0,1],om_ 4 7 [2,2,0,1,2]]) .ret))
theorem o_aj : fnOf Tryd.prog o_ah = some (o_ai, [.t 4], 8, false) := by kernel_rfl

abbrev o_ak : FuncId := 67
def o_al : C := (.seq (.reg false [oo_ 2 (.box 25 (.t 0)) [],oo_ 3 (.box 25 (.t 1)) [],oo_ 4 (.new 25 [.nilsl]) []]) (.seq (.block 0 (.loop (.seq (.seq (.reg false [oo_ 8 (.load true 1 (.t 3)) [],oo_ 9 (.call 19 [(.t 8)]) [0],oo_ 10
 (.un .not (.t 9)) [1]]) (.cond (.t 10) .skip (.exit 0))) (.block 1 (.seq (.reg false [oo_ 12 (.load true 1 (.t 2)) [],oo_ 13 (.load true 1 (.t 3)) [],oo_ 14 (.call 69 [(.t 12),(.t 13)]) [0,1],om_ 11 14 [2],oo_ 15 (.ext
 (.t 11) 0) [3],oo_ 16 (.ext (.t 11) 1) [3],oo_ 17 (.ext (.t 11) 2) [3],oo_ 5 (.new 25 [.nilsl]) [],oo_ 6 (.new 25 [.nilsl]) [],on_ (.store 1 (.t 5) (.t 15)) [7,4,2,0,1,2,3,4,7,8],on_ (.store 1 (.t 6) (.t 16))
 [8,5,9,0,1,2,3,4,5,7,8,9],om_ 7 17 [6,10,0,1,2,3,4,5,6,7,8,9,10]]) (.reg true [oo_ 18 (.load true 1 (.t 3)) [],oo_ 19 (.load true 1 (.t 6)) [],on_ (.store 1 (.t 2) (.t 18)) [0,0],on_ (.store 1 (.t 3) (.t 19))
 [1,2,0,1,2]])))))) (.seq (.reg false [oo_ 20 (.fa 0 (.t 2)) [],oo_ 21 (.load false 1 (.t 20)) [0],oo_ 22 (.call 10 [(.t 21)]) [1],on_ (.store 1 (.t 4) (.t 22)) [2,2,0,1,2]]) .ret)))
theorem o_am : fnOf Tryd.prog o_ak = some (o_al, [.cell 4 true 1], 23, false) := by kernel_rfl

abbrev o_an : FuncId := 68
def o_ao : C := (.seq (.reg false [oo_ 1 (.box 40 (.t 0)) [],oo_ 2 (.new 25 [.nilsl]) []]) (.seq (.reg false [oo_ 3 (.fa 0 (.t 1)) [],oo_ 4 (.load true 1 (.t 3)) [0],on_ (.store 1 (.t 2) (.t 4)) [1,0,1]]) .ret))
theorem o_ap : fnOf Tryd.prog o_an = some (o_ao, [.cell 2 true 1], 5, false) := by kernel_rfl

abbrev o_aq : FuncId := 69
def o_ar : C := (.seq (.reg false [oo_ 2 (.box 25 (.t 0)) [],oo_ 3 (.box 25 (.t 1)) [],oo_ 4 (.new 25 [.nilsl]) [],oo_ 5 (.new 25 [.nilsl]) [],oo_ 6 (.mv (.d (.int .i64 0))) []]) (.seq (.block 0 (.seq (.reg false [oo_ 10 (.load true 1
 (.t 3)) [],oo_ 11 (.call 19 [(.t 10)]) [0],om_ 9 11 [1,1]]) (.cond (.t 9) (.seq (.reg false [oo_ 12 (.build [.nilsl] []) [],oo_ 13 (.build [.nilsl] []) [],on_ (.store 1 (.t 4) (.t 12)) [0,0],on_ (.store 1 (.t 5) (.t
 13)) [1,2,0,1,2],oo_ 6 (.mv (.d (.int .i64 7))) [3,0,1,2,3]]) .ret) (.seq (.reg false [oo_ 15 (.load true 1 (.t 2)) [],oo_ 16 (.load true 1 (.t 3)) [],oo_ 17 (.call 8 [(.t 15),(.t 16)]) [0,1],oo_ 18 (.bin .lss (.t 17)
 (.d (.int .i64 0))) [2],om_ 14 18 [3,2]]) (.cond (.t 14) (.seq (.reg false [oo_ 19 (.build [.nilsl] []) [],oo_ 20 (.fa 0 (.t 2)) [],oo_ 21 (.load false 1 (.t 20)) [1],oo_ 22 (.call 10 [(.t 21)]) [2],on_ (.store 1 (.t 4)
 (.t 19)) [0,3,0],on_ (.store 1 (.t 5) (.t 22)) [3,4,0,1,2,3,4],oo_ 6 (.mv (.d (.int .i64 0))) [5,0,1,2,3,4,5]]) .ret) (.seq (.reg false [oo_ 24 (.fa 0 (.t 3)) [],oo_ 25 (.load false 1 (.t 24)) [0],oo_ 26 (.len (.t 25))
 [1],oo_ 27 (.bin .eql (.t 26) (.d (.int .i64 1))) [2],om_ 23 27 [3]]) (.cond (.t 23) (.seq (.reg true [oo_ 29 (.fa 0 (.t 2)) [],oo_ 30 (.load false 1 (.t 29)) [0],oo_ 31 (.fa 0 (.t 3)) [],oo_ 32 (.load false 1 (.t 31))
 [2],oo_ 33 (.ix 1 (.t 32) (.d (.int .i64 0))) [3],oo_ 34 (.load false 1 (.t 33)) [4],oo_ 35 (.call 30 [(.t 30),(.t 34)]) [1,5],om_ 28 35 [6],oo_ 36 (.ext (.t 28) 0) [7],oo_ 37 (.ext (.t 28) 1) [7],om_ 7 36
 [8,6,0,1,2,3,4,5,6,7,8],om_ 8 37 [9,10,0,1,2,3,4,5,6,7,8,9,10]]) (.seq (.reg false [om_ 38 7 [],oo_ 39 (.call 31 [(.t 38)]) [0],om_ 40 8 [],oo_ 41 (.bsl 34 1 1 [(.int .u64 0)] [(0,1,(.t 40))]) [2],oo_ 42 (.call 10 [(.t
 41)]) [3,1],on_ (.store 1 (.t 4) (.t 39)) [1,4,0,1],on_ (.store 1 (.t 5) (.t 42)) [4,5,0,1,2,3,4,5],oo_ 6 (.mv (.d (.int .i64 0))) [6,0,1,2,3,4,5,6]]) .ret)) .skip))))))) (.seq (.reg false [oo_ 43 (.load true 1 (.t 2))
 [],oo_ 44 (.load true 1 (.t 3)) [],oo_ 45 (.call 88 [(.t 43),(.t 44)]) [0,1],oo_ 46 (.ext (.t 45) 0) [2],oo_ 47 (.ext (.t 45) 1) [2],oo_ 48 (.ext (.t 45) 2) [2],on_ (.store 1 (.t 4) (.t 46)) [3,2,0,1,2,3,4,5],on_
 (.store 1 (.t 5) (.t 47)) [4,6,0,1,2,3,4,5,6],om_ 6 48 [5,7,0,1,2,3,4,5,6,7]]) .ret)))
theorem o_as : fnOf Tryd.prog o_aq = some (o_ar, [.cell 4 true 1, .cell 5 true 1, .t 6], 49, false) := by kernel_rfl

abbrev o_at : FuncId := 70
def o_au : C := (.seq (.reg false [oo_ 3 (.box 25 (.t 1)) [],oo_ 4 (.new 40 [.nilsl,(.bool false)]) []]) (.seq (.reg true [oo_ 5 (.load true 1 (.t 3)) [],om_ 6 0 [],om_ 7 6 [1],og_ 8 (.load true 1 (.t 3)) 7 true [2],og_ 9 (.call 19
 [(.t 8)]) 7 true [3,2,2],og_ 10 (.un .not (.t 9)) 7 true [4,2],oo_ 11 (.pick (.t 7) (.t 10) (.d (.bool false))) [2,5],oo_ 12 (.build [.nilsl,(.bool false)] [(0,1,(.t 5)),(1,1,(.t 11))]) [0,6],on_ (.store 2 (.t 4) (.t
 12)) [7,4,0,1,2,3,4,5,6,7]]) .ret))
theorem o_av : fnOf Tryd.prog o_at = some (o_au, [.cell 4 true 2], 13, false) := by kernel_rfl

abbrev o_aw : FuncId := 71
def o_ax : C := (.seq (.reg false [oo_ 1 (.box 40 (.t 0)) [],oo_ 2 (.mv (.d (.bool false))) []]) (.seq (.reg false [oo_ 3 (.fa 1 (.t 1)) [],oo_ 4 (.load false 1 (.t 3)) [0],om_ 2 4 [1,0,1]]) .ret))
theorem o_ay : fnOf Tryd.prog o_aw = some (o_ax, [.t 2], 5, false) := by kernel_rfl

abbrev o_az : FuncId := 72
def o_b0 : C := (.seq (.reg false [oo_ 2 (.box 25 (.t 0)) [],oo_ 3 (.box 25 (.t 1)) [],oo_ 4 (.new 25 [.nilsl]) []]) (.seq (.reg false [oo_ 14 (.fa 0 (.t 2)) [],oo_ 15 (.load false 1 (.t 14)) [0],oo_ 16 (.len (.t 15)) [1],oo_ 17 (.fa 0
 (.t 3)) [],oo_ 18 (.load false 1 (.t 17)) [3],oo_ 19 (.len (.t 18)) [4],oo_ 20 (.bin .add (.t 16) (.t 19)) [2,5],oo_ 21 (.mksl 34 1 8 [(.int .u64 0)] (.t 20) (.t 20)) [6,6],om_ 5 21 [7,0,1,2,3,4,5,6,7]]) (.seq (.seq
 (.reg false [oo_ 22 (.fa 0 (.t 2)) [],oo_ 23 (.load false 1 (.t 22)) [0],oo_ 24 (.len (.t 23)) [1],oo_ 25 (.mv (.d (.int .i64 0))) []]) (.block 0 (.loop (.seq (.reg false [oo_ 26 (.bin .lss (.t 25) (.t 24)) []]) (.seq
 (.cond (.t 26) .skip (.exit 0)) (.seq (.block 1 (.seq (.reg false [om_ 27 25 [],oo_ 28 (.ix 1 (.t 23) (.t 25)) [],oo_ 29 (.load false 1 (.t 28)) [1],om_ 6 27 [0,0,1,2],om_ 7 29 [2,3,0,1,2,3]]) (.seq (.reg false [oo_ 8
 (.mv (.d (.int .u64 0))) []]) (.seq (.seq (.reg false [oo_ 30 (.fa 0 (.t 3)) [],oo_ 31 (.load false 1 (.t 30)) [0],oo_ 32 (.len (.t 31)) [1],oo_ 33 (.mv (.d (.int .i64 0))) []]) (.block 2 (.loop (.seq (.reg false [oo_
 34 (.bin .lss (.t 33) (.t 32)) []]) (.seq (.cond (.t 34) .skip (.exit 2)) (.seq (.block 3 (.seq (.reg false [om_ 35 33 [],oo_ 36 (.ix 1 (.t 31) (.t 33)) [],oo_ 37 (.load false 1 (.t 36)) [1],om_ 9 35 [0,0,1,2],om_ 10 37
 [2,3,0,1,2,3]]) (.seq (.reg false [om_ 39 7 [],om_ 40 10 [],oo_ 41 (.call 84 [(.t 39),(.t 40)]) [0,1],om_ 38 41 [2],oo_ 42 (.ext (.t 38) 0) [3],oo_ 43 (.ext (.t 38) 1) [3],om_ 11 42 [4,2,0,1,2,3,4],om_ 12 43
 [5,6,0,1,2,3,4,5,6]]) (.seq (.reg false [oo_ 13 (.mv (.d (.int .u64 0))) []]) (.seq (.reg false [om_ 45 12 [],om_ 46 5 [],om_ 47 6 [],om_ 48 9 [],oo_ 49 (.bin .add (.t 47) (.t 48)) [2,3],oo_ 50 (.ix 1 (.t 46) (.t 49))
 [1,4],oo_ 51 (.load false 1 (.t 50)) [5],oo_ 52 (.call 36 [(.t 45),(.t 51),(.d (.int .u64 0))]) [0,6],om_ 44 52 [7],oo_ 53 (.ext (.t 44) 0) [8],oo_ 54 (.ext (.t 44) 1) [8],om_ 12 53 [9,7,0,1,2,3,4,5,6,7,8,9],om_ 13 54
 [10,11,0,1,2,3,4,5,6,7,8,9,10,11]]) (.seq (.reg false [om_ 55 11 [],om_ 56 13 [],oo_ 57 (.bin .add (.t 55) (.t 56)) [0,1],om_ 11 57 [2,0,1,2]]) (.seq (.reg false [om_ 59 12 [],om_ 60 8 [],oo_ 61 (.call 36 [(.t 59),(.t
 60),(.d (.int .u64 0))]) [0,1],om_ 58 61 [2],oo_ 62 (.ext (.t 58) 0) [3],oo_ 63 (.ext (.t 58) 1) [3],om_ 12 62 [4,2,0,1,2,3,4],om_ 13 63 [5,6,0,1,2,3,4,5,6]]) (.reg false [om_ 64 5 [],om_ 65 6 [],om_ 66 9 [],oo_ 67
 (.bin .add (.t 65) (.t 66)) [1,2],om_ 68 12 [],om_ 69 11 [],om_ 70 13 [],oo_ 71 (.bin .add (.t 69) (.t 70)) [5,6],oo_ 72 (.ix 1 (.t 64) (.t 67)) [0,3,0,1,2,3,4],on_ (.store 1 (.t 72) (.t 68)) [8,4,0,1,2,3,4],om_ 8 71
 [7,9,0,1,2,3,4,5,6,7,8,9]])))))))) (.reg false [oo_ 73 (.bin .add (.t 33) (.d (.int .i64 1))) [],om_ 33 73 [0]]))))))) (.reg false [om_ 74 5 [],om_ 75 6 [],oo_ 76 (.fa 0 (.t 3)) [],oo_ 77 (.load false 1 (.t 76)) [2],oo_
 78 (.len (.t 77)) [3],oo_ 79 (.bin .add (.t 75) (.t 78)) [1,4],om_ 80 8 [],oo_ 81 (.ix 1 (.t 74) (.t 79)) [0,5,0,1,2,3,4,5,6],on_ (.store 1 (.t 81) (.t 80)) [7,6,0,1,2,3,4,5,6]]))))) (.reg false [oo_ 82 (.bin .add (.t
 25) (.d (.int .i64 1))) [],om_ 25 82 [0]]))))))) (.seq (.reg false [om_ 83 5 [],oo_ 84 (.call 31 [(.t 83)]) [0],on_ (.store 1 (.t 4) (.t 84)) [1,1,0,1]]) .ret))))
theorem o_b1 : fnOf Tryd.prog o_az = some (o_b0, [.cell 4 true 1], 85, false) := by kernel_rfl

abbrev o_b2 : FuncId := 73
def o_b3 : C := (.seq (.reg false [oo_ 2 (.mv (.d .nilsl)) []]) (.seq (.reg false [om_ 4 0 [],oo_ 5 (.len (.t 4)) [0],om_ 3 5 [1,0,1]]) (.seq (.block 0 (.loop (.seq (.seq (.reg false [om_ 6 3 [],oo_ 7 (.bin .gtr (.t 6) (.d (.int .i64
 0))) [0],om_ 8 7 [1],og_ 9 (.mv (.t 0)) 8 true [2],og_ 10 (.mv (.t 3)) 8 true [2],og_ 11 (.bin .sub (.t 10) (.d (.int .i64 1))) 8 true [4,2],og_ 12 (.ix 1 (.t 9) (.t 11)) 8 true [3,5,2],og_ 13 (.load false 1 (.t 12)) 8
 true [6,2],og_ 14 (.bin .eql (.t 13) (.d (.int .i64 0))) 8 true [7,2],oo_ 15 (.pick (.t 8) (.t 14) (.d (.bool false))) [2,8]]) (.cond (.t 15) .skip (.exit 0))) (.block 1 (.reg false [om_ 16 3 [],oo_ 17 (.bin .sub (.t
 16) (.d (.int .i64 1))) [0],om_ 3 17 [1,0,1]]))))) (.seq (.reg false [om_ 18 0 [],om_ 19 3 [],oo_ 20 (.slice 1 (.t 18) none (some (.t 19)) none) [0,1],om_ 2 20 [2,0,1,2]]) .ret))))
theorem o_b4 : fnOf Tryd.prog o_b2 = some (o_b3, [.t 2], 21, false) := by kernel_rfl

abbrev o_b5 : FuncId := 74
def o_b6 : C := (.seq (.reg false [oo_ 4 (.mv (.d .nilsl)) []]) (.seq (.reg false [om_ 10 0 [],oo_ 11 (.len (.t 10)) [0],om_ 12 1 [],oo_ 13 (.len (.t 12)) [2],oo_ 14 (.bin .add (.t 11) (.t 13)) [1,3],oo_ 15 (.bin .add (.t 14) (.d (.int
 .i64 1))) [4],oo_ 16 (.mksl 3 1 8 [(.int .i64 0)] (.t 15) (.t 15)) [5,5],om_ 5 16 [6,0,1,2,3,4,5,6]]) (.seq (.seq (.reg false [oo_ 6 (.mv (.d (.int .i64 0))) []]) (.block 0 (.loop (.seq (.seq (.reg false [om_ 17 6
 [],om_ 18 0 [],oo_ 19 (.len (.t 18)) [1],oo_ 20 (.bin .lss (.t 17) (.t 19)) [0,2]]) (.cond (.t 20) .skip (.exit 0))) (.seq (.block 1 (.seq (.reg false [oo_ 7 (.mv (.d (.int .i64 0))) []]) (.seq (.reg false [oo_ 8 (.mv
 (.d (.int .i64 0))) []]) (.block 2 (.loop (.seq (.seq (.reg false [om_ 23 8 [],om_ 24 1 [],oo_ 25 (.len (.t 24)) [1],oo_ 26 (.bin .lss (.t 23) (.t 25)) [0,2],om_ 27 26 [3],og_ 28 (.mv (.t 7)) 27 false [4],og_ 29 (.bin
 .gtr (.t 28) (.d (.int .i64 0))) 27 false [5,4],oo_ 30 (.pick (.t 27) (.d (.bool true)) (.t 29)) [4,6]]) (.cond (.t 30) .skip (.exit 2))) (.seq (.block 3 (.seq (.reg false [om_ 33 5 [],om_ 34 6 [],om_ 35 8 [],oo_ 36
 (.bin .add (.t 34) (.t 35)) [1,2],oo_ 37 (.ix 1 (.t 33) (.t 36)) [0,3],oo_ 38 (.load false 1 (.t 37)) [4],om_ 39 7 [],oo_ 40 (.bin .add (.t 38) (.t 39)) [5,6],om_ 9 40 [7,0,1,2,3,4,5,6,7]]) (.seq (.seq (.reg false [om_
 41 8 [],om_ 42 1 [],oo_ 43 (.len (.t 42)) [1],oo_ 44 (.bin .lss (.t 41) (.t 43)) [0,2]]) (.cond (.t 44) (.reg true [om_ 45 9 [],om_ 46 0 [],om_ 47 6 [],oo_ 48 (.ix 1 (.t 46) (.t 47)) [1,2],oo_ 49 (.load false 1 (.t 48))
 [3],om_ 50 1 [],om_ 51 8 [],oo_ 52 (.ix 1 (.t 50) (.t 51)) [5,6],oo_ 53 (.load false 1 (.t 52)) [7],oo_ 54 (.bin .mul (.t 49) (.t 53)) [4,8],oo_ 55 (.bin .add (.t 45) (.t 54)) [0,9],om_ 9 55
 [10,0,1,2,3,4,5,6,7,8,9,10]]) .skip)) (.seq (.reg false [om_ 56 5 [],om_ 57 6 [],om_ 58 8 [],oo_ 59 (.bin .add (.t 57) (.t 58)) [1,2],om_ 60 9 [],oo_ 61 (.bin .rem (.t 60) (.d (.int .i64 10000))) [4],oo_ 62 (.ix 1 (.t
 56) (.t 59)) [0,3,0,1,2,3,4,5],on_ (.store 1 (.t 62) (.t 61)) [6,5,0,1,2,3,4,5]]) (.reg false [om_ 63 9 [],oo_ 64 (.bin .quo (.t 63) (.d (.int .i64 10000))) [0],om_ 7 64 [1,0,1]]))))) (.reg false [om_ 31 8 [],oo_ 32
 (.bin .add (.t 31) (.d (.int .i64 1))) [0],om_ 8 32 [1,0,1]])))))))) (.reg false [om_ 21 6 [],oo_ 22 (.bin .add (.t 21) (.d (.int .i64 1))) [0],om_ 6 22 [1,0,1]])))))) (.seq (.reg false [om_ 65 5 [],oo_ 66 (.call 73
 [(.t 65)]) [0],om_ 4 66 [1,1,0,1]]) .ret))))
theorem o_b7 : fnOf Tryd.prog o_b5 = some (o_b6, [.t 4], 67, false) := by kernel_rfl

abbrev o_b8 : FuncId := 75
def o_b9 : C := (.seq (.reg false [oo_ 4 (.mv (.d .nilsl)) [],oo_ 5 (.mv (.d .nilsl)) [0]]) (.seq (.reg false [om_ 12 0 [],oo_ 13 (.len (.t 12)) [0],oo_ 14 (.mksl 3 1 8 [(.int .i64 0)] (.t 13) (.t 13)) [1,1],om_ 6 14 [2,0,1,2]]) (.seq
 (.reg false [oo_ 7 (.mv (.d .nilsl)) []]) (.seq (.seq (.reg false [om_ 15 0 [],oo_ 16 (.len (.t 15)) [0],oo_ 17 (.bin .sub (.t 16) (.d (.int .i64 1))) [1],om_ 8 17 [2,0,1,2]]) (.block 0 (.loop (.seq (.seq (.reg false
 [om_ 18 8 [],oo_ 19 (.bin .geq (.t 18) (.d (.int .i64 0))) [0]]) (.cond (.t 19) .skip (.exit 0))) (.seq (.block 1 (.seq (.reg false [om_ 22 0 [],om_ 23 8 [],oo_ 24 (.ix 1 (.t 22) (.t 23)) [0,1],oo_ 25 (.load false 1 (.t
 24)) [2],oo_ 26 (.bsl 3 1 1 [(.int .i64 0)] [(0,1,(.t 25))]) [3],om_ 27 7 [],oo_ 28 (.app 3 1 8 (.t 26) (.t 27)) [4,5],oo_ 29 (.call 73 [(.t 28)]) [6,6],om_ 7 29 [7,7,0,1,2,3,4,5,6,7]]) (.seq (.reg false [oo_ 9 (.mv (.d
 (.int .i64 0))) []]) (.seq (.reg false [oo_ 10 (.mv (.d (.int .i64 10000))) []]) (.seq (.block 2 (.loop (.seq (.seq (.reg false [om_ 30 10 [],om_ 31 9 [],oo_ 32 (.bin .sub (.t 30) (.t 31)) [0,1],oo_ 33 (.bin .gtr (.t
 32) (.d (.int .i64 1))) [2]]) (.cond (.t 33) .skip (.exit 2))) (.block 3 (.seq (.reg false [om_ 34 9 [],om_ 35 10 [],oo_ 36 (.bin .add (.t 34) (.t 35)) [0,1],oo_ 37 (.bin .quo (.t 36) (.d (.int .i64 2))) [2],om_ 11 37
 [3,0,1,2,3]]) (.seq (.reg false [om_ 38 1 [],om_ 39 11 [],oo_ 40 (.call 50 [(.t 39)]) [1],oo_ 41 (.call 74 [(.t 38),(.t 40)]) [0,2,2],om_ 42 7 [],oo_ 43 (.call 53 [(.t 41),(.t 42)]) [3,4,3],oo_ 44 (.bin .leq (.t 43) (.d
 (.int .i64 0))) [5]]) (.cond (.t 44) (.reg false [om_ 45 11 [],om_ 9 45 [0,0]]) (.reg false [om_ 46 11 [],om_ 10 46 [0,0]])))))))) (.seq (.reg false [om_ 47 6 [],om_ 48 8 [],om_ 49 9 [],oo_ 50 (.ix 1 (.t 47) (.t 48))
 [0,1,0,1,2],on_ (.store 1 (.t 50) (.t 49)) [3,2,0,1,2]]) (.reg false [om_ 51 7 [],om_ 52 1 [],om_ 53 9 [],oo_ 54 (.call 50 [(.t 53)]) [2],oo_ 55 (.call 74 [(.t 52),(.t 54)]) [1,3,3],oo_ 56 (.call 89 [(.t 51),(.t 55)])
 [0,4,4],om_ 7 56 [5,5,0,1,2,3,4,5]]))))))) (.reg false [om_ 20 8 [],oo_ 21 (.bin .sub (.t 20) (.d (.int .i64 1))) [0],om_ 8 21 [1,0,1]])))))) (.seq (.reg false [om_ 57 6 [],oo_ 58 (.call 73 [(.t 57)]) [0],om_ 59 7
 [],om_ 4 58 [1,1,0,1],om_ 5 59 [2,3,0,1,2,3]]) .ret)))))
theorem o_ba : fnOf Tryd.prog o_b8 = some (o_b9, [.t 4, .t 5], 60, false) := by kernel_rfl

abbrev o_bb : FuncId := 76
def o_bc : C := (.seq (.reg false [oo_ 3 (.box 25 (.t 1)) [],oo_ 4 (.new 25 [.nilsl]) []]) (.seq (.reg false [oo_ 8 (.load true 1 (.t 3)) [],om_ 9 0 [],oo_ 10 (.call 90 [(.t 8),(.t 9)]) [0,1],oo_ 5 (.new 25 [.nilsl]) [],on_ (.store 1
 (.t 5) (.t 10)) [3,2,2,0,1,2,3]]) (.seq (.seq (.reg false [oo_ 12 (.load true 1 (.t 5)) [],om_ 13 0 [],oo_ 14 (.call 11 [(.t 12),(.t 13)]) [0,1],om_ 11 14 [2],oo_ 15 (.ext (.t 11) 0) [3],oo_ 16 (.ext (.t 11) 1) [3],oo_
 6 (.new 25 [.nilsl]) [],on_ (.store 1 (.t 6) (.t 15)) [6,4,2,0,1,2,3,4,6],om_ 7 16 [5,7,0,1,2,3,4,5,6,7]]) (.seq (.reg false [oo_ 17 (.load true 1 (.t 6)) [],oo_ 18 (.load true 1 (.t 3)) [],oo_ 19 (.call 8 [(.t 17),(.t
 18)]) [0,1],oo_ 20 (.bin .lss (.t 19) (.d (.int .i64 0))) [2]]) (.cond (.t 20) (.reg true [oo_ 21 (.load true 1 (.t 5)) [],oo_ 22 (.bsl 34 1 1 [(.int .u64 0)] [(0,1,(.d (.int .u64 1)))]) [],oo_ 23 (.call 10 [(.t 22)])
 [1],oo_ 24 (.call 12 [(.t 21),(.t 23)]) [0,2,2],on_ (.store 1 (.t 5) (.t 24)) [3,3,0,1,2,3]]) .skip))) (.seq (.reg false [oo_ 25 (.load true 1 (.t 3)) [],oo_ 26 (.load true 1 (.t 5)) [],oo_ 27 (.call 12 [(.t 25),(.t
 26)]) [0,1],on_ (.store 1 (.t 4) (.t 27)) [2,2,0,1,2]]) .ret))))
theorem o_bd : fnOf Tryd.prog o_bb = some (o_bc, [.cell 4 true 1], 28, false) := by kernel_rfl

abbrev o_be : FuncId := 77
def o_bf : C := (.seq (.reg false [oo_ 3 (.box 25 (.t 1)) [],oo_ 4 (.mv (.d (.int .i64 0))) []]) (.seq (.reg false [oo_ 5 (.load true 1 (.t 3)) [],oo_ 6 (.call 91 [(.t 5)]) [0],oo_ 7 (.bin .sub (.t 6) (.d (.int .i64 1))) [1],om_ 8 0
 [],oo_ 9 (.bin .mul (.d (.int .i64 2)) (.t 8)) [3],oo_ 10 (.bin .sub (.t 7) (.t 9)) [2,4],oo_ 11 (.mm true [(.d (.int .i64 0)),(.t 10)]) [5],om_ 4 11 [6,1,0,1,2,3,4,5,6]]) .ret))
theorem o_bg : fnOf Tryd.prog o_be = some (o_bf, [.t 4], 12, false) := by kernel_rfl

abbrev o_bh : FuncId := 78
def o_bi : C := (.seq (.reg false [oo_ 2 (.mv (.d (.int .i64 0))) []]) (.seq (.reg false [om_ 3 0 [],oo_ 4 (.call 92 [(.t 3)]) [0],oo_ 5 (.bin .sub (.d (.int .i64 64)) (.t 4)) [1],om_ 2 5 [2,1,0,1,2]]) .ret))
theorem o_bj : fnOf Tryd.prog o_bh = some (o_bi, [.t 2], 6, false) := by kernel_rfl

abbrev o_bk : FuncId := 79
def o_bl : C := (.seq (.reg false [⟨some 2,.mv (.d (.str ⟨#[]⟩)),none,[]⟩]) (.seq (.seq (.reg false [om_ 3 0 [],oo_ 4 (.bin .lss (.t 3) (.d (.int .i64 10))) [0]]) (.cond (.t 4) (.seq (.reg false [om_ 5 0 [],om_ 6 0 [],oo_ 7 (.bin .add
 (.t 6) (.d (.int .i64 1))) [1],⟨some 8,.sstr (.d (.str ⟨#[48,49,50,51,52,53,54,55,56,57,97,98,99,100,101,102,103,104,105,106,107,108,109,110,111,112,113,114,115,116,117,118,119,120,121,122]⟩)) (some (.t 5)) (some (.t
 7)),none,[0,2]⟩,om_ 2 8 [3,0,1,2,3]]) .ret) .skip)) (.seq (.reg false [om_ 9 0 [],oo_ 10 (.bin .mul (.t 9) (.d (.int .i64 2))) [0],om_ 11 0 [],oo_ 12 (.bin .mul (.t 11) (.d (.int .i64 2))) [2],oo_ 13 (.bin .add (.t 12)
 (.d (.int .i64 2))) [3],⟨some 14,.sstr (.d (.str
 ⟨#[48,48,48,49,48,50,48,51,48,52,48,53,48,54,48,55,48,56,48,57,49,48,49,49,49,50,49,51,49,52,49,53,49,54,49,55,49,56,49,57,50,48,50,49,50,50,50,51,50,52,50,53,50,54,50,55,50,56,50,57,51,48,51,49,51,50,51,51,51,52,51,53,51,54,51,55,51,56,51,57,52,48,52,49,52,50,52,51,52,52,52,53,52,54,52,55,52,56,52,57,53,48,53,49,53,50,53,51,53,52,53,53,53,54,53,55,53,56,53,57,54,48,54,49,54,50,54,51,54,52,54,53,54,54,54,55,54,56,54,57,55,48,55,49,55,50,55,51,55,52,55,53,55,54,55,55,55,56,55,57,56,48,56,49,56,50,56,51,56,52,56,53,56,54,56,55,56,56,56,57,57,48,57,49,57,50,57,51,57,52,57,53,57,54,57,55,57,56,57,57]⟩)) (some (.t 10)) (some (.t 13)),none,[1,4]⟩,om_ 2 14 [5,0,1,2,3,4,5]]) .ret)))
theorem o_bm : fnOf Tryd.prog o_bk = some (o_bl, [.t 2], 15, false) := by kernel_rfl

abbrev o_bn : FuncId := 80
def o_bo : C := (.seq (.reg false [oo_ 2 (.mv (.d (.int .i64 0))) []]) (.seq (.reg false [om_ 4 0 [],oo_ 5 (.call 92 [(.t 4)]) [0],oo_ 6 (.call 93 [(.t 5)]) [1,1],om_ 3 6 [2,2,0,1,2]]) (.seq (.reg false [om_ 7 3 [],om_ 8 0 [],om_ 9 3
 [],oo_ 10 (.gix [(.int .u64 1),(.int .u64 10),(.int .u64 100),(.int .u64 1000),(.int .u64 10000),(.int .u64 100000),(.int .u64 1000000),(.int .u64 10000000),(.int .u64 100000000),(.int .u64 1000000000),(.int .u64
 10000000000),(.int .u64 100000000000),(.int .u64 1000000000000),(.int .u64 10000000000000),(.int .u64 100000000000000),(.int .u64 1000000000000000),(.int .u64 10000000000000000),(.int .u64 100000000000000000),(.int .u64
 1000000000000000000),(.int .u64 10000000000000000000)] 20 1 (.t 9)) [2],oo_ 11 (.load false 1 (.t 10)) [3],oo_ 12 (.bin .geq (.t 8) (.t 11)) [1,4],oo_ 13 (.call 94 [(.t 12)]) [5],oo_ 14 (.bin .add (.t 7) (.t 13))
 [0,6],om_ 2 14 [7,6,0,1,2,3,4,5,6,7]]) .ret)))
theorem o_bp : fnOf Tryd.prog o_bn = some (o_bo, [.t 2], 15, false) := by kernel_rfl

abbrev o_bq : FuncId := 81
def o_br : C := (.seq (.reg false [om_ 17 0 [],oo_ 18 (.len (.t 17)) [0],om_ 4 18 [1,0,1]]) (.seq (.block 0 (.loop (.seq (.seq (.reg false [om_ 19 4 [],oo_ 20 (.bin .geq (.t 19) (.d (.int .i64 8))) [0]]) (.cond (.t 20) .skip (.exit
 0))) (.block 1 (.seq (.reg false [om_ 21 1 [],oo_ 22 (.bin .rem (.t 21) (.d (.int .u64 100000000))) [0],oo_ 23 (.conv .u32 (.t 22)) [1],om_ 5 23 [2,0,1,2]]) (.seq (.reg false [om_ 24 1 [],oo_ 25 (.bin .quo (.t 24) (.d
 (.int .u64 100000000))) [0],om_ 1 25 [1,0,1]]) (.seq (.reg false [om_ 26 5 [],oo_ 27 (.bin .quo (.t 26) (.d (.int .u32 10000))) [0],om_ 28 5 [],oo_ 29 (.bin .rem (.t 28) (.d (.int .u32 10000))) [2],om_ 6 27 [1,0,1],om_
 7 29 [3,4,0,1,2,3,4]]) (.seq (.reg false [om_ 30 7 [],oo_ 31 (.bin .quo (.t 30) (.d (.int .u32 100))) [0],oo_ 32 (.bin .mul (.t 31) (.d (.int .u32 2))) [1],om_ 33 7 [],oo_ 34 (.bin .rem (.t 33) (.d (.int .u32 100)))
 [3],oo_ 35 (.bin .mul (.t 34) (.d (.int .u32 2))) [4],om_ 8 32 [2,0,1,2],om_ 9 35 [5,6,0,1,2,3,4,5,6]]) (.seq (.reg false [om_ 36 6 [],oo_ 37 (.bin .quo (.t 36) (.d (.int .u32 100))) [0],oo_ 38 (.bin .mul (.t 37) (.d
 (.int .u32 2))) [1],om_ 39 6 [],oo_ 40 (.bin .rem (.t 39) (.d (.int .u32 100))) [3],oo_ 41 (.bin .mul (.t 40) (.d (.int .u32 2))) [4],om_ 10 38 [2,0,1,2],om_ 11 41 [5,6,0,1,2,3,4,5,6]]) (.seq (.reg true [om_ 42 0 [],om_
 43 4 [],oo_ 44 (.bin .sub (.t 43) (.d (.int .i64 1))) [1],om_ 45 0 [],om_ 46 4 [],oo_ 47 (.bin .sub (.t 46) (.d (.int .i64 2))) [4],om_ 48 9 [],oo_ 49 (.bin .add (.t 48) (.d (.int .u32 1))) [6],⟨some 50,.gstr (.d (.str
 ⟨#[48,48,48,49,48,50,48,51,48,52,48,53,48,54,48,55,48,56,48,57,49,48,49,49,49,50,49,51,49,52,49,53,49,54,49,55,49,56,49,57,50,48,50,49,50,50,50,51,50,52,50,53,50,54,50,55,50,56,50,57,51,48,51,49,51,50,51,51,51,52,51,53,51,54,51,55,51,56,51,57,52,48,52,49,52,50,52,51,52,52,52,53,52,54,52,55,52,56,52,57,53,48,53,49,53,50,53,51,53,52,53,53,53,54,53,55,53,56,53,57,54,48,54,49,54,50,54,51,54,52,54,53,54,54,54,55,54,56,54,57,55,48,55,49,55,50,55,51,55,52,55,53,55,54,55,55,55,56,55,57,56,48,56,49,56,50,56,51,56,52,56,53,56,54,56,55,56,56,56,57,57,48,57,49,57,50,57,51,57,52,57,53,57,54,57,55,57,56,57,57]⟩)) (.t 49),none,[7]⟩,om_ 51 9 [],⟨some 52,.gstr (.d (.str ⟨#[48,48,48,49,48,50,48,51,48,52,48,53,48,54,48,55,48,56,48,57,49,48,49,49,49,50,49,51,49,52,49,53,49,54,49,55,49,56,49,57,50,48,50,49,50,50,50,51,50,52,50,53,50,54,50,55,50,56,50,57,51,48,51,49,51,50,51,51,51,52,51,53,51,54,51,55,51,56,51,57,52,48,52,49,52,50,52,51,52,52,52,53,52,54,52,55,52,56,52,57,53,48,53,49,53,50,53,51,53,52,53,53,53,54,53,55,53,56,53,57,54,48,54,49,54,50,54,51,54,52,54,53,54,54,54,55,54,56,54,57,55,48,55,49,55,50,55,51,55,52,55,53,55,54,55,55,55,56,55,57,56,48,56,49,56,50,56,51,56,52,56,53,56,54,56,55,56,56,56,57,57,48,57,49,57,50,57,51,57,52,57,53,57,54,57,55,57,56,57,57]⟩)) (.t 51),none,[9]⟩,oo_ 53 (.ix 1 (.t 42) (.t 44)) [0,2,0,1,2,6,7,8],on_ (.store 1 (.t 53) (.t 50)) [11,8,0,1,2,6,7,8],oo_ 54 (.ix 1 (.t 45) (.t 47)) [3,5,0,1,2,3,4,5,6,7,8,9,10,11,12],on_ (.store 1 (.t 54) (.t 52)) [13,10,12,0,1,2,3,4,5,6,7,8,9,10,11,12]]) (.seq (.reg true [om_ 55 0 [],om_ 56 4 [],oo_ 57 (.bin .sub (.t 56) (.d (.int .i64 3))) [1],om_ 58 0 [],om_ 59 4 [],oo_ 60 (.bin .sub (.t 59) (.d (.int .i64 4))) [4],om_ 61 8 [],oo_ 62 (.bin .add (.t 61) (.d (.int .u32 1))) [6],⟨some 63,.gstr (.d (.str ⟨#[48,48,48,49,48,50,48,51,48,52,48,53,48,54,48,55,48,56,48,57,49,48,49,49,49,50,49,51,49,52,49,53,49,54,49,55,49,56,49,57,50,48,50,49,50,50,50,51,50,52,50,53,50,54,50,55,50,56,50,57,51,48,51,49,51,50,51,51,51,52,51,53,51,54,51,55,51,56,51,57,52,48,52,49,52,50,52,51,52,52,52,53,52,54,52,55,52,56,52,57,53,48,53,49,53,50,53,51,53,52,53,53,53,54,53,55,53,56,53,57,54,48,54,49,54,50,54,51,54,52,54,53,54,54,54,55,54,56,54,57,55,48,55,49,55,50,55,51,55,52,55,53,55,54,55,55,55,56,55,57,56,48,56,49,56,50,56,51,56,52,56,53,56,54,56,55,56,56,56,57,57,48,57,49,57,50,57,51,57,52,57,53,57,54,57,55,57,56,57,57]⟩)) (.t 62),none,[7]⟩,om_ 64 8 [],⟨some 65,.gstr (.d (.str ⟨#[48,48,48,49,48,50,48,51,48,52,48,53,48,54,48,55,48,56,48,57,49,48,49,49,49,50,49,51,49,52,49,53,49,54,49,55,49,56,49,57,50,48,50,49,50,50,50,51,50,52,50,53,50,54,50,55,50,56,50,57,51,48,51,49,51,50,51,51,51,52,51,53,51,54,51,55,51,56,51,57,52,48,52,49,52,50,52,51,52,52,52,53,52,54,52,55,52,56,52,57,53,48,53,49,53,50,53,51,53,52,53,53,53,54,53,55,53,56,53,57,54,48,54,49,54,50,54,51,54,52,54,53,54,54,54,55,54,56,54,57,55,48,55,49,55,50,55,51,55,52,55,53,55,54,55,55,55,56,55,57,56,48,56,49,56,50,56,51,56,52,56,53,56,54,56,55,56,56,56,57,57,48,57,49,57,50,57,51,57,52,57,53,57,54,57,55,57,56,57,57]⟩)) (.t 64),none,[9]⟩,oo_ 66 (.ix 1 (.t 55) (.t 57)) [0,2,0,1,2,6,7,8],on_ (.store 1 (.t 66) (.t 63)) [11,8,0,1,2,6,7,8],oo_ 67 (.ix 1 (.t 58) (.t 60)) [3,5,0,1,2,3,4,5,6,7,8,9,10,11,12],on_ (.store 1 (.t 67) (.t 65)) [13,10,12,0,1,2,3,4,5,6,7,8,9,10,11,12]]) (.seq (.reg true [om_ 68 0 [],om_ 69 4 [],oo_ 70 (.bin .sub (.t 69) (.d (.int .i64 5))) [1],om_ 71 0 [],om_ 72 4 [],oo_ 73 (.bin .sub (.t 72) (.d (.int .i64 6))) [4],om_ 74 11 [],oo_ 75 (.bin .add (.t 74) (.d (.int .u32 1))) [6],⟨some 76,.gstr (.d (.str ⟨#[48,48,48,49,48,50,48,51,48,52,48,53,48,54,48,55,48,56,48,57,49,48,49,49,49,50,49,51,49,52,49,53,49,54,49,55,49,56,49,57,50,48,50,49,50,50,50,51,50,52,50,53,50,54,50,55,50,56,50,57,51,48,51,49,51,50,51,51,51,52,51,53,51,54,51,55,51,56,51,57,52,48,52,49,52,50,52,51,52,52,52,53,52,54,52,55,52,56,52,57,53,48,53,49,53,50,53,51,53,52,53,53,53,54,53,55,53,56,53,57,54,48,54,49,54,50,54,51,54,52,54,53,54,54,54,55,54,56,54,57,55,48,55,49,55,50,55,51,55,52,55,53,55,54,55,55,55,56,55,57,56,48,56,49,56,50,56,51,56,52,56,53,56,54,56,55,56,56,56,57,57,48,57,49,57,50,57,51,57,52,57,53,57,54,57,55,57,56,57,57]⟩)) (.t 75),none,[7]⟩,om_ 77 11 [],⟨some 78,.gstr (.d (.str ⟨#[48,48,48,49,48,50,48,51,48,52,48,53,48,54,48,55,48,56,48,57,49,48,49,49,49,50,49,51,49,52,49,53,49,54,49,55,49,56,49,57,50,48,50,49,50,50,50,51,50,52,50,53,50,54,50,55,50,56,50,57,51,48,51,49,51,50,51,51,51,52,51,53,51,54,51,55,51,56,51,57,52,48,52,49,52,50,52,51,52,52,52,53,52,54,52,55,52,56,52,57,53,48,53,49,53,50,53,51,53,52,53,53,53,54,53,55,53,56,53,57,54,48,54,49,54,50,54,51,54,52,54,53,54,54,54,55,54,56,54,57,55,48,55,49,55,50,55,51,55,52,55,53,55,54,55,55,55,56,55,57,56,48,56,49,56,50,56,51,56,52,56,53,56,54,56,55,56,56,56,57,57,48,57,49,57,50,57,51,57,52,57,53,57,54,57,55,57,56,57,57]⟩)) (.t 77),none,[9]⟩,oo_ 79 (.ix 1 (.t 68) (.t 70)) [0,2,0,1,2,6,7,8],on_ (.store 1 (.t 79) (.t 76)) [11,8,0,1,2,6,7,8],oo_ 80 (.ix 1 (.t 71) (.t 73)) [3,5,0,1,2,3,4,5,6,7,8,9,10,11,12],on_ (.store 1 (.t 80) (.t 78)) [13,10,12,0,1,2,3,4,5,6,7,8,9,10,11,12]]) (.seq (.reg true [om_ 81 0 [],om_ 82 4 [],oo_ 83 (.bin .sub (.t 82) (.d (.int .i64 7))) [1],om_ 84 0 [],om_ 85 4 [],oo_ 86 (.bin .sub (.t 85) (.d (.int .i64 8))) [4],om_ 87 10 [],oo_ 88 (.bin .add (.t 87) (.d (.int .u32 1))) [6],⟨some 89,.gstr (.d (.str ⟨#[48,48,48,49,48,50,48,51,48,52,48,53,48,54,48,55,48,56,48,57,49,48,49,49,49,50,49,51,49,52,49,53,49,54,49,55,49,56,49,57,50,48,50,49,50,50,50,51,50,52,50,53,50,54,50,55,50,56,50,57,51,48,51,49,51,50,51,51,51,52,51,53,51,54,51,55,51,56,51,57,52,48,52,49,52,50,52,51,52,52,52,53,52,54,52,55,52,56,52,57,53,48,53,49,53,50,53,51,53,52,53,53,53,54,53,55,53,56,53,57,54,48,54,49,54,50,54,51,54,52,54,53,54,54,54,55,54,56,54,57,55,48,55,49,55,50,55,51,55,52,55,53,55,54,55,55,55,56,55,57,56,48,56,49,56,50,56,51,56,52,56,53,56,54,56,55,56,56,56,57,57,48,57,49,57,50,57,51,57,52,57,53,57,54,57,55,57,56,57,57]⟩)) (.t 88),none,[7]⟩,om_ 90 10 [],⟨some 91,.gstr (.d (.str ⟨#[48,48,48,49,48,50,48,51,48,52,48,53,48,54,48,55,48,56,48,57,49,48,49,49,49,50,49,51,49,52,49,53,49,54,49,55,49,56,49,57,50,48,50,49,50,50,50,51,50,52,50,53,50,54,50,55,50,56,50,57,51,48,51,49,51,50,51,51,51,52,51,53,51,54,51,55,51,56,51,57,52,48,52,49,52,50,52,51,52,52,52,53,52,54,52,55,52,56,52,57,53,48,53,49,53,50,53,51,53,52,53,53,53,54,53,55,53,56,53,57,54,48,54,49,54,50,54,51,54,52,54,53,54,54,54,55,54,56,54,57,55,48,55,49,55,50,55,51,55,52,55,53,55,54,55,55,55,56,55,57,56,48,56,49,56,50,56,51,56,52,56,53,56,54,56,55,56,56,56,57,57,48,57,49,57,50,57,51,57,52,57,53,57,54,57,55,57,56,57,57]⟩)) (.t 90),none,[9]⟩,oo_ 92 (.ix 1 (.t 81) (.t 83)) [0,2,0,1,2,6,7,8],on_ (.store 1 (.t 92) (.t 89)) [11,8,0,1,2,6,7,8],oo_ 93 (.ix 1 (.t 84) (.t 86)) [3,5,0,1,2,3,4,5,6,7,8,9,10,11,12],on_ (.store 1 (.t 93) (.t 91)) [13,10,12,0,1,2,3,4,5,6,7,8,9,10,11,12]]) (.reg false [om_ 94 4 [],oo_ 95 (.bin .sub (.t 94) (.d (.int .i64 8))) [0],om_ 4 95 [1,0,1]])))))))))))))) (.seq (.reg false [om_ 96 1 [],oo_ 97 (.conv .u32 (.t 96)) [0],om_ 12 97 [1,0,1]]) (.seq (.seq (.reg false [om_ 98 4 [],oo_ 99 (.bin .geq (.t 98) (.d (.int .i64 4))) [0]]) (.cond (.t 99) (.seq (.reg false [om_ 100 12 [],oo_ 101 (.bin .rem (.t 100) (.d (.int .u32 10000))) [0],om_ 13 101 [1,0,1]]) (.seq (.reg false [om_ 102 12 [],oo_ 103 (.bin .quo (.t 102) (.d (.int .u32 10000))) [0],om_ 12 103 [1,0,1]]) (.seq (.reg false [om_ 104 13 [],oo_ 105 (.bin .quo (.t 104) (.d (.int .u32 100))) [0],oo_ 106 (.bin .mul (.t 105) (.d (.int .u32 2))) [1],om_ 107 13 [],oo_ 108 (.bin .rem (.t 107) (.d (.int .u32 100))) [3],oo_ 109 (.bin .mul (.t 108) (.d (.int .u32 2))) [4],om_ 14 106 [2,0,1,2],om_ 15 109 [5,6,0,1,2,3,4,5,6]]) (.seq (.reg true [om_ 110 0 [],om_ 111 4 [],oo_ 112 (.bin .sub (.t 111) (.d (.int .i64 1))) [1],om_ 113 0 [],om_ 114 4 [],oo_ 115 (.bin .sub (.t 114) (.d (.int .i64 2))) [4],om_ 116 15 [],oo_ 117 (.bin .add (.t 116) (.d (.int .u32 1))) [6],⟨some 118,.gstr (.d (.str ⟨#[48,48,48,49,48,50,48,51,48,52,48,53,48,54,48,55,48,56,48,57,49,48,49,49,49,50,49,51,49,52,49,53,49,54,49,55,49,56,49,57,50,48,50,49,50,50,50,51,50,52,50,53,50,54,50,55,50,56,50,57,51,48,51,49,51,50,51,51,51,52,51,53,51,54,51,55,51,56,51,57,52,48,52,49,52,50,52,51,52,52,52,53,52,54,52,55,52,56,52,57,53,48,53,49,53,50,53,51,53,52,53,53,53,54,53,55,53,56,53,57,54,48,54,49,54,50,54,51,54,52,54,53,54,54,54,55,54,56,54,57,55,48,55,49,55,50,55,51,55,52,55,53,55,54,55,55,55,56,55,57,56,48,56,49,56,50,56,51,56,52,56,53,56,54,56,55,56,56,56,57,57,48,57,49,57,50,57,51,57,52,57,53,57,54,57,55,57,56,57,57]⟩)) (.t 117),none,[7]⟩,om_ 119 15 [],⟨some 120,.gstr (.d (.str ⟨#[48,48,48,49,48,50,48,51,48,52,48,53,48,54,48,55,48,56,48,57,49,48,49,49,49,50,49,51,49,52,49,53,49,54,49,55,49,56,49,57,50,48,50,49,50,50,50,51,50,52,50,53,50,54,50,55,50,56,50,57,51,48,51,49,51,50,51,51,51,52,51,53,51,54,51,55,51,56,51,57,52,48,52,49,52,50,52,51,52,52,52,53,52,54,52,55,52,56,52,57,53,48,53,49,53,50,53,51,53,52,53,53,53,54,53,55,53,56,53,57,54,48,54,49,54,50,54,51,54,52,54,53,54,54,54,55,54,56,54,57,55,48,55,49,55,50,55,51,55,52,55,53,55,54,55,55,55,56,55,57,56,48,56,49,56,50,56,51,56,52,56,53,56,54,56,55,56,56,56,57,57,48,57,49,57,50,57,51,57,52,57,53,57,54,57,55,57,56,57,57]⟩)) (.t 119),none,[9]⟩,oo_ 121 (.ix 1 (.t 110) (.t 112)) [0,2,0,1,2,6,7,8],on_ (.store 1 (.t 121) (.t 118)) [11,8,0,1,2,6,7,8],oo_ 122 (.ix 1 (.t 113) (.t 115)) [3,5,0,1,2,3,4,5,6,7,8,9,10,11,12],on_ (.store 1 (.t 122) (.t 120)) [13,10,12,0,1,2,3,4,5,6,7,8,9,10,11,12]]) (.seq (.reg true [om_ 123 0 [],om_ 124 4 [],oo_ 125 (.bin .sub (.t 124) (.d (.int .i64 3))) [1],om_ 126 0 [],om_ 127 4 [],oo_ 128 (.bin .sub (.t 127) (.d (.int .i64 4))) [4],om_ 129 14 [],oo_ 130 (.bin .add (.t 129) (.d (.int .u32 1))) [6],⟨some 131,.gstr (.d (.str ⟨#[48,48,48,49,48,50,48,51,48,52,48,53,48,54,48,55,48,56,48,57,49,48,49,49,49,50,49,51,49,52,49,53,49,54,49,55,49,56,49,57,50,48,50,49,50,50,50,51,50,52,50,53,50,54,50,55,50,56,50,57,51,48,51,49,51,50,51,51,51,52,51,53,51,54,51,55,51,56,51,57,52,48,52,49,52,50,52,51,52,52,52,53,52,54,52,55,52,56,52,57,53,48,53,49,53,50,53,51,53,52,53,53,53,54,53,55,53,56,53,57,54,48,54,49,54,50,54,51,54,52,54,53,54,54,54,55,54,56,54,57,55,48,55,49,55,50,55,51,55,52,55,53,55,54,55,55,55,56,55,57,56,48,56,49,56,50,56,51,56,52,56,53,56,54,56,55,56,56,56,57,57,48,57,49,57,50,57,51,57,52,57,53,57,54,57,55,57,56,57,57]⟩)) (.t 130),none,[7]⟩,om_ 132 14 [],⟨some 133,.gstr (.d (.str ⟨#[48,48,48,49,48,50,48,51,48,52,48,53,48,54,48,55,48,56,48,57,49,48,49,49,49,50,49,51,49,52,49,53,49,54,49,55,49,56,49,57,50,48,50,49,50,50,50,51,50,52,50,53,50,54,50,55,50,56,50,57,51,48,51,49,51,50,51,51,51,52,51,53,51,54,51,55,51,56,51,57,52,48,52,49,52,50,52,51,52,52,52,53,52,54,52,55,52,56,52,57,53,48,53,49,53,50,53,51,53,52,53,53,53,54,53,55,53,56,53,57,54,48,54,49,54,50,54,51,54,52,54,53,54,54,54,55,54,56,54,57,55,48,55,49,55,50,55,51,55,52,55,53,55,54,55,55,55,56,55,57,56,48,56,49,56,50,56,51,56,52,56,53,56,54,56,55,56,56,56,57,57,48,57,49,57,50,57,51,57,52,57,53,57,54,57,55,57,56,57,57]⟩)) (.t 132),none,[9]⟩,oo_ 134 (.ix 1 (.t 123) (.t 125)) [0,2,0,1,2,6,7,8],on_ (.store 1 (.t 134) (.t 131)) [11,8,0,1,2,6,7,8],oo_ 135 (.ix 1 (.t 126) (.t 128)) [3,5,0,1,2,3,4,5,6,7,8,9,10,11,12],on_ (.store 1 (.t 135) (.t 133)) [13,10,12,0,1,2,3,4,5,6,7,8,9,10,11,12]]) (.reg false [om_ 136 4 [],oo_ 137 (.bin .sub (.t 136) (.d (.int .i64 4))) [0],om_ 4 137 [1,0,1]])))))) .skip)) (.seq (.seq (.reg false [om_ 138 4 [],oo_ 139 (.bin .geq (.t 138) (.d (.int .i64 2))) [0]]) (.cond (.t 139) (.seq (.reg false [om_ 140 12 [],oo_ 141 (.bin .rem (.t 140) (.d (.int .u32 100))) [0],oo_ 142 (.bin .mul (.t 141) (.d (.int .u32 2))) [1],om_ 16 142 [2,0,1,2]]) (.seq (.reg false [om_ 143 12 [],oo_ 144 (.bin .quo (.t 143) (.d (.int .u32 100))) [0],om_ 12 144 [1,0,1]]) (.seq (.reg true [om_ 145 0 [],om_ 146 4 [],oo_ 147 (.bin .sub (.t 146) (.d (.int .i64 1))) [1],om_ 148 0 [],om_ 149 4 [],oo_ 150 (.bin .sub (.t 149) (.d (.int .i64 2))) [4],om_ 151 16 [],oo_ 152 (.bin .add (.t 151) (.d (.int .u32 1))) [6],⟨some 153,.gstr (.d (.str ⟨#[48,48,48,49,48,50,48,51,48,52,48,53,48,54,48,55,48,56,48,57,49,48,49,49,49,50,49,51,49,52,49,53,49,54,49,55,49,56,49,57,50,48,50,49,50,50,50,51,50,52,50,53,50,54,50,55,50,56,50,57,51,48,51,49,51,50,51,51,51,52,51,53,51,54,51,55,51,56,51,57,52,48,52,49,52,50,52,51,52,52,52,53,52,54,52,55,52,56,52,57,53,48,53,49,53,50,53,51,53,52,53,53,53,54,53,55,53,56,53,57,54,48,54,49,54,50,54,51,54,52,54,53,54,54,54,55,54,56,54,57,55,48,55,49,55,50,55,51,55,52,55,53,55,54,55,55,55,56,55,57,56,48,56,49,56,50,56,51,56,52,56,53,56,54,56,55,56,56,56,57,57,48,57,49,57,50,57,51,57,52,57,53,57,54,57,55,57,56,57,57]⟩)) (.t 152),none,[7]⟩,om_ 154 16 [],⟨some 155,.gstr (.d (.str ⟨#[48,48,48,49,48,50,48,51,48,52,48,53,48,54,48,55,48,56,48,57,49,48,49,49,49,50,49,51,49,52,49,53,49,54,49,55,49,56,49,57,50,48,50,49,50,50,50,51,50,52,50,53,50,54,50,55,50,56,50,57,51,48,51,49,51,50,51,51,51,52,51,53,51,54,51,55,51,56,51,57,52,48,52,49,52,50,52,51,52,52,52,53,52,54,52,55,52,56,52,57,53,48,53,49,53,50,53,51,53,52,53,53,53,54,53,55,53,56,53,57,54,48,54,49,54,50,54,51,54,52,54,53,54,54,54,55,54,56,54,57,55,48,55,49,55,50,55,51,55,52,55,53,55,54,55,55,55,56,55,57,56,48,56,49,56,50,56,51,56,52,56,53,56,54,56,55,56,56,56,57,57,48,57,49,57,50,57,51,57,52,57,53,57,54,57,55,57,56,57,57]⟩)) (.t 154),none,[9]⟩,oo_ 156 (.ix 1 (.t 145) (.t 147)) [0,2,0,1,2,6,7,8],on_ (.store 1 (.t 156) (.t 153)) [11,8,0,1,2,6,7,8],oo_ 157 (.ix 1 (.t 148) (.t 150)) [3,5,0,1,2,3,4,5,6,7,8,9,10,11,12],on_ (.store 1 (.t 157) (.t 155)) [13,10,12,0,1,2,3,4,5,6,7,8,9,10,11,12]]) (.reg false [om_ 158 4 [],oo_ 159 (.bin .sub (.t 158) (.d (.int .i64 2))) [0],om_ 4 159 [1,0,1]])))) .skip)) (.seq (.reg false [om_ 160 4 [],oo_ 161 (.bin .gtr (.t 160) (.d (.int .i64 0))) [0]]) (.cond (.t 161) (.reg false [om_ 162 0 [],om_ 163 12 [],oo_ 164 (.bin .add (.d (.int .u32 48)) (.t 163)) [1],oo_ 165 (.conv .u8 (.t 164)) [2],oo_ 166 (.ix 1 (.t 162) (.d (.int .i64 0))) [0,0,1,2,3],on_ (.store 1 (.t 166) (.t 165)) [4,3,0,1,2,3]]) .skip)))))))
theorem o_bs : fnOf Tryd.prog o_bq = some (o_br, [], 167, false) := by kernel_rfl

abbrev o_bt : FuncId := 84
def o_bu : C := (.seq (.reg false [oo_ 4 (.mv (.d (.int .u64 0))) [],oo_ 5 (.mv (.d (.int .u64 0))) [0]]) (.seq (.reg false [om_ 14 0 [],oo_ 15 (.bin .and (.t 14) (.d (.int .u64 4294967295))) [0],om_ 6 15 [1,0,1]]) (.seq (.reg false
 [om_ 16 0 [],oo_ 17 (.bin .shr (.t 16) (.d (.int .u64 32))) [0],om_ 7 17 [1,0,1]]) (.seq (.reg false [om_ 18 1 [],oo_ 19 (.bin .and (.t 18) (.d (.int .u64 4294967295))) [0],om_ 8 19 [1,0,1]]) (.seq (.reg false [om_ 20 1
 [],oo_ 21 (.bin .shr (.t 20) (.d (.int .u64 32))) [0],om_ 9 21 [1,0,1]]) (.seq (.reg false [om_ 22 6 [],om_ 23 8 [],oo_ 24 (.bin .mul (.t 22) (.t 23)) [0,1],om_ 10 24 [2,0,1,2]]) (.seq (.reg false [om_ 25 7 [],om_ 26 8
 [],oo_ 27 (.bin .mul (.t 25) (.t 26)) [0,1],om_ 28 10 [],oo_ 29 (.bin .shr (.t 28) (.d (.int .u64 32))) [3],oo_ 30 (.bin .add (.t 27) (.t 29)) [2,4],om_ 11 30 [5,0,1,2,3,4,5]]) (.seq (.reg false [om_ 31 11 [],oo_ 32
 (.bin .and (.t 31) (.d (.int .u64 4294967295))) [0],om_ 12 32 [1,0,1]]) (.seq (.reg false [om_ 33 11 [],oo_ 34 (.bin .shr (.t 33) (.d (.int .u64 32))) [0],om_ 13 34 [1,0,1]]) (.seq (.reg false [om_ 35 12 [],om_ 36 6
 [],om_ 37 9 [],oo_ 38 (.bin .mul (.t 36) (.t 37)) [1,2],oo_ 39 (.bin .add (.t 35) (.t 38)) [0,3],om_ 12 39 [4,0,1,2,3,4]]) (.seq (.reg false [om_ 40 7 [],om_ 41 9 [],oo_ 42 (.bin .mul (.t 40) (.t 41)) [0,1],om_ 43 13
 [],oo_ 44 (.bin .add (.t 42) (.t 43)) [2,3],om_ 45 12 [],oo_ 46 (.bin .shr (.t 45) (.d (.int .u64 32))) [5],oo_ 47 (.bin .add (.t 44) (.t 46)) [4,6],om_ 4 47 [7,0,1,2,3,4,5,6,7]]) (.seq (.reg false [om_ 48 0 [],om_ 49 1
 [],oo_ 50 (.bin .mul (.t 48) (.t 49)) [0,1],om_ 5 50 [2,0,1,2]]) .ret))))))))))))
theorem o_bv : fnOf Tryd.prog o_bt = some (o_bu, [.t 4, .t 5], 51, false) := by kernel_rfl

abbrev o_bw : FuncId := 85
def o_bx : C := (.seq (.reg false [oo_ 4 (.mv (.d (.bool false))) []]) (.seq (.reg false [om_ 5 0 [],oo_ 6 (.lens (.t 5)) [0],om_ 7 1 [],oo_ 8 (.lens (.t 7)) [2],oo_ 9 (.bin .geq (.t 6) (.t 8)) [1,3],om_ 10 9 [4],og_ 11 (.mv (.t 0)) 10
 true [5],og_ 12 (.mv (.t 1)) 10 true [5],og_ 13 (.lens (.t 12)) 10 true [7,5],og_ 14 (.sstr (.t 11) none (some (.t 13))) 10 true [6,8,5],og_ 15 (.mv (.t 1)) 10 true [5],og_ 16 (.bin .eql (.t 14) (.t 15)) 10 true
 [9,10,5],oo_ 17 (.pick (.t 10) (.t 16) (.d (.bool false))) [5,11],om_ 4 17 [12,5,0,1,2,3,4,5,6,7,8,9,10,11,12]]) .ret))
theorem o_by : fnOf Tryd.prog o_bw = some (o_bx, [.t 4], 18, false) := by kernel_rfl

abbrev o_bz : FuncId := 89
def o_c0 : C := (.seq (.reg false [oo_ 4 (.mv (.d .nilsl)) []]) (.seq (.reg false [oo_ 5 (.mv (.d .nilsl)) []]) (.seq (.reg false [oo_ 6 (.mv (.d (.int .i64 0))) []]) (.seq (.seq (.reg false [oo_ 7 (.mv (.d (.int .i64 0))) []]) (.block
 0 (.loop (.seq (.seq (.reg false [om_ 9 7 [],om_ 10 0 [],oo_ 11 (.len (.t 10)) [1],oo_ 12 (.bin .lss (.t 9) (.t 11)) [0,2]]) (.cond (.t 12) .skip (.exit 0))) (.seq (.block 1 (.seq (.reg false [om_ 15 0 [],om_ 16 7
 [],oo_ 17 (.ix 1 (.t 15) (.t 16)) [0,1],oo_ 18 (.load false 1 (.t 17)) [2],om_ 19 6 [],oo_ 20 (.bin .sub (.t 18) (.t 19)) [3,4],om_ 8 20 [5,0,1,2,3,4,5]]) (.seq (.seq (.reg false [om_ 21 7 [],om_ 22 1 [],oo_ 23 (.len
 (.t 22)) [1],oo_ 24 (.bin .lss (.t 21) (.t 23)) [0,2]]) (.cond (.t 24) (.reg false [om_ 25 8 [],om_ 26 1 [],om_ 27 7 [],oo_ 28 (.ix 1 (.t 26) (.t 27)) [1,2],oo_ 29 (.load false 1 (.t 28)) [3],oo_ 30 (.bin .sub (.t 25)
 (.t 29)) [0,4],om_ 8 30 [5,0,1,2,3,4,5]]) .skip)) (.seq (.reg false [oo_ 6 (.mv (.d (.int .i64 0))) []]) (.seq (.seq (.reg false [om_ 31 8 [],oo_ 32 (.bin .lss (.t 31) (.d (.int .i64 0))) [0]]) (.cond (.t 32) (.seq
 (.reg false [om_ 33 8 [],oo_ 34 (.bin .add (.t 33) (.d (.int .i64 10000))) [0],om_ 8 34 [1,0,1]]) (.reg false [oo_ 6 (.mv (.d (.int .i64 1))) []])) .skip)) (.reg false [om_ 35 5 [],om_ 36 8 [],oo_ 37 (.bsl 3 1 1 [(.int
 .i64 0)] [(0,1,(.t 36))]) [1],oo_ 38 (.app 3 1 8 (.t 35) (.t 37)) [0,2],om_ 5 38 [3,3,0,1,2,3]])))))) (.reg false [om_ 13 7 [],oo_ 14 (.bin .add (.t 13) (.d (.int .i64 1))) [0],om_ 7 14 [1,0,1]])))))) (.seq (.reg false
 [om_ 39 5 [],oo_ 40 (.call 73 [(.t 39)]) [0],om_ 4 40 [1,1,0,1]]) .ret)))))
theorem o_c1 : fnOf Tryd.prog o_bz = some (o_c0, [.t 4], 41, false) := by kernel_rfl

abbrev o_c2 : FuncId := 90
def o_c3 : C := (.seq (.reg false [oo_ 2 (.box 25 (.t 0)) [],oo_ 4 (.new 25 [.nilsl]) []]) (.seq (.reg false [om_ 8 1 [],oo_ 9 (.mm true [(.d (.int .i64 0)),(.t 8)]) [0],om_ 1 9 [1,0,1]]) (.seq (.seq (.reg false [om_ 10 1 [],oo_ 11
 (.bin .quo (.t 10) (.d (.int .i64 64))) [0],oo_ 12 (.fa 0 (.t 2)) [],oo_ 13 (.load false 1 (.t 12)) [2],oo_ 14 (.len (.t 13)) [3],oo_ 15 (.bin .geq (.t 11) (.t 14)) [1,4]]) (.cond (.t 15) (.seq (.reg false [oo_ 16
 (.build [.nilsl] []) [],on_ (.store 1 (.t 4) (.t 16)) [0,0]]) .ret) .skip)) (.seq (.reg false [oo_ 17 (.fa 0 (.t 2)) [],oo_ 18 (.load false 1 (.t 17)) [0],om_ 19 1 [],oo_ 20 (.bin .quo (.t 19) (.d (.int .i64 64)))
 [2],oo_ 21 (.slice 1 (.t 18) (some (.t 20)) none none) [1,3],oo_ 22 (.call 34 [(.t 21)]) [4],om_ 5 22 [5,5,0,1,2,3,4,5]]) (.seq (.seq (.reg false [om_ 23 1 [],oo_ 24 (.bin .rem (.t 23) (.d (.int .i64 64))) [0],oo_ 6
 (.mv (.d (.int .i64 0))) [],om_ 7 24 [1,2,0,1,2]]) (.block 0 (.loop (.seq (.seq (.reg false [om_ 25 6 [],om_ 26 5 [],oo_ 27 (.len (.t 26)) [1],oo_ 28 (.bin .lss (.t 25) (.t 27)) [0,2]]) (.cond (.t 28) .skip (.exit 0)))
 (.seq (.block 1 (.seq (.reg false [om_ 31 5 [],om_ 32 6 [],oo_ 33 (.ix 1 (.t 31) (.t 32)) [0,1],oo_ 34 (.load false 1 (.t 33)) [2],om_ 35 7 [],oo_ 36 (.bin .shr (.t 34) (.t 35)) [3,4],oo_ 37 (.ix 1 (.t 31) (.t 32))
 [0,1,0,1,2,3,4,5],on_ (.store 1 (.t 37) (.t 36)) [6,5,0,1,2,3,4,5]]) (.seq (.reg false [om_ 38 6 [],oo_ 39 (.bin .add (.t 38) (.d (.int .i64 1))) [0],om_ 40 5 [],oo_ 41 (.len (.t 40)) [2],oo_ 42 (.bin .lss (.t 39) (.t
 41)) [1,3]]) (.cond (.t 42) (.reg true [om_ 43 5 [],om_ 44 6 [],oo_ 45 (.ix 1 (.t 43) (.t 44)) [0,1],oo_ 46 (.load false 1 (.t 45)) [2],om_ 47 5 [],om_ 48 6 [],oo_ 49 (.bin .add (.t 48) (.d (.int .i64 1))) [5],oo_ 50
 (.ix 1 (.t 47) (.t 49)) [4,6],oo_ 51 (.load false 1 (.t 50)) [7],om_ 52 7 [],oo_ 53 (.bin .sub (.d (.int .i64 64)) (.t 52)) [9],oo_ 54 (.bin .shl (.t 51) (.t 53)) [8,10],oo_ 55 (.bin .or (.t 46) (.t 54)) [3,11],oo_ 56
 (.ix 1 (.t 43) (.t 44)) [0,1,0,1,2,3,4,5,6,7,8,9,10,11,12],on_ (.store 1 (.t 56) (.t 55)) [13,12,0,1,2,3,4,5,6,7,8,9,10,11,12]]) .skip)))) (.reg false [om_ 29 6 [],oo_ 30 (.bin .add (.t 29) (.d (.int .i64 1))) [0],om_ 6
 30 [1,0,1]])))))) (.seq (.reg false [om_ 57 5 [],oo_ 58 (.call 31 [(.t 57)]) [0],on_ (.store 1 (.t 4) (.t 58)) [1,1,0,1]]) .ret))))))
theorem o_c4 : fnOf Tryd.prog o_c2 = some (o_c3, [.cell 4 true 1], 59, false) := by kernel_rfl

abbrev o_c5 : FuncId := 91
def o_c6 : C := (.seq (.reg false [oo_ 1 (.box 25 (.t 0)) [],oo_ 2 (.mv (.d (.int .i64 0))) []]) (.seq (.reg false [oo_ 4 (.fa 0 (.t 1)) [],oo_ 5 (.load false 1 (.t 4)) [0],oo_ 6 (.len (.t 5)) [1],om_ 3 6 [2,0,1,2]]) (.seq (.seq (.reg
 false [om_ 7 3 [],oo_ 8 (.bin .eql (.t 7) (.d (.int .i64 0))) [0]]) (.cond (.t 8) (.seq (.reg false [oo_ 2 (.mv (.d (.int .i64 0))) []]) .ret) .skip)) (.seq (.reg false [om_ 9 3 [],oo_ 10 (.bin .sub (.t 9) (.d (.int
 .i64 1))) [0],oo_ 11 (.bin .mul (.d (.int .i64 64)) (.t 10)) [1],oo_ 12 (.fa 0 (.t 1)) [],oo_ 13 (.load false 1 (.t 12)) [3],om_ 14 3 [],oo_ 15 (.bin .sub (.t 14) (.d (.int .i64 1))) [5],oo_ 16 (.ix 1 (.t 13) (.t 15))
 [4,6],oo_ 17 (.load false 1 (.t 16)) [7],oo_ 18 (.call 92 [(.t 17)]) [8],oo_ 19 (.bin .add (.t 11) (.t 18)) [2,9],om_ 2 19 [10,9,0,1,2,3,4,5,6,7,8,9,10]]) .ret))))
theorem o_c7 : fnOf Tryd.prog o_c5 = some (o_c6, [.t 2], 20, false) := by kernel_rfl

abbrev o_c8 : FuncId := 92
def o_c9 : C := (.seq (.reg false [oo_ 2 (.mv (.d (.int .i64 0))) []]) (.seq (.seq (.reg false [om_ 3 0 [],oo_ 4 (.bin .geq (.t 3) (.d (.int .u64 4294967296))) [0]]) (.cond (.t 4) (.seq (.reg false [om_ 5 0 [],oo_ 6 (.bin .shr (.t 5)
 (.d (.int .u64 32))) [0],om_ 0 6 [1,0,1]]) (.reg false [oo_ 2 (.mv (.d (.int .i64 32))) []])) .skip)) (.seq (.seq (.reg false [om_ 7 0 [],oo_ 8 (.bin .geq (.t 7) (.d (.int .u64 65536))) [0]]) (.cond (.t 8) (.seq (.reg
 false [om_ 9 0 [],oo_ 10 (.bin .shr (.t 9) (.d (.int .u64 16))) [0],om_ 0 10 [1,0,1]]) (.reg false [om_ 11 2 [],oo_ 12 (.bin .add (.t 11) (.d (.int .i64 16))) [0],om_ 2 12 [1,0,1]])) .skip)) (.seq (.seq (.reg false [om_
 13 0 [],oo_ 14 (.bin .geq (.t 13) (.d (.int .u64 256))) [0]]) (.cond (.t 14) (.seq (.reg false [om_ 15 0 [],oo_ 16 (.bin .shr (.t 15) (.d (.int .u64 8))) [0],om_ 0 16 [1,0,1]]) (.reg false [om_ 17 2 [],oo_ 18 (.bin .add
 (.t 17) (.d (.int .i64 8))) [0],om_ 2 18 [1,0,1]])) .skip)) (.seq (.reg false [om_ 19 2 [],om_ 20 0 [],oo_ 21 (.conv .u8 (.t 20)) [1],⟨some 22,.gstr (.d (.str
 ⟨#[0,1,2,2,3,3,3,3,4,4,4,4,4,4,4,4,5,5,5,5,5,5,5,5,5,5,5,5,5,5,5,5,6,6,6,6,6,6,6,6,6,6,6,6,6,6,6,6,6,6,6,6,6,6,6,6,6,6,6,6,6,6,6,6,7,7,7,7,7,7,7,7,7,7,7,7,7,7,7,7,7,7,7,7,7,7,7,7,7,7,7,7,7,7,7,7,7,7,7,7,7,7,7,7,7,7,7,7,7,7,7,7,7,7,7,7,7,7,7,7,7,7,7,7,7,7,7,7,8,8,8,8,8,8,8,8,8,8,8,8,8,8,8,8,8,8,8,8,8,8,8,8,8,8,8,8,8,8,8,8,8,8,8,8,8,8,8,8,8,8,8,8,8,8,8,8,8,8,8,8,8,8,8,8,8,8,8,8,8,8,8,8,8,8,8,8,8,8,8,8,8,8,8,8,8,8,8,8,8,8,8,8,8,8,8,8,8,8,8,8,8,8,8,8,8,8,8,8,8,8,8,8,8,8,8,8,8,8,8,8,8,8,8,8,8,8,8,8,8,8,8,8,8,8,8,8]⟩)) (.t 21),none,[2]⟩,oo_ 23 (.conv .i64 (.t 22)) [3],oo_ 24 (.bin .add (.t 19) (.t 23)) [0,4],om_ 2 24 [5,0,1,2,3,4,5]]) .ret)))))
theorem o_ca : fnOf Tryd.prog o_c8 = some (o_c9, [.t 2], 25, false) := by kernel_rfl

abbrev o_cb : FuncId := 93
def o_cc : C := (.seq (.reg false [oo_ 2 (.mv (.d (.int .i64 0))) []]) (.seq (.reg false [om_ 3 0 [],oo_ 4 (.bin .mul (.t 3) (.d (.int .i64 78913))) [0],oo_ 5 (.bin .shr (.t 4) (.d (.int .u64 18))) [1],om_ 2 5 [2,0,1,2]]) .ret))
theorem o_cd : fnOf Tryd.prog o_cb = some (o_cc, [.t 2], 6, false) := by kernel_rfl

abbrev o_ce : FuncId := 94
def o_cf : C := (.seq (.reg false [oo_ 2 (.mv (.d (.int .i64 0))) []]) (.seq (.seq (.reg false [om_ 3 0 []]) (.cond (.t 3) (.seq (.reg false [oo_ 2 (.mv (.d (.int .i64 1))) []]) .ret) .skip)) (.seq (.reg false [oo_ 2 (.mv (.d (.int
 .i64 0))) []]) .ret)))
theorem o_cg : fnOf Tryd.prog o_ce = some (o_cf, [.t 2], 4, false) := by kernel_rfl

abbrev o_ch : FuncId := 36
theorem o_ci : Tryd.prog.funcs[o_ch]? = some Tryd.f36 := Tryd.func36
abbrev o_cj : FuncId := 66
theorem o_ck : Tryd.prog.funcs[o_cj]? = some Tryd.f66 := Tryd.func66
end
end Go.Proofs.YtlelpbaeplcfiaaDoor.Am
namespace Go.Proofs.YtlelpbaeplcfiaaDoor.Am
section
open Go.RowKit
def W (ws : List Nat) : D := .sl ws.length (ws.map fun x : Nat => .int .u64 x)

def wordsF : Nat → Nat → List Nat
 | 0, _ => []
 | f + 1, n => if n = 0 then [] else (n % 18446744073709551616) :: wordsF f (n / 18446744073709551616)
def words (n : Nat) : List Nat := wordsF n n

theorem o_cl : ∀ (f n : Nat), n ≤ f → wval (wordsF f n) = n ∧ small (wordsF f n) ∧ top1 (wordsF f n)
 | 0, n, h => by
  obtain rfl : n = 0 := by omega
  exact ⟨rfl, by simp [small, wordsF], by intro k hk; simp [wordsF] at hk⟩
 | f + 1, n, h => by
  by_cases h0 : n = 0
  ·subst h0
   simp only [wordsF, if_true]
   exact ⟨rfl, by simp [small], by intro k hk; simp at hk⟩
  ·obtain ⟨h1, h2, h3⟩ := o_cl f (n / 18446744073709551616) (by omega)
   simp only [wordsF, if_neg h0]
   refine ⟨by simp only [wval, h1]; omega, fun x hx => ?_, fun k hk => ?_⟩
   ·rcases List.mem_cons.1 hx with rfl | hx
    ·omega
    ·exact h2 x hx
   ·cases hl : wordsF f (n / 18446744073709551616) with
    | nil =>
     rw [hl] at h1 hk
     simp [wval] at h1 hk
     subst hk
     simp; omega
    | cons y r =>
     rw [hl] at hk h3
     simp at hk
     subst hk
     have := h3 r.length rfl
     simpa using this
theorem o_cm (n : Nat) : wval (words n) = n := (o_cl n n (Nat.le_refl _)).1
theorem o_cn (n : Nat) : small (words n) := (o_cl n n (Nat.le_refl _)).2.1
theorem o_co (n : Nat) : top1 (words n) := (o_cl n n (Nat.le_refl _)).2.2
theorem o_cp {ws : List Nat} (h : small ws) (ht : top1 ws) : words (wval ws) = ws := o_7 (o_cn _) h (o_co _) ht (o_cm _)
theorem o_cq {n : Nat} : words n = [] ↔ n = 0 := by
 constructor
 ·intro h; have := o_cm n; rw [h] at this; exact this.symm
 ·rintro rfl; rfl

def natW (n : Nat) : D := W (words n)
theorem o_cr {ws : List Nat} (h : small ws) (ht : top1 ws) : natW (wval ws) = W ws := by rw [natW, o_cp h ht]
theorem o_cs : natW 0 = .sl 0 [] := rfl
def size (n : Nat) : Nat := (words n).length

theorem o_ct (n : Nat) (l : List D) (hl : l.length = n) (hn : n ≤ 4000000000) : Eqn Tryd.prog o_8l [.d (.sl n l)] [] (.d (.sl n l)) [] := by
 refine Eqn.pure o_8n (o_5k _) ?_
 simp only [o_8m]
 rcases Nat.eq_zero_or_pos n with rfl | h0
 ·have : l = [] := List.eq_nil_of_length_eq_zero hl
  subst this
  refine AW.empty 0 rfl ?_ ?_
  ·simp
   refine G0 ?_; try with_reducible exact tt
   refine AW.cond rfl (fun h => ?_) (fun h => ?_)
   ·refine G0 ?_; try with_reducible exact tt
    exact Sub1.nil
   ·simp at h
  ·simp
   refine G0 ?_; try with_reducible exact tt
   refine AW.cond rfl (fun h => ?_) (fun h => ?_)
   ·simp at h
   ·refine G0 ?_; try with_reducible exact tt
    exact Sub1.sl0
 ·refine G1 h0 ?_; try with_reducible exact tt
  refine AW.cond rfl (fun h => ?_) (fun h => ?_)
  ·simp at h
  ·refine G0 ?_; try with_reducible exact tt
   have h1 : ¬ n = 0 := by omega
   simp [h1, hl]
   refine need.of (by omega) ?_
   refine AW.freeze 0 1 ⟨34, l.map .d⟩ l (by simp) rfl ?_
   simp
   refine G0 ?_; try with_reducible exact tt
   have : l.take n = l := List.take_of_length_le (by omega)
   simp [this]

theorem o_cu {ws : List Nat} {k : Nat} (h : k < ws.length) : ws[k] = ws.getD k 0 := by simp [List.getD, h]

theorem o_cv (ws : List Nat) (hs : small ws) (hn : ws.length ≤ 4000000000) : Eqn Tryd.prog o_8c [.d (W ws)] [] (.d (.agg [natW (wval ws)])) [] := by
 refine Eqn.pure o_8e (o_5k _) ?_
 simp only [o_8d, W]
 refine G0 ?_; try with_reducible exact tt
 refine AW.loopT (α := Nat) 1 (fun m => [(3, .d (.int .i64 (m : Int)))]) (fun _ => []) (fun m => m ≤ ws.length ∧ trimN ws m = trimN ws ws.length) (fun m => m) ws.length ?_ ?_ ⟨Nat.le_refl _, rfl⟩ ?_ ?_ ?_
 ·simp
 ·simp
 ·simp
 ·simp
 rintro m ⟨hm, ht⟩
 simp
 have fin : ∀ k, k = trimN ws ws.length → W (ws.take k) = natW (wval ws) := by
  rintro k rfl
  have := o_cr (hs.take (trimN ws ws.length)) (o_5 ws _ (Nat.le_refl _))
  rw [← this, o_4 _ _ (Nat.le_refl _), List.take_length]
 cases m with
 | zero =>
  refine G0 ?_; try with_reducible exact tt
  refine AW.cond rfl (fun h => ?_) (fun h => ?_)
  ·simp at h
  refine G0 ?_; try with_reducible exact tt
  refine Sub1.of ?_
  rw [← fin 0 ht]
  simp [W]
 | succ m =>
  have hm' : m < ws.length := hm
  have hp : (0 : Int) < (m : Int) + 1 := by omega
  have e : (m : Int) + 1 - 1 = m := by omega
  have ew : IntKind.i64.wrap (m : Int) = m := w64 (by omega) (by omega)
  refine G1 (fs hp (fs e (fs ew hm'))) ?_; try with_reducible exact tt
  refine AW.cond rfl (fun h => ?_) (fun h => ?_)
  ·simp at h
   refine G1 (fs hp (fs e ew)) ?_; try with_reducible exact tt
   refine ⟨m, ⟨by omega, ?_⟩, ?_⟩
   ·rw [← ht, trimN, if_pos]
    rw [← o_cu hm']; omega
   ·simp
  ·simp at h
   refine G0 ?_; try with_reducible exact tt
   have hk : m + 1 = trimN ws ws.length := by
    rw [← ht, trimN, if_neg]
    rw [← o_cu hm']; omega
   refine G0 ?_; try with_reducible exact tt
   refine Sub1.of ?_
   rw [← fin _ hk]
   simp [W]
   omega

theorem o_cw (ws : List Nat) (hs : small ws) (hn : ws.length ≤ 4000000000) : Eqn Tryd.prog o_79 [.d (W ws)] [] (.d (.agg [natW (wval ws)])) [] := by
 refine Eqn.pure o_7b (o_5k _) ?_
 simp only [o_7a, W]
 refine G0 ?_; try with_reducible exact tt
 refine CallS.pu (o_ct _ (ws.map fun x : Nat => .int .u64 x) (by simp) hn) (R0 ?_); try with_reducible exact tt
 refine CallS.pu (o_cv ws hs hn) (R0 ?_); try with_reducible exact tt

theorem o_cx (n : Nat) : Eqn Tryd.prog o_7l [.d (.agg [natW n])] [] (.d (.bool (n == 0))) [] := by
 refine Eqn.pure o_7n (o_5k _) ?_
 simp only [o_7m, natW, W]
 refine G0 ?_; try with_reducible exact tt
 refine Sub1.bool ?_
 rw [Bool.eq_iff_iff]
 simp [o_cq]

theorem o_cy {m n : Nat} (h : size m < size n) : m < n := by
 have := o_t (o_cn m) (o_co n) h
 rwa [o_cm, o_cm] at this

theorem o_cz (m n : Nat) (hm : size m ≤ 1000000) (hn : size n ≤ 1000000) : Eqn Tryd.prog o_73 [.d (.agg [natW m]), .d (.agg [natW n])] [] (.d (.int .i64 (cmpZ m n))) [] := by
 refine Eqn.pure o_75 (o_5k _) ?_
 unfold size at hm hn
 have sa := o_cn m
 have sb := o_cn n
 simp only [o_74, natW, W]
 have hz : cmpZ m n = if (words m).length < (words n).length then -1 else if (words n).length < (words m).length then 1 else cmpN (words m) (words n) (words m).length := by
  split
  ·rename_i h; rw [cmpZ, if_pos (o_cy h)]
  ·split
   ·rename_i h; have := o_cy h; rw [cmpZ, if_neg (by omega), if_pos this]
   ·have := o_v sa sb (words m).length
    rw [List.take_length, show (words m).length = (words n).length by omega, List.take_length, o_cm, o_cm] at this
    rw [show (words m).length = (words n).length by omega, this]
    rfl
 rw [hz]
 clear hz
 generalize words m = xs at *
 generalize words n = ys at *
 by_cases hl : xs.length = ys.length
 ·refine G1 hl ?_; try with_reducible exact tt
  refine AW.cond rfl (fun h => ?_) (fun h => ?_)
  ·simp [w64] at h
  refine G1 hl ?_; try with_reducible exact tt
  refine AW.loopT (α := Nat) 2 (fun m => [(6, .d (.int .i64 ((m : Int) - 1)))]) (fun _ => []) (fun m => m ≤ ys.length ∧ cmpN xs ys m = cmpN xs ys ys.length) (fun m => m) ys.length ?_ ?_ ⟨Nat.le_refl _, rfl⟩ ?_ ?_ ?_
  ·simp
  ·simp
  ·simp [hl]
  ·simp
  rintro m ⟨hm', hc⟩
  simp
  cases m with
  | zero =>
   refine G0 ?_; try with_reducible exact tt
   refine AW.cond rfl (fun h => ?_) (fun h => ?_)
   ·simp at h
   refine G0 ?_; try with_reducible exact tt
   refine Sub1.int ?_
   rw [← hc]; rfl
  | succ m =>
   have h1 : m < xs.length := by omega
   have h2 : m < ys.length := hm'
   have e : (m : Int) + 1 - 1 = m := by omega
   have ew : IntKind.i64.wrap ((m : Int) - 1) = (m : Int) - 1 := w64 (by omega) (by omega)
   rw [cmpN, ← o_cu h1, ← o_cu h2] at hc
   refine G1 (fs e (fs h1 h2)) ?_; try with_reducible exact tt
   refine AW.cond rfl (fun h => ?_) (fun h => ?_)
   ·refine G1 (fs e (fs h1 h2)) ?_; try with_reducible exact tt
    refine AW.cond rfl (fun h => ?_) (fun h => ?_)
    ·simp at h
     refine G0 ?_; try with_reducible exact tt
     refine Sub1.int ?_
     rw [if_pos h] at hc
     exact hc
    ·simp at h
     rw [if_neg (by omega)] at hc
     refine G0 ?_; try with_reducible exact tt
     refine AW.cond rfl (fun h => ?_) (fun h => ?_)
     ·simp at h
      refine G0 ?_; try with_reducible exact tt
      refine Sub1.int ?_
      rw [if_pos h] at hc
      exact hc
     ·simp at h
      rw [if_neg (by omega)] at hc
      refine G1 ew ?_; try with_reducible exact tt
      exact ⟨m, ⟨by omega, hc⟩, by simp⟩
   ·simp at h
 ·refine G0 ?_; try with_reducible exact tt
  refine AW.cond rfl (fun h => ?_) (fun h => ?_)
  ·refine G0 ?_; try with_reducible exact tt
   refine Sub1.int ?_
   split <;> omega
  ·simp at h
   omega
end
end Go.Proofs.YtlelpbaeplcfiaaDoor.Am
namespace Go.Proofs.YtlelpbaeplcfiaaDoor.Am
section
open Go.RowKit
abbrev U (ws : List Nat) : List V := ws.map fun x : Nat => V.d (.int .u64 x)

theorem o_d0 (x y c s d : Nat) (hx : x < 18446744073709551616) (hy : y < 18446744073709551616) (hc : c ≤ 1) (hs : s < 18446744073709551616) (e : x + y + c = s + 18446744073709551616 * d) : Eqn Tryd.prog o_ch [.d (.int .u64 x), .d (.int .u64 y), .d (.int .u64 c)] [] (.tup [.d (.int .u64 s), .d (.int .u64 d)]) [] := by
 refine Eqn.extern o_ci (by kernel_rfl) (by kernel_rfl) (by kernel_rfl) (e := add64Entry) (by kernel_rfl) rfl fun m vs h => ?_
 obtain ⟨v1, r1, rfl, h1, h⟩ := V.reps_cons'.1 h
 obtain ⟨v2, r2, rfl, h2, h⟩ := V.reps_cons'.1 h
 obtain ⟨v3, r3, rfl, h3, h⟩ := V.reps_cons'.1 h
 simp at h; subst h
 rw [V.rep_int] at h1 h2 h3
 subst h1 h2 h3
 have := run_add64 (P := Tryd.prog) x y c (by omega) (by omega) (by omega) (by omega) m.w
 refine ⟨_, this, ?_⟩
 unfold V.rep
 refine ⟨[.int .u64 (((x : Int) + y + c) % 18446744073709551616), .int .u64 (((x : Int) + y + c) / 18446744073709551616)], rfl, ?_⟩
 simp only [V.reps_cons, V.rep_int, V.reps_nil, and_true]
 constructor <;> congr 1 <;> omega

theorem o_d1 (x y c s d : Nat) (hx : x < 18446744073709551616) (hy : y < 18446744073709551616) (hc : c ≤ 1) (hs : s < 18446744073709551616) (e : x + 18446744073709551616 * d = s + y + c) : Eqn Tryd.prog o_cj [.d (.int .u64 x), .d (.int .u64 y), .d (.int .u64 c)] [] (.tup [.d (.int .u64 s), .d (.int .u64 d)]) [] := by
 refine Eqn.extern o_ck (by kernel_rfl) (by kernel_rfl) (by kernel_rfl) (e := sub64Entry) (by kernel_rfl) rfl fun m vs h => ?_
 obtain ⟨v1, r1, rfl, h1, h⟩ := V.reps_cons'.1 h
 obtain ⟨v2, r2, rfl, h2, h⟩ := V.reps_cons'.1 h
 obtain ⟨v3, r3, rfl, h3, h⟩ := V.reps_cons'.1 h
 simp at h; subst h
 rw [V.rep_int] at h1 h2 h3
 subst h1 h2 h3
 have := run_sub64 (P := Tryd.prog) x y c hc m.w
 refine ⟨_, this, ?_⟩
 unfold V.rep
 refine ⟨[.int .u64 s, .int .u64 d], ?_, by simp only [V.reps_cons, V.rep_int, V.reps_nil, and_true]⟩
 congr 4
 ·omega
 ·congr 2
  split <;> omega

theorem o_d2 (a b : List Nat) (i : Nat) : a.getD i 0 + b.getD i 0 + carryW a b i = addW a b i + 18446744073709551616 * carryW a b (i + 1) := by
 rw [addW, carryW]; exact (Nat.mod_add_div _ _).symm
theorem o_d3 {ws : List Nat} {k : Nat} (h : ¬ k < ws.length) : ws.getD k 0 = 0 := by simp [List.getD, show ws.length ≤ k by omega]
theorem o_d4 (l : List D) : (V.tup (l.map .d)).plain := by
 have h1 : V.lowl 0 (l.map V.d) = true := by induction l <;> simp_all [V.lowl, V.low]
 have h2 : ∀ θ, V.rens θ (l.map V.d) = l.map V.d := fun θ => by induction l <;> simp_all [V.rens, V.ren]
 exact ⟨by simp [V.low, h1], fun θ => by simp [V.ren, h2]⟩

def rowV (f : Nat → D) (n i : Nat) : List V := (List.range i).map (fun k => V.d (f k)) ++ List.replicate (n - i) (.d (.int .u64 0))
@[simp] theorem o_d5 (f : Nat → D) (n i : Nat) : (rowV f n i).length = i + (n - i) := by simp [rowV]
theorem out0 (n : Nat) (f : Nat → D) : List.replicate n (V.d (.int .u64 0)) = rowV f n 0 := by simp [rowV]
theorem o_d6 {f : Nat → D} {n i : Nat} (h : i < n) : (rowV f n i).set i (.d (f i)) = rowV f n (i + 1) := by
 obtain ⟨k, rfl⟩ : ∃ k, n = i + k + 1 := ⟨n - i - 1, by omega⟩
 rw [rowV, rowV, List.set_append_right _ _ (by simp), List.range_succ, List.map_append, List.append_assoc]
 congr 1
 simp only [List.length_map, List.length_range, Nat.sub_self]
 rw [show i + k + 1 - i = k + 1 by omega, show i + k + 1 - (i + 1) = k by omega]
 simp [List.replicate_succ]
@[simp] theorem o_d7 (n : Nat) (f : Nat → D) (k i : Nat) : V.lowl n (rowV f k i) = true := by
 have h1 : ∀ l : List D, V.lowl n (l.map V.d) = true := fun l => by induction l <;> simp_all [V.lowl, V.low]
 have : rowV f k i = ((List.range i).map f ++ List.replicate (k - i) (D.int .u64 0)).map .d := by simp [rowV]
 rw [this, h1]
@[simp] theorem o_d8 (l : List V) : Subs l l ↔ True := iff_true_intro (Subs.refl l)
theorem o_d9 {f : Nat → D} {n : Nat} {z : D} : (rowV f (n + 1) n).set n (.d z) = ((List.range n).map f ++ [z]).map .d := by
 rw [rowV, List.set_append_right _ _ (by simp)]
 simp
theorem o_da {f : Nat → D} {n : Nat} : rowV f n n = ((List.range n).map f).map .d := by simp [rowV]

theorem o_db (a b : D) : (V.tup [.d a, .d b]).plain := o_d4 [a, b]
theorem o_dc (a b c : D) : (V.tup [.d a, .d b, .d c]).plain := o_d4 [a, b, c]

theorem o_dd (m n : Nat) (hm : size m ≤ 1000000) (hn : size n ≤ 1000000) : Eqn Tryd.prog o_7f [.d (.agg [natW m]), .d (.agg [natW n])] [] (.d (.agg [natW (m + n)])) [] := by
 refine Eqn.pure o_7h (o_5k _) ?_
 -- the longer one, the other one
 obtain ⟨A, B, hAB, hsA, hsB, hle, hsum, hca, hcb⟩ : ∃ A B : List Nat, (A, B) = (if (words m).length < (words n).length then (words n, words m) else (words m, words n)) ∧ small A ∧ small B ∧ B.length ≤ A.length ∧ wval A + wval B = m + n ∧ A.length ≤ 1000000 ∧ B.length ≤ 1000000 := by
  unfold size at hm hn
  by_cases h : (words m).length < (words n).length
  ·exact ⟨words n, words m, by rw [if_pos h], o_cn _, o_cn _, by omega, by rw [o_cm, o_cm]; omega, by omega, by omega⟩
  ·exact ⟨words m, words n, by rw [if_neg h], o_cn _, o_cn _, by omega, by rw [o_cm, o_cm], by omega, by omega⟩
 simp only [o_7g, natW, W]
 generalize words m = xs at *
 generalize words n = ys at *
 unfold size at hm hn
 refine AW.seq (AW.reg mix ?_)
 (simp -implicitDefEqProofs; try simp (disch := omega) only [w64, wu64])
 refine AW.cut 3 [] [(0, ⟨t_nat_Nat, [.d (W A)]⟩), (1, ⟨t_nat_Nat, [.d (W B)]⟩)] ?_ ?_ ?_ ?_
 ·simp
 ·simp
 ·refine G0 ?_; try with_reducible exact tt
  refine AW.cond rfl (fun h => ?_) (fun h => ?_)
  ·simp at h
   rw [if_pos h] at hAB
   cases hAB
   refine G0 ?_; try with_reducible exact tt
   simp [W]
  ·simp at h
   rw [if_neg (by omega)] at hAB
   cases hAB
   refine G0 ?_; try with_reducible exact tt
   simp [W]
 clear hAB hm hn
 simp [W]
 refine G0 ?_; try with_reducible exact tt

 rw [out0 _ (fun k => .int .u64 (addW A B k : Nat))]
 refine G0 ?_; try with_reducible exact tt
 refine AW.loopT (α := Nat) 4 (fun i => [(27, .d (.int .i64 (i : Int))), (6, .d (.int .u64 (carryW A B i : Nat)))]) (fun i => [(3, ⟨34, rowV (fun k => .int .u64 (addW A B k : Nat)) (A.length + 1) i⟩)]) (fun i => i ≤ A.length) (fun i => A.length - i) 0 ?_ ?_ (Nat.zero_le _) ?_ ?_ ?_
 ·simp
 ·simp
 ·simp [carryW]
 ·simp
 rintro i hi
 simp
 by_cases h : i = A.length
 ·subst h
  refine G0 ?_; try with_reducible exact tt
  refine AW.cond rfl (fun h => ?_) (fun h => ?_)
  ·simp at h
  refine AW.exit ?_
  (try (simp -implicitDefEqProofs; try simp (disch := omega) only [w64, wu64]))
  repeat (first | refine AW.seq ?_ | refine AW.block ?_)
  refine AW.reg mix ?_
  (simp -implicitDefEqProofs; try simp (disch := omega) only [w64, wu64])
  try refine need.of (by first | omega | kernel_rfl) ?_
  obtain ⟨ws, hl, hr, hv, hs⟩ : ∃ ws : List Nat, ws.length = A.length + 1 ∧ (rowV (fun k => .int .u64 (addW A B k : Nat)) (A.length + 1) A.length).set A.length (.d (.int .u64 (carryW A B A.length : Nat))) = U ws ∧ wval ws = m + n ∧ small ws := by
   refine ⟨(List.range A.length).map (addW A B) ++ [carryW A B A.length], by simp, by rw [o_d9]; simp [U], ?_, ?_⟩
   ·rw [o_0, ← hsum]
    have := o_n A B A.length
    rw [List.take_length, List.take_of_length_le hle] at this
    simp [wval]
    rw [← this]
   ·intro x hx
    rcases List.mem_append.1 hx with hx | hx
    ·obtain ⟨k, -, rfl⟩ := List.mem_map.1 hx; exact o_r _ _ _
    ·simp at hx; subst hx; have := o_m hsA hsB A.length; omega
  rw [hr]
  refine AW.freeze 3 1 ⟨34, _⟩ (ws.map fun x : Nat => .int .u64 x) (by rfl) (by simp) ?_
  simp [← hl, List.take_of_length_le]
  refine G0 ?_; try with_reducible exact tt
  refine CallS.pu (o_cv ws hs (by omega)) (R0 ?_); try with_reducible exact tt
  refine Sub1.of ?_
  rw [hv]; rfl
 ·have hi' : i < A.length := by omega
  have hp : (i : Int) < A.length := by omega
  have hc := o_m hsA hsB i
  have hset := o_d6 (f := fun k => .int .u64 (addW A B k : Nat)) (n := A.length + 1) (i := i) (by omega)
  have ew : IntKind.i64.wrap ((i : Int) + 1) = (i : Int) + 1 := w64 (by omega) (by omega)
  refine G1 (fs hi' hp) ?_; try with_reducible exact tt
  refine AW.cond rfl (fun h => ?_) (fun h => ?_)
  ·clear h
   by_cases hb : i < B.length
   ·have e : A[i] + B[i] + carryW A B i = addW A B i + 18446744073709551616 * carryW A B (i + 1) := by
     rw [← o_d2, o_cu hi', o_cu hb]
    refine G1 (fs hi' (fs hp hb)) ?_; try with_reducible exact tt
    refine AW.cond rfl (fun h => ?_) (fun h => ?_)
    ·clear h
     refine G1 (fs hi' (fs hp hb)) ?_; try with_reducible exact tt
     refine CallS.pu (o_d0 _ _ _ (addW A B i) (carryW A B (i + 1)) (hsA _ (List.getElem_mem _)) (hsB _ (List.getElem_mem _)) hc (o_r _ _ _) e) (R1 (fs hset ew) ?_); try with_reducible exact tt
     exact ⟨i + 1, by omega, by omega, by simp [wk, ew], by simp [wkH]⟩
    ·simp [hb] at h
   ·have e : A[i] + 0 + carryW A B i = addW A B i + 18446744073709551616 * carryW A B (i + 1) := by
     rw [← o_d2, o_cu hi', o_d3 hb]
    refine G1 (fs hi' (fs hp hb)) ?_; try with_reducible exact tt
    refine AW.cond rfl (fun h => ?_) (fun h => ?_)
    ·simp [hb] at h
    ·clear h
     refine G1 (fs hi' (fs hp hb)) ?_; try with_reducible exact tt
     refine CallS.pu (o_d0 _ 0 _ (addW A B i) (carryW A B (i + 1)) (hsA _ (List.getElem_mem _)) (by omega) hc (o_r _ _ _) e) (R1 (fs hset ew) ?_); try with_reducible exact tt
     exact ⟨i + 1, by omega, by omega, by simp [wk, ew], by simp [wkH]⟩
  ·simp at h
end
end Go.Proofs.YtlelpbaeplcfiaaDoor.Am
namespace Go.Proofs.YtlelpbaeplcfiaaDoor.Am
section
open Go.RowKit
theorem o_de {a b : List Nat} (ha : small a) (hb : small b) (i : Nat) : a.getD i 0 + 18446744073709551616 * borrowW a b (i + 1) = subW a b i + b.getD i 0 + borrowW a b i := by
 have h1 := ha.getD i
 have h2 := hb.getD i
 have h3 := o_o a b i
 simp only [subW, borrowW]
 split <;> omega
theorem o_df {a b : List Nat} (ha : small a) (hb : small b) (hl : b.length ≤ a.length) (h : wval b ≤ wval a) : wval ((List.range a.length).map (subW a b)) = wval a - wval b := by
 have h1 := o_p ha hb a.length
 rw [List.take_length, List.take_of_length_le hl] at h1
 have h2 := o_o a b a.length
 have h3 := o_2 (o_q (o_s a b) a.length)
 rw [List.length_map, List.length_range] at h3
 have : borrowW a b a.length = 0 ∨ borrowW a b a.length = 1 := by omega
 rcases this with e | e
 ·rw [e] at h1; omega
 ·rw [e] at h1; omega
theorem o_dg {m n : Nat} (h : m ≤ n) : size m ≤ size n := by
 apply Nat.le_of_not_lt
 intro hlt
 have := o_cy hlt
 omega

theorem o_dh (m n : Nat) (hm : size m ≤ 1000000) (hle : n ≤ m) : Eqn Tryd.prog o_8r [.d (.agg [natW m]), .d (.agg [natW n])] [] (.tup [.d (.agg [natW (m - n)]), .d (.int .i64 0)]) [] := by
 refine Eqn.pure o_8t (o_db _ _) ?_
 have hs := o_dg hle
 simp only [o_8s]
 refine G0 ?_; try with_reducible exact tt
 refine CallS.pu (o_cz m n hm (by omega)) (R0 ?_); try with_reducible exact tt
 have hc : ¬ cmpZ m n < 0 := by unfold cmpZ; split <;> (try split) <;> omega
 refine AW.cond rfl (fun h => ?_) (fun h => ?_)
 ·simp [hc] at h
 clear h
 refine G0 ?_; try with_reducible exact tt
 unfold size at hm hs
 obtain ⟨A, hA⟩ : ∃ A, A = words m := ⟨_, rfl⟩
 obtain ⟨B, hB⟩ : ∃ B, B = words n := ⟨_, rfl⟩
 have hsA : small A := hA ▸ o_cn m
 have hsB : small B := hB ▸ o_cn n
 have hvA : wval A = m := by rw [hA, o_cm]
 have hvB : wval B = n := by rw [hB, o_cm]
 rw [show natW m = .sl A.length (A.map fun x : Nat => .int .u64 x) by rw [hA]; rfl, show natW n = .sl B.length (B.map fun x : Nat => .int .u64 x) by rw [hB]; rfl]
 rw [← hA, ← hB] at hs
 rw [← hA] at hm
 clear hA hB
 refine G0 ?_; try with_reducible exact tt
 rw [out0 _ (fun k => .int .u64 (subW A B k : Nat))]
 refine AW.loopT (α := Nat) 4 (fun i => [(23, .d (.int .i64 (i : Int))), (7, .d (.int .u64 (borrowW A B i : Nat)))]) (fun i => [(3, ⟨34, rowV (fun k => .int .u64 (subW A B k : Nat)) A.length i⟩)]) (fun i => i ≤ A.length) (fun i => A.length - i) 0 ?_ ?_ (Nat.zero_le _) ?_ ?_ ?_
 ·simp
 ·simp
 ·simp [borrowW]
 ·simp
 rintro i hi
 simp
 by_cases h : i = A.length
 ·subst h
  refine G0 ?_; try with_reducible exact tt
  refine AW.cond rfl (fun h => ?_) (fun h => ?_)
  ·simp at h
  refine AW.exit ?_
  (try (simp -implicitDefEqProofs; try simp (disch := omega) only [w64, wu64]))
  obtain ⟨ws, hl, hr, hv, hs'⟩ : ∃ ws : List Nat, ws.length = A.length ∧ rowV (fun k => .int .u64 (subW A B k : Nat)) A.length A.length = U ws ∧ wval ws = m - n ∧ small ws := by
   refine ⟨(List.range A.length).map (subW A B), by simp, by rw [o_da]; simp [U], ?_, o_q (o_s A B) _⟩
   rw [← hvA, ← hvB]
   exact o_df hsA hsB hs (by omega)
  rw [hr]
  refine AW.freeze 3 1 ⟨34, _⟩ (ws.map fun x : Nat => .int .u64 x) (by rfl) (by simp) ?_
  simp [← hl, List.take_of_length_le]
  refine G0 ?_; try with_reducible exact tt
  refine CallS.pu (o_cv ws hs' (by omega)) (R0 ?_); try with_reducible exact tt
  refine Sub1.of ?_
  rw [hv]
 ·have hi' : i < A.length := by omega
  have hp : (i : Int) < A.length := by omega
  have hc := o_o A B i
  have hset := o_d6 (f := fun k => .int .u64 (subW A B k : Nat)) (n := A.length) (i := i) (by omega)
  have ew : IntKind.i64.wrap ((i : Int) + 1) = (i : Int) + 1 := w64 (by omega) (by omega)
  have e := o_de hsA hsB i
  refine G1 (fs hi' hp) ?_; try with_reducible exact tt
  refine AW.cond rfl (fun h => ?_) (fun h => ?_)
  ·clear h
   by_cases hb : i < B.length
   ·rw [← o_cu hi', ← o_cu hb] at e
    refine G1 (fs hi' (fs hp hb)) ?_; try with_reducible exact tt
    refine AW.cond rfl (fun h => ?_) (fun h => ?_)
    ·clear h
     refine G1 (fs hi' (fs hp hb)) ?_; try with_reducible exact tt
     refine CallS.pu (o_d1 _ _ _ (subW A B i) (borrowW A B (i + 1)) (hsA _ (List.getElem_mem _)) (hsB _ (List.getElem_mem _)) hc (o_s _ _ _) e) (R1 (fs hset ew) ?_); try with_reducible exact tt
     exact ⟨i + 1, by omega, by omega, by simp [wk, ew], by simp [wkH]⟩
    ·simp [hb] at h
   ·rw [← o_cu hi', o_d3 hb] at e
    refine G1 (fs hi' (fs hp hb)) ?_; try with_reducible exact tt
    refine AW.cond rfl (fun h => ?_) (fun h => ?_)
    ·simp [hb] at h
    ·clear h
     refine G1 (fs hi' (fs hp hb)) ?_; try with_reducible exact tt
     refine CallS.pu (o_d1 _ 0 _ (subW A B i) (borrowW A B (i + 1)) (hsA _ (List.getElem_mem _)) (by omega) hc (o_s _ _ _) e) (R1 (fs hset ew) ?_); try with_reducible exact tt
     exact ⟨i + 1, by omega, by omega, by simp [wk, ew], by simp [wkH]⟩
  ·simp at h
end
end Go.Proofs.YtlelpbaeplcfiaaDoor.Am
namespace Go.Proofs.YtlelpbaeplcfiaaDoor.Am
section
open Go.RowKit
def rowM (k : Nat) (A : List Nat) (i : Nat) : List Nat := movedL k 0 (A.take i) ++ List.replicate (A.length - i) 0
theorem o_di (k : Nat) (A : List Nat) (i : Nat) (h : i ≤ A.length) : (rowM k A i).length = A.length + 1 := by
 rw [rowM, List.length_append, o_8, List.length_take, List.length_replicate]; omega
theorem o_dj (k : Nat) (A : List Nat) : rowM k A 0 = List.replicate (A.length + 1) 0 := by simp [rowM, movedL, List.replicate_succ]
theorem o_dk (k : Nat) (A : List Nat) : rowM k A A.length = movedL k 0 A := by simp [rowM]
theorem o_dl (k : Nat) (A : List Nat) (i : Nat) (h : i < A.length) : (rowM k A i).getD i 0 = movedC k 0 (A.take i) := by
 have e : i = (movedB k 0 (A.take i)).length := by rw [o_c, List.length_take]; omega
 rw [rowM, o_b, List.append_assoc, List.getD, List.getElem?_append_right (by omega), show i - (movedB k 0 (A.take i)).length = 0 by omega]
 rfl
theorem o_dm (k : Nat) (A : List Nat) (i : Nat) (h : i < A.length) : ((rowM k A i).set i (A.getD i 0 * 2 ^ k % 18446744073709551616 + movedC k 0 (A.take i))).set (i + 1) (A.getD i 0 * 2 ^ k / 18446744073709551616) = rowM k A (i + 1) := by
 have e : (movedB k 0 (A.take i)).length = i := by rw [o_c, List.length_take]; omega
 obtain ⟨r, hr⟩ : ∃ r, A.length = i + r + 1 := ⟨A.length - i - 1, by omega⟩
 rw [rowM, rowM, o_b, o_b, o_3 _ _ h, o_d, o_e, hr, show i + r + 1 - i = r + 1 by omega, show i + r + 1 - (i + 1) = r by omega, List.replicate_succ]
 simp only [List.append_assoc, List.cons_append, List.nil_append]
 rw [List.set_append_right _ _ (by omega), List.set_append_right _ _ (by omega), e]
 simp

def cellM (k : Nat) (A : List Nat) (i : Nat) : List V := U (rowM k A i)
@[simp] theorem o_dn (n : Nat) (l : List Nat) : V.lowl n (U l) = true := by induction l <;> simp_all [U, V.lowl, V.low]

set_option maxHeartbeats 1000000 in
theorem o_do (A : List Nat) (k : Nat) (hk : k < 64) (hs : small A) (hn : A.length ≤ 1000000) : Eqn Tryd.prog o_8o [.d (W A), .d (.int .i64 k)] [] (.d (W (movedL k 0 A))) [] := by
 refine Eqn.pure o_8q (o_5k _) ?_
 simp only [o_8p, W]
 refine G0 ?_; try with_reducible exact tt
 rw [show List.replicate (A.length + 1) (V.d (.int .u64 0)) = cellM k A 0 by rw [cellM, o_dj]; simp [U]]
 have hlow : ∀ i, V.lowl 1 (cellM k A i) = true := fun i => o_dn 1 _
 refine AW.loopT (α := Nat) 1 (fun i => [(14, .d (.int .i64 (i : Int)))]) (fun i => [(0, ⟨34, cellM k A i⟩)]) (fun i => i ≤ A.length) (fun i => A.length - i) 0 ?_ ?_ (Nat.zero_le _) ?_ ?_ ?_
 ·simp
 ·simp
 ·simp
 ·simp [hlow]
 rintro i hi
 simp
 by_cases h : i = A.length
 ·subst h
  refine G0 ?_; try with_reducible exact tt
  refine AW.cond rfl (fun h => ?_) (fun h => ?_)
  ·simp at h
  refine AW.exit ?_
  (try (simp -implicitDefEqProofs; try simp (disch := omega) only [w64, wu64]))
  have hl : (movedL k 0 A).length = A.length + 1 := o_8 _ _ _
  rw [cellM, o_dk]
  generalize movedL k 0 A = ws at hl
  refine AW.freeze 0 1 ⟨34, _⟩ (ws.map fun x : Nat => .int .u64 x) (by rfl) (by simp) ?_
  simp [← hl, List.take_of_length_le]
  refine G0 ?_; try with_reducible exact tt
 ·have hi' : i < A.length := by omega
  have hp : (i : Int) < A.length := by omega
  obtain ⟨c, y, u, hl, hq, hor, hw, hd, hset⟩ : ∃ c z u : Nat, (cellM k A i).length = A.length + 1 ∧ (cellM k A i)[i]? = some (.d (.int .u64 c)) ∧ bits BinOp.or IntKind.u64 (c : Int) (IntKind.u64.wrap ((A[i] : Int) * 2 ^ k)) = (z : Int) ∧
    True ∧ (A[i] : Int) / 2 ^ (64 - k) = (u : Int) ∧ ((cellM k A i).set i (.d (.int .u64 z))).set (i + 1) (.d (.int .u64 u)) = cellM k A (i + 1) := by
   have hl := o_di k A i hi
   have hc := o_g (k := k) (l := A.take i) (c := 0) (hs.take i) (Nat.two_pow_pos k)
   have hset := o_dm k A i hi'
   rw [← o_cu hi'] at hset
   refine ⟨movedC k 0 (A.take i), A[i] * 2 ^ k % 18446744073709551616 + movedC k 0 (A.take i), A[i] * 2 ^ k / 18446744073709551616, by simp [cellM, U, hl], ?_, ?_, trivial, ?_, ?_⟩
   ·have := o_dl k A i hi'
    rw [List.getD, List.getElem?_eq_getElem (by omega)] at this
    rw [cellM, U, List.getElem?_map, List.getElem?_eq_getElem (by omega)]
    simp at this
    simp [this]
   ·rw [show IntKind.u64.wrap ((A[i] : Int) * 2 ^ k) = ((A[i] * 2 ^ k % 18446744073709551616 : Nat) : Int) by rw [IntKind.wrap_u64, Int.natCast_emod, Int.natCast_mul, Int.natCast_pow]; rfl]
    rw [bits_or_u64_nat _ _ (Nat.lt_of_lt_of_le hc (by rw [show (18446744073709551616 : Nat) = 2 ^ 64 by rfl]; exact Nat.pow_le_pow_right (by decide) (by omega))) (Nat.mod_lt _ (by decide)), o_h hk hc]
   ·rw [o_i (by omega), Int.natCast_ediv, Int.natCast_pow]; rfl
   ·rw [cellM, cellM, ← hset, U, U, List.map_set, List.map_set]
  have hn : ((64 : Int) - k).toNat = 64 - k := by omega
  have e1 : IntKind.i64.wrap ((i : Int) + 1) = (i : Int) + 1 := w64 (by omega) (by omega)
  have e2 : IntKind.i64.wrap ((64 : Int) - k) = (64 : Int) - k := w64 (by omega) (by omega)
  generalize cellM k A i = cm at hl hq hset
  refine G1 (fs hi' hp) ?_; try with_reducible exact tt
  refine AW.cond rfl (fun h => ?_) (fun h => ?_)
  ·clear h
   refine G1 (fs hi' (fs hp (fs hl (fs hq (fs hor (fs e1 (fs e2 (fs hn (fs hd hset))))))))) ?_; try with_reducible exact tt
   exact ⟨i + 1, by omega, by omega, by simp [wk], by simp [wkH, hlow]⟩
  ·simp at h
end
end Go.Proofs.YtlelpbaeplcfiaaDoor.Am
namespace Go.Proofs.YtlelpbaeplcfiaaDoor.Am
section
open Go.RowKit
theorem o_dp (n : Nat) : (words n).length = size n := rfl

set_option maxHeartbeats 1000000 in
theorem o_dq (a n : Nat) (ha : size a ≤ 1000000) (hn : n ≤ 8192) : Eqn Tryd.prog o_7c [.d (.agg [natW a]), .d (.int .i64 n)] [] (.tup [.d (.agg [natW (a * 2 ^ n)]), .d (.int .i64 0)]) [] := by
 refine Eqn.pure o_7e (o_db _ _) ?_
 simp only [o_7d, natW, W]
 have h1 : ¬ (n : Int) < 0 := by omega
 have h2 : ¬ (8192 : Int) < n := by omega
 refine G1 (fs h1 h2) ?_; try with_reducible exact tt
 refine AW.cond rfl (fun h => ?_) (fun h => ?_)
 ·simp [h1, h2] at h
 have hq : (n : Int) / 64 = (n / 64 : Nat) := rfl
 have hr : (n : Int).tmod 64 = (n % 64 : Nat) := by rw [Int.tmod_eq_emod_of_nonneg (by omega)]; rfl
 have hd : n / 64 ≤ 128 := by omega
 have hm : n % 64 < 64 := by omega
 have hv : ∀ l : List Nat, wval l = a → wval (List.replicate (n / 64) 0 ++ movedL (n % 64) 0 l) = a * 2 ^ n := by
  intro l hl
  rw [o_0, o_1, o_9, List.length_replicate, hl, Nat.zero_add, Nat.add_zero]
  rw [show (18446744073709551616 : Nat) = 2 ^ 64 by rfl, ← Nat.pow_mul, Nat.mul_left_comm, ← Nat.pow_add, Nat.div_add_mod]
 replace hv := hv (words a) (o_cm a)
 have hsm : small (List.replicate (n / 64) 0 ++ movedL (n % 64) 0 (words a)) := by
  intro x hx
  rcases List.mem_append.1 hx with hx | hx
  ·rw [List.eq_of_mem_replicate hx]; omega
  ·exact o_a hm (o_cn a) (Nat.two_pow_pos _) x hx
 have hl := o_8 (n % 64) (words a) 0
 generalize n / 64 = q at *
 generalize n % 64 = r at *
 unfold size at ha
 refine G1 (fs hq hr) ?_; try with_reducible exact tt
 refine CallS.pu (o_do (words a) r hm (o_cn a) (by omega)) ?_
 (try (simp -implicitDefEqProofs [W, hl]; try simp (disch := omega) only [w64, wu64]))
 repeat (first | refine AW.seq ?_ | refine AW.block ?_ | (refine AW.reg mix ?_; simp -implicitDefEqProofs [W, hl]; try simp (disch := omega) only [w64, wu64]) | (refine need.of (by first | omega | kernel_rfl) ?_) | (refine AW.fin ?_; try simp -implicitDefEqProofs [W, hl]))
 have hlen : (List.replicate q 0 ++ movedL r 0 (words a)).length = q + ((words a).length + 1) := by simp [hl]
 have hcell : List.replicate q (V.d (.int .u64 0)) ++ List.map (V.d ∘ fun x : Nat => D.int .u64 x) (movedL r 0 (words a)) = ((List.replicate q 0 ++ movedL r 0 (words a)).map fun x : Nat => D.int .u64 x).map V.d := by simp
 rw [hcell]
 generalize List.replicate q 0 ++ movedL r 0 (words a) = ws at *
 have hlen2 : q + ((words a).length + 1) = ws.length := hlen.symm
 refine CallS.pf 3 1 ⟨34, _⟩ (ws.map fun x : Nat => .int .u64 x) (o_cv ws hsm (by omega)) (by first | rfl | (simp [natW, W, hlen2, List.take_of_length_le]; done)) ?_
 (try (simp -implicitDefEqProofs [natW, W, hlen2, List.take_of_length_le]; try simp (disch := omega) only [w64, wu64]))
 repeat (first | refine AW.seq ?_ | refine AW.block ?_ | (refine AW.reg mix ?_; simp -implicitDefEqProofs [natW, W, hlen2, List.take_of_length_le]; try simp (disch := omega) only [w64, wu64]) | (refine need.of (by first | omega | kernel_rfl) ?_) | (refine AW.fin ?_; try simp -implicitDefEqProofs [natW, W, hlen2, List.take_of_length_le]))
 refine Sub1.of ?_
 rw [hv]
end
end Go.Proofs.YtlelpbaeplcfiaaDoor.Am
namespace Go.Proofs.YtlelpbaeplcfiaaDoor.Am
section
open Go.RowKit
theorem o_dr {x : Nat} (h0 : 0 < x) (h : x < 18446744073709551616) : words x = [x] := by
 have := o_cp (ws := [x]) (by intro y hy; simp at hy; omega) (by intro k hk; simp at hk; subst hk; simp; omega)
 simpa [wval] using this
theorem o_ds {x : Nat} (h : x < 18446744073709551616) : small [x] := by intro y hy; simp at hy; omega

theorem Sub1.tup {l r : List V} (h : Subs l r) : Sub1 (.tup l) (.tup r) := fun m v k => by
 unfold V.rep at k ⊢
 obtain ⟨vs, h1, h2⟩ := k
 exact ⟨vs, h1, h m vs h2⟩
theorem Subs.cons {x y : V} {l r : List V} (h : Sub1 x y) (h' : Subs l r) : Subs (x :: l) (y :: r) := fun m vs k => by
 obtain ⟨v, r, rfl, h1, h2⟩ := V.reps_cons'.1 k
 exact V.reps_cons.2 ⟨h m v h1, h' m r h2⟩
theorem Sub1.nat0 : Sub1 (.d (.agg [.nilsl])) (.d (.agg [natW 0])) := fun m v k => by
 rw [V.rep_d] at k ⊢
 unfold D.rep at k ⊢
 obtain ⟨vs, h1, h2, h3⟩ := k
 refine ⟨vs, h1, h2, ?_⟩
 obtain ⟨u, r, rfl, h4, h5⟩ := D.reps_cons'.1 h3
 have := (V.rep_d (m := m)).1 (Sub1.nil m u (V.rep_d.2 h4))
 exact D.reps_cons.2 ⟨this, h5⟩

theorem o_dt {m n : Nat} : cmpZ m n < 0 ↔ m < n := by unfold cmpZ; split <;> (try split) <;> omega
theorem o_du (x y : Nat) (hx : x < 18446744073709551616) (h0 : 0 < y) : Eqn Tryd.prog o_a8 [.d (.int .u64 0), .d (.int .u64 x), .d (.int .u64 y)] [] (.tup [.d (.int .u64 (x / y : Nat)), .d (.int .u64 (x % y : Nat))]) [] := by
 refine Eqn.pure o_aa (o_db _ _) ?_
 simp only [o_a9]
 have h1 : ¬ (y : Int) = 0 := by omega
 have h1' : ¬ y = 0 := by omega
 have h2 : ¬ (y : Int) ≤ 0 := by omega
 refine G1 (fs h1 (fs h2 h1')) ?_; try with_reducible exact tt
 refine AW.cond rfl (fun h => ?_) (fun h => ?_)
 ·simp [h1'] at h
 refine G1 (fs h1 (fs h2 h1')) ?_; try with_reducible exact tt
 refine AW.cond rfl (fun h => ?_) (fun h => ?_)
 ·simp [h1', h2] at h
 refine G1 (fs h1 (fs h2 h1')) ?_; try with_reducible exact tt
 refine AW.cond rfl (fun h => ?_) (fun h => ?_)
 ·have hle := Nat.div_le_self x y
  have e1 : IntKind.u64.wrap ((x : Int) / y) = (x : Int) / y := by
   rw [← Int.natCast_ediv]
   generalize x / y = q at *
   exact wu64 (by omega) (by omega)
  have e2 : (x : Int).tmod y = ((x % y : Nat) : Int) := by rw [Int.tmod_eq_emod_of_nonneg (by omega)]; rfl
  refine G1 (fs h1 (fs h2 (fs h1' (fs e1 e2)))) ?_; try with_reducible exact tt
 ·simp at h

theorem o_dv (x y : Nat) (hx : x < 18446744073709551616) (h0 : 0 < y) (hy : y < 18446744073709551616) : Eqn Tryd.prog o_89 [.d (.sl 1 [.int .u64 x]), .d (.int .u64 y)] [] (.tup [.d (.sl 1 [.int .u64 (x / y : Nat)]), .d (.int .u64 (x % y : Nat))]) [] := by
 refine Eqn.pure o_8b (o_db _ _) ?_
 simp only [o_8a]
 refine G0 ?_; try with_reducible exact tt
 refine AW.loopT (α := Nat) 1 (fun i => [(8, .d (.int .i64 ((i : Int) - 1))), (7, .d (.int .u64 (if i = 0 then (x % y : Nat) else 0)))]) (fun i => [(0, ⟨34, [.d (.int .u64 (if i = 0 then (x / y : Nat) else 0))]⟩)]) (fun i => i ≤ 1) (fun i => i) 1 ?_ ?_ (Nat.le_refl _) ?_ ?_ ?_
 ·simp
 ·simp
 ·simp
 ·simp
 rintro i hi
 simp
 cases i with
 | zero =>
  refine G0 ?_; try with_reducible exact tt
  refine AW.cond rfl (fun h => ?_) (fun h => ?_)
  ·simp at h
  refine AW.exit ?_
  (try (simp -implicitDefEqProofs; try simp (disch := omega) only [w64, wu64]))
  refine AW.freeze 0 1 ⟨34, _⟩ [.int .u64 (x / y : Nat)] (by rfl) (by simp) ?_
  simp
  refine G0 ?_; try with_reducible exact tt
 | succ i =>
  obtain rfl : i = 0 := by omega
  refine G0 ?_; try with_reducible exact tt
  refine AW.cond rfl (fun h => ?_) (fun h => ?_)
  ·refine G0 ?_; try with_reducible exact tt
   refine CallS.pu (o_du x y hx h0) (R0 ?_); try with_reducible exact tt
   exact ⟨0, by omega, rfl, by simp, by simp⟩
  ·simp at h
end
end Go.Proofs.YtlelpbaeplcfiaaDoor.Am
namespace Go.Proofs.YtlelpbaeplcfiaaDoor.Am
section
open Go.RowKit
theorem o_dw {x : Nat} (h : x < 18446744073709551616) : size x ≤ 1 := by
 rw [size]
 rcases Nat.eq_zero_or_pos x with rfl | h0
 ·simp [words, wordsF]
 ·rw [o_dr h0 h]; simp

theorem o_dx (a : Nat) : Eqn Tryd.prog o_at [.d (.bool false), .d (.agg [natW a])] [] (.d (.agg [natW a, .bool false])) [] := by
 refine Eqn.pure o_av (o_5k _) ?_
 simp only [o_au]
 refine G0 ?_; try with_reducible exact tt

theorem o_dy (a : Nat) (s : Bool) : Eqn Tryd.prog o_an [.d (.agg [natW a, .bool s])] [] (.d (.agg [natW a])) [] := by
 refine Eqn.pure o_ap (o_5k _) ?_
 simp only [o_ao]
 refine G0 ?_; try with_reducible exact tt

theorem o_dz (a : Nat) (s : Bool) : Eqn Tryd.prog o_aw [.d (.agg [natW a, .bool s])] [] (.d (.bool s)) [] := by
 refine Eqn.pure o_ay (o_5k _) ?_
 simp only [o_ax]
 refine G0 ?_; try with_reducible exact tt

theorem o_e0 (n : Nat) (h : n < 9223372036854775808) : Eqn Tryd.prog o_96 [.d (.int .i64 n)] [] (.d (.agg [natW n, .bool false])) [] := by
 refine Eqn.pure o_98 (o_5k _) ?_
 simp only [o_97]
 have h0 : ¬ (n : Int) < 0 := by omega
 refine G0 ?_; try with_reducible exact tt
 refine AW.cond rfl (fun h => ?_) (fun h => ?_)
 ·simp [h0] at h
 have e : IntKind.u64.wrap (n : Int) = n := wu64 (by omega) (by omega)
 refine G1 e ?_; try with_reducible exact tt
 refine CallS.pf 1 1 ⟨34, _⟩ [.int .u64 n] (o_cw [n] (o_ds (by omega)) (by simp)) (by first | rfl | (simp; done)) (R0 ?_); try with_reducible exact tt
 refine CallS.pu (o_dx n) (R0 ?_); try with_reducible exact tt

theorem o_e1 (a d : Nat) (s : Bool) (h : size d ≤ 1000000) : Eqn Tryd.prog o_90 [.d (.agg [natW a, .bool s, natW d])] [] (.d (.agg [natW (d + 1)])) [] := by
 refine Eqn.pure o_92 (o_5k _) ?_
 simp only [o_91]
 refine G0 ?_; try with_reducible exact tt
 refine CallS.pf 2 1 ⟨34, _⟩ [.int .u64 (1 : Nat)] (o_cw [1] (o_ds (by omega)) (by simp)) (by first | rfl | (simp; done)) (R0 ?_); try with_reducible exact tt
 refine CallS.pu (o_dd d 1 h (by have := o_dw (x := 1) (by omega); omega)) (R0 ?_); try with_reducible exact tt
theorem o_e2 (a d : Nat) (s : Bool) : Eqn Tryd.prog o_8u [.d (.agg [natW a, .bool s, natW d])] [] (.d (.bool (d == 0))) [] := by
 refine Eqn.pure o_8w (o_5k _) ?_
 simp only [o_8v]
 refine G0 ?_; try with_reducible exact tt
 refine CallS.pu (o_cx d) (R0 ?_); try with_reducible exact tt
end
end Go.Proofs.YtlelpbaeplcfiaaDoor.Am
namespace Go.Proofs.YtlelpbaeplcfiaaDoor.Am
section
open Go.RowKit
def lit1 : ByteArray := ⟨#[48, 49, 50, 51, 52, 53, 54, 55, 56, 57, 97, 98, 99, 100, 101, 102, 103, 104, 105, 106, 107, 108, 109, 110, 111, 112, 113, 114, 115, 116, 117, 118, 119, 120, 121, 122]⟩
def lit2 : ByteArray := ⟨#[48, 48, 48, 49, 48, 50, 48, 51, 48, 52, 48, 53, 48, 54, 48, 55, 48, 56, 48, 57, 49, 48, 49, 49, 49, 50, 49, 51, 49, 52, 49, 53, 49, 54, 49, 55, 49, 56, 49, 57, 50, 48, 50, 49, 50, 50, 50, 51, 50, 52, 50, 53, 50, 54, 50, 55, 50, 56, 50, 57, 51, 48, 51, 49, 51, 50, 51, 51, 51, 52, 51, 53, 51, 54, 51, 55, 51, 56, 51, 57, 52, 48, 52, 49, 52, 50, 52, 51, 52, 52, 52, 53, 52, 54, 52, 55, 52, 56, 52, 57, 53, 48, 53, 49, 53, 50, 53, 51, 53, 52, 53, 53, 53, 54, 53, 55, 53, 56, 53, 57, 54, 48, 54, 49, 54, 50, 54, 51, 54, 52, 54, 53, 54, 54, 54, 55, 54, 56, 54, 57, 55, 48, 55, 49, 55, 50, 55, 51, 55, 52, 55, 53, 55, 54, 55, 55, 55, 56, 55, 57, 56, 48, 56, 49, 56, 50, 56, 51, 56, 52, 56, 53, 56, 54, 56, 55, 56, 56, 56, 57, 57, 48, 57, 49, 57, 50, 57, 51, 57, 52, 57, 53, 57, 54, 57, 55, 57, 56, 57, 57]⟩
theorem o_e3 : lit1.size = 36 := by kernel_rfl
theorem o_e4 : lit2.size = 200 := by kernel_rfl
def smallS (n : Nat) : ByteArray := if n < 10 then lit1.extract n (n + 1) else lit2.extract (n * 2) (n * 2 + 2)

theorem o_e5 (n : Nat) (h : n < 100) : Eqn Tryd.prog o_bk [.d (.int .i64 n)] [] (.d (.str (smallS n))) [] := by
 refine Eqn.pure o_bm (o_5k _) ?_
 simp only [o_bl]
 rw [show (⟨#[48, 49, 50, 51, 52, 53, 54, 55, 56, 57, 97, 98, 99, 100, 101, 102, 103, 104, 105, 106, 107, 108, 109, 110, 111, 112, 113, 114, 115, 116, 117, 118, 119, 120, 121, 122]⟩ : ByteArray) = lit1 from rfl, show (⟨#[48, 48, 48, 49, 48, 50, 48, 51, 48, 52, 48, 53, 48, 54, 48, 55, 48, 56, 48, 57, 49, 48, 49, 49, 49, 50, 49, 51, 49, 52, 49, 53, 49, 54, 49, 55, 49, 56, 49, 57, 50, 48, 50, 49, 50, 50, 50, 51, 50, 52, 50, 53, 50, 54, 50, 55, 50, 56, 50, 57, 51, 48, 51, 49, 51, 50, 51, 51, 51, 52, 51, 53, 51, 54, 51, 55, 51, 56, 51, 57, 52, 48, 52, 49, 52, 50, 52, 51, 52, 52, 52, 53, 52, 54, 52, 55, 52, 56, 52, 57, 53, 48, 53, 49, 53, 50, 53, 51, 53, 52, 53, 53, 53, 54, 53, 55, 53, 56, 53, 57, 54, 48, 54, 49, 54, 50, 54, 51, 54, 52, 54, 53, 54, 54, 54, 55, 54, 56, 54, 57, 55, 48, 55, 49, 55, 50, 55, 51, 55, 52, 55, 53, 55, 54, 55, 55, 55, 56, 55, 57, 56, 48, 56, 49, 56, 50, 56, 51, 56, 52, 56, 53, 56, 54, 56, 55, 56, 56, 56, 57, 57, 48, 57, 49, 57, 50, 57, 51, 57, 52, 57, 53, 57, 54, 57, 55, 57, 56, 57, 57]⟩ : ByteArray) = lit2 from rfl]
 have e1 := o_e3
 have e2 := o_e4
 generalize hl1 : lit1 = l1 at *
 generalize hl2 : lit2 = l2 at *
 by_cases hs : n < 10
 ·have hs' : (n : Int) < 10 := by omega
  refine G1 hs' ?_; try with_reducible exact tt
  refine AW.cond rfl (fun h => ?_) (fun h => ?_)
  ·have ew : IntKind.i64.wrap ((n : Int) + 1) = (n : Int) + 1 := w64 (by omega) (by omega)
   refine G1 (fs ew e1) ?_; try with_reducible exact tt
   refine Sub1.of ?_
   rw [smallS, if_pos hs, hl1]
  ·simp [hs] at h
 ·have hs' : ¬ (n : Int) < 10 := by omega
  refine G1 hs' ?_; try with_reducible exact tt
  refine AW.cond rfl (fun h => ?_) (fun h => ?_)
  ·simp [hs] at h
  ·have ew : IntKind.i64.wrap ((n : Int) * 2) = (n : Int) * 2 := w64 (by omega) (by omega)
   have ew2 : IntKind.i64.wrap ((n : Int) * 2 + 2) = (n : Int) * 2 + 2 := w64 (by omega) (by omega)
   refine G1 (fs ew (fs ew2 e2)) ?_; try with_reducible exact tt
   refine Sub1.of ?_
   rw [smallS, if_neg hs, hl2, show ((n : Int) * 2).toNat = n * 2 by omega, show ((n : Int) * 2 + 2).toNat = n * 2 + 2 by omega]

theorem o_e6 (n : Nat) : (smallS n).size ≤ 2 := by
 unfold smallS
 split <;> rw [ByteArray.size_extract] <;> omega
@[simp] theorem o_e7 : ByteArray.size ⟨#[]⟩ = 0 := rfl
@[simp] theorem o_e8 : ByteArray.size ⟨#[47]⟩ = 1 := rfl
theorem o_e9 (s : ByteArray) : s ++ (⟨#[]⟩ : ByteArray) = s := by
 exact ByteArray.append_empty
theorem o_ea (n : Nat) (h : n < 100) : Eqn Tryd.prog o_ab [.d (.int .u64 n), .d (.int .i64 10)] [] (.d (.str (smallS n))) [] := by
 refine Eqn.pure o_ad (o_5k _) ?_
 simp only [o_ac]
 have h1 : (n : Int) < 100 := by omega
 refine G1 h1 ?_; try with_reducible exact tt
 refine AW.cond rfl (fun h => ?_) (fun h => ?_)
 ·refine G1 h1 ?_; try with_reducible exact tt
  refine AW.cond rfl (fun h => ?_) (fun h => ?_)
  ·have e : IntKind.i64.wrap (n : Int) = n := w64 (by omega) (by omega)
   refine G1 e ?_; try with_reducible exact tt
   refine CallS.pu (o_e5 n (by omega)) (R0 ?_); try with_reducible exact tt
  ·simp [h1] at h
 ·simp at h

theorem o_eb (n : Nat) (h : n < 100) : Eqn Tryd.prog o_8f [.d (.int .u64 n), .d (.int .i64 10)] [] (.d (.str (smallS n))) [] := by
 refine Eqn.pure o_8h (o_5k _) ?_
 simp only [o_8g]
 refine G0 ?_; try with_reducible exact tt
 refine CallS.pu (o_ea n h) (R0 ?_); try with_reducible exact tt

theorem o_ec (n : Nat) (h : n < 100) : Eqn Tryd.prog o_76 [.d (.agg [natW n])] [] (.d (.str (smallS n))) [] := by
 refine Eqn.pure o_78 (o_5k _) ?_
 simp only [o_77]
 refine G0 ?_; try with_reducible exact tt
 refine CallS.pu (o_cx n) (R0 ?_); try with_reducible exact tt
 rcases Nat.eq_zero_or_pos n with rfl | h0
 ·refine AW.cond rfl (fun h => ?_) (fun h => ?_)
  ·refine G0 ?_; try with_reducible exact tt
   exact Sub1.of (by kernel_rfl)
  ·simp at h
 have e : natW n = .sl 1 [.int .u64 n] := by rw [natW, o_dr h0 (by omega)]; rfl
 have hz : ¬ n = 0 := by omega
 refine AW.cond rfl (fun h => ?_) (fun h => ?_)
 ·simp [hz] at h
 refine G1 e ?_; try with_reducible exact tt
 refine AW.loopT (α := Nat) 1 (fun i => [(4, .d (if i = 0 then .sl 0 [] else .sl 1 [.int .u64 n])), (3, .d (if i = 0 then .str (smallS n) else .str ⟨#[]⟩))]) (fun i => []) (fun i => i ≤ 1) (fun i => i) 1 ?_ ?_ (Nat.le_refl _) ?_ ?_ ?_
 ·simp
 ·simp
 ·simp
 ·simp
 rintro i hi
 simp
 cases i with
 | zero =>
  refine G0 ?_; try with_reducible exact tt
  refine AW.cond rfl (fun h => ?_) (fun h => ?_)
  ·simp at h
  refine G0 ?_; try with_reducible exact tt
 | succ i =>
  obtain rfl : i = 0 := by omega
  refine G0 ?_; try with_reducible exact tt
  refine AW.cond rfl (fun h => ?_) (fun h => ?_)
  ·refine G0 ?_; try with_reducible exact tt
   have hs := o_dv n 1000000000000000000 (by omega) (by omega) (by omega)
   rw [show n / 1000000000000000000 = 0 by omega, show n % 1000000000000000000 = n by omega] at hs
   refine CallS.pu (hs) (R0 ?_); try with_reducible exact tt
   have ht := o_cv [0] (o_ds (by omega)) (by simp)
   rw [show wval [0] = 0 by rfl] at ht
   refine CallS.pu (ht) (R0 ?_); try with_reducible exact tt
   refine CallS.pu (o_eb n (by omega)) ?_
   (try (simp -implicitDefEqProofs [o_cs]; try simp (disch := omega) only [w64, wu64]))
   repeat (first | refine AW.seq ?_ | refine AW.block ?_ | (refine AW.reg mix ?_; simp -implicitDefEqProofs [o_cs]; try simp (disch := omega) only [w64, wu64]) | (refine need.of (by first | omega | kernel_rfl) ?_) | (refine AW.fin ?_; try simp -implicitDefEqProofs [o_cs]))
   refine AW.cond rfl (fun h => ?_) (fun h => ?_)
   ·simp at h
   have s1 := o_e6 n
   have sn := o_e9 (smallS n)
   repeat (first | refine AW.seq ?_ | refine AW.block ?_ | (refine AW.reg mix ?_; simp -implicitDefEqProofs [o_cs, sn]; try simp (disch := omega) only [w64, wu64]) | (refine need.of (by first | omega | kernel_rfl) ?_) | (refine AW.fin ?_; try simp -implicitDefEqProofs [o_cs, sn]))
   exact ⟨0, by omega, rfl, by simp [sn], by simp⟩
  ·simp at h
end
end Go.Proofs.YtlelpbaeplcfiaaDoor.Am
namespace Go.Proofs.YtlelpbaeplcfiaaDoor.Am
section
open Go.RowKit
def BL (cs : List Bool) : D := .sl cs.length (cs.map .bool)
def flipB (cs : List Bool) (p : Nat) (dead : Bool) : Bool := if dead ∨ p = cs.length then false else cs.getD p false
def flipE (cs : List Bool) (p : Nat) (dead : Bool) : Int := if dead ∨ p = cs.length then 8 else 0
def flipP (cs : List Bool) (p : Nat) (dead : Bool) : Nat := if dead ∨ p = cs.length then p else p + 1
def flipD (cs : List Bool) (p : Nat) (dead : Bool) : Bool := if dead ∨ p = cs.length then true else dead

def halfR (cs : List Bool) : Nat → Nat → Bool → Bool × Int × Nat × Bool
 | 0, p, dd => (true, 0, p, dd)
 | k + 1, p, dd => if flipB cs p dd then halfR cs k (flipP cs p dd) (flipD cs p dd) else (false, flipE cs p dd, flipP cs p dd, flipD cs p dd)
end
end Go.Proofs.YtlelpbaeplcfiaaDoor.Am
namespace Go.Proofs.YtlelpbaeplcfiaaDoor.Am
section
open Go.RowKit
def okK (k : Int) : Bool := decide (0 ≤ k ∧ k ≤ 1023)
def wrongZ (d : Int) (ks : List Int) : Int := if 0 ≤ d ∧ d ≤ 8 then (if ks.all okK then 0 else 2) else 10

def partV (d k : Nat) : Int := bits .and .i64 k (IntKind.i64.wrap (IntKind.i64.wrap (2 ^ d) - 1))
def againR (cs : List Bool) (d k j : Int) : Bool × Int × Nat × Bool := if wrongZ d [k, j] = 0 then halfR cs (k.toNat / 2 ^ d.toNat - j.toNat / 2 ^ d.toNat) 0 false else (false, wrongZ d [k, j], 0, false)

def stepR (cs : List Bool) (d k : Int) : Bool × Int × Nat × Bool := if wrongZ d [k] = 0 then halfR cs (k.toNat / 2 ^ d.toNat) 0 false else (false, wrongZ d [k], 0, false)
end
end Go.Proofs.YtlelpbaeplcfiaaDoor.Am
namespace Go.Proofs.YtlelpbaeplcfiaaDoor.Am
section
open Go.RowKit
def ratioR (cs : List Bool) (q : Nat) : Nat → Nat → Nat → Bool → Bool × Int × Nat × Bool
 | 0, _, p, dd => (true, 0, p, dd)
 | f + 1, r, p, dd =>
  if r < q then
   if flipE cs p dd = 0 then
    if flipB cs p dd ≠ decide (q ≤ r + r) ∨ (if q ≤ r + r then r + r - q else r + r) = 0 then (decide (q ≤ r + r) && !flipB cs p dd, 0, flipP cs p dd, flipD cs p dd)
    else ratioR cs q f (if q ≤ r + r then r + r - q else r + r) (flipP cs p dd) (flipD cs p dd)
   else (false, flipE cs p dd, flipP cs p dd, flipD cs p dd)
  else (true, 0, p, dd)
def ratioA (cs : List Bool) (a q : Nat) (p : Nat) (dd : Bool) : Bool × Int × Nat × Bool := if a = 0 then (false, 0, p, dd) else ratioR cs q (cs.length + 1 - p) a p dd
end
end Go.Proofs.YtlelpbaeplcfiaaDoor.Am
namespace Go.Proofs.YtlelpbaeplcfiaaDoor.Am
section
open Go.RowKit
def powerR (cs : List Bool) (a q : Nat) : Nat → Nat → Bool → Bool × Int × Nat × Bool
 | 0, p, dd => (true, 0, p, dd)
 | k + 1, p, dd => if (ratioA cs a q p dd).1 then powerR cs a q k (ratioA cs a q p dd).2.2.1 (ratioA cs a q p dd).2.2.2 else ratioA cs a q p dd
end
end Go.Proofs.YtlelpbaeplcfiaaDoor.Am
namespace Go.Proofs.YtlelpbaeplcfiaaDoor.Am
section
open Go.RowKit
def wrongM (d : Int) (ks : List Int) : Int := if 1 ≤ d ∧ d ≤ 4096 then (if ks.all okK then 0 else 2) else 10

def stepM (cs : List Bool) (d k : Int) (p : Nat) (dd : Bool) : Bool × Int × Nat × Bool := if wrongM d [k] = 0 then powerR cs d.toNat (d.toNat + 1) k.toNat p dd else (false, wrongM d [k], p, dd)
end
end Go.Proofs.YtlelpbaeplcfiaaDoor.Am
namespace Go.Proofs.YtlelpbaeplcfiaaDoor.Am
section
open Go.RowKit
end
end Go.Proofs.YtlelpbaeplcfiaaDoor.Am
namespace Go.Proofs.YtlelpbaeplcfiaaDoor.Am
section
def bitsN (n : Nat) : Nat := if n = 0 then 0 else Nat.log2 n + 1
theorem o_ed (n : Nat) : n < 2 ^ bitsN n := by
 unfold bitsN
 split
 ·omega
 ·exact Nat.lt_log2_self
theorem o_ee {n k : Nat} (h : n < 2 ^ k) : bitsN n ≤ k := by
 unfold bitsN
 split
 ·omega
 ·rename_i h0
  have := (Nat.log2_lt h0).2 h
  omega
def moreY (s t : Nat) : Nat := t + (if t / 2 ^ s * 2 ^ s < t then t / 2 ^ s + 1 else t / 2 ^ s)
def shiftY (s t : Nat) : Nat := bitsN t - 1 - 2 * s
structure Pl where
 x : Nat
 shift : Nat
 value : Nat
 reply : Nat
def nextY (s : Nat) (p : Pl) : Pl := if p.reply ≤ p.value + 2 ^ p.shift then ⟨p.x + 1, shiftY s (moreY s p.reply), p.value + 2 ^ p.shift, moreY s p.reply⟩ else ⟨p.x, p.shift, p.value + 2 ^ p.shift, p.reply⟩
def placeY (s : Nat) : Nat → Pl
 | 0 => ⟨0, 0, 0, 2 ^ (2 * s)⟩
 | k + 1 => nextY s (placeY s k)

theorem o_ef {n k : Nat} (h : 2 ^ k ≤ n) : bitsN n = k + bitsN (n / 2 ^ k) := by
 have hp := Nat.two_pow_pos k
 have hq : 0 < n / 2 ^ k := Nat.div_pos h hp
 have h1 := o_ed (n / 2 ^ k)
 have h2 : 2 ^ (bitsN (n / 2 ^ k) - 1) ≤ n / 2 ^ k := by
  unfold bitsN
  rw [if_neg (by omega), Nat.add_sub_cancel]
  exact Nat.log2_self_le (by omega)
 have h3 : 0 < bitsN (n / 2 ^ k) := by unfold bitsN; rw [if_neg (by omega)]; omega
 apply Nat.le_antisymm
 ·apply o_ee
  rw [Nat.pow_add, Nat.mul_comm]
  exact (Nat.div_lt_iff_lt_mul hp).1 h1
 ·apply Nat.le_of_not_lt
  intro hlt
  have h4 := o_ed n
  have h5 : 2 ^ bitsN n ≤ 2 ^ (k + (bitsN (n / 2 ^ k) - 1)) := Nat.pow_le_pow_right (by omega) (by omega)
  rw [Nat.pow_add] at h5
  have h6 : 2 ^ k * 2 ^ (bitsN (n / 2 ^ k) - 1) ≤ n := by
   rw [Nat.mul_comm]; exact Nat.le_trans (Nat.mul_le_mul_right _ h2) (Nat.div_mul_le_self _ _)
  omega
theorem o_eg {n : Nat} (h : 0 < n) : 2 ^ (bitsN n - 1) ≤ n ∧ 0 < bitsN n := by
 unfold bitsN
 rw [if_neg (by omega), Nat.add_sub_cancel]
 exact ⟨Nat.log2_self_le (by omega), by omega⟩

theorem o_eh {s t : Nat} (hs : 1 ≤ s) (ht : 2 ≤ t) : moreY s t ≤ 2 * t := by
 unfold moreY
 have h2 : 2 ≤ 2 ^ s := by
  calc 2 = 2 ^ 1 := by decide
   _ ≤ 2 ^ s := Nat.pow_le_pow_right (by decide) hs
 have h1 : t / 2 ^ s ≤ t / 2 := Nat.div_le_div_left h2 (by decide)
 split <;> omega

theorem o_ei {s : Nat} (hs : 1 ≤ s) : ∀ k, 4 ≤ (placeY s k).reply ∧ (placeY s k).reply ≤ 2 ^ (2 * s + k) ∧ (placeY s k).shift ≤ 2 * s + k ∧ (placeY s k).value ≤ k * 2 ^ (2 * s + k) ∧ (placeY s k).x ≤ k := by
 intro k
 induction k with
 | zero =>
  simp only [placeY]
  have : 2 ^ 2 ≤ 2 ^ (2 * s) := Nat.pow_le_pow_right (by decide) (by omega)
  rw [Nat.add_zero]
  omega
 | succ k ih =>
  obtain ⟨h1, h2, h3, h4, h5⟩ := ih
  have hp : 2 ^ (2 * s + (k + 1)) = 2 * 2 ^ (2 * s + k) := by rw [show 2 * s + (k + 1) = 2 * s + k + 1 by omega, Nat.pow_succ]; omega
  have hm := o_eh hs (show 2 ≤ (placeY s k).reply by omega)
  have hm4 : (placeY s k).reply ≤ moreY s (placeY s k).reply := by unfold moreY; omega
  have hsh : 2 ^ (placeY s k).shift ≤ 2 ^ (2 * s + k) := Nat.pow_le_pow_right (by decide) h3
  have hv : (placeY s k).value + 2 ^ (placeY s k).shift ≤ (k + 1) * 2 ^ (2 * s + (k + 1)) := by
   rw [hp, Nat.add_mul, Nat.one_mul, Nat.mul_left_comm]
   generalize 2 ^ (2 * s + k) = P at *
   generalize k * P = Q at *
   omega
  have hb : bitsN (moreY s (placeY s k).reply) ≤ 2 * s + (k + 1) + 1 := o_ee (by
   rw [Nat.pow_succ, hp]
   have : 0 < 2 ^ (2 * s + k) := Nat.pow_pos (by decide)
   omega)
  simp only [placeY, nextY]
  split
  ·refine ⟨by simp only; omega, by simp only; omega, ?_, hv, by simp only; omega⟩
   simp only [shiftY]
   omega
  ·refine ⟨by simp only; omega, by simp only; omega, by simp only; omega, hv, by simp only; omega⟩
end
end Go.Proofs.YtlelpbaeplcfiaaDoor.Am
namespace Go.Proofs.YtlelpbaeplcfiaaDoor.Am
section
set_option maxRecDepth 10000
theorem o_ej {y1 y0 u u1 q r : Nat} (e : q * y1 + r = u) (hle : q * y0 ≤ r * 4294967296 + u1) (hgt : u * 4294967296 + u1 < (q + 1) * (y1 * 4294967296 + y0)) :
  (u * 4294967296 + u1) / (y1 * 4294967296 + y0) = q := by
 have h1 : q * (y1 * 4294967296 + y0) ≤ u * 4294967296 + u1 := by
  rw [Nat.mul_add, ← Nat.mul_assoc, ← e, Nat.add_mul]
  omega
 have hpos : 0 < y1 * 4294967296 + y0 := by
  rcases Nat.eq_zero_or_pos (y1 * 4294967296 + y0) with h | h
  ·rw [h] at hgt; omega
  ·exact h
 exact Nat.div_eq_of_lt_le h1 hgt
theorem lin (a r u u1 b z : Nat) (e : a + r = u) (hc : r * b + u1 < z) : u * b + u1 < a * b + z := by
 subst e; rw [Nat.add_mul]; omega
theorem o_ek {y1 y0 u u1 q r : Nat} (e : q * y1 + r = u) (hu : u < y1 * 4294967296 + y0) (hu1 : u1 < 4294967296) (hc : 4294967296 ≤ q ∨ r * 4294967296 + u1 < q * y0) :
  0 < q ∧ (q - 1) * y1 + (r + y1) = u ∧ u * 4294967296 + u1 < (q - 1 + 1) * (y1 * 4294967296 + y0) := by
 have hq : 0 < q := by
  rcases Nat.eq_zero_or_pos q with h | h
  ·subst h; omega
  ·exact h
 have e1 : (q - 1) * y1 + y1 = q * y1 := by
  obtain ⟨k, rfl⟩ : ∃ k, q = k + 1 := ⟨q - 1, by omega⟩
  rw [Nat.add_sub_cancel, Nat.add_mul, Nat.one_mul]
 have e2 : q - 1 + 1 = q := by omega
 rw [e2]
 refine ⟨hq, by omega, ?_⟩
 rcases hc with hc | hc
 ·have h1 : (y1 * 4294967296 + y0) * 4294967296 ≤ (y1 * 4294967296 + y0) * q := Nat.mul_le_mul_left _ hc
  rw [Nat.mul_comm q]
  obtain ⟨p, hp⟩ : ∃ p, p = (y1 * 4294967296 + y0) * q := ⟨_, rfl⟩
  rw [← hp] at h1 ⊢
  clear hp e1
  omega
 ·rw [Nat.mul_add, ← Nat.mul_assoc]
  obtain ⟨a, ha⟩ : ∃ a, a = q * y1 := ⟨_, rfl⟩
  rw [← ha] at e ⊢
  exact lin a r u u1 _ _ e hc
theorem o_el {y1 y0 u q r : Nat} (e : q * y1 + r = u) (hu : u < y1 * 4294967296 + y0) (hy0 : y0 < 4294967296) (hr : 4294967296 ≤ r) (u1 : Nat) : q * y0 ≤ r * 4294967296 + u1 := by
 have hq : q < 4294967296 := by
  apply Nat.lt_of_not_le
  intro h
  have : 4294967296 * y1 ≤ q * y1 := Nat.mul_le_mul_right y1 h
  omega
 have : q * y0 ≤ 4294967295 * 4294967295 := Nat.mul_le_mul (by omega) (by omega)
 omega
theorem o_em {y1 y0 u u1 : Nat} (h1 : 0 < y1) (hu1 : u1 < 4294967296) : u * 4294967296 + u1 < (u / y1 + 1) * (y1 * 4294967296 + y0) := by
 have h := Nat.lt_mul_div_succ u h1
 rw [Nat.mul_comm] at h
 have h2 : (u / y1 + 1) * (y1 * 4294967296) ≤ (u / y1 + 1) * (y1 * 4294967296 + y0) := Nat.mul_le_mul_left _ (by omega)
 rw [← Nat.mul_assoc] at h2
 generalize (u / y1 + 1) * y1 = a at *
 omega

theorem halves' {y a b v0 q1 q0 : Nat} (hy : 0 < y) (h1 : a / y = q1) (h0 : ((a - q1 * y) * b + v0) / y = q0) :
  (a * b + v0) / y = q1 * b + q0 ∧ (a * b + v0) % y = (a - q1 * y) * b + v0 - q0 * y := by
 have a1 := Nat.div_add_mod a y
 have b1 := Nat.mod_lt a hy
 rw [h1, Nat.mul_comm] at a1
 obtain ⟨r1, hr1⟩ : ∃ r, r = a % y := ⟨_, rfl⟩
 rw [← hr1] at a1 b1
 have e1 : a - q1 * y = r1 := by omega
 rw [e1] at h0 ⊢
 have a0 := Nat.div_add_mod (r1 * b + v0) y
 have b0 := Nat.mod_lt (r1 * b + v0) hy
 rw [h0, Nat.mul_comm] at a0
 obtain ⟨r0, hr0⟩ : ∃ r, r = (r1 * b + v0) % y := ⟨_, rfl⟩
 rw [← hr0] at a0 b0
 have e0 : r1 * b + v0 - q0 * y = r0 := by omega
 rw [e0]
 have hN : a * b + v0 = (q1 * b + q0) * y + r0 := by
  have hp : q1 * b * y = q1 * y * b := Nat.mul_right_comm _ _ _
  rw [Nat.add_mul, hp, ← a1, Nat.add_mul]
  omega
 rw [hN]
 exact ⟨by rw [Nat.mul_comm, Nat.mul_add_div hy, Nat.div_eq_of_lt b0, Nat.add_zero], by rw [Nat.mul_comm, Nat.mul_add_mod]; exact Nat.mod_eq_of_lt b0⟩

theorem o_en {n y s : Nat} : n * 2 ^ s / (y * 2 ^ s) = n / y ∧ n * 2 ^ s % (y * 2 ^ s) / 2 ^ s = n % y := by
 have hp := Nat.two_pow_pos s
 refine ⟨Nat.mul_div_mul_right _ _ hp, ?_⟩
 rw [Nat.mul_mod_mul_right, Nat.mul_div_cancel _ hp]

def shrL (k : Nat) : List Nat → List Nat
 | [] => []
 | x :: l => (x / 2 ^ k + l.getD 0 0 * 2 ^ (64 - k) % 18446744073709551616) :: shrL k l
theorem o_eo (k : Nat) : ∀ l, (shrL k l).length = l.length
 | [] => rfl
 | x :: l => by simp [shrL, o_eo k l]
theorem o_ep : ∀ l : List Nat, small l → wval l % 18446744073709551616 = l.getD 0 0
 | [], _ => rfl
 | x :: l, h => by
  have := h x (by simp)
  simp only [wval, List.getD_cons_zero]
  omega
theorem o_eq {k : Nat} (hk : k < 64) : ∀ l : List Nat, small l → wval (shrL k l) = wval l / 2 ^ k ∧ small (shrL k l)
 | [], _ => ⟨by simp [shrL, wval], by simp [shrL, small]⟩
 | x :: l, h => by
  have hl : small l := fun y hy => h y (by simp [hy])
  obtain ⟨h1, h2⟩ := o_eq hk l hl
  have hx := h x (by simp)
  have hhd := o_ep l hl
  have hB : (18446744073709551616 : Nat) = 2 ^ k * 2 ^ (64 - k) := by rw [← Nat.pow_add, show k + (64 - k) = 64 by omega]
  have hp := Nat.two_pow_pos k
  have hp' := Nat.two_pow_pos (64 - k)
  -- the part that comes from above
  have h3 : l.getD 0 0 * 2 ^ (64 - k) % 18446744073709551616 = wval l % 2 ^ k * 2 ^ (64 - k) := by
   rw [hB, Nat.mul_mod_mul_right, ← hhd]
   congr 1
   rw [hB, Nat.mod_mul_right_mod]
  have h4 : wval (x :: l) / 2 ^ k = x / 2 ^ k + 2 ^ (64 - k) * wval l := by
   rw [wval]
   conv => lhs; rw [hB]
   rw [Nat.mul_assoc, Nat.add_mul_div_left _ _ hp]
  have h5 : 2 ^ (64 - k) * wval l = 18446744073709551616 * (wval l / 2 ^ k) + wval l % 2 ^ k * 2 ^ (64 - k) := by
   conv => lhs; rw [← Nat.div_add_mod (wval l) (2 ^ k)]
   rw [Nat.mul_add, ← Nat.mul_assoc, Nat.mul_comm (2 ^ (64 - k)) (2 ^ k), ← hB, Nat.mul_comm (2 ^ (64 - k))]
  have h6 : x / 2 ^ k < 2 ^ (64 - k) := by
   rw [Nat.div_lt_iff_lt_mul hp, Nat.mul_comm, ← hB]; exact hx
  have h7 : wval l % 2 ^ k * 2 ^ (64 - k) + 2 ^ (64 - k) ≤ 18446744073709551616 := by
   have := Nat.mul_le_mul_right (2 ^ (64 - k)) (Nat.succ_le_of_lt (Nat.mod_lt (wval l) hp))
   rw [Nat.succ_mul, ← hB] at this
   exact this
  refine ⟨?_, ?_⟩
  ·rw [h4, h5, shrL, wval, h1, h3]
   omega
  ·intro y hy
   rw [shrL, List.mem_cons] at hy
   rcases hy with rfl | hy
   ·rw [h3]; omega
   ·exact h2 y hy
theorem o_er : ∀ (q : Nat) (l : List Nat), small l → wval (l.drop q) = wval l / 18446744073709551616 ^ q
 | 0, l, _ => by simp
 | q + 1, [], _ => by simp [wval]
 | q + 1, x :: l, h => by
  have hx := h x (by simp)
  rw [List.drop_succ_cons, o_er q l (fun y hy => h y (by simp [hy])), wval, Nat.pow_succ, Nat.mul_comm (18446744073709551616 ^ q), ← Nat.div_div_eq_div_mul]
  congr 1
  omega
end
end Go.Proofs.YtlelpbaeplcfiaaDoor.Am
namespace Go.Proofs.YtlelpbaeplcfiaaDoor.Am
section
open Go.RowKit
theorem o_es : ∀ i : Nat, i < 256 → (([0, 1, 2, 2, 3, 3, 3, 3, 4, 4, 4, 4, 4, 4, 4, 4, 5, 5, 5, 5, 5, 5, 5, 5, 5, 5, 5, 5, 5, 5, 5, 5, 6, 6, 6, 6, 6, 6, 6, 6, 6, 6, 6, 6, 6, 6, 6, 6, 6, 6, 6, 6, 6, 6, 6, 6, 6, 6, 6, 6, 6, 6, 6, 6, 7, 7, 7, 7, 7, 7, 7, 7, 7, 7, 7, 7, 7, 7, 7, 7, 7, 7, 7, 7, 7, 7, 7, 7, 7, 7, 7, 7, 7, 7, 7, 7, 7, 7, 7, 7, 7, 7, 7, 7, 7, 7, 7, 7, 7, 7, 7, 7, 7, 7, 7, 7, 7, 7, 7, 7, 7, 7, 7, 7, 7, 7, 7, 7, 8, 8, 8, 8, 8, 8, 8, 8, 8, 8, 8, 8, 8, 8, 8, 8, 8, 8, 8, 8, 8, 8, 8, 8, 8, 8, 8, 8, 8, 8, 8, 8, 8, 8, 8, 8, 8, 8, 8, 8, 8, 8, 8, 8, 8, 8, 8, 8, 8, 8, 8, 8, 8, 8, 8, 8, 8, 8, 8, 8, 8, 8, 8, 8, 8, 8, 8, 8, 8, 8, 8, 8, 8, 8, 8, 8, 8, 8, 8, 8, 8, 8, 8, 8, 8, 8, 8, 8, 8, 8, 8, 8, 8, 8, 8, 8, 8, 8, 8, 8, 8, 8, 8, 8, 8, 8, 8, 8, 8, 8, 8, 8, 8, 8, 8, 8, 8, 8, 8, 8, 8, 8, 8, 8, 8, 8, 8, 8] : List UInt8)[i]?.getD 0).toNat = bitsN i := by
 have h : ((List.range 256).all fun i => (([0, 1, 2, 2, 3, 3, 3, 3, 4, 4, 4, 4, 4, 4, 4, 4, 5, 5, 5, 5, 5, 5, 5, 5, 5, 5, 5, 5, 5, 5, 5, 5, 6, 6, 6, 6, 6, 6, 6, 6, 6, 6, 6, 6, 6, 6, 6, 6, 6, 6, 6, 6, 6, 6, 6, 6, 6, 6, 6, 6, 6, 6, 6, 6, 7, 7, 7, 7, 7, 7, 7, 7, 7, 7, 7, 7, 7, 7, 7, 7, 7, 7, 7, 7, 7, 7, 7, 7, 7, 7, 7, 7, 7, 7, 7, 7, 7, 7, 7, 7, 7, 7, 7, 7, 7, 7, 7, 7, 7, 7, 7, 7, 7, 7, 7, 7, 7, 7, 7, 7, 7, 7, 7, 7, 7, 7, 7, 7, 8, 8, 8, 8, 8, 8, 8, 8, 8, 8, 8, 8, 8, 8, 8, 8, 8, 8, 8, 8, 8, 8, 8, 8, 8, 8, 8, 8, 8, 8, 8, 8, 8, 8, 8, 8, 8, 8, 8, 8, 8, 8, 8, 8, 8, 8, 8, 8, 8, 8, 8, 8, 8, 8, 8, 8, 8, 8, 8, 8, 8, 8, 8, 8, 8, 8, 8, 8, 8, 8, 8, 8, 8, 8, 8, 8, 8, 8, 8, 8, 8, 8, 8, 8, 8, 8, 8, 8, 8, 8, 8, 8, 8, 8, 8, 8, 8, 8, 8, 8, 8, 8, 8, 8, 8, 8, 8, 8, 8, 8, 8, 8, 8, 8, 8, 8, 8, 8, 8, 8, 8, 8, 8, 8, 8, 8, 8, 8] : List UInt8)[i]?.getD 0).toNat == bitsN i) = true := by kernel_rfl
 intro i hi
 have := List.all_eq_true.1 h i (List.mem_range.2 hi)
 exact eq_of_beq this

set_option maxHeartbeats 1000000 in
theorem o_et (x : Nat) (hx : x < 18446744073709551616) : Eqn Tryd.prog o_c8 [.d (.int .u64 x)] [] (.d (.int .i64 (bitsN x))) [] := by
 refine Eqn.pure o_ca (o_5k _) ?_
 simp only [o_c9]
 obtain ⟨x1, n1, h1, hx1, hn1, e1⟩ : ∃ x1 n1 : Nat, (x1, n1) = (if 4294967296 ≤ x then (x / 4294967296, 32) else (x, 0)) ∧ x1 < 4294967296 ∧ n1 ≤ 32 ∧ bitsN x = n1 + bitsN x1 := by
  by_cases h : 4294967296 ≤ x
  ·exact ⟨x / 4294967296, 32, by rw [if_pos h], by omega, by omega, o_ef (k := 32) h⟩
  ·exact ⟨x, 0, by rw [if_neg h], by omega, by omega, by omega⟩
 obtain ⟨x2, n2, h2, hx2, hn2, e2⟩ : ∃ x2 n2 : Nat, (x2, n2) = (if 65536 ≤ x1 then (x1 / 65536, n1 + 16) else (x1, n1)) ∧ x2 < 65536 ∧ n2 ≤ 48 ∧ bitsN x = n2 + bitsN x2 := by
  by_cases h : 65536 ≤ x1
  ·exact ⟨x1 / 65536, n1 + 16, by rw [if_pos h], by omega, by omega, by have := o_ef (k := 16) h; rw [e1, this]; simp; omega⟩
  ·exact ⟨x1, n1, by rw [if_neg h], by omega, by omega, by omega⟩
 obtain ⟨x3, n3, h3, hx3, hn3, e3⟩ : ∃ x3 n3 : Nat, (x3, n3) = (if 256 ≤ x2 then (x2 / 256, n2 + 8) else (x2, n2)) ∧ x3 < 256 ∧ n3 ≤ 56 ∧ bitsN x = n3 + bitsN x3 := by
  by_cases h : 256 ≤ x2
  ·exact ⟨x2 / 256, n2 + 8, by rw [if_pos h], by omega, by omega, by have := o_ef (k := 8) h; rw [e2, this]; simp; omega⟩
  ·exact ⟨x2, n2, by rw [if_neg h], by omega, by omega, by omega⟩
 rw [e3]
 clear e1 e2 e3
 refine AW.seq (AW.reg mix ?_)
 (simp -implicitDefEqProofs; try simp (disch := omega) only [w64, wu64])
 refine AW.cut 0 [(0, .d (.int .u64 x1)), (2, .d (.int .i64 n1))] [] (by simp) (by simp) ?_ ?_
 ·have hd : (x : Int) / 4294967296 = (x / 4294967296 : Nat) := rfl
  refine G0 ?_; try with_reducible exact tt
  refine AW.cond rfl (fun h => ?_) (fun h => ?_)
  ·rw [if_pos (by simp at h; omega)] at h1
   cases h1
   generalize x / 4294967296 = q at *
   refine G1 hd ?_; try with_reducible exact tt
  ·rw [if_neg (by simp at h; omega)] at h1
   cases h1
   refine G0 ?_; try with_reducible exact tt
 clear h1 hx
 simp
 refine AW.cut 0 [(0, .d (.int .u64 x2)), (2, .d (.int .i64 n2))] [] (by simp) (by simp) ?_ ?_
 ·have hd : (x1 : Int) / 65536 = (x1 / 65536 : Nat) := rfl
  have ew : IntKind.i64.wrap ((n1 : Int) + 16) = ((n1 + 16 : Nat) : Int) := w64 (by omega) (by omega)
  refine G0 ?_; try with_reducible exact tt
  refine AW.cond rfl (fun h => ?_) (fun h => ?_)
  ·rw [if_pos (by simp at h; omega)] at h2
   cases h2
   generalize x1 / 65536 = q at *
   refine G1 (fs hd ew) ?_; try with_reducible exact tt
  ·rw [if_neg (by simp at h; omega)] at h2
   cases h2
   refine G0 ?_; try with_reducible exact tt
 clear h2 hx1 hn1
 simp
 refine AW.cut 0 [(0, .d (.int .u64 x3)), (2, .d (.int .i64 n3))] [] (by simp) (by simp) ?_ ?_
 ·have hd : (x2 : Int) / 256 = (x2 / 256 : Nat) := rfl
  have ew : IntKind.i64.wrap ((n2 : Int) + 8) = ((n2 + 8 : Nat) : Int) := w64 (by omega) (by omega)
  refine G0 ?_; try with_reducible exact tt
  refine AW.cond rfl (fun h => ?_) (fun h => ?_)
  ·rw [if_pos (by simp at h; omega)] at h3
   cases h3
   generalize x2 / 256 = q at *
   refine G1 (fs hd ew) ?_; try with_reducible exact tt
  ·rw [if_neg (by simp at h; omega)] at h3
   cases h3
   refine G0 ?_; try with_reducible exact tt
 clear h3 hx2 hn2
 simp
 have ew1 : IntKind.u8.wrap (x3 : Int) = x3 := by rw [show IntKind.u8.wrap (x3 : Int) = (x3 : Int) % 256 from rfl]; omega
 have hb := o_es x3 hx3
 have hB : bitsN x3 ≤ 8 := o_ee (by omega)
 have ew2 : IntKind.i64.wrap (bitsN x3 : Int) = bitsN x3 := w64 (by omega) (by omega)
 have ew3 : IntKind.i64.wrap ((n3 : Int) + bitsN x3) = (n3 : Int) + bitsN x3 := w64 (by omega) (by omega)
 refine AW.seq (AW.reg mix ?_)
 simp [ew1, hb, ew2, ew3]
 refine need.of (Nat.lt_of_lt_of_le hx3 (by decide)) ?_
 refine G0 ?_; try with_reducible exact tt

theorem o_eu (x : Nat) (hx : x < 18446744073709551616) : Eqn Tryd.prog o_bh [.d (.int .u64 x)] [] (.d (.int .i64 (64 - bitsN x : Nat))) [] := by
 refine Eqn.pure o_bj (o_5k _) ?_
 simp only [o_bi]
 have hB : bitsN x ≤ 64 := o_ee (by omega)
 refine G0 ?_; try with_reducible exact tt
 refine CallS.pu (o_et x hx) (R0 ?_); try with_reducible exact tt
 exact Sub1.int (by omega)

theorem o_ev {l : List Nat} {x : Nat} (hs : small l) (h0 : 0 < x) : bitsN (wval (l ++ [x])) = 64 * l.length + bitsN x := by
 have hp : (18446744073709551616 : Nat) ^ l.length = 2 ^ (64 * l.length) := by rw [show (18446744073709551616 : Nat) = 2 ^ 64 by rfl, ← Nat.pow_mul]
 have hlt := o_2 hs
 have hv : wval (l ++ [x]) = wval l + 2 ^ (64 * l.length) * x := by rw [o_0, hp]; simp [wval]
 rw [hp] at hlt
 rw [hv, o_ef (k := 64 * l.length) (by have := Nat.le_mul_of_pos_right (2 ^ (64 * l.length)) h0; omega), Nat.add_mul_div_left _ _ (Nat.two_pow_pos _), Nat.div_eq_of_lt hlt, Nat.zero_add]

theorem o_ew (n : Nat) (hn : size n ≤ 1000000) : Eqn Tryd.prog o_c5 [.d (.agg [natW n])] [] (.d (.int .i64 (bitsN n))) [] := by
 refine Eqn.pure o_c7 (o_5k _) ?_
 simp only [o_c6, natW, W]
 unfold size at hn
 have hs := o_cn n
 have ht := o_co n
 have hv := o_cm n
 generalize words n = ws at *
 rcases List.eq_nil_or_concat ws with rfl | ⟨l, x, rfl⟩
 ·refine G0 ?_; try with_reducible exact tt
  refine AW.cond rfl (fun h => ?_) (fun h => ?_)
  ·refine G0 ?_; try with_reducible exact tt
   rw [← hv]
   exact Sub1.refl _
  ·simp at h
 ·rw [List.concat_eq_append] at *
  have hx0 : 0 < x := by
   have := ht l.length (by simp)
   simp [List.getD] at this
   omega
  have hx : x < 18446744073709551616 := hs x (by simp)
  have hb := o_ev (l := l) (x := x) (fun y hy => hs y (by simp [hy])) hx0
  rw [hv] at hb
  have hB : bitsN x ≤ 64 := o_ee (by omega)
  have hll : l.length ≤ 1000000 := by simp at hn; omega
  have e1 : IntKind.i64.wrap ((l.length : Int) + 1 - 1) = (l.length : Int) := by rw [Int.add_sub_cancel]; exact w64 (by omega) (by omega)
  have e2 : IntKind.i64.wrap ((64 : Int) * l.length) = ((64 * l.length : Nat) : Int) := w64 (by omega) (by omega)
  have e0 : IntKind.i64.wrap (l.length : Int) = (l.length : Int) := w64 (by omega) (by omega)
  have hne : ¬ (l.length : Int) + 1 = 0 := by omega
  refine G1 (fs hne (fs e1 (fs e2 e0))) ?_; try with_reducible exact tt
  refine AW.cond rfl (fun h => ?_) (fun h => ?_)
  ·simp at h
   omega
  rw [hb]
  have e3 : IntKind.i64.wrap (((64 * l.length : Nat) : Int) + bitsN x) = ((64 * l.length + bitsN x : Nat) : Int) := w64 (by omega) (by omega)
  generalize 64 * l.length = q at *
  refine G1 (fs hne (fs e1 (fs e2 e0))) ?_; try with_reducible exact tt
  refine CallS.pu (o_et x hx) (R1 e3 ?_); try with_reducible exact tt

theorem o_ex (n : Nat) (l : List D) (hl : l.length = n) (h0 : 0 < n) (hn : n ≤ 4000000000) : Eqn Tryd.prog o_8l [.d (.sl n l)] [] (.own 0 1 n) [⟨34, l.map .d⟩] := by
 refine Eqn.newX o_8n rfl (o_5s _) (fun n => rfl) ?_
 simp only [o_8m]
 refine G1 h0 ?_; try with_reducible exact tt
 refine AW.cond rfl (fun h => ?_) (fun h => ?_)
 ·simp at h
 ·refine G0 ?_; try with_reducible exact tt
  have h1 : ¬ n = 0 := by omega
  simp [h1, hl]
  refine need.of (by omega) ?_
  refine G0 ?_; try with_reducible exact tt
  exact ⟨0, Sub1.refl _, _, rfl, rfl, Subs.refl _⟩

def shrI (k : Nat) (A : List Nat) (i : Nat) : List Nat := (shrL k A).take i ++ A.drop i
theorem o_ey (k : Nat) : ∀ (A : List Nat) (i : Nat), i < A.length → (shrL k A).getD i 0 = A.getD i 0 / 2 ^ k + A.getD (i + 1) 0 * 2 ^ (64 - k) % 18446744073709551616
 | [], i, h => by simp at h
 | x :: l, 0, h => by simp [shrL]
 | x :: l, i + 1, h => by
  have := o_ey k l i (by simpa using h)
  simpa [shrL] using this
theorem o_ez (k : Nat) (A : List Nat) (i : Nat) (h : i ≤ A.length) : (shrI k A i).length = A.length := by
 rw [shrI, List.length_append, List.length_take, o_eo, List.length_drop]; omega
theorem o_f0 (k : Nat) (A : List Nat) (i j : Nat) (h : i ≤ j) (hj : j < A.length) : (shrI k A i)[j]? = some (A.getD j 0) := by
 rw [shrI, List.getElem?_append_right (by rw [List.length_take, o_eo]; omega), List.length_take, o_eo, List.getElem?_drop, show i + (j - min i A.length) = j by omega]
 simp [List.getD, hj]
theorem o_f1 (k : Nat) (A : List Nat) (i : Nat) (h : i < A.length) (y : Nat) (hy : y = (shrL k A).getD i 0) : (shrI k A i).set i y = shrI k A (i + 1) := by
 have hi : ((shrL k A).take i).length = i := by rw [List.length_take, o_eo]; omega
 rw [shrI, shrI, List.set_append_right _ _ (by omega), hi, Nat.sub_self, o_3 _ _ (by rw [o_eo]; exact h), ← hy, List.append_assoc]
 congr 1
 rw [List.drop_eq_getElem_cons h]
 rfl
theorem o_f2 (k : Nat) (A : List Nat) : shrI k A A.length = shrL k A := by
 rw [shrI, List.drop_length, List.append_nil, List.take_of_length_le (by rw [o_eo]; omega)]

theorem o_f3 {k x y : Nat} (hk : k < 64) (hx : x < 18446744073709551616) : x / 2 ^ k ||| (y * 2 ^ (64 - k) % 18446744073709551616) = x / 2 ^ k + y * 2 ^ (64 - k) % 18446744073709551616 := by
 have hB : (18446744073709551616 : Nat) = 2 ^ k * 2 ^ (64 - k) := by rw [← Nat.pow_add, show k + (64 - k) = 64 by omega]
 have h6 : x / 2 ^ k < 2 ^ (64 - k) := by
  rw [Nat.div_lt_iff_lt_mul (Nat.two_pow_pos k), Nat.mul_comm, ← hB]; exact hx
 have e : y * 2 ^ (64 - k) % 18446744073709551616 = 2 ^ (64 - k) * (y % 2 ^ k) := by rw [hB, Nat.mul_mod_mul_right, Nat.mul_comm]
 rw [e, Nat.or_comm, ← Nat.two_pow_add_eq_or_of_lt h6, Nat.add_comm]

set_option maxHeartbeats 2000000 in
theorem o_f4 (a n : Nat) (ha : size a ≤ 1000000) (hn : n ≤ 1000000000) : Eqn Tryd.prog o_c2 [.d (.agg [natW a]), .d (.int .i64 n)] [] (.d (.agg [natW (a / 2 ^ n)])) [] := by
 refine Eqn.pure o_c4 (o_5k _) ?_
 simp only [o_c3]
 rw [show natW a = .sl (words a).length ((words a).map fun x : Nat => .int .u64 x) from rfl]
 unfold size at ha
 have hs := o_cn a
 have hv := o_cm a
 generalize words a = ws at *
 have hm : max 0 (n : Int) = n := by omega
 have hq : (n : Int) / 64 = (n / 64 : Nat) := rfl
 have hr : (n : Int).tmod 64 = (n % 64 : Nat) := by rw [Int.tmod_eq_emod_of_nonneg (by omega)]; rfl
 have hval : wval (shrL (n % 64) (ws.drop (n / 64))) = a / 2 ^ n ∧ small (shrL (n % 64) (ws.drop (n / 64))) := by
  obtain ⟨h1, h2⟩ := o_eq (k := n % 64) (by omega) (ws.drop (n / 64)) (fun x hx => hs x (List.mem_of_mem_drop hx))
  refine ⟨?_, h2⟩
  rw [h1, o_er _ _ hs, hv, show (18446744073709551616 : Nat) = 2 ^ 64 by rfl, ← Nat.pow_mul, Nat.div_div_eq_div_mul, ← Nat.pow_add, Nat.div_add_mod]
 have hmk : n % 64 < 64 := by omega
 have hqn : n / 64 ≤ n := Nat.div_le_self _ _
 generalize hk : n % 64 = k at *
 generalize n / 64 = q at *
 refine G1 (fs hm hq) ?_; try with_reducible exact tt
 refine AW.cond rfl (fun h => ?_) (fun h => ?_)
 ·have hlen : ws.length ≤ q := by simp at h; omega
  refine G0 ?_; try with_reducible exact tt
  rw [List.drop_of_length_le hlen] at hval
  rw [← hval.1]
  exact Sub1.nat0
 ·have hlt : q < ws.length := by simp at h; omega
  have hlt' : (q : Int) < ws.length := by omega
  have hb1 : ((ws.length : Int) - q).toNat = (ws.drop q).length := by rw [List.length_drop]; omega
  have hbp : 0 < (ws.drop q).length ∧ (ws.drop q).length ≤ 1000000 := by rw [List.length_drop]; omega
  have hsB : small (ws.drop q) := fun x hx => hs x (List.mem_of_mem_drop hx)
  have htk : (V.d (.sl ((ws.length : Int) - q).toNat (((ws.map fun x : Nat => D.int .u64 x).drop ((q : Int)).toNat).take ((ws.length : Int) - q).toNat)) : V) = .d (.sl (ws.drop q).length ((ws.drop q).map fun x : Nat => D.int .u64 x)) := by
   rw [hb1, Int.toNat_natCast, ← List.map_drop, List.take_of_length_le (by simp)]
  refine G1 (fs hm (fs hq hlt')) ?_; try with_reducible exact tt
  generalize hB : ws.drop q = B at *
  refine CallS.newX (o_ex B.length (B.map fun x : Nat => .int .u64 x) (by simp) hbp.1 (by omega)) (o_5s _) rfl (fun _ => rfl) (Subs.of (by rw [htk])) ?_
  rw [show ((B.map fun x : Nat => D.int .u64 x).map V.d) = U (shrI k B 0) by simp [U, shrI]]
  simp
  refine G1 hr ?_; try with_reducible exact tt
  clear htk hb1 hv hs ha hB hlt hlt'
  refine AW.loopT (α := Nat) 3 (fun i => [(6, .d (.int .i64 (i : Int)))]) (fun i => [(2, ⟨34, U (shrI k B i)⟩)]) (fun i => i ≤ B.length) (fun i => B.length - i) 0 ?_ ?_ (Nat.zero_le _) ?_ ?_ ?_
  ·simp
  ·simp
  ·simp
  ·simp
  rintro i hi
  simp
  by_cases h : i = B.length
  ·subst h
   refine G0 ?_; try with_reducible exact tt
   refine AW.cond rfl (fun h => ?_) (fun h => ?_)
   ·simp at h
   refine AW.exit ?_
   (try (simp -implicitDefEqProofs; try simp (disch := omega) only [w64, wu64]))
   rw [o_f2]
   have hl : (shrL k B).length = B.length := o_eo k B
   have hvw : natW (a / 2 ^ n) = natW (wval (shrL k B)) := by rw [hval.1]
   rw [hvw]
   have hsm := hval.2
   generalize shrL k B = r at hl hsm ⊢
   have hcell : U r = (r.map fun x : Nat => D.int .u64 x).map V.d := by simp [U]
   rw [hcell]
   refine AW.freeze 2 1 ⟨34, _⟩ (r.map fun x : Nat => .int .u64 x) (by rfl) (by rfl) ?_
   simp [← hl, List.take_of_length_le]
   refine G0 ?_; try with_reducible exact tt
   refine CallS.pu (o_cv r hsm (by omega)) (R0 ?_); try with_reducible exact tt
  ·have hi' : i < B.length := by omega
   have hp : (i : Int) < B.length := by omega
   have hxB : B.getD i 0 < 18446744073709551616 := hsB.getD i
   have hset : ∀ z : Nat, z = (shrL k B).getD i 0 → (U (shrI k B i)).set i (.d (.int .u64 z)) = U (shrI k B (i + 1)) := fun z hz => by
    rw [← o_f1 k B i hi' z hz, U, U, List.map_set]
   have hg := o_ey k B i hi'
   have hl : (U (shrI k B i)).length = B.length := by simp [U, o_ez k B i hi]
   have hq1 : (U (shrI k B i))[i]? = some (.d (.int .u64 (B.getD i 0 : Nat))) := by
    rw [U, List.getElem?_map, o_f0 k B i i (Nat.le_refl _) hi']; rfl
   have hq2 : i + 1 < B.length → (U (shrI k B i))[i + 1]? = some (.d (.int .u64 (B.getD (i + 1) 0 : Nat))) := fun h => by
    rw [U, List.getElem?_map, o_f0 k B i (i + 1) (by omega) h]; rfl
   have hor := o_f3 (k := k) (x := B.getD i 0) (y := B.getD (i + 1) 0) hmk hxB
   rw [← hg] at hor
   have hu : ((B.getD i 0 : Nat) : Int) / 2 ^ k = ((B.getD i 0 / 2 ^ k : Nat) : Int) := by rw [Int.natCast_ediv, Int.natCast_pow]; rfl
   have hule : B.getD i 0 / 2 ^ k ≤ B.getD i 0 := Nat.div_le_self _ _
   have hw : IntKind.u64.wrap (((B.getD (i + 1) 0 : Nat) : Int) * 2 ^ (64 - k)) = ((B.getD (i + 1) 0 * 2 ^ (64 - k) % 18446744073709551616 : Nat) : Int) := by
    rw [IntKind.wrap_u64, Int.natCast_emod, Int.natCast_mul, Int.natCast_pow]; rfl
   have hwl : B.getD (i + 1) 0 * 2 ^ (64 - k) % 18446744073709551616 < 18446744073709551616 := Nat.mod_lt _ (by decide)
   have hlast : ¬ i + 1 < B.length → B.getD i 0 / 2 ^ k = (shrL k B).getD i 0 := fun h => by
    rw [hg, o_d3 h]; simp
   have hls : (shrL k B).length = B.length := o_eo k B
   generalize B.getD i 0 / 2 ^ k = u at *
   generalize B.getD i 0 = x at *
   generalize B.getD (i + 1) 0 * 2 ^ (64 - k) % 18446744073709551616 = t at *
   generalize B.getD (i + 1) 0 = y at *
   have hb := bits_or_u64_nat u t (by omega) hwl
   rw [hor] at hb
   have hz := hset _ rfl
   generalize (shrL k B).getD i 0 = z at *
   generalize U (shrI k B i) = cm at *
   have e1 : IntKind.i64.wrap ((i : Int) + 1) = (i : Int) + 1 := w64 (by omega) (by omega)
   have e2 : IntKind.i64.wrap ((64 : Int) - k) = (64 : Int) - k := w64 (by omega) (by omega)
   have hn : ((64 : Int) - k).toNat = 64 - k := by omega
   have e3 : (((i : Int) + 1)).toNat = i + 1 := by omega
   have hkl : (k : Int) ≤ 64 := by omega
   have hg1 : ∀ h, cm[i]'h = .d (.int .u64 x) := fun h => by
    have := List.getElem?_eq_getElem h
    rw [hq1] at this
    exact (Option.some.inj this).symm
   have hg2 : ∀ h, cm[i + 1]'h = .d (.int .u64 y) := fun h => by
    have := List.getElem?_eq_getElem h
    rw [hq2 (by omega)] at this
    exact (Option.some.inj this).symm
   refine G1 (fs hi' hp) ?_; try with_reducible exact tt
   refine AW.cond rfl (fun h => ?_) (fun h => ?_)
   ·by_cases hl1 : i + 1 < B.length
    ·have hlp : (i : Int) + 1 < B.length := by omega
     refine G1 (fs hi' (fs hp (fs hl (fs hg1 (fs hu (fs e1 hlp)))))) ?_; try with_reducible exact tt
     refine AW.cond rfl (fun h => ?_) (fun h => ?_)
     ·have hne : ¬ i = i + 1 := by omega
      have h64 : (64 - k : Int) ≤ 64 := by omega
      refine G1 (fs hi' (fs hp (fs hl (fs hg1 (fs hg2 (fs hu (fs e1 (fs hlp (fs hl1 (fs e2 (fs hn (fs e3 (fs hne (fs hw (fs hb hz))))))))))))))) ?_; try with_reducible exact tt
      exact ⟨i + 1, by omega, by omega, by simp, by simp⟩
     ·simp at h
    ·have hlp : ¬ (i : Int) + 1 < B.length := by omega
     refine G1 (fs hi' (fs hp (fs hl (fs hg1 (fs hu (fs e1 hlp)))))) ?_; try with_reducible exact tt
     refine AW.cond rfl (fun h => ?_) (fun h => ?_)
     ·simp at h
     ·have := hlast hl1
      subst this
      refine G1 e1 ?_; try with_reducible exact tt
      refine ⟨i + 1, by omega, by omega, by simp, ?_⟩
      rw [hset u rfl]
      exact Subs.refl _
   ·simp at h
end
end Go.Proofs.YtlelpbaeplcfiaaDoor.Am
namespace Go.Proofs.YtlelpbaeplcfiaaDoor.Am
section
open Go.RowKit
theorem o_f5 (s : Int) : Eqn Tryd.prog o_80 [.d (.int .i64 s)] [] (.d (.bool (decide (1 ≤ s ∧ s ≤ 5)))) [] := by
 refine Eqn.pure o_82 (o_5k _) ?_
 simp only [o_81]
 by_cases h : 1 ≤ s
 ·refine G1 h ?_; try with_reducible exact tt
 ·refine G1 h ?_; try with_reducible exact tt

theorem o_f6 {x m : Nat} (h : x < 2 ^ (64 * m)) : size x ≤ m := by
 apply o_j (o_co x)
 rw [o_cm, show (18446744073709551616 : Nat) = 2 ^ 64 by rfl, ← Nat.pow_mul]
 exact h

theorem o_f7 {a b m : Nat} (ha : size a ≤ m) (hb : size b ≤ m) : size (a + b) ≤ m + 1 := by
 refine o_f6 ?_
 have h1 := o_2 (o_cn a)
 have h2 := o_2 (o_cn b)
 rw [o_cm, show (18446744073709551616 : Nat) = 2 ^ 64 by rfl, ← Nat.pow_mul] at h1 h2
 have h3 : (2 : Nat) ^ (64 * (words a).length) ≤ 2 ^ (64 * m) := Nat.pow_le_pow_right (by omega) (by unfold size at ha; omega)
 have h4 : (2 : Nat) ^ (64 * (words b).length) ≤ 2 ^ (64 * m) := Nat.pow_le_pow_right (by omega) (by unfold size at hb; omega)
 have h5 : (2 : Nat) ^ (64 * (m + 1)) = 2 ^ (64 * m) * 18446744073709551616 := by rw [show 64 * (m + 1) = 64 * m + 64 by omega, Nat.pow_add]
 rw [h5]
 generalize (2 : Nat) ^ (64 * m) = z at *
 omega

theorem o_f8 {x n m : Nat} (h : x < 2 ^ n) (hm : n ≤ 64 * m) : size x ≤ m :=
 o_f6 (Nat.lt_of_lt_of_le h (Nat.pow_le_pow_right (by omega) hm))
theorem o_f9 (t : Nat) : bitsN t ≤ 64 * size t := by
 apply o_ee
 have h1 := o_2 (o_cn t)
 rw [o_cm, show (18446744073709551616 : Nat) = 2 ^ 64 by rfl, ← Nat.pow_mul] at h1
 exact h1
theorem o_fa (s t : Nat) (hs : s ≤ 5) (ht : size t ≤ 1000) : Eqn Tryd.prog o_be [.d (.int .i64 s), .d (.agg [natW t])] [] (.d (.int .i64 (shiftY s t))) [] := by
 refine Eqn.pure o_bg (o_5k _) ?_
 simp only [o_bf]
 have hb := o_f9 t
 refine G0 ?_; try with_reducible exact tt
 refine CallS.pu (o_ew t (by omega)) (R0 ?_); try with_reducible exact tt
 have e1 : IntKind.i64.wrap ((bitsN t : Int) - 1) = (bitsN t : Int) - 1 := w64 (by omega) (by omega)
 have e2 : IntKind.i64.wrap (2 * (s : Int)) = 2 * (s : Int) := w64 (by omega) (by omega)
 have e3 : IntKind.i64.wrap ((bitsN t : Int) - 1 - 2 * (s : Int)) = (bitsN t : Int) - 1 - 2 * (s : Int) := w64 (by omega) (by omega)
 have e4 : max 0 ((bitsN t : Int) - 1 - 2 * (s : Int)) = (shiftY s t : Int) := by unfold shiftY; omega
 simp [e1, e2, e3, e4]

theorem o_fb (s t : Nat) (hs : s ≤ 5) (ht : size t ≤ 1000) : Eqn Tryd.prog o_bb [.d (.int .i64 s), .d (.agg [natW t])] [] (.d (.agg [natW (moreY s t)])) [] := by
 refine Eqn.pure o_bd (o_5k _) ?_
 simp only [o_bc]
 have hq := Nat.div_le_self t (2 ^ s)
 have hq2 := Nat.div_mul_le_self t (2 ^ s)
 have hm : moreY s t = t + (if t / 2 ^ s * 2 ^ s < t then t / 2 ^ s + 1 else t / 2 ^ s) := rfl
 rw [hm]
 have s1 := o_dg hq
 have s2 := o_dg hq2
 have s1' : size 1 ≤ 1 := o_dw (by omega)
 refine G0 ?_; try with_reducible exact tt
 refine CallS.pu (o_f4 t s (by omega) (by omega)) (R0 ?_); try with_reducible exact tt
 refine CallS.pu (o_dq (t / 2 ^ s) s (by omega) (by omega)) (R0 ?_); try with_reducible exact tt
 generalize hQ : t / 2 ^ s = q at *
 generalize q * 2 ^ s = b at *
 refine CallS.pu (o_cz b t (by omega) (by omega)) (R0 ?_); try with_reducible exact tt
 have hb : size (q + 1) ≤ 1001 := by
  have := o_f7 (a := q) (b := 1) (m := 1000) (by omega) (by omega)
  omega
 by_cases hlt : b < t
 ·simp only [if_pos hlt]
  refine AW.cond rfl (fun h => ?_) (fun h => ?_)
  ·refine G0 ?_; try with_reducible exact tt
   refine CallS.pf 4 1 ⟨34, _⟩ [.int .u64 (1 : Nat)] (o_cw [1] (o_ds (by omega)) (by simp)) (by first | rfl | (simp; done)) (R0 ?_); try with_reducible exact tt
   refine CallS.pu (o_dd q 1 (by omega) (by omega)) (R0 ?_); try with_reducible exact tt
   refine CallS.pu (o_dd t (q + 1) (by omega) (by omega)) (R0 ?_); try with_reducible exact tt
  ·simp [o_dt, hlt] at h
 ·simp only [if_neg hlt]
  refine AW.cond rfl (fun h => ?_) (fun h => ?_)
  ·simp [o_dt, hlt] at h
  ·refine G0 ?_; try with_reducible exact tt
   refine CallS.pu (o_dd t q (by omega) (by omega)) (R0 ?_); try with_reducible exact tt

def plD (p : Pl) : D := .agg [.int .i64 p.x, .int .i64 p.shift, natW p.value, natW p.reply]

theorem o_fc {s t : Nat} : moreY s t ≤ 4 * t := by
 unfold moreY
 have h1 := Nat.div_le_self t (2 ^ s)
 split
 ·rename_i h
  have : 0 < t := by omega
  omega
 ·omega

theorem o_fd (s : Nat) (p : Pl) (hs : s ≤ 5) (hx : p.x ≤ 100000) (h1 : p.shift ≤ 8192) (h2 : size p.value ≤ 900) (h3 : size p.reply ≤ 900) :
  Eqn Tryd.prog o_a5 [.d (plD p), .d (.int .i64 s)] [] (.d (plD (nextY s p))) [] := by
 refine Eqn.pure o_a7 (o_5k _) ?_
 obtain ⟨x, sh, v, r⟩ := p
 simp only at hx h1 h2 h3
 simp only [o_a6, plD, nextY]
 have s1 : size 1 ≤ 1 := o_dw (by omega)
 have hsz : size (1 * 2 ^ sh) ≤ 129 := o_f8 (n := sh + 1) (by rw [Nat.one_mul]; exact Nat.pow_lt_pow_right (by omega) (Nat.lt_succ_self _)) (by omega)
 have hv := o_f7 (m := 900) h2 (by omega : size (1 * 2 ^ sh) ≤ 900)
 refine G0 ?_; try with_reducible exact tt
 refine CallS.pf 2 1 ⟨34, _⟩ [.int .u64 (1 : Nat)] (o_cw [1] (o_ds (by omega)) (by simp)) (by first | rfl | (simp; done)) (R0 ?_); try with_reducible exact tt
 refine CallS.pu (o_dq 1 sh (by omega) h1) (R0 ?_); try with_reducible exact tt
 rw [Nat.one_mul] at hsz hv
 generalize 2 ^ sh = st at *
 refine CallS.pu (o_dd v st (by omega) (by omega)) (R0 ?_); try with_reducible exact tt
 refine CallS.pu (o_cz (v + st) r (by omega) (by omega)) (R0 ?_); try with_reducible exact tt
 have hge : (0 ≤ cmpZ (v + st) r) ↔ r ≤ v + st := by
  unfold cmpZ; split <;> (try split) <;> omega
 by_cases hr : r ≤ v + st
 ·simp only [if_pos hr]
  have ew : IntKind.i64.wrap ((x : Int) + 1) = (x : Int) + 1 := w64 (by omega) (by omega)
  refine AW.cond rfl (fun h => ?_) (fun h => ?_)
  ·have hm := o_fc (s := s) (t := r)
   have hms := o_dg hm
   have hrr := o_f7 h3 h3
   have hmsz : size (moreY s r) ≤ 1000 := by
    have := o_f7 hrr hrr
    have h4 : r + r + (r + r) = 4 * r := by omega
    rw [h4] at this
    omega
   refine G1 ew ?_; try with_reducible exact tt
   refine CallS.pu (o_fb s r hs (by omega)) (R0 ?_); try with_reducible exact tt
   refine CallS.pu (o_fa s (moreY s r) hs hmsz) (R0 ?_); try with_reducible exact tt
  ·simp [hge, hr] at h
 ·simp only [if_neg hr]
  refine AW.cond rfl (fun h => ?_) (fun h => ?_)
  ·simp [hge, hr] at h
  ·refine G0 ?_; try with_reducible exact tt
end
end Go.Proofs.YtlelpbaeplcfiaaDoor.Am
namespace Go.Proofs.YtlelpbaeplcfiaaDoor.Am
section
open Go.RowKit
theorem o_fe (s : Nat) : Eqn Tryd.prog n_yu_walk [.d (.int .i64 s)] [] (.fn (.func o_a3) [.p 0 0]) [⟨3, [.d (.int .i64 s)]⟩] := by
 refine Eqn.newX r_yu_walk rfl ⟨rfl, fun _ => rfl⟩ (fun n => rfl) ?_
 simp only [c_yu_walk]
 refine G0 ?_; try with_reducible exact tt
 exact ⟨0, Sub1.refl _, _, rfl, rfl, Subs.refl _⟩

structure WalkS where
 r0 : C
 r1 : C
 g : C
 os : List O
 call : Option (Nat × List Nat × Option Nat)
 o4 : O
 cy : X
 r5 : C
 r6 : C
 ids : Nat × Nat
 calm : Bool
 res : Nat
 nt : Nat
def callS (o : Oper) : Option (Nat × List Nat × Option Nat) := match o.op, o.guard with
 | .call c, none => match c.callee, c.args.toList with
  | .value (.tmp f), [.tmp x, .tmp y] => some (f, [x, y], o.dst)
  | _, _ => none
 | _, _ => none
def walkS (P : Program) (f : FuncId) : Option WalkS := match P.funcs[f]? with
 | some fn => match fn.body with
  | some (.seq r0 (.seq r1 (.block i0 (.loop (.seq g (.seq (.block i1 (.seq (.seq (.region _ ops false) (.cond cy .ret .skip)) r5)) r6)))))) => match ops.toList with
   | [o0, o1, o2, o3, o4] => some ⟨resolveC P r0, resolveC P r1, resolveC P g, [o0, o1, o2].map (resolveO P ops), callS o3, resolveO P ops o4, X.of cy, resolveC P r5, resolveC P r6, (i0, i1), [o0, o1, o2].all notDefer && [o4].all notDefer, fn.results.size, fn.ntmps⟩
   | _ => none
  | _ => none
 | none => none
theorem o_ff {P : Program} {f : FuncId} {s : WalkS} (h : walkS P f = some s) : ∃ (fn : Func) (r0 r1 g r5 r6 : Code) (i id : Nat) (ops : Array Oper) (o0 o1 o2 o3 o4 : Oper) (cy : Operand),
  P.funcs[f]? = some fn ∧ fn.body = some (.seq r0 (.seq r1 (.block s.ids.1 (.loop (.seq g (.seq (.block s.ids.2 (.seq (.seq (.region id ops false) (.cond cy .ret .skip)) r5)) r6)))))) ∧ ops.toList = [o0, o1, o2, o3, o4] ∧
  resolveC P r0 = s.r0 ∧ resolveC P r1 = s.r1 ∧ resolveC P g = s.g ∧ [o0, o1, o2].map (resolveO P ops) = s.os ∧ callS o3 = s.call ∧ resolveO P ops o4 = s.o4 ∧ X.of cy = s.cy ∧ resolveC P r5 = s.r5 ∧ resolveC P r6 = s.r6 ∧ ([o0, o1, o2].all notDefer && [o4].all notDefer) = s.calm ∧ fn.results.size = s.res ∧ fn.ntmps = s.nt := by
 unfold walkS at h
 split at h
 ·rename_i fn hf
  split at h
  ·rename_i r0 r1 i0 g i1 id ops cy r5 r6 hb
   split at h
   ·rename_i o0 o1 o2 o3 o4 ho
    cases h
    exact ⟨fn, r0, r1, g, r5, r6, 0, id, ops, o0, o1, o2, o3, o4, cy, hf, hb, ho, rfl, rfl, rfl, rfl, rfl, rfl, rfl, rfl, rfl, rfl, rfl, rfl⟩
   ·cases h
  ·cases h
 ·cases h
theorem o_fg {o : Oper} {f x y : Nat} {d : Option Nat} (h : callS o = some (f, [x, y], d)) : ∃ c, o.op = .call c ∧ o.guard = none ∧ c.callee = .value (.tmp f) ∧ c.args.toList = [.tmp x, .tmp y] ∧ o.dst = d := by
 unfold callS at h
 split at h
 ·rename_i c ho hg
  split at h
  ·rename_i hc ha
   cases h
   exact ⟨c, ho, hg, hc, ha, rfl⟩
  ·cases h
 ·cases h

structure AtS where
 a1 : C
 a2 : C
 a3 : C
 a4 : C
 g : X
 ps : List Nat
 asg : C
 bd : C
 a5 : List O
 id : Nat
 calm : Bool
 rs : List RV
 nt : Nat
def atS (P : Program) (f : FuncId) : Option AtS := match P.funcs[f]? with
 | some fn => match fn.body with
  | some (.seq a1 (.seq a2 (.seq a3 (.seq (.seq a4 (.block id (.rangeFunc g ps asg bd))) (.seq (.region _ ops false) .ret))))) =>
   some ⟨resolveC P a1, resolveC P a2, resolveC P a3, resolveC P a4, X.of g, ps.toList, resolveC P asg, resolveC P bd, ops.toList.map (resolveO P ops), id, Code.calm asg && (Code.calm bd && ops.toList.all notDefer), fn.results.toList.map (resolveR P), fn.ntmps⟩
  | _ => none
 | none => none
theorem o_fh {P : Program} {f : FuncId} {s : AtS} (h : atS P f = some s) : ∃ (fn : Func) (a1 a2 a3 a4 asg bd : Code) (g : Operand) (ps : Array Nat) (id : Nat) (ops : Array Oper),
  P.funcs[f]? = some fn ∧ fn.body = some (.seq a1 (.seq a2 (.seq a3 (.seq (.seq a4 (.block s.id (.rangeFunc g ps asg bd))) (.seq (.region id ops false) .ret))))) ∧
  resolveC P a1 = s.a1 ∧ resolveC P a2 = s.a2 ∧ resolveC P a3 = s.a3 ∧ resolveC P a4 = s.a4 ∧ X.of g = s.g ∧ ps.toList = s.ps ∧ resolveC P asg = s.asg ∧ resolveC P bd = s.bd ∧ ops.toList.map (resolveO P ops) = s.a5 ∧ (Code.calm asg && (Code.calm bd && ops.toList.all notDefer)) = s.calm ∧ fn.results.toList.map (resolveR P) = s.rs ∧ fn.ntmps = s.nt := by
 unfold atS at h
 split at h
 ·rename_i fn hf
  split at h
  ·rename_i a1 a2 a3 a4 id g ps asg bd id' ops hb
   cases h
   exact ⟨fn, a1, a2, a3, a4, asg, bd, g, ps, id', ops, hf, hb, rfl, rfl, rfl, rfl, rfl, rfl, rfl, rfl, rfl, rfl, rfl, rfl⟩
  ·cases h
 ·cases h

def C.l : C → C
 | .seq a _ => a
 | c => c
def C.r : C → C
 | .seq _ b => b
 | c => c
def C.b : C → C
 | .block _ a | .loop a => a
 | c => c
def C.os : C → List O
 | .reg _ l => l
 | _ => []
def cAsg : C := .seq (.reg false [⟨some 7, .mv (.t 24), none, []⟩]) (.reg false [⟨some 8, .new 27 [.int .i64 0, .int .i64 0, .nilsl, .nilsl], none, []⟩, ⟨none, .store 4 (.t 8) (.t 25), none, [0, 0]⟩])
def cBd : C := .block 2 (.seq (.reg false [⟨some 26, .load true 4 (.t 8), none, []⟩, ⟨none, .store 4 (.t 6) (.t 26), none, [0, 0]⟩])
 (.seq (.reg false [⟨some 27, .mv (.t 7), none, []⟩, ⟨some 28, .load false 1 (.t 3), none, []⟩, ⟨some 29, .bin .eql (.t 27) (.t 28), none, [0, 1]⟩]) (.cond (.t 29) (.exit 1) .skip)))
theorem at_s : atS Tryd.prog o_70 = some ⟨o_71.l, o_71.r.l, o_71.r.r.l, o_71.r.r.r.l.l, .t 23, [24, 25], cAsg, cBd, o_71.r.r.r.r.l.os, 1, true, [.cell 4 true 4, .t 5], 31⟩ := by kernel_rfl
abbrev cWb : C := o_a4.r.r.b.b
theorem o_fi : walkS Tryd.prog o_a3 = some ⟨o_a4.l, o_a4.r.l, cWb.l, (cWb.r.l.b.l.l.os).take 3, some (15, [16, 17], some 18), ((cWb.r.l.b.l.l.os).drop 4).headD ⟨none, .bad, none, []⟩, .t 19, cWb.r.l.b.r, cWb.r.r, (0, 1), true, 0, 23⟩ := by kernel_rfl

abbrev kO (K : Nat) : Ob := ⟨3, [.d (.int .i64 K)]⟩
abbrev plO (c : List V) : Ob := ⟨27, c⟩

def Tr (i : Nat) (p : List D) : List V := [.junk, .junk, .junk, .p 0 0, .junk, .junk, .p 2 0] ++ List.replicate 17 .junk ++ [.d (.int .i64 i), .d (.agg p)] ++ List.replicate 5 .junk

theorem o_fj (l n K i : Nat) (c : List V) (p : List D) (hp : p.length = 4) : AWr Tryd.prog (some l) n 3 cAsg (thenQ (fun T H => T = ((Tr i p).set 7 (.d (.int .i64 i))).set 8 (.p 3 0) ∧ H = [some (kO K), none, some (plO c), some (plO (p.map .d))]) noQ) (Tr i p) [some (kO K), none, some (plO c)] := by
 obtain ⟨p1, p2, p3, p4, rfl⟩ : ∃ a b c d, p = [a, b, c, d] := by
  match p, hp with
  | [a, b, c, d], _ => exact ⟨a, b, c, d, rfl⟩
 simp only [cAsg, Tr]
 refine AWr.seq (AWr.reg ?_)
 simp
 refine AWr.reg ?_
 simp

theorem o_fk (l n K i : Nat) (c : List V) (hc : c.length = 4) (p : List D) (hp : p.length = 4) : AWr Tryd.prog (some l) n 3 cBd (fun e T H => H = [some (kO K), none, some (plO (p.map .d)), some (plO (p.map .d))] ∧ e = if i = K then .exit 1 else .normal) (((Tr i p).set 7 (.d (.int .i64 i))).set 8 (.p 3 0)) [some (kO K), none, some (plO c), some (plO (p.map .d))] := by
 obtain ⟨p1, p2, p3, p4, rfl⟩ : ∃ a b c d, p = [a, b, c, d] := by
  match p, hp with
  | [a, b, c, d], _ => exact ⟨a, b, c, d, rfl⟩
 obtain ⟨c1, c2, c3, c4, rfl⟩ : ∃ a b c' d, c = [a, b, c', d] := by
  match c, hc with
  | [a, b, c, d], _ => exact ⟨a, b, c, d, rfl⟩
 simp only [cBd, Tr]
 refine AWr.block ?_
 refine AWr.seq (AWr.reg ?_)
 simp
 refine AWr.seq (AWr.reg ?_)
 by_cases h : i = K
 ·subst h
  simp
  refine AWr.cond rfl (fun h => ?_) (fun h => ?_)
  ·refine AWr.exit ?_
   simp
  ·simp at h
 ·have h' : ¬ (i : Int) = K := by omega
  simp [h, h']
  refine AWr.cond rfl (fun h => ?_) (fun h => ?_)
  ·simp at h
   omega
  ·refine AWr.skip ?_
   simp

theorem o_fl {m : Mem} {n : Nat} {o : Ob} (h : m.obj n o) : ∃ b, m.ρ n = some b := by
 obtain ⟨b, _, _, h1, _⟩ := h; exact ⟨b, h1⟩

def RoundR (K i : Nat) (p : List D) (m : Mem) (l : Nat) (rec : LoopState → Option Code → Loop) (e : Ending) (w' : World) : Prop :=
 ∃ m' : Mem, m'.w = w' ∧ m'.base ∧ m'.obj 0 (kO K) ∧ m'.obj 2 (plO (p.map .d)) ∧
  if i = K then e = .returned (.bool false) ∧ (m.at (m.w.putObj l (.loop (rec .done (some (.exit 1)))))).le m' (· < 3) else e = .returned (.bool true) ∧ m.le m' (· < 3)

theorem o_fm {asg bd : Code} (hasg : resolveC Tryd.prog asg = cAsg) (hbd : resolveC Tryd.prog bd = cBd) (ca : Code.calm asg = true) (cb : Code.calm bd = true) {fn df : Nat} {tmps : Array Value} {rec : LoopState → Option Code → Loop}
  (hrec : rec = fun st pe => { state := st, pending := pe, fn, tmps, params := #[24, 25], assign := asg, body := bd, defers := df }) (n K i : Nat) (p : List D) (hp : p.length = 4) {m : Mem} {l : Nat} {c : List V} (mb : m.base) (h0 : m.obj 0 (kO K)) (h2 : m.obj 2 (plO c)) (hc : c.length = 4)
  (hinj : ∀ b, m.ρ 0 = some b → m.ρ 2 ≠ some b) (htop : ∀ n, n ≠ 0 → n ≠ 2 → m.ρ n = none) (t3 : (V.p 0 0).rep m (tmps.getD 3 undef)) (t6 : (V.p 2 0).rep m (tmps.getD 6 undef)) (hsz : tmps.size = 31) (hlo : m.loose l) (hl : m.w.heap[l]? = some (.loop (rec .ready none))) {v : Value} (hv : (V.d (.agg p)).rep m v) :
  YieldAt Fence.wide n Tryd.prog l #[.int .i64 i, v] m.w (RoundR K i p m l rec) := by
 have hy := run_yield (P := Tryd.prog) (args := #[.int .i64 i, v]) hl (by rw [hrec]; rfl)
 refine ⟨_, _, _, _, hy, ?_⟩
 have ht : ((rec .ready none).params.zip #[.int .i64 i, v]).foldl (fun tmps (t, a) => tmps.setIfInBounds t a) (rec .ready none).tmps = (tmps.setIfInBounds 24 (.int .i64 i)).setIfInBounds 25 v := by
  rw [hrec]; simp
 rw [ht, show (rec .ready none).assign = asg by rw [hrec], show (rec .ready none).body = bd by rw [hrec]]
 clear hy ht
 have sat : Sat m ⟨(tmps.setIfInBounds 24 (.int .i64 i)).setIfInBounds 25 v, []⟩ (Tr i p) [some (kO K), none, some (plO c)] := by
  refine ⟨mb, fun s => ?_, fun n ob h => ?_, fun n k b ln lk h1 h3 => ?_, fun n h => htop n (by simp at h; omega) (by simp at h; omega), by simp [Tr, hsz], rfl⟩
  ·have g : ((tmps.setIfInBounds 24 (.int .i64 i)).setIfInBounds 25 v).getD s undef = if s = 25 then v else if s = 24 then .int .i64 i else tmps.getD s undef := by
    rw [Array.getD_eq_getD_getElem?, Array.getElem?_setIfInBounds]
    by_cases e1 : s = 25
    ·subst e1; simp [hsz]
    ·rw [if_neg (by omega), if_neg e1, Array.getElem?_setIfInBounds]
     by_cases e2 : s = 24
     ·subst e2; simp [hsz]
     ·rw [if_neg (by omega), if_neg e2, Array.getD_eq_getD_getElem?]
   have g2 : (Tr i p).getD s .junk = if s = 25 then .d (.agg p) else if s = 24 then .d (.int .i64 i) else if s = 3 then .p 0 0 else if s = 6 then .p 2 0 else .junk := by
    rcases Nat.lt_or_ge s 31 with hs | hs
    ·have : ∀ s, s < 31 → (Tr i p).getD s .junk = if s = 25 then .d (.agg p) else if s = 24 then .d (.int .i64 i) else if s = 3 then .p 0 0 else if s = 6 then .p 2 0 else .junk := by
      intro s hs
      iterate 31 (rcases s with _ | s; · rfl)
      omega
     exact this s hs
    ·rw [if_neg (by omega), if_neg (by omega), if_neg (by omega), if_neg (by omega), List.getD_eq_getElem?_getD, List.getElem?_eq_none (by simp [Tr]; omega)]; rfl
   rw [g, g2]
   split
   ·exact hv
   ·split
    ·exact V.rep_int.2 rfl
    ·split
     ·rename_i e; subst e; exact t3
     ·split
      ·rename_i e; subst e; exact t6
      ·unfold V.rep; trivial
  ·rcases n with _ | _ | _ | n
   ·simp at h; subst h; exact h0
   ·simp at h
   ·simp at h; subst h; exact h2
   ·simp at h
  ·have l2 : ∀ n, live [some (kO K), none, some (plO c)] n → n = 0 ∨ n = 2 := fun n h => by
    rcases n with _ | _ | _ | n
    ·exact .inl rfl
    ·simp [live] at h
    ·exact .inr rfl
    ·simp [live] at h
   rcases l2 n ln with rfl | rfl <;> rcases l2 k lk with rfl | rfl
   ·rfl
   ·exact (hinj b h1 h3).elim
   ·exact (hinj b h3 h1).elim
   ·rfl
 have htop3 : ∀ n, 3 ≤ n → m.ρ n = none := fun n h => htop n (by omega) (by omega)
 refine roundIn_of_wpIn trivial (wpIn_mono (o_fj l n K i c p hp asg hasg ca m m _ sat (Mem.le.refl _ _) htop3 (by simp)) ?_)
 rintro e a1 w1 ⟨T1, H1, m1, rfl, hq, sat1, hle1, _⟩
 cases e with
 | normal =>
  obtain ⟨rfl, rfl⟩ := hq
  obtain ⟨lo1, hl1⟩ := hlo.keep hle1
  have hl1' := hl1.trans hl
  refine ⟨_, run_beginRound hl1' (by rw [hrec]), ?_⟩
  have nc : ∀ (r : Loop) c t f, Obj.loop r ≠ .cells c t f := by intro r c t f h; cases h
  have hle2 := hlo.le hle1 (o := .loop { rec .ready none with state := .busy }) (o' := .loop { rec .ready none with state := .busy }) hl (nc _) (nc _) (nc _) rfl
  have sat2 := lo1.sat (.loop { rec .ready none with state := .busy }) sat1
  refine wpIn_mono (o_fk l n K i c hc p hp bd hbd cb (m.at (m.w.putObj l (.loop { rec .ready none with state := .busy }))) _ a1 sat2 hle2 htop3 (by simp)) ?_
  rintro e a3 w3 ⟨T3, H3, m3, rfl, ⟨rfl, rfl⟩, sat3, hle3, _⟩
  obtain ⟨lo3, hl3⟩ := (hlo.put (.loop { rec .ready none with state := .busy })).keep hle3
  rw [World.putObj_heap_same hlo.lt] at hl3
  have hend := fun jump => run_endRound (P := Tryd.prog) jump hl3
  have hle4 := fun o (ho : ∀ c t f, o ≠ Obj.cells c t f) => (hlo.put (.loop { rec .ready none with state := .busy })).le hle3 (o := o) (o' := o) (World.putObj_heap_same hlo.lt) (nc _) ho ho rfl
  have sat4 := fun o => lo3.sat o sat3
  by_cases hik : i = K
  ·simp only [if_pos hik]
   refine ⟨_, _, hend (some (.exit 1)), ⟨_, rfl, (sat4 _).base, (sat4 _).obj 0 _ rfl, (sat4 _).obj 2 _ rfl, ?_⟩⟩
   rw [if_pos hik]
   refine ⟨rfl, ?_⟩
   have := hle4 (.loop { rec .ready none with state := .done, pending := some (.exit 1) }) (nc _)
   simp only [o_6k] at this
   rw [hrec] at this ⊢
   exact this
  ·simp only [if_neg hik]
   refine ⟨_, _, hend none, ⟨_, rfl, (sat4 _).base, (sat4 _).obj 0 _ rfl, (sat4 _).obj 2 _ rfl, ?_⟩⟩
   rw [if_neg hik]
   refine ⟨rfl, ?_⟩
   have := hle4 (.loop (rec .ready none)) (nc _)
   simp only [o_6k, o_6l hl] at this
   rw [hrec] at this ⊢
   exact this
 | _ => exact hq.elim
end
end Go.Proofs.YtlelpbaeplcfiaaDoor.Am
namespace Go.Proofs.YtlelpbaeplcfiaaDoor.Am
section
open Go.RowKit
theorem Sat.put {m : Mem} {a : Act} {T : List V} {H : List (Option Ob)} (sat : Sat m a T H) (s : Nat) {x : V} {v : Value} (hv : x.rep m v) : Sat m (a.put (some s) v) (T.set s x) H := by
 refine ⟨sat.base, fun i => ?_, sat.obj, sat.inj, sat.top, by rw [o_4h]; simpa using sat.size, by rw [o_4i]; exact sat.defers⟩
 have h1 : T.set s x = putT T (some s) x := rfl
 rw [h1, o_4j, o_4g, sat.size]
 split
 ·exact hv
 ·exact sat.slots i

abbrev sO (s : Nat) : Ob := ⟨3, [.d (.int .i64 s)]⟩
def plC (p : Pl) : List D := [.int .i64 p.x, .int .i64 p.shift, natW p.value, natW p.reply]
abbrev fnY (l : Nat) : V := .fn (.yield l) []
def Tw0 (l : Nat) : List V := [fnY l, .p 3 0, .junk, .p 5 0] ++ List.replicate 19 .junk
def Tw (l i : Nat) : List V := [fnY l, .p 3 0, .junk, .p 5 0, .d (.int .i64 i)] ++ List.replicate 18 .junk
def Hw (K s i : Nat) (c : List V) : List (Option Ob) := [some (kO K), none, some (plO c), some (sO s), none, some (plO ((plC (placeY s i)).map .d))]

theorem o_fn {s k : Nat} (h1 : 1 ≤ s) (h5 : s ≤ 5) (hk : k ≤ 1024) : (placeY s k).x ≤ 100000 ∧ (placeY s k).shift ≤ 8192 ∧ size (placeY s k).value ≤ 900 ∧ size (placeY s k).reply ≤ 900 := by
 obtain ⟨a1, a2, a3, a4, a5⟩ := o_ei h1 k
 refine ⟨by omega, by omega, ?_, ?_⟩
 ·refine Nat.le_trans (o_f8 (n := 11 + (2 * s + k)) (m := 20) (Nat.lt_of_le_of_lt a4 ?_) (by omega)) (by omega)
  have hp := Nat.two_pow_pos (2 * s + k)
  rw [Nat.pow_add 2 11]
  generalize 2 ^ (2 * s + k) = z at *
  have h1 : k * z ≤ 1024 * z := Nat.mul_le_mul_right _ hk
  have h2 : (2 : Nat) ^ 11 * z = 2048 * z := rfl
  rw [h2]
  omega
 ·exact Nat.le_trans (o_f8 (n := 2 * s + k + 1) (m := 20) (Nat.lt_of_le_of_lt a2 (Nat.pow_lt_pow_right (by omega) (Nat.lt_succ_self _))) (by omega)) (by omega)

theorem w_r0 (l K s : Nat) (h1 : 1 ≤ s) (h5 : s ≤ 5) (c : List V) (hc : V.lowl 6 c = true) : AW Tryd.prog 4 o_a4.l (thenQ (fun T H => wk 6 T (Tw0 l) ∧ wkH 6 H (Hw K s 0 c)) noQ) ([fnY l, .p 3 0] ++ List.replicate 21 .junk) [some (kO K), none, some (plO c), some (sO s)] := by
 simp only [o_a4, C.l, Tw0, Hw]
 have e1 : IntKind.i64.wrap (2 * (s : Int)) = 2 * (s : Int) := w64 (by omega) (by omega)
 have e2 : ((2 : Int) * s).toNat = 2 * s := by omega
 have e3 : (2 : Int) ^ (2 * s) = (2 ^ (2 * s) : Nat) := by rw [Int.natCast_pow]; rfl
 have hlt : 2 ^ (2 * s) ≤ 2 ^ 10 := Nat.pow_le_pow_right (by omega) (by omega)
 have hp0 : placeY s 0 = ⟨0, 0, 0, 2 ^ (2 * s)⟩ := rfl
 rw [hp0]
 generalize 2 ^ (2 * s) = q at *
 have e4 : IntKind.u64.wrap (q : Int) = q := wu64 (by omega) (by omega)
 have e5 : (2 : Int) * s ≤ 64 := by omega
 refine G1 (fs e1 (fs e2 (fs e3 (fs e4 e5)))) ?_; try with_reducible exact tt
 refine CallS.pf 4 1 ⟨34, _⟩ [.int .u64 q] (o_cw [q] (o_ds (by omega)) (by simp)) (by first | rfl | (simp; done)) (R0 ?_); try with_reducible exact tt
 exact ⟨Subs.cons (Sub1.refl _) (Subs.cons (Sub1.refl _) (Subs.cons Sub1.nil (Subs.of (by simp [wval])))), rfl⟩

theorem w_r1 (l K s : Nat) (c : List V) (hc : V.lowl 6 c = true) : AW Tryd.prog 4 o_a4.r.l (thenQ (fun T H => wk 6 T (Tw l 0) ∧ wkH 6 H (Hw K s 0 c)) noQ) (Tw0 l) (Hw K s 0 c) := by
 simp only [o_a4, C.l, C.r, Tw0, Tw, Hw]
 have hp : V.lowl 6 ((plC (placeY s 0)).map V.d) = true := rfl
 refine G1 (fs hc hp) ?_; try with_reducible exact tt

theorem w_g (l K s i : Nat) (hi : i ≤ 1023) (c : List V) (hc : V.lowl 6 c = true) : AW Tryd.prog 4 cWb.l (thenQ (fun T H => wk 6 T (Tw l i) ∧ wkH 6 H (Hw K s i c)) noQ) (Tw l i) (Hw K s i c) := by
 simp only [o_a4, C.l, C.r, C.b, Tw, Hw]
 have hp : V.lowl 6 ((plC (placeY s i)).map V.d) = true := rfl
 have h1 : (i : Int) ≤ 1023 := by omega
 refine G1 (fs hc (fs hp h1)) ?_; try with_reducible exact tt
 refine AW.cond rfl (fun h => ?_) (fun h => ?_)
 ·refine G1 (fs hc hp) ?_; try with_reducible exact tt
 ·simp [h1] at h

theorem w_r5 (l K s i : Nat) (h1 : 1 ≤ s) (h5 : s ≤ 5) (hi : i ≤ 1023) (c : List V) (hc : V.lowl 6 c = true) : AW Tryd.prog 4 cWb.r.l.b.r (thenQ (fun T H => wk 6 T (Tw l i) ∧ wkH 6 H (Hw K s (i + 1) c)) noQ) (Tw l i) (Hw K s i c) := by
 simp only [o_a4, C.l, C.r, C.b, Tw, Hw]
 obtain ⟨b1, b2, b3, b4⟩ := o_fn h1 h5 (k := i) (by omega)
 have hn := o_fd s (placeY s i) h5 b1 b2 b3 b4
 rw [show nextY s (placeY s i) = placeY s (i + 1) from rfl] at hn
 generalize placeY s i = p at *
 generalize placeY s (i + 1) = p' at *
 simp only [plC, List.map_cons, List.map_nil, plD] at hn ⊢
 refine G1 hc ?_; try with_reducible exact tt
 refine CallS.pu (hn) (R1 hc ?_); try with_reducible exact tt

theorem w_r6 (l K s i : Nat) (hi : i ≤ 1023) (c : List V) (hc : V.lowl 6 c = true) : AW Tryd.prog 4 cWb.r.r (thenQ (fun T H => wk 6 T (Tw l (i + 1)) ∧ wkH 6 H (Hw K s (i + 1) c)) noQ) (Tw l i) (Hw K s (i + 1) c) := by
 simp only [o_a4, C.l, C.r, C.b, Tw, Hw]
 have hp : V.lowl 6 ((plC (placeY s (i + 1))).map V.d) = true := rfl
 generalize (plC (placeY s (i + 1))).map V.d = pc at *
 have ew : IntKind.i64.wrap ((i : Int) + 1) = (i : Int) + 1 := w64 (by omega) (by omega)
 refine G1 (fs hc (fs hp ew)) ?_; try with_reducible exact tt

theorem w_os (l K s i : Nat) (c : List V) (ops : Array Oper) {K' : List V → List (Option Ob) → Prop} (h : K' ((((Tw l i).set 15 (fnY l)).set 16 (.d (.int .i64 i))).set 17 (.d (.agg (plC (placeY s i))))) (Hw K s i c)) :
  vops Tryd.prog false K' ((cWb.r.l.b.l.l.os).take 3) [] (Tw l i) (Hw K s i c) := by
 simp only [cWb, o_a4, C.l, C.r, C.b, C.os, Tw, Hw] at h ⊢
 generalize placeY s i = p at *
 simp only [plC, List.map_cons, List.map_nil] at h ⊢
 simp
 simpa using h
theorem w_o4 (l K s i : Nat) (p : D) (b : Bool) (H : List (Option Ob)) {K' : List V → List (Option Ob) → Prop} (h : K' (((((Tw l i).set 15 (fnY l)).set 16 (.d (.int .i64 i))).set 17 (.d p)).set 18 (.d (.bool b)) |>.set 19 (.d (.bool !b))) H) :
  vops Tryd.prog false K' [((cWb.r.l.b.l.l.os).drop 4).headD ⟨none, .bad, none, []⟩] [] (((((Tw l i).set 15 (fnY l)).set 16 (.d (.int .i64 i))).set 17 (.d p)).set 18 (.d (.bool b))) H := by
 simp only [cWb, o_a4, C.l, C.r, C.b, C.os, Tw] at h ⊢
 simp
 simpa using h
end
end Go.Proofs.YtlelpbaeplcfiaaDoor.Am
